/- For the statement FnFlowValue of this seat: it is proved here, with no further conditions (part 7 of its texts: words, walks of the functions, the plain law, the row). -/
import Derived.ChangeArms
import Derived.ChangeSlices
import Derived.Deep.Slices
import Derived.WideShapes
import Derived.DataReads
import Derived.Test.YtlhmljngjdfbpaaKFnFlowValue5
section
namespace Go.Proofs.Ytlhmljngjdfbpaa.Pr
open Go.RowKit Go.Proofs.YtlhmljngjdfbpaaW.PrintWords Go.Proofs.YtlhmljngjdfbpaaW.PrintLast Go.Proofs.YtlhmljngjdfbpaaW.PrintMore
attribute [local go_sem] max2_int min2_int max_two min_two max_three min_three max_four min_four
set_option linter.unusedVariables false
set_option linter.unusedSimpArgs false
open List renaming setIfInBounds_toArray → U,set_cons_zero → V,set_cons_succ → Z
open Go.Proofs.YtlhmljngjdfbpaaW.PrintWords.Aside0 renaming mk → zx
mutual
def spec_l25Ok.l0 : Nat → List Int → Int → Int → List Int → Int → Int → List (S58) → Option (Int × Bool)
 | 0,_,_,_,_,_,_,_ => none
 | k + 1,x1,x2,x3,x10,x11,r7,q0 => if x11 < (q0.length : Int) then (if 0 ≤ x11 then (if x11 < (x1.length : Int) then ((spec_l1In.f (rd x1 x11) 0 ((rd_T58 q0 x11).f4)).bind fun t755 => (if t755 = true then (if 0 ≤ ((rd_T58 q0 x11).f0) then (if ((rd_T58 q0 x11).f0) < (x10.length : Int) then ((some (x10.set (((rd_T58 q0 x11).f0) : Int).toNat (wrap64 ((rd x10 ((rd_T58 q0 x11).f0)) + (rd x1 x11))) : List Int)).bind fun y760 => (if 0 ≤ ((rd_T58 q0 x11).f1) then (if ((rd_T58 q0 x11).f1) < (x10.length : Int) then (spec_l25Ok.l0 k x1 x2 x3 (y760.set (((rd_T58 q0 x11).f1) : Int).toNat (wrap64 ((rd y760 ((rd_T58 q0 x11).f1)) - (rd x1 x11)))) (wrap64 (x11 + 1)) r7 q0) else (none)) else (none))) else (none)) else (none)) else (some (0,false)))) else (none)) else (none)) else (spec_l25Ok.l1 k x2 x3 x10 0 r7 q0)
def spec_l25Ok.l1 : Nat → Int → Int → List Int → Int → Int → List (S58) → Option (Int × Bool)
 | 0,_,_,_,_,_,_ => none
 | k + 1,x2,x3,x10,x12,r7,q0 => if x12 < r7 then (if 0 ≤ x12 then (if x12 < (x10.length : Int) then (if (rd x10 x12) = 0 then (spec_l25Ok.l1 k x2 x3 x10 (wrap64 (x12 + 1)) r7 q0) else (if x12 = x2 then (spec_l25Ok.l1 k x2 x3 x10 (wrap64 (x12 + 1)) r7 q0) else (if x12 = x3 then (spec_l25Ok.l1 k x2 x3 x10 (wrap64 (x12 + 1)) r7 q0) else (some (0,false))))) else (none)) else (none)) else (if 0 ≤ x2 then (if x2 < (x10.length : Int) then (some (rd x10 x2,true)) else (none)) else (none))
end
def spec_l25Ok.f (k : Nat) (a0_0 : Int) (l0_1 : List (S58)) (l1 : List Int) (a2 : Int) (a3 : Int) : Option (Int × Bool):=if 0 ≤ a0_0 then (if (a0_0 : Int).toNat ≤ 35184372088832 then (spec_l25Ok.l0 k l1 a2 a3 (List.replicate (a0_0 : Int).toNat 0) 0 a0_0 l0_1) else (none)) else (none)
def spec_l25Ok.T5 : Bool × List (List Nat × List Nat):=(true,[([],[]),([],[]),([0,1],[0,1]),([2],[2]),([],[]),([4],[4]),([],[]),([5,6],[5,6]),([7],[7]),([8],[8]),([3,9],[3,9]),([10],[10])])
def spec_l25Ok.B5 : List Nat:=[0,0,3,7,0,16,0,112,240,496,1023,2047]
theorem spec_l25Ok.tab5 : rtab .any (opsOf Try.f91 5) = spec_l25Ok.T5:=by kernel_rfl
theorem spec_l25Ok.bits5 : waitsOk spec_l25Ok.T5.2 spec_l25Ok.B5 = true:=by kernel_rfl
def spec_l25Ok.T7 : Bool × List (List Nat × List Nat):=(true,[([],[]),([],[]),([1],[1]),([],[]),([2,3],[2,3]),([4],[4]),([5],[5]),([],[]),([],[]),([8],[8]),([],[]),([9,10],[9,10]),([11],[11]),([12],[12]),([7,13],[7,13]),([14],[14]),([],[]),([],[]),([16,17],[16,17]),([18],[18]),([15,19],[15,19]),([0,6,0,1,2,3,4,5,6,7,8,9,10,11,12,13,14,15,16,17,18,19,20],[0,6]),([21,20,0,1,2,3,4,5,6,7,8,9,10,11,12,13,14,15,16,17,18,19,20],[20,21])])
def spec_l25Ok.B7 : List Nat:=[0,0,2,0,14,30,62,0,0,256,0,1792,3840,7936,16256,32640,0,0,196608,458752,1048448,2097151,4194303]
theorem spec_l25Ok.tab7 : rtab .any (opsOf Try.f91 7) = spec_l25Ok.T7:=by kernel_rfl
theorem spec_l25Ok.bits7 : waitsOk spec_l25Ok.T7.2 spec_l25Ok.B7 = true:=by kernel_rfl
def spec_l25Ok.T8 : Bool × List (List Nat × List Nat):=(true,[([],[]),([],[]),([1],[1]),([],[]),([2,3],[2,3]),([4],[4]),([5],[5]),([],[]),([],[]),([8],[8]),([],[]),([9,10],[9,10]),([11],[11]),([12],[12]),([7,13],[7,13]),([14],[14]),([],[]),([],[]),([16,17],[16,17]),([18],[18]),([15,19],[15,19]),([0,6,0,1,2,3,4,5,6,7,8,9,10,11,12,13,14,15,16,17,18,19,20],[0,6]),([21,20,0,1,2,3,4,5,6,7,8,9,10,11,12,13,14,15,16,17,18,19,20],[20,21])])
def spec_l25Ok.B8 : List Nat:=[0,0,2,0,14,30,62,0,0,256,0,1792,3840,7936,16256,32640,0,0,196608,458752,1048448,2097151,4194303]
theorem spec_l25Ok.tab8 : rtab .any (opsOf Try.f91 8) = spec_l25Ok.T8:=by kernel_rfl
theorem spec_l25Ok.bits8 : waitsOk spec_l25Ok.T8.2 spec_l25Ok.B8 = true:=by kernel_rfl
set_option maxHeartbeats 8000000 in
set_option maxRecDepth 100000 in
theorem spec_l25Ok.calls (k : Nat) (a0_0 : Int) (A0_1 : Option Addr) (c0_1 : Nat) (l0_1 : List (S58)) (A1 : Option Addr) (c1 : Nat) (l1 : List Int) (a2 : Int) (a3 : Int) (r1 : Int) (r2 : Bool) (w : World) (hr0_1 : Kd.C k58 w A0_1 l0_1.length l0_1) (hc0_1 : l0_1.length ≤ c0_1) (hr1 : Kd.C (Kd.int .i64) w A1 l1.length l1) (hc1 : l1.length ≤ c1) (h : spec_l25Ok.f k a0_0 l0_1 l1 a2 a3 = some (r1,r2)) :
  Calls Try.prog 91 #[.agg #[.int .i64 a0_0,.slice A0_1 l0_1.length c0_1],.slice A1 l1.length c1,.int .i64 a2,.int .i64 a3] w fun e w' => e = .returned (.tuple #[.int .i64 r1,.bool r2]) ∧ Below w.heap.size w w':=by
 have hu34:=Try.underlying34;have v3:=zx hr0_1;have HC0_1:=zx hc0_1;clear hr0_1 hc0_1;have HR1:=zx hr1;have HC1:=zx hc1;clear hr1 hc1;have HB:=zx (Below.refl w.heap.size w);have H : (if 0 ≤ a0_0 then (if (a0_0 : Int).toNat ≤ 35184372088832 then (spec_l25Ok.l0 k l1 a2 a3 (List.replicate (a0_0 : Int).toNat 0) 0 a0_0 l0_1) else (none)) else (none)) = some (r1,r2):=h;clear h
 by_cases c5 : 0 ≤ a0_0
 case neg =>
  rw [if_neg c5] at H;exact absurd H (by simp)
 rw [if_pos c5] at H;have c5b0:=eq_true c5;have c5b1 : decide (0 ≤ a0_0) = true:=decide_eq_true c5;clear c5
 by_cases c6 : (a0_0 : Int).toNat ≤ 35184372088832
 case neg =>
  rw [if_neg c6] at H;exact absurd H (by simp)
 rw [if_pos c6] at H;have c6b0:=eq_true c6;have c6b1 : decide ((a0_0 : Int).toNat ≤ 35184372088832) = true:=decide_eq_true c6;clear c6;obtain ⟨y750,hy750⟩ : ∃ y_ : List Int,y_ = (List.replicate (a0_0 : Int).toNat 0):=⟨_,rfl⟩
 replace H : (spec_l25Ok.l0 k l1 a2 a3 y750 0 a0_0 l0_1) = some (r1,r2):=by first | (rw [hy750]; with_reducible exact H) | (have H2_:=(Option.bind_some _ _).symm.trans H; rw [hy750]; with_reducible exact H2_) | (have H2_:=(Option.bind_some _ _).symm.trans H; with_reducible exact H2_) | with_reducible exact H | (rw [hy750]; exact H) | exact H
 have Ny750:=zx hy750;clear hy750;have H':=zx H;clear H
 go_enter Try.func91,Try.ntmps91
 go_wp2_with (first | ((with_reducible refine gate_dst (N:=4) rfl ?_); refine box_event ?hg (N:=4) ?hd (cs:=#[.int .i64 a0_0,.slice A0_1 l0_1.length c0_1]) (t:=34) ?hr ?_; (case hd => rfl); (case hg => rfl); (case hr => first | (go_simp; done) | (go_simp; rfl)); intro p9 hg w7 hbox hb; have n0_:=zx (below_step HB.out hb); have n1_:=zx (hbox); have n2_:=zx ((by rw [hg]; exact (below_size HB.out) : w.heap.size ≤ p9)); have n3_:=zx ((by rw [hg]; exact (below_size HB.out) : w.heap.size ≤ p9)); clear HB; have HB:=n0_; have p1:=n1_; have GW749:=n2_; have r8:=n3_; clear n0_ n1_ n2_ n3_; clear hb hbox hg; have hcz8_0 : w7.cell? ⟨p9,0,none⟩ = some (.int .i64 a0_0):=(blk_cell p1.out 0).trans rfl; have hcz8_1 : w7.cell? ⟨p9,1,none⟩ = some (.slice A0_1 l0_1.length c0_1):=(blk_cell p1.out 1).trans rfl; have hfz8_0:=blk_frozen p1.out 0; have hfz8_1:=blk_frozen p1.out 1) | ((with_reducible refine gate_dst (N:=15) rfl ?_); refine Kd.R_make (Kd.int .i64) _ 3 rfl (N:=15) rfl 23 _ _ rfl a0_0 (by first | rfl | (go_simp; done) | (go_simp; rfl)) (by first | rfl | (go_simp; done) | (go_simp; rfl)) Try.underlying23 (.int .i64 0) 8 info3 rfl (by decide) (by omega) 0 (ok:=fun _ => True) (okp:=fun _ => True) rfl (fun _ hk => hk) trivial (of_decide_eq_true (by first | (with_reducible assumption) | assumption)) (Nat.le_trans (Nat.mul_le_mul_right _ (of_decide_eq_true (by first | (with_reducible assumption) | assumption) : a0_0.toNat ≤ 35184372088832)) (by omega)) (Below.refl _ _) (Nat.le_refl _) ?_; intro v751 w9 ho10 hb hg_ hnew_; clear hg_ hnew_; (first | rw [← Ny750.out] at ho10 | (simp only [Int.reduceToNat] at ho10; rw [← Ny750.out] at ho10)); have n0_:=zx (Kd.R_lower ho10 (below_size HB.out)); have n1_:=zx (blk_below (g:=p9) (o:=.cells #[.int .i64 a0_0,.slice A0_1 l0_1.length c0_1] 34 (0,0)) p1.out hb); have n2_:=zx (below_step HB.out hb); clear p1; clear HB; have HO752:=n0_; have p1:=n1_; have HB:=n2_; clear n0_ n1_ n2_; clear hb ho10))
 go_loopg [11] k (fun kq v11 w' => ∃ (p4 : List Int) (p0 : Int),v11 = .int .i64 p0 ∧ Aside0 (spec_l25Ok.l0 kq l1 a2 a3 p4 p0 a0_0 l0_1 = some (r1,r2)) ∧ Aside0 (kq ≤ k) ∧ Aside0 (Kd.R (Kd.int .i64) 3 w' w.heap.size (fun _ => True) v751 p4) ∧ Aside0 (w'.heap[p9]? = some (.cells #[.int .i64 a0_0,(.slice A0_1 l0_1.length c0_1)] 34 (0,0))) ∧ Aside0 (Below w.heap.size w w'))
 case atStart => exact ⟨(y750),(0),(by first | rfl | (simp; done) | (simp [*]; done)),H',⟨Nat.le_refl _⟩,⟨by (with_reducible repeat (first | apply Kd.R_alloc | apply Kd.R_drewN | apply Kd.R_drew)); exact HO752.out⟩,⟨by (with_reducible repeat (first | refine blk_drewN ?_ _ | refine blk_drew ?_ | refine blk_alloc ?_ _)); exact p1.out⟩,⟨by repeat (first | (with_reducible first | exact HB.out | apply below_alloc | apply pw_below_drewN | apply below_drew1 | refine below_set ?_ r8.out) | exact HB.out)⟩⟩
 case round =>
  clear H'
  try clear c1
  try clear p2
  try clear c5
  try clear c5b0
  try clear c5b1
  try clear c6
  try clear c6b0
  try clear c6b1
  try clear c9
  try clear hcz8_0
  try clear hcz8_1
  try clear hfz8_0
  try clear hfz8_1
  obtain ⟨p4,p0,rfl,HA,HK1,p5,p1,HB⟩:=hrel;cases gk with
  | zero => exact absurd HA.out (by simp [spec_l25Ok.l0])
  | succ k1 =>
   have H:=HA.out;clear HA;simp only [spec_l25Ok.l0] at H
   by_cases c11 : p0 < (l0_1.length : Int)
   case neg =>
    rw [if_neg c11] at H;have c11b0 : decide (p0 < (l0_1.length : Int)) = false:=decide_eq_false c11;clear c11;have H':=zx H;clear H;have n1 : wr.cell? ⟨p9,0,none⟩ = some (.int .i64 a0_0):=(blk_cell p1.out 0).trans rfl;have n2 : wr.cell? ⟨p9,1,none⟩ = some (.slice A0_1 l0_1.length c0_1):=(blk_cell p1.out 1).trans rfl;have n3:=blk_frozen p1.out 0;have n4:=blk_frozen p1.out 1
    go_wp2
    go_loopg [12] k1 (fun kq v12 w' => ∃ (p8 : Int),v12 = .int .i64 p8 ∧ Aside0 (spec_l25Ok.l1 kq a2 a3 p4 p8 a0_0 l0_1 = some (r1,r2)) ∧ Aside0 (kq ≤ k1) ∧ Aside0 (Kd.R (Kd.int .i64) 3 w' w.heap.size (fun _ => True) v751 p4) ∧ Aside0 (w'.heap[p9]? = some (.cells #[.int .i64 a0_0,(.slice A0_1 l0_1.length c0_1)] 34 (0,0))) ∧ Aside0 (Below w.heap.size w w'))
    case atStart => exact ⟨(0),(by first | rfl | (simp; done) | (simp [*]; done)),H',⟨Nat.le_refl _⟩,⟨by (with_reducible repeat (first | apply Kd.R_alloc | apply Kd.R_drewN | apply Kd.R_drew)); exact p5.out⟩,⟨by (with_reducible repeat (first | refine blk_drewN ?_ _ | refine blk_drew ?_ | refine blk_alloc ?_ _)); exact p1.out⟩,⟨by repeat (first | (with_reducible first | exact HB.out | apply below_alloc | apply pw_below_drewN | apply below_drew1 | refine below_set ?_ r8.out) | exact HB.out)⟩⟩
    case round =>
     clear H'
     try clear c1
     try clear c2
     try clear p2
     try clear q2
     try clear hx2
     try clear p6
     try clear p7
     try clear q7
     try clear hx7
     try clear c9
     try clear c11
     try clear c11b0
     try clear c12
     try clear c13
     try clear c15
     try clear c16
     try clear c17
     try clear c19
     try clear c20
     try clear p21
     try clear q21
     try clear hx21
     try clear hf21
     try clear m7
     try clear m8
     try clear n1
     try clear n2
     try clear m9
     try clear n0
     try clear n3
     try clear n4
     try clear m5
     try clear q1
     try clear q3
     try clear q4
     try clear q5
     try clear q6
     try clear q8
     try clear r9
     try clear t0
     try clear t1
     try clear t2
     try clear t3
     try clear t4
     try clear t5
     try clear t6
     try clear t7
     try clear t8
     try clear t9
     try clear u0
     try clear p21
     try clear p753
     try clear p754
     try clear p761
     try clear p762
     try clear p763
     try clear p764
     try clear q21
     try clear q753
     try clear q754
     try clear q761
     try clear q762
     try clear q763
     try clear q764
     obtain ⟨p8,rfl,HA,HK2,p5,p1,HB⟩:=hrel;cases gk with
     | zero => exact absurd HA.out (by simp [spec_l25Ok.l1])
     | succ k2 =>
      have H:=HA.out;clear HA;simp only [spec_l25Ok.l1] at H
      by_cases c33 : p8 < a0_0
      case neg =>
       rw [if_neg c33] at H;have c33b0 : decide (p8 < a0_0) = false:=decide_eq_false c33;clear c33
       by_cases c47 : 0 ≤ a2
       case neg =>
        rw [if_neg c47] at H;exact absurd H (by simp)
       rw [if_pos c47] at H;have c47b0 : decide (0 ≤ a2) = true:=decide_eq_true c47;clear c47
       by_cases c48 : a2 < (p4.length : Int)
       case neg =>
        rw [if_neg c48] at H;exact absurd H (by simp)
       rw [if_pos c48] at H;have c48b0 : decide (a2 < (p4.length : Int)) = true:=decide_eq_true c48;clear c48;simp only [Option.some.injEq,Prod.mk.injEq] at H;obtain ⟨rfl,rfl⟩:=H;have hcz49_0 : wr.cell? ⟨p9,0,none⟩ = some (.int .i64 a0_0):=(blk_cell p1.out 0).trans rfl;have hcz49_1 : wr.cell? ⟨p9,1,none⟩ = some (.slice A0_1 l0_1.length c0_1):=(blk_cell p1.out 1).trans rfl;have hfz49_0:=blk_frozen p1.out 0;have hfz49_1:=blk_frozen p1.out 1;obtain ⟨Ao50,co50,eo50⟩:=Kd.R_slice p5.out;subst eo50;have p767 : 0 ≤ (a2 : Int):=of_decide_eq_true (by first | (with_reducible assumption) | assumption);have q767 : a2 < (p4.length : Int):=of_decide_eq_true (by first | (with_reducible assumption) | assumption);obtain ⟨ad767,e767,hx767_0⟩:=Kd.at_int (Kd.R_reads' p5.out).2.2 a2 p767 q767;cases e767;replace p767:=eq_true p767;replace q767:=eq_true q767
       go_wp2
       go_ret2;exact ⟨by first | rfl | (simp [errW_none,errW_some] <;> rfl) | (simp [*,errW_none,errW_some] <;> rfl),by repeat (first | (with_reducible first | exact HB.out | apply below_alloc | apply pw_below_drewN | apply below_drew1 | refine below_set ?_ r8.out) | exact HB.out)⟩
      rw [if_pos c33] at H;have c33b0 : decide (p8 < a0_0) = true:=decide_eq_true c33;clear c33
      by_cases c34 : 0 ≤ p8
      case neg =>
       rw [if_neg c34] at H;exact absurd H (by simp)
      rw [if_pos c34] at H;have c34b0 : decide (0 ≤ p8) = true:=decide_eq_true c34;clear c34
      by_cases c35 : p8 < (p4.length : Int)
      case neg =>
       rw [if_neg c35] at H;exact absurd H (by simp)
      rw [if_pos c35] at H;have c35b0 : decide (p8 < (p4.length : Int)) = true:=decide_eq_true c35;clear c35
      by_cases c36 : (rd p4 p8) = 0
      case pos =>
       rw [if_pos c36] at H;have c36b0 : ((rd p4 p8) == 0) = true:=beq_iff_eq.mpr c36;have c36b1 : ((rd p4 p8) != 0) = false:=bne_eq_false_iff_eq.mpr c36;clear c36;have H':=zx H;clear H;have hcz37_0 : wr.cell? ⟨p9,0,none⟩ = some (.int .i64 a0_0):=(blk_cell p1.out 0).trans rfl;have hcz37_1 : wr.cell? ⟨p9,1,none⟩ = some (.slice A0_1 l0_1.length c0_1):=(blk_cell p1.out 1).trans rfl;have hfz37_0:=blk_frozen p1.out 0;have hfz37_1:=blk_frozen p1.out 1;obtain ⟨Ao38,co38,eo38⟩:=Kd.R_slice p5.out;subst eo38;have p766 : 0 ≤ (p8 : Int):=of_decide_eq_true (by first | (with_reducible assumption) | assumption);have q766 : p8 < (p4.length : Int):=of_decide_eq_true (by first | (with_reducible assumption) | assumption);obtain ⟨m6,e766,v5⟩:=Kd.at_int (Kd.R_reads' p5.out).2.2 p8 p766 q766;cases e766;replace p766:=eq_true p766;replace q766:=eq_true q766
       go_wp2
       go_roundg k2
       case measure => have:=HK1.out; have:=HK2.out; omega
       case rel => exact ⟨(wrap64 (p8 + 1)),(by first | rfl | (simp; done) | (simp [*]; done)),H',⟨by have:=HK1.out; have:=HK2.out; omega⟩,⟨by (with_reducible repeat (first | apply Kd.R_alloc | apply Kd.R_drewN | apply Kd.R_drew)); exact p5.out⟩,⟨by (with_reducible repeat (first | refine blk_drewN ?_ _ | refine blk_drew ?_ | refine blk_alloc ?_ _)); exact p1.out⟩,⟨by repeat (first | (with_reducible first | exact HB.out | apply below_alloc | apply pw_below_drewN | apply below_drew1 | refine below_set ?_ r8.out) | exact HB.out)⟩⟩
      rw [if_neg c36] at H;have c36b0 : ((rd p4 p8) == 0) = false:=beq_eq_false_iff_ne.mpr c36;have c36b1 : ((rd p4 p8) != 0) = true:=bne_iff_ne.mpr c36
      by_cases c39 : p8 = a2
      case pos =>
       rw [if_pos c39] at H;have c39b0 : (p8 == a2) = true:=beq_iff_eq.mpr c39;have c39b1 : (p8 != a2) = false:=bne_eq_false_iff_eq.mpr c39;clear c39;have H':=zx H;clear H;have hcz40_0 : wr.cell? ⟨p9,0,none⟩ = some (.int .i64 a0_0):=(blk_cell p1.out 0).trans rfl;have hcz40_1 : wr.cell? ⟨p9,1,none⟩ = some (.slice A0_1 l0_1.length c0_1):=(blk_cell p1.out 1).trans rfl;have hfz40_0:=blk_frozen p1.out 0;have hfz40_1:=blk_frozen p1.out 1;obtain ⟨Ao41,co41,eo41⟩:=Kd.R_slice p5.out;subst eo41;have p766 : 0 ≤ (p8 : Int):=of_decide_eq_true (by first | (with_reducible assumption) | assumption);have q766 : p8 < (p4.length : Int):=of_decide_eq_true (by first | (with_reducible assumption) | assumption);obtain ⟨m6,e766,v5⟩:=Kd.at_int (Kd.R_reads' p5.out).2.2 p8 p766 q766;cases e766;replace p766:=eq_true p766;replace q766:=eq_true q766
       go_wp2
       go_roundg k2
       case measure => have:=HK1.out; have:=HK2.out; omega
       case rel => exact ⟨(wrap64 (p8 + 1)),(by first | rfl | (simp; done) | (simp [*]; done)),H',⟨by have:=HK1.out; have:=HK2.out; omega⟩,⟨by (with_reducible repeat (first | apply Kd.R_alloc | apply Kd.R_drewN | apply Kd.R_drew)); exact p5.out⟩,⟨by (with_reducible repeat (first | refine blk_drewN ?_ _ | refine blk_drew ?_ | refine blk_alloc ?_ _)); exact p1.out⟩,⟨by repeat (first | (with_reducible first | exact HB.out | apply below_alloc | apply pw_below_drewN | apply below_drew1 | refine below_set ?_ r8.out) | exact HB.out)⟩⟩
      rw [if_neg c39] at H;have c39b0 : (p8 == a2) = false:=beq_eq_false_iff_ne.mpr c39;have c39b1 : (p8 != a2) = true:=bne_iff_ne.mpr c39
      by_cases c42 : p8 = a3
      case neg =>
       rw [if_neg c42] at H;have c42b0 : (p8 == a3) = false:=beq_eq_false_iff_ne.mpr c42;have c42b1 : (p8 != a3) = true:=bne_iff_ne.mpr c42;simp only [Option.some.injEq,Prod.mk.injEq] at H;obtain ⟨rfl,rfl⟩:=H;have hcz45_0 : wr.cell? ⟨p9,0,none⟩ = some (.int .i64 a0_0):=(blk_cell p1.out 0).trans rfl;have hcz45_1 : wr.cell? ⟨p9,1,none⟩ = some (.slice A0_1 l0_1.length c0_1):=(blk_cell p1.out 1).trans rfl;have hfz45_0:=blk_frozen p1.out 0;have hfz45_1:=blk_frozen p1.out 1;obtain ⟨Ao46,co46,eo46⟩:=Kd.R_slice p5.out;subst eo46;have p766 : 0 ≤ (p8 : Int):=of_decide_eq_true (by first | (with_reducible assumption) | assumption);have q766 : p8 < (p4.length : Int):=of_decide_eq_true (by first | (with_reducible assumption) | assumption);obtain ⟨m6,e766,v5⟩:=Kd.at_int (Kd.R_reads' p5.out).2.2 p8 p766 q766;cases e766;replace p766:=eq_true p766;replace q766:=eq_true q766
       go_wp2
       go_ret2;exact ⟨by first | rfl | (simp [errW_none,errW_some] <;> rfl) | (simp [*,errW_none,errW_some] <;> rfl),by repeat (first | (with_reducible first | exact HB.out | apply below_alloc | apply pw_below_drewN | apply below_drew1 | refine below_set ?_ r8.out) | exact HB.out)⟩
      rw [if_pos c42] at H;have c42b0 : (p8 == a3) = true:=beq_iff_eq.mpr c42;have c42b1 : (p8 != a3) = false:=bne_eq_false_iff_eq.mpr c42;clear c42;have H':=zx H;clear H;have hcz43_0 : wr.cell? ⟨p9,0,none⟩ = some (.int .i64 a0_0):=(blk_cell p1.out 0).trans rfl;have hcz43_1 : wr.cell? ⟨p9,1,none⟩ = some (.slice A0_1 l0_1.length c0_1):=(blk_cell p1.out 1).trans rfl;have hfz43_0:=blk_frozen p1.out 0;have hfz43_1:=blk_frozen p1.out 1;obtain ⟨Ao44,co44,eo44⟩:=Kd.R_slice p5.out;subst eo44;have p766 : 0 ≤ (p8 : Int):=of_decide_eq_true (by first | (with_reducible assumption) | assumption);have q766 : p8 < (p4.length : Int):=of_decide_eq_true (by first | (with_reducible assumption) | assumption);obtain ⟨m6,e766,v5⟩:=Kd.at_int (Kd.R_reads' p5.out).2.2 p8 p766 q766;cases e766;replace p766:=eq_true p766;replace q766:=eq_true q766
      go_wp2
      go_roundg k2
      case measure => have:=HK1.out; have:=HK2.out; omega
      case rel => exact ⟨(wrap64 (p8 + 1)),(by first | rfl | (simp; done) | (simp [*]; done)),H',⟨by have:=HK1.out; have:=HK2.out; omega⟩,⟨by (with_reducible repeat (first | apply Kd.R_alloc | apply Kd.R_drewN | apply Kd.R_drew)); exact p5.out⟩,⟨by (with_reducible repeat (first | refine blk_drewN ?_ _ | refine blk_drew ?_ | refine blk_alloc ?_ _)); exact p1.out⟩,⟨by repeat (first | (with_reducible first | exact HB.out | apply below_alloc | apply pw_below_drewN | apply below_drew1 | refine below_set ?_ r8.out) | exact HB.out)⟩⟩
   rw [if_pos c11] at H;have c11b0 : decide (p0 < (l0_1.length : Int)) = true:=decide_eq_true c11;clear c11
   by_cases c12 : 0 ≤ p0
   case neg =>
    rw [if_neg c12] at H;exact absurd H (by simp)
   rw [if_pos c12] at H;have c12b0 : decide (0 ≤ p0) = true:=decide_eq_true c12;clear c12
   by_cases c13 : p0 < (l1.length : Int)
   case neg =>
    rw [if_neg c13] at H;exact absurd H (by simp)
   rw [if_pos c13] at H;have c13b0 : decide (p0 < (l1.length : Int)) = true:=decide_eq_true c13;clear c13;replace H:=Option.bind_eq_some_iff.mp H;obtain ⟨t755,A140,H⟩:=H;replace H : (if t755 = true then (if 0 ≤ ((rd_T58 l0_1 p0).f0) then (if ((rd_T58 l0_1 p0).f0) < (p4.length : Int) then ((some (p4.set (((rd_T58 l0_1 p0).f0) : Int).toNat (wrap64 ((rd p4 ((rd_T58 l0_1 p0).f0)) + (rd l1 p0))) : List Int)).bind fun y760 => (if 0 ≤ ((rd_T58 l0_1 p0).f1) then (if ((rd_T58 l0_1 p0).f1) < (p4.length : Int) then (spec_l25Ok.l0 k1 l1 a2 a3 (y760.set (((rd_T58 l0_1 p0).f1) : Int).toNat (wrap64 ((rd y760 ((rd_T58 l0_1 p0).f1)) - (rd l1 p0)))) (wrap64 (p0 + 1)) a0_0 l0_1) else (none)) else (none))) else (none)) else (none)) else (some (0,false))) = some (r1,r2):=H;have A14:=zx A140;clear A140
   by_cases c15 : t755 = true
   case neg =>
    replace c15:=Bool.eq_false_iff.mpr c15;subst c15;have H1 : (some (0,false)) = some (r1,r2):=by rw [if_neg (show ¬ (false = true) by decide)] at H; exact H
    clear H;have H:=H1;clear H1;simp only [Option.some.injEq,Prod.mk.injEq] at H;obtain ⟨rfl,rfl⟩:=H;have m7 : wr.cell? ⟨p9,0,none⟩ = some (.int .i64 a0_0):=(blk_cell p1.out 0).trans rfl;have m8 : wr.cell? ⟨p9,1,none⟩ = some (.slice A0_1 l0_1.length c0_1):=(blk_cell p1.out 1).trans rfl;have m9:=blk_frozen p1.out 0;have n0:=blk_frozen p1.out 1
    try go_wp2
    have n0_:=zx (Kd.R_drew p5.out);have n1_:=zx (blk_drew p1.out);have n2_:=zx (below_drew1 HB.out);clear p5;clear p1;clear HB;have p5:=n0_;have p1:=n1_;have HB:=n2_;clear n0_ n1_ n2_;have p753 : 0 ≤ (p0 : Int):=of_decide_eq_true (by first | (with_reducible assumption) | assumption);have q753 : p0 < (l1.length : Int):=of_decide_eq_true (by first | (with_reducible assumption) | assumption);obtain ⟨v2,e753,q1⟩:=Kd.at_int HR1.out p0 p753 q753;have q9:=q1;cases e753;replace q1:=(HB.out.cell (World.block_lt_of_cell? w _ q1)).trans q1;replace p753:=eq_true p753;replace q753:=eq_true q753;have p754 : 0 ≤ (p0 : Int):=of_decide_eq_true (by first | (with_reducible assumption) | assumption);have q754 : p0 < (l0_1.length : Int):=of_decide_eq_true (by first | (with_reducible assumption) | assumption);obtain ⟨p3,e754,q3,q4,q5,q6,q8⟩:=at_T58 v3.out p0 p754 q754;have r0:=q8;have r3:=q6;have r4:=q5;have r5:=q4;have r6:=q3;cases e754;replace q3:=(HB.out.cell (World.block_lt_of_cell? w _ q3)).trans q3;replace q4:=(HB.out.cell (World.block_lt_of_cell? w _ q4)).trans q4;replace q5:=(HB.out.cell (World.block_lt_of_cell? w _ q5)).trans q5;replace q6:=(HB.out.cell (World.block_lt_of_cell? w _ q6)).trans q6;replace q8:=(HB.out.cell (World.block_lt_of_cell? w _ q8)).trans q8;replace p754:=eq_true p754;replace q754:=eq_true q754;refine start_ (n:=12) (S:=fun w' => w'.cell? ⟨p9,0,none⟩ = some (.int .i64 a0_0) ∧ w'.cell? ⟨p9,1,none⟩ = some (.slice (some p3) l0_1.length c0_1) ∧ w'.cell? (v2.add (p0).toNat) = some (.int .i64 (rd l1 p0)) ∧ w'.cell? (p3.add ((p0).toNat * 5)) = some (.int .i64 ((rd_T58 l0_1 p0).f0)) ∧ w'.cell? ⟨(p3.add ((p0).toNat * 5)).block,(p3.add ((p0).toNat * 5)).off + 1,none⟩ = some (.int .i64 ((rd_T58 l0_1 p0).f1)) ∧ w'.cell? ⟨(p3.add ((p0).toNat * 5)).block,(p3.add ((p0).toNat * 5)).off + 2,none⟩ = some (.int .i64 ((rd_T58 l0_1 p0).f2)) ∧ w'.cell? ⟨(p3.add ((p0).toNat * 5)).block,(p3.add ((p0).toNat * 5)).off + 3,none⟩ = some (.int .i64 ((rd_T58 l0_1 p0).f3)) ∧ w'.cell? ⟨(p3.add ((p0).toNat * 5)).block,(p3.add ((p0).toNat * 5)).off + 4,none⟩ = some (.int .i64 ((rd_T58 l0_1 p0).f4))) (ds:=[]) #[J,J,J,J,J,J,J,J,J,J,J,J] (by kernel_rfl) rfl rfl ⟨(blk_cell p1.out 0).trans rfl,(blk_cell p1.out 1).trans rfl,((HB.out.cell (World.block_lt_of_cell? w _ q9)).trans q9),((HB.out.cell (World.block_lt_of_cell? w _ r6)).trans r6),((HB.out.cell (World.block_lt_of_cell? w _ r5)).trans r5),((HB.out.cell (World.block_lt_of_cell? w _ r4)).trans r4),((HB.out.cell (World.block_lt_of_cell? w _ r3)).trans r3),((HB.out.cell (World.block_lt_of_cell? w _ r0)).trans r0)⟩ (fun hHeld => ?_); refine with_tabW spec_l25Ok.tab5 spec_l25Ok.bits5 (fun HT_ HW_ => ?_);generalize wr.drew = w31 at p5 p1 HB q1 q3 q4 q5 q6 q8 hHeld ⊢
    refine pure_ (i:=0) (N:=some 23) (v:=?_) (a':=?_) #[Y,J,J,J,J,J,J,J,J,J,J,J] rfl rfl (any_of HT_.out (by kernel_rfl)) (fun _ _ _ h => h) (Or.inl ⟨by rfl,?_⟩) ?_ ?_;rotate_left
    ·intro w';go_simp;with_reducible rfl
    rotate_left
    ·simp only [Act.put,U,V,Z,i64_w,i32_w];rfl
    refine pure_ (i:=1) (N:=some 24) (v:=?_) (a':=?_) #[Y,Y,J,J,J,J,J,J,J,J,J,J] rfl rfl (any_of HT_.out (by kernel_rfl)) (fun _ _ _ h => h) (Or.inl ⟨by rfl,?_⟩) ?_ ?_;rotate_left
    ·intro w';go_simp;with_reducible rfl
    rotate_left
    ·simp only [Act.put,U,V,Z,i64_w,i32_w];rfl
    refine pure_ (i:=2) (N:=some 25) (v:=?_) (a':=?_) #[Y,Y,Y,J,J,J,J,J,J,J,J,J] rfl rfl (any_of HT_.out (by kernel_rfl)) (fun _ _ _ h => h) (Or.inl ⟨by rfl,?_⟩) ?_ ?_;rotate_left
    ·intro w';go_simp;with_reducible rfl
    rotate_left
    ·simp only [Act.put,U,V,Z,i64_w,i32_w];rfl
    refine pure_ (i:=4) (N:=some 27) (v:=?_) (a':=?_) #[Y,Y,Y,J,Y,J,J,J,J,J,J,J] rfl rfl (any_of HT_.out (by kernel_rfl)) (fun _ _ _ h => h) (Or.inl ⟨by rfl,?_⟩) ?_ ?_;rotate_left
    ·intro w';go_simp;with_reducible rfl
    rotate_left
    ·simp only [Act.put,U,V,Z,i64_w,i32_w];rfl
    refine pure_ (i:=6) (N:=some 29) (v:=?_) (a':=?_) #[Y,Y,Y,J,Y,J,Y,J,J,J,J,J] rfl rfl (any_of HT_.out (by kernel_rfl)) (fun _ _ _ h => h) (Or.inl ⟨by rfl,?_⟩) ?_ ?_;rotate_left
    ·intro w';go_simp;with_reducible rfl
    rotate_left
    ·simp only [Act.put,U,V,Z,i64_w,i32_w];rfl
    refine take_ (i:=3) (N:=some 26) (v:=?_) (a':=?_) #[Y,Y,Y,Y,Y,J,Y,J,J,J,J,J] rfl rfl (take_ofW HT_.out HW_.out (by kernel_rfl)) (fun _ _ _ h => h) (Or.inl ⟨by rfl,?_⟩) hHeld ?_ ?_;rotate_left
    ·rintro w' ⟨s0,s1,s2,s3,s4,s5,s6,s7⟩;go_simp;with_reducible rfl
    rotate_left
    ·simp only [Act.put,U,V,Z,i64_w,i32_w];rfl
    refine take_ (i:=5) (N:=some 28) (v:=?_) (a':=?_) #[Y,Y,Y,Y,Y,Y,Y,J,J,J,J,J] rfl rfl (take_ofW HT_.out HW_.out (by kernel_rfl)) (fun _ _ _ h => h) (Or.inl ⟨by rfl,?_⟩) hHeld ?_ ?_;rotate_left
    ·rintro w' ⟨s0,s1,s2,s3,s4,s5,s6,s7⟩;go_simp;with_reducible rfl
    rotate_left
    ·simp only [Act.put,U,V,Z,i64_w,i32_w];rfl
    refine pure_ (i:=7) (N:=some 30) (v:=?_) (a':=?_) #[Y,Y,Y,Y,Y,Y,Y,Y,J,J,J,J] rfl rfl (any_of HT_.out (by kernel_rfl)) (fun _ _ _ h => h) (Or.inl ⟨by rfl,?_⟩) ?_ ?_;rotate_left
    ·intro w';go_simp;with_reducible rfl
    rotate_left
    ·simp only [Act.put,U,V,Z,i64_w,i32_w];rfl
    refine pure_ (i:=8) (N:=some 31) (v:=?_) (a':=?_) #[Y,Y,Y,Y,Y,Y,Y,Y,Y,J,J,J] rfl rfl (any_of HT_.out (by kernel_rfl)) (fun _ _ _ h => h) (Or.inl ⟨by rfl,?_⟩) ?_ ?_;rotate_left
    ·intro w';go_simp;with_reducible rfl
    rotate_left
    ·simp only [Act.put,U,V,Z,i64_w,i32_w];rfl
    refine take_ (i:=9) (N:=some 32) (v:=?_) (a':=?_) #[Y,Y,Y,Y,Y,Y,Y,Y,Y,Y,J,J] rfl rfl (take_ofW HT_.out HW_.out (by kernel_rfl)) (fun _ _ _ h => h) (Or.inl ⟨by rfl,?_⟩) hHeld ?_ ?_;rotate_left
    ·rintro w' ⟨s0,s1,s2,s3,s4,s5,s6,s7⟩;go_simp;with_reducible rfl
    rotate_left
    ·simp only [Act.put,U,V,Z,i64_w,i32_w];rfl
    refine one_ (i:=10) (N:=some 33) #[Y,Y,Y,Y,Y,Y,Y,Y,Y,Y,Y,J] rfl rfl (one_of HT_.out (by kernel_rfl)) (by decide) (fun K hK => ?_);refine goes_ Try.func90 (by kernel_rfl) rfl #[.int .i64 (rd l1 p0),.int .i64 0,.int .i64 ((rd_T58 l0_1 p0).f4)] (by rfl) rfl rfl (by (try simp only [List.map_toArray,List.map_cons,List.map_nil]); first | done | rfl | (simp only [List.length_drop,List.length_take]; rfl)) ?_;with_reducible refine (spec_l1In.calls (rd l1 p0) 0 ((rd_T58 l0_1 p0).f4) false _ A14.out).mono ?_
    rintro e w' ⟨rfl,⟨nd,rfl⟩⟩;refine ⟨_,rfl,?_⟩;refine hK.out _ _ ⟨(blk_cell p1.out 0).trans rfl,(blk_cell p1.out 1).trans rfl,((HB.out.cell (World.block_lt_of_cell? w _ q9)).trans q9),((HB.out.cell (World.block_lt_of_cell? w _ r6)).trans r6),((HB.out.cell (World.block_lt_of_cell? w _ r5)).trans r5),((HB.out.cell (World.block_lt_of_cell? w _ r4)).trans r4),((HB.out.cell (World.block_lt_of_cell? w _ r3)).trans r3),((HB.out.cell (World.block_lt_of_cell? w _ r0)).trans r0)⟩ (fun hHeld => ?_);clear hK K;refine norm_ (a':=?_) ?_ ?_;rotate_left
    ·show Act.put _ (some 33) _ = _
     simp only [Act.put,U,V,Z,i64_w,i32_w];rfl
    refine pure_ (i:=11) (N:=some 34) (v:=?_) (a':=?_) #[Y,Y,Y,Y,Y,Y,Y,Y,Y,Y,Y,Y] rfl rfl (any_of HT_.out (by kernel_rfl)) (fun _ _ _ h => h) (Or.inl ⟨by rfl,?_⟩) ?_ ?_;rotate_left
    ·intro w';go_simp;with_reducible rfl
    rotate_left
    ·simp only [Act.put,U,V,Z,i64_w,i32_w];rfl
    refine done_ (done_of HT_.out (by kernel_rfl)) ?_
    try go_wp2
    go_ret2;exact ⟨by first | rfl | (simp [errW_none,errW_some] <;> rfl) | (simp [*,errW_none,errW_some] <;> rfl),by repeat (first | (with_reducible first | exact HB.out | apply below_alloc | apply pw_below_drewN | apply below_drew1 | refine below_set ?_ r8.out) | exact HB.out)⟩
   subst c15;have H1 : (if 0 ≤ ((rd_T58 l0_1 p0).f0) then (if ((rd_T58 l0_1 p0).f0) < (p4.length : Int) then ((some (p4.set (((rd_T58 l0_1 p0).f0) : Int).toNat (wrap64 ((rd p4 ((rd_T58 l0_1 p0).f0)) + (rd l1 p0))) : List Int)).bind fun y760 => (if 0 ≤ ((rd_T58 l0_1 p0).f1) then (if ((rd_T58 l0_1 p0).f1) < (p4.length : Int) then (spec_l25Ok.l0 k1 l1 a2 a3 (y760.set (((rd_T58 l0_1 p0).f1) : Int).toNat (wrap64 ((rd y760 ((rd_T58 l0_1 p0).f1)) - (rd l1 p0)))) (wrap64 (p0 + 1)) a0_0 l0_1) else (none)) else (none))) else (none)) else (none)) = some (r1,r2):=by rw [if_pos rfl] at H; exact H
   clear H;have H:=H1;clear H1
   by_cases c16 : 0 ≤ ((rd_T58 l0_1 p0).f0)
   case neg =>
    rw [if_neg c16] at H;exact absurd H (by simp)
   rw [if_pos c16] at H;have c16b0 : decide (0 ≤ ((rd_T58 l0_1 p0).f0)) = true:=decide_eq_true c16;clear c16
   by_cases c17 : ((rd_T58 l0_1 p0).f0) < (p4.length : Int)
   case neg =>
    rw [if_neg c17] at H;exact absurd H (by simp)
   rw [if_pos c17] at H;have c17b0 : decide (((rd_T58 l0_1 p0).f0) < (p4.length : Int)) = true:=decide_eq_true c17;clear c17;obtain ⟨y760,hy760⟩ : ∃ y_ : List Int,y_ = (p4.set (((rd_T58 l0_1 p0).f0) : Int).toNat (wrap64 ((rd p4 ((rd_T58 l0_1 p0).f0)) + (rd l1 p0)))):=⟨_,rfl⟩
   replace H : (if 0 ≤ ((rd_T58 l0_1 p0).f1) then (if ((rd_T58 l0_1 p0).f1) < (p4.length : Int) then (spec_l25Ok.l0 k1 l1 a2 a3 (y760.set (((rd_T58 l0_1 p0).f1) : Int).toNat (wrap64 ((rd y760 ((rd_T58 l0_1 p0).f1)) - (rd l1 p0)))) (wrap64 (p0 + 1)) a0_0 l0_1) else (none)) else (none)) = some (r1,r2):=by first | (rw [hy760]; with_reducible exact H) | (have H2_:=(Option.bind_some _ _).symm.trans H; rw [hy760]; with_reducible exact H2_) | (have H2_:=(Option.bind_some _ _).symm.trans H; with_reducible exact H2_) | with_reducible exact H | (rw [hy760]; exact H) | exact H
   have Ny760:=zx hy760;clear hy760
   by_cases c19 : 0 ≤ ((rd_T58 l0_1 p0).f1)
   case neg =>
    rw [if_neg c19] at H;exact absurd H (by simp)
   rw [if_pos c19] at H;have c19b0 : decide (0 ≤ ((rd_T58 l0_1 p0).f1)) = true:=decide_eq_true c19;clear c19
   by_cases c20 : ((rd_T58 l0_1 p0).f1) < (p4.length : Int)
   case neg =>
    rw [if_neg c20] at H;exact absurd H (by simp)
   rw [if_pos c20] at H;have c20b0 : decide (((rd_T58 l0_1 p0).f1) < (p4.length : Int)) = true:=decide_eq_true c20;clear c20;obtain ⟨y765,hy765⟩ : ∃ y_ : List Int,y_ = (y760.set (((rd_T58 l0_1 p0).f1) : Int).toNat (wrap64 ((rd y760 ((rd_T58 l0_1 p0).f1)) - (rd l1 p0)))):=⟨_,rfl⟩
   replace H : (spec_l25Ok.l0 k1 l1 a2 a3 y765 (wrap64 (p0 + 1)) a0_0 l0_1) = some (r1,r2):=by first | (rw [hy765]; with_reducible exact H) | (have H2_:=(Option.bind_some _ _).symm.trans H; rw [hy765]; with_reducible exact H2_) | (have H2_:=(Option.bind_some _ _).symm.trans H; with_reducible exact H2_) | with_reducible exact H | (rw [hy765]; exact H) | exact H
   have Ny765:=zx hy765;clear hy765;have H':=zx H;clear H;have hcz22_0 : wr.cell? ⟨p9,0,none⟩ = some (.int .i64 a0_0):=(blk_cell p1.out 0).trans rfl;have hcz22_1 : wr.cell? ⟨p9,1,none⟩ = some (.slice A0_1 l0_1.length c0_1):=(blk_cell p1.out 1).trans rfl;have hfz22_0:=blk_frozen p1.out 0;have hfz22_1:=blk_frozen p1.out 1
   try go_wp2
   have n0_:=zx (Kd.R_drew p5.out);have n1_:=zx (blk_drew p1.out);have n2_:=zx (below_drew1 HB.out);clear p5;clear p1;clear HB;have p5:=n0_;have p1:=n1_;have HB:=n2_;clear n0_ n1_ n2_;have p753 : 0 ≤ (p0 : Int):=of_decide_eq_true (by first | (with_reducible assumption) | assumption);have q753 : p0 < (l1.length : Int):=of_decide_eq_true (by first | (with_reducible assumption) | assumption);obtain ⟨v2,e753,q1⟩:=Kd.at_int HR1.out p0 p753 q753;have q9:=q1;cases e753;replace q1:=(HB.out.cell (World.block_lt_of_cell? w _ q1)).trans q1;replace p753:=eq_true p753;replace q753:=eq_true q753;have p754 : 0 ≤ (p0 : Int):=of_decide_eq_true (by first | (with_reducible assumption) | assumption);have q754 : p0 < (l0_1.length : Int):=of_decide_eq_true (by first | (with_reducible assumption) | assumption);obtain ⟨p3,e754,q3,q4,q5,q6,q8⟩:=at_T58 v3.out p0 p754 q754;have r0:=q8;have r3:=q6;have r4:=q5;have r5:=q4;have r6:=q3;cases e754;replace q3:=(HB.out.cell (World.block_lt_of_cell? w _ q3)).trans q3;replace q4:=(HB.out.cell (World.block_lt_of_cell? w _ q4)).trans q4;replace q5:=(HB.out.cell (World.block_lt_of_cell? w _ q5)).trans q5;replace q6:=(HB.out.cell (World.block_lt_of_cell? w _ q6)).trans q6;replace q8:=(HB.out.cell (World.block_lt_of_cell? w _ q8)).trans q8;replace p754:=eq_true p754;replace q754:=eq_true q754;refine start_ (n:=12) (S:=fun w' => w'.cell? ⟨p9,0,none⟩ = some (.int .i64 a0_0) ∧ w'.cell? ⟨p9,1,none⟩ = some (.slice (some p3) l0_1.length c0_1) ∧ w'.cell? (v2.add (p0).toNat) = some (.int .i64 (rd l1 p0)) ∧ w'.cell? (p3.add ((p0).toNat * 5)) = some (.int .i64 ((rd_T58 l0_1 p0).f0)) ∧ w'.cell? ⟨(p3.add ((p0).toNat * 5)).block,(p3.add ((p0).toNat * 5)).off + 1,none⟩ = some (.int .i64 ((rd_T58 l0_1 p0).f1)) ∧ w'.cell? ⟨(p3.add ((p0).toNat * 5)).block,(p3.add ((p0).toNat * 5)).off + 2,none⟩ = some (.int .i64 ((rd_T58 l0_1 p0).f2)) ∧ w'.cell? ⟨(p3.add ((p0).toNat * 5)).block,(p3.add ((p0).toNat * 5)).off + 3,none⟩ = some (.int .i64 ((rd_T58 l0_1 p0).f3)) ∧ w'.cell? ⟨(p3.add ((p0).toNat * 5)).block,(p3.add ((p0).toNat * 5)).off + 4,none⟩ = some (.int .i64 ((rd_T58 l0_1 p0).f4))) (ds:=[]) #[J,J,J,J,J,J,J,J,J,J,J,J] (by kernel_rfl) rfl rfl ⟨(blk_cell p1.out 0).trans rfl,(blk_cell p1.out 1).trans rfl,((HB.out.cell (World.block_lt_of_cell? w _ q9)).trans q9),((HB.out.cell (World.block_lt_of_cell? w _ r6)).trans r6),((HB.out.cell (World.block_lt_of_cell? w _ r5)).trans r5),((HB.out.cell (World.block_lt_of_cell? w _ r4)).trans r4),((HB.out.cell (World.block_lt_of_cell? w _ r3)).trans r3),((HB.out.cell (World.block_lt_of_cell? w _ r0)).trans r0)⟩ (fun hHeld => ?_); refine with_tabW spec_l25Ok.tab5 spec_l25Ok.bits5 (fun HT_ HW_ => ?_);generalize wr.drew = w23 at p5 p1 HB q1 q3 q4 q5 q6 q8 hHeld ⊢
   refine pure_ (i:=0) (N:=some 23) (v:=?_) (a':=?_) #[Y,J,J,J,J,J,J,J,J,J,J,J] rfl rfl (any_of HT_.out (by kernel_rfl)) (fun _ _ _ h => h) (Or.inl ⟨by rfl,?_⟩) ?_ ?_;rotate_left
   ·intro w';go_simp;with_reducible rfl
   rotate_left
   ·simp only [Act.put,U,V,Z,i64_w,i32_w];rfl
   refine pure_ (i:=1) (N:=some 24) (v:=?_) (a':=?_) #[Y,Y,J,J,J,J,J,J,J,J,J,J] rfl rfl (any_of HT_.out (by kernel_rfl)) (fun _ _ _ h => h) (Or.inl ⟨by rfl,?_⟩) ?_ ?_;rotate_left
   ·intro w';go_simp;with_reducible rfl
   rotate_left
   ·simp only [Act.put,U,V,Z,i64_w,i32_w];rfl
   refine pure_ (i:=2) (N:=some 25) (v:=?_) (a':=?_) #[Y,Y,Y,J,J,J,J,J,J,J,J,J] rfl rfl (any_of HT_.out (by kernel_rfl)) (fun _ _ _ h => h) (Or.inl ⟨by rfl,?_⟩) ?_ ?_;rotate_left
   ·intro w';go_simp;with_reducible rfl
   rotate_left
   ·simp only [Act.put,U,V,Z,i64_w,i32_w];rfl
   refine pure_ (i:=4) (N:=some 27) (v:=?_) (a':=?_) #[Y,Y,Y,J,Y,J,J,J,J,J,J,J] rfl rfl (any_of HT_.out (by kernel_rfl)) (fun _ _ _ h => h) (Or.inl ⟨by rfl,?_⟩) ?_ ?_;rotate_left
   ·intro w';go_simp;with_reducible rfl
   rotate_left
   ·simp only [Act.put,U,V,Z,i64_w,i32_w];rfl
   refine pure_ (i:=6) (N:=some 29) (v:=?_) (a':=?_) #[Y,Y,Y,J,Y,J,Y,J,J,J,J,J] rfl rfl (any_of HT_.out (by kernel_rfl)) (fun _ _ _ h => h) (Or.inl ⟨by rfl,?_⟩) ?_ ?_;rotate_left
   ·intro w';go_simp;with_reducible rfl
   rotate_left
   ·simp only [Act.put,U,V,Z,i64_w,i32_w];rfl
   refine take_ (i:=3) (N:=some 26) (v:=?_) (a':=?_) #[Y,Y,Y,Y,Y,J,Y,J,J,J,J,J] rfl rfl (take_ofW HT_.out HW_.out (by kernel_rfl)) (fun _ _ _ h => h) (Or.inl ⟨by rfl,?_⟩) hHeld ?_ ?_;rotate_left
   ·rintro w' ⟨s0,s1,s2,s3,s4,s5,s6,s7⟩;go_simp;with_reducible rfl
   rotate_left
   ·simp only [Act.put,U,V,Z,i64_w,i32_w];rfl
   refine take_ (i:=5) (N:=some 28) (v:=?_) (a':=?_) #[Y,Y,Y,Y,Y,Y,Y,J,J,J,J,J] rfl rfl (take_ofW HT_.out HW_.out (by kernel_rfl)) (fun _ _ _ h => h) (Or.inl ⟨by rfl,?_⟩) hHeld ?_ ?_;rotate_left
   ·rintro w' ⟨s0,s1,s2,s3,s4,s5,s6,s7⟩;go_simp;with_reducible rfl
   rotate_left
   ·simp only [Act.put,U,V,Z,i64_w,i32_w];rfl
   refine pure_ (i:=7) (N:=some 30) (v:=?_) (a':=?_) #[Y,Y,Y,Y,Y,Y,Y,Y,J,J,J,J] rfl rfl (any_of HT_.out (by kernel_rfl)) (fun _ _ _ h => h) (Or.inl ⟨by rfl,?_⟩) ?_ ?_;rotate_left
   ·intro w';go_simp;with_reducible rfl
   rotate_left
   ·simp only [Act.put,U,V,Z,i64_w,i32_w];rfl
   refine pure_ (i:=8) (N:=some 31) (v:=?_) (a':=?_) #[Y,Y,Y,Y,Y,Y,Y,Y,Y,J,J,J] rfl rfl (any_of HT_.out (by kernel_rfl)) (fun _ _ _ h => h) (Or.inl ⟨by rfl,?_⟩) ?_ ?_;rotate_left
   ·intro w';go_simp;with_reducible rfl
   rotate_left
   ·simp only [Act.put,U,V,Z,i64_w,i32_w];rfl
   refine take_ (i:=9) (N:=some 32) (v:=?_) (a':=?_) #[Y,Y,Y,Y,Y,Y,Y,Y,Y,Y,J,J] rfl rfl (take_ofW HT_.out HW_.out (by kernel_rfl)) (fun _ _ _ h => h) (Or.inl ⟨by rfl,?_⟩) hHeld ?_ ?_;rotate_left
   ·rintro w' ⟨s0,s1,s2,s3,s4,s5,s6,s7⟩;go_simp;with_reducible rfl
   rotate_left
   ·simp only [Act.put,U,V,Z,i64_w,i32_w];rfl
   refine one_ (i:=10) (N:=some 33) #[Y,Y,Y,Y,Y,Y,Y,Y,Y,Y,Y,J] rfl rfl (one_of HT_.out (by kernel_rfl)) (by decide) (fun K hK => ?_);refine goes_ Try.func90 (by kernel_rfl) rfl #[.int .i64 (rd l1 p0),.int .i64 0,.int .i64 ((rd_T58 l0_1 p0).f4)] (by rfl) rfl rfl (by (try simp only [List.map_toArray,List.map_cons,List.map_nil]); first | done | rfl | (simp only [List.length_drop,List.length_take]; rfl)) ?_;with_reducible refine (spec_l1In.calls (rd l1 p0) 0 ((rd_T58 l0_1 p0).f4) true _ A14.out).mono ?_
   rintro e w' ⟨rfl,⟨nd,rfl⟩⟩;refine ⟨_,rfl,?_⟩;refine hK.out _ _ ⟨(blk_cell p1.out 0).trans rfl,(blk_cell p1.out 1).trans rfl,((HB.out.cell (World.block_lt_of_cell? w _ q9)).trans q9),((HB.out.cell (World.block_lt_of_cell? w _ r6)).trans r6),((HB.out.cell (World.block_lt_of_cell? w _ r5)).trans r5),((HB.out.cell (World.block_lt_of_cell? w _ r4)).trans r4),((HB.out.cell (World.block_lt_of_cell? w _ r3)).trans r3),((HB.out.cell (World.block_lt_of_cell? w _ r0)).trans r0)⟩ (fun hHeld => ?_);clear hK K;refine norm_ (a':=?_) ?_ ?_;rotate_left
   ·show Act.put _ (some 33) _ = _
    simp only [Act.put,U,V,Z,i64_w,i32_w];rfl
   refine pure_ (i:=11) (N:=some 34) (v:=?_) (a':=?_) #[Y,Y,Y,Y,Y,Y,Y,Y,Y,Y,Y,Y] rfl rfl (any_of HT_.out (by kernel_rfl)) (fun _ _ _ h => h) (Or.inl ⟨by rfl,?_⟩) ?_ ?_;rotate_left
   ·intro w';go_simp;with_reducible rfl
   rotate_left
   ·simp only [Act.put,U,V,Z,i64_w,i32_w];rfl
   refine done_ (done_of HT_.out (by kernel_rfl)) ?_
   try go_wp2
   (try (rw [drewN_self w23]; generalize hq_ : World.drewN w23 _ = w23; have n0_ : Aside0 (Kd.R (Kd.int .i64) 3 w23 w.heap.size (fun _ => True) v751 p4):=⟨by rw [← hq_]; exact (by (with_reducible repeat (first | apply Kd.R_alloc | apply Kd.R_drewN | apply Kd.R_drew)); exact p5.out)⟩; have n1_ : Aside0 (w23.heap[p9]? = some (.cells #[.int .i64 a0_0,.slice (some p3) l0_1.length c0_1] 34 (0,0))):=⟨by rw [← hq_]; exact (by (with_reducible repeat (first | refine blk_drewN ?_ _ | refine blk_drew ?_ | refine blk_alloc ?_ _)); exact p1.out)⟩; have n2_ : Aside0 (Below w.heap.size w w23):=⟨by rw [← hq_]; exact (by repeat (first | (with_reducible first | exact HB.out | apply below_alloc | apply pw_below_drewN | apply below_drew1 | refine below_set ?_ r8.out) | exact HB.out))⟩; clear p5 p1 HB hq_; have p5:=n0_; have p1:=n1_; have HB:=n2_; clear n0_ n1_ n2_))
   have n0_:=zx (Kd.R_drew p5.out);have n1_:=zx (blk_drew p1.out);have n2_:=zx (below_drew1 HB.out);clear p5;clear p1;clear HB;have p5:=n0_;have p1:=n1_;have HB:=n2_;clear n0_ n1_ n2_;have p756 : 0 ≤ (p0 : Int):=of_decide_eq_true (by first | (with_reducible assumption) | assumption);have q756 : p0 < (l0_1.length : Int):=of_decide_eq_true (by first | (with_reducible assumption) | assumption);obtain ⟨ad756,e756,u1,u2,u3,u4,u5⟩:=at_T58 v3.out p0 p756 q756;have v6:=u5;have v7:=u4;have v8:=u3;have v9:=u2;have y7:=u1;obtain rfl : p3 = ad756:=(by injection e756)
   replace u1:=(HB.out.cell (World.block_lt_of_cell? w _ u1)).trans u1;replace u2:=(HB.out.cell (World.block_lt_of_cell? w _ u2)).trans u2;replace u3:=(HB.out.cell (World.block_lt_of_cell? w _ u3)).trans u3;replace u4:=(HB.out.cell (World.block_lt_of_cell? w _ u4)).trans u4;replace u5:=(HB.out.cell (World.block_lt_of_cell? w _ u5)).trans u5;replace p756:=eq_true p756;replace q756:=eq_true q756;have p757 : 0 ≤ (p0 : Int):=of_decide_eq_true (by first | (with_reducible assumption) | assumption);have q757 : p0 < (l0_1.length : Int):=of_decide_eq_true (by first | (with_reducible assumption) | assumption);obtain ⟨ad757,e757,u6,u7,u8,u9,v0⟩:=at_T58 v3.out p0 p757 q757;have y8:=v0;have y9:=u9;have z0:=u8;have z1:=u7;have z2:=u6;obtain rfl : p3 = ad757:=(by injection e757)
   replace u6:=(HB.out.cell (World.block_lt_of_cell? w _ u6)).trans u6;replace u7:=(HB.out.cell (World.block_lt_of_cell? w _ u7)).trans u7;replace u8:=(HB.out.cell (World.block_lt_of_cell? w _ u8)).trans u8;replace u9:=(HB.out.cell (World.block_lt_of_cell? w _ u9)).trans u9;replace v0:=(HB.out.cell (World.block_lt_of_cell? w _ v0)).trans v0;replace p757:=eq_true p757;replace q757:=eq_true q757;obtain ⟨Ao25,co25,eo25⟩:=Kd.R_slice p5.out
   (first | subst eo25 | (injection eo25 with f1_ f2_ f3_; have f4_:=f1_.symm; have f5_:=f3_.symm; clear f1_ f2_ f3_; subst f4_; subst f5_))
   have p758 : 0 ≤ (((rd_T58 l0_1 p0).f0) : Int):=of_decide_eq_true (by first | (with_reducible assumption) | assumption);have q758 : ((rd_T58 l0_1 p0).f0) < (p4.length : Int):=of_decide_eq_true (by first | (with_reducible assumption) | assumption);obtain ⟨ad758,e758,v4⟩:=Kd.at_int (Kd.R_reads' p5.out).2.2 ((rd_T58 l0_1 p0).f0) p758 q758;cases e758;replace p758:=eq_true p758;replace q758:=eq_true q758;have p759 : 0 ≤ (p0 : Int):=of_decide_eq_true (by first | (with_reducible assumption) | assumption);have q759 : p0 < (l1.length : Int):=of_decide_eq_true (by first | (with_reducible assumption) | assumption);obtain ⟨ad759,e759,v1⟩:=Kd.at_int HR1.out p0 p759 q759;have z3:=v1;obtain rfl : v2 = ad759:=(by injection e759)
   replace v1:=(HB.out.cell (World.block_lt_of_cell? w _ v1)).trans v1;replace p759:=eq_true p759;replace q759:=eq_true q759;have p18 : 0 ≤ (((rd_T58 l0_1 p0).f0) : Int):=of_decide_eq_true (by first | (with_reducible assumption) | assumption);have q18 : (((rd_T58 l0_1 p0).f0) : Int) < ((p4.length : Int) : Int):=of_decide_eq_true (by first | (with_reducible assumption) | assumption);obtain ⟨go18,co18,eo18,gb18,gl18,cl18,HG18⟩:=Kd.R_form p5.out (by omega)
   (first | cases eo18 | (injection eo18 with ea_ en_ ec_; (first | subst ea_ | (injection ea_ with ea_; subst ea_)); subst ec_; clear en_))
   have GB18:=zx gb18;have GG18:=zx HG18;clear gb18 gl18 HG18
   (first | simp only [add_plain] at v4 | skip)
   obtain ⟨hx18_0,hf18_0⟩:=Kd.R_celln 0 p5.out (((rd_T58 l0_1 p0).f0) : Int) p18 q18;replace p18:=eq_true p18;replace q18:=eq_true q18;have HP26:=Kd.R_putn p5.out (((rd_T58 l0_1 p0).f0) : Int) (wrap64 ((rd p4 ((rd_T58 l0_1 p0).f0)) + (rd l1 p0)));rw [← Ny760.out] at HP26;have HQ26:=zx HP26;clear HP26;refine start_ (n:=23) (S:=fun w' => w'.cell? ⟨p9,0,none⟩ = some (.int .i64 a0_0) ∧ w'.cell? ⟨p9,1,none⟩ = some (.slice (some p3) l0_1.length c0_1) ∧ w'.cell? (p3.add ((p0).toNat * 5)) = some (.int .i64 ((rd_T58 l0_1 p0).f0)) ∧ w'.cell? ⟨(p3.add ((p0).toNat * 5)).block,(p3.add ((p0).toNat * 5)).off + 1,none⟩ = some (.int .i64 ((rd_T58 l0_1 p0).f1)) ∧ w'.cell? ⟨(p3.add ((p0).toNat * 5)).block,(p3.add ((p0).toNat * 5)).off + 2,none⟩ = some (.int .i64 ((rd_T58 l0_1 p0).f2)) ∧ w'.cell? ⟨(p3.add ((p0).toNat * 5)).block,(p3.add ((p0).toNat * 5)).off + 3,none⟩ = some (.int .i64 ((rd_T58 l0_1 p0).f3)) ∧ w'.cell? ⟨(p3.add ((p0).toNat * 5)).block,(p3.add ((p0).toNat * 5)).off + 4,none⟩ = some (.int .i64 ((rd_T58 l0_1 p0).f4)) ∧ w'.cell? (p3.add ((p0).toNat * 5)) = some (.int .i64 ((rd_T58 l0_1 p0).f0)) ∧ w'.cell? ⟨(p3.add ((p0).toNat * 5)).block,(p3.add ((p0).toNat * 5)).off + 1,none⟩ = some (.int .i64 ((rd_T58 l0_1 p0).f1)) ∧ w'.cell? ⟨(p3.add ((p0).toNat * 5)).block,(p3.add ((p0).toNat * 5)).off + 2,none⟩ = some (.int .i64 ((rd_T58 l0_1 p0).f2)) ∧ w'.cell? ⟨(p3.add ((p0).toNat * 5)).block,(p3.add ((p0).toNat * 5)).off + 3,none⟩ = some (.int .i64 ((rd_T58 l0_1 p0).f3)) ∧ w'.cell? ⟨(p3.add ((p0).toNat * 5)).block,(p3.add ((p0).toNat * 5)).off + 4,none⟩ = some (.int .i64 ((rd_T58 l0_1 p0).f4)) ∧ w'.cell? ⟨go18,(((rd_T58 l0_1 p0).f0)).toNat,none⟩ = some (.int .i64 (rd p4 ((rd_T58 l0_1 p0).f0))) ∧ w'.cell? (v2.add (p0).toNat) = some (.int .i64 (rd l1 p0))) (ds:=[22]) #[J,J,J,J,J,J,J,J,J,J,J,J,J,J,J,J,J,J,J,J,J,J,J] (by kernel_rfl) rfl rfl ⟨(blk_cell p1.out 0).trans rfl,(blk_cell p1.out 1).trans rfl,((HB.out.cell (World.block_lt_of_cell? w _ y7)).trans y7),((HB.out.cell (World.block_lt_of_cell? w _ v9)).trans v9),((HB.out.cell (World.block_lt_of_cell? w _ v8)).trans v8),((HB.out.cell (World.block_lt_of_cell? w _ v7)).trans v7),((HB.out.cell (World.block_lt_of_cell? w _ v6)).trans v6),((HB.out.cell (World.block_lt_of_cell? w _ z2)).trans z2),((HB.out.cell (World.block_lt_of_cell? w _ z1)).trans z1),((HB.out.cell (World.block_lt_of_cell? w _ z0)).trans z0),((HB.out.cell (World.block_lt_of_cell? w _ y9)).trans y9),((HB.out.cell (World.block_lt_of_cell? w _ y8)).trans y8),v4,((HB.out.cell (World.block_lt_of_cell? w _ z3)).trans z3)⟩ (fun hHeld => ?_); refine with_tabW spec_l25Ok.tab7 spec_l25Ok.bits7 (fun HT_ HW_ => ?_);generalize w23.drew = w24 at p5 p1 HB GG18 HQ26 hf18_0 hx18_0 u1 u2 u3 u4 u5 u6 u7 u8 u9 v0 v4 v1 hHeld ⊢
   refine pure_ (i:=0) (N:=some 35) (v:=?_) (a':=?_) #[Y,J,J,J,J,J,J,J,J,J,J,J,J,J,J,J,J,J,J,J,J,J,J] rfl rfl (any_of HT_.out (by kernel_rfl)) (fun _ _ _ h => h) (Or.inl ⟨by rfl,?_⟩) ?_ ?_;rotate_left
   ·intro w';go_simp;with_reducible rfl
   rotate_left
   ·simp only [Act.put,U,V,Z,i64_w,i32_w];rfl
   refine pure_ (i:=1) (N:=some 36) (v:=?_) (a':=?_) #[Y,Y,J,J,J,J,J,J,J,J,J,J,J,J,J,J,J,J,J,J,J,J,J] rfl rfl (any_of HT_.out (by kernel_rfl)) (fun _ _ _ h => h) (Or.inl ⟨by rfl,?_⟩) ?_ ?_;rotate_left
   ·intro w';go_simp;with_reducible rfl
   rotate_left
   ·simp only [Act.put,U,V,Z,i64_w,i32_w];rfl
   refine pure_ (i:=3) (N:=some 38) (v:=?_) (a':=?_) #[Y,Y,J,Y,J,J,J,J,J,J,J,J,J,J,J,J,J,J,J,J,J,J,J] rfl rfl (any_of HT_.out (by kernel_rfl)) (fun _ _ _ h => h) (Or.inl ⟨by rfl,?_⟩) ?_ ?_;rotate_left
   ·intro w';go_simp;with_reducible rfl
   rotate_left
   ·simp only [Act.put,U,V,Z,i64_w,i32_w];rfl
   refine pure_ (i:=7) (N:=some 42) (v:=?_) (a':=?_) #[Y,Y,J,Y,J,J,J,Y,J,J,J,J,J,J,J,J,J,J,J,J,J,J,J] rfl rfl (any_of HT_.out (by kernel_rfl)) (fun _ _ _ h => h) (Or.inl ⟨by rfl,?_⟩) ?_ ?_;rotate_left
   ·intro w';go_simp;with_reducible rfl
   rotate_left
   ·simp only [Act.put,U,V,Z,i64_w,i32_w];rfl
   refine pure_ (i:=8) (N:=some 43) (v:=?_) (a':=?_) #[Y,Y,J,Y,J,J,J,Y,Y,J,J,J,J,J,J,J,J,J,J,J,J,J,J] rfl rfl (any_of HT_.out (by kernel_rfl)) (fun _ _ _ h => h) (Or.inl ⟨by rfl,?_⟩) ?_ ?_;rotate_left
   ·intro w';go_simp;with_reducible rfl
   rotate_left
   ·simp only [Act.put,U,V,Z,i64_w,i32_w];rfl
   refine pure_ (i:=10) (N:=some 45) (v:=?_) (a':=?_) #[Y,Y,J,Y,J,J,J,Y,Y,J,Y,J,J,J,J,J,J,J,J,J,J,J,J] rfl rfl (any_of HT_.out (by kernel_rfl)) (fun _ _ _ h => h) (Or.inl ⟨by rfl,?_⟩) ?_ ?_;rotate_left
   ·intro w';go_simp;with_reducible rfl
   rotate_left
   ·simp only [Act.put,U,V,Z,i64_w,i32_w];rfl
   refine pure_ (i:=16) (N:=some 51) (v:=?_) (a':=?_) #[Y,Y,J,Y,J,J,J,Y,Y,J,Y,J,J,J,J,J,Y,J,J,J,J,J,J] rfl rfl (any_of HT_.out (by kernel_rfl)) (fun _ _ _ h => h) (Or.inl ⟨by rfl,?_⟩) ?_ ?_;rotate_left
   ·intro w';go_simp;with_reducible rfl
   rotate_left
   ·simp only [Act.put,U,V,Z,i64_w,i32_w];rfl
   refine pure_ (i:=17) (N:=some 52) (v:=?_) (a':=?_) #[Y,Y,J,Y,J,J,J,Y,Y,J,Y,J,J,J,J,J,Y,Y,J,J,J,J,J] rfl rfl (any_of HT_.out (by kernel_rfl)) (fun _ _ _ h => h) (Or.inl ⟨by rfl,?_⟩) ?_ ?_;rotate_left
   ·intro w';go_simp;with_reducible rfl
   rotate_left
   ·simp only [Act.put,U,V,Z,i64_w,i32_w];rfl
   refine pure_ (i:=18) (N:=some 53) (v:=?_) (a':=?_) #[Y,Y,J,Y,J,J,J,Y,Y,J,Y,J,J,J,J,J,Y,Y,Y,J,J,J,J] rfl rfl (any_of HT_.out (by kernel_rfl)) (fun _ _ _ h => h) (Or.inl ⟨by rfl,?_⟩) ?_ ?_;rotate_left
   ·intro w';go_simp;with_reducible rfl
   rotate_left
   ·simp only [Act.put,U,V,Z,i64_w,i32_w];rfl
   refine take_ (i:=2) (N:=some 37) (v:=?_) (a':=?_) #[Y,Y,Y,Y,J,J,J,Y,Y,J,Y,J,J,J,J,J,Y,Y,Y,J,J,J,J] rfl rfl (take_ofW HT_.out HW_.out (by kernel_rfl)) (fun _ _ _ h => h) (Or.inl ⟨by rfl,?_⟩) hHeld ?_ ?_;rotate_left
   ·rintro w' ⟨s0,s1,s2,s3,s4,s5,s6,s7,s8,s9,s10,s11,s12,s13⟩;go_simp;with_reducible rfl
   rotate_left
   ·simp only [Act.put,U,V,Z,i64_w,i32_w];rfl
   refine pure_ (i:=4) (N:=some 39) (v:=?_) (a':=?_) #[Y,Y,Y,Y,Y,J,J,Y,Y,J,Y,J,J,J,J,J,Y,Y,Y,J,J,J,J] rfl rfl (any_of HT_.out (by kernel_rfl)) (fun _ _ _ h => h) (Or.inl ⟨by rfl,?_⟩) ?_ ?_;rotate_left
   ·intro w';go_simp;with_reducible rfl
   rotate_left
   ·simp only [Act.put,U,V,Z,i64_w,i32_w];rfl
   refine pure_ (i:=5) (N:=some 40) (v:=?_) (a':=?_) #[Y,Y,Y,Y,Y,Y,J,Y,Y,J,Y,J,J,J,J,J,Y,Y,Y,J,J,J,J] rfl rfl (any_of HT_.out (by kernel_rfl)) (fun _ _ _ h => h) (Or.inl ⟨by rfl,?_⟩) ?_ ?_;rotate_left
   ·intro w';go_simp;with_reducible rfl
   rotate_left
   ·simp only [Act.put,U,V,Z,i64_w,i32_w];rfl
   refine take_ (i:=6) (N:=some 41) (v:=?_) (a':=?_) #[Y,Y,Y,Y,Y,Y,Y,Y,Y,J,Y,J,J,J,J,J,Y,Y,Y,J,J,J,J] rfl rfl (take_ofW HT_.out HW_.out (by kernel_rfl)) (fun _ _ _ h => h) (Or.inl ⟨by rfl,?_⟩) hHeld ?_ ?_;rotate_left
   ·rintro w' ⟨s0,s1,s2,s3,s4,s5,s6,s7,s8,s9,s10,s11,s12,s13⟩;go_simp;with_reducible rfl
   rotate_left
   ·simp only [Act.put,U,V,Z,i64_w,i32_w];rfl
   refine take_ (i:=9) (N:=some 44) (v:=?_) (a':=?_) #[Y,Y,Y,Y,Y,Y,Y,Y,Y,Y,Y,J,J,J,J,J,Y,Y,Y,J,J,J,J] rfl rfl (take_ofW HT_.out HW_.out (by kernel_rfl)) (fun _ _ _ h => h) (Or.inl ⟨by rfl,?_⟩) hHeld ?_ ?_;rotate_left
   ·rintro w' ⟨s0,s1,s2,s3,s4,s5,s6,s7,s8,s9,s10,s11,s12,s13⟩;go_simp;with_reducible rfl
   rotate_left
   ·simp only [Act.put,U,V,Z,i64_w,i32_w];rfl
   refine pure_ (i:=11) (N:=some 46) (v:=?_) (a':=?_) #[Y,Y,Y,Y,Y,Y,Y,Y,Y,Y,Y,Y,J,J,J,J,Y,Y,Y,J,J,J,J] rfl rfl (any_of HT_.out (by kernel_rfl)) (fun _ _ _ h => h) (Or.inl ⟨by rfl,?_⟩) ?_ ?_;rotate_left
   ·intro w';go_simp;with_reducible rfl
   rotate_left
   ·simp only [Act.put,U,V,Z,i64_w,i32_w];rfl
   refine pure_ (i:=12) (N:=some 47) (v:=?_) (a':=?_) #[Y,Y,Y,Y,Y,Y,Y,Y,Y,Y,Y,Y,Y,J,J,J,Y,Y,Y,J,J,J,J] rfl rfl (any_of HT_.out (by kernel_rfl)) (fun _ _ _ h => h) (Or.inl ⟨by rfl,?_⟩) ?_ ?_;rotate_left
   ·intro w';go_simp;with_reducible rfl
   rotate_left
   ·simp only [Act.put,U,V,Z,i64_w,i32_w];rfl
   refine take_ (i:=13) (N:=some 48) (v:=?_) (a':=?_) #[Y,Y,Y,Y,Y,Y,Y,Y,Y,Y,Y,Y,Y,Y,J,J,Y,Y,Y,J,J,J,J] rfl rfl (take_ofW HT_.out HW_.out (by kernel_rfl)) (fun _ _ _ h => h) (Or.inl ⟨by rfl,?_⟩) hHeld ?_ ?_;rotate_left
   ·rintro w' ⟨s0,s1,s2,s3,s4,s5,s6,s7,s8,s9,s10,s11,s12,s13⟩;go_simp;with_reducible rfl
   rotate_left
   ·simp only [Act.put,U,V,Z,i64_w,i32_w];rfl
   refine pure_ (i:=14) (N:=some 49) (v:=?_) (a':=?_) #[Y,Y,Y,Y,Y,Y,Y,Y,Y,Y,Y,Y,Y,Y,Y,J,Y,Y,Y,J,J,J,J] rfl rfl (any_of HT_.out (by kernel_rfl)) (fun _ _ _ h => h) (Or.inl ⟨by rfl,?_⟩) ?_ ?_;rotate_left
   ·intro w';go_simp;with_reducible rfl
   rotate_left
   ·simp only [Act.put,U,V,Z,i64_w,i32_w];rfl
   refine take_ (i:=15) (N:=some 50) (v:=?_) (a':=?_) #[Y,Y,Y,Y,Y,Y,Y,Y,Y,Y,Y,Y,Y,Y,Y,Y,Y,Y,Y,J,J,J,J] rfl rfl (take_ofW HT_.out HW_.out (by kernel_rfl)) (fun _ _ _ h => h) (Or.inl ⟨by rfl,?_⟩) hHeld ?_ ?_;rotate_left
   ·rintro w' ⟨s0,s1,s2,s3,s4,s5,s6,s7,s8,s9,s10,s11,s12,s13⟩;go_simp;with_reducible rfl
   rotate_left
   ·simp only [Act.put,U,V,Z,i64_w,i32_w];rfl
   refine take_ (i:=19) (N:=some 54) (v:=?_) (a':=?_) #[Y,Y,Y,Y,Y,Y,Y,Y,Y,Y,Y,Y,Y,Y,Y,Y,Y,Y,Y,Y,J,J,J] rfl rfl (take_ofW HT_.out HW_.out (by kernel_rfl)) (fun _ _ _ h => h) (Or.inl ⟨by rfl,?_⟩) hHeld ?_ ?_;rotate_left
   ·rintro w' ⟨s0,s1,s2,s3,s4,s5,s6,s7,s8,s9,s10,s11,s12,s13⟩;go_simp;with_reducible rfl
   rotate_left
   ·simp only [Act.put,U,V,Z,i64_w,i32_w];rfl
   refine pure_ (i:=20) (N:=some 55) (v:=?_) (a':=?_) #[Y,Y,Y,Y,Y,Y,Y,Y,Y,Y,Y,Y,Y,Y,Y,Y,Y,Y,Y,Y,Y,J,J] rfl rfl (any_of HT_.out (by kernel_rfl)) (fun _ _ _ h => h) (Or.inl ⟨by rfl,?_⟩) ?_ ?_;rotate_left
   ·intro w';go_simp;with_reducible rfl
   rotate_left
   ·simp only [Act.put,U,V,Z,i64_w,i32_w];rfl
   refine pure_ (i:=21) (N:=some 56) (v:=?_) (a':=?_) #[Y,Y,Y,Y,Y,Y,Y,Y,Y,Y,Y,Y,Y,Y,Y,Y,Y,Y,Y,Y,Y,Y,J] rfl rfl (any_of HT_.out (by kernel_rfl)) (fun _ _ _ h => h) (Or.inl ⟨by rfl,?_⟩) ?_ ?_;rotate_left
   ·intro w';go_simp;with_reducible rfl
   rotate_left
   ·simp only [Act.put,U,V,Z,i64_w,i32_w];rfl
   refine last_ (i:=22) (N:=none) #[true,true,true,true,true,true,true,true,true,true,true,true,true,true,true,true,true,true,true,true,true,true,true] rfl rfl (one_of HT_.out (by kernel_rfl)) (by decide) (fun K hK => ?_);refine skip_ (w1:=?_) (by rfl) rfl ?_ ?_;rotate_left
   ·go_simp;rfl
   refine hK.out _ _ ?_;clear hK K;refine done_ (done_of HT_.out (by kernel_rfl)) ?_
   try go_wp2
   have n0_ : Aside0 (Kd.R (Kd.int .i64) 3 (w24.setCell ⟨go18,(((rd_T58 l0_1 p0).f0) : Int).toNat,none⟩ (.int .i64 (wrap64 ((rd p4 ((rd_T58 l0_1 p0).f0)) + (rd l1 p0))))) w.heap.size (fun _ => True) (.slice (some ⟨go18,0,none⟩) p4.length co25) y760):=⟨by (with_reducible repeat (first | apply Kd.R_alloc | apply Kd.R_drewN | apply Kd.R_drew)); exact HQ26.out⟩
   have n1_ : Aside0 ((w24.setCell ⟨go18,(((rd_T58 l0_1 p0).f0) : Int).toNat,none⟩ (.int .i64 (wrap64 ((rd p4 ((rd_T58 l0_1 p0).f0)) + (rd l1 p0))))).heap[p9]? = some (.cells #[.int .i64 a0_0,.slice (some p3) l0_1.length c0_1] 34 (0,0))):=⟨by (with_reducible repeat (first | refine blk_drewN ?_ _ | refine blk_drew ?_ | refine blk_alloc ?_ _)); refine blk_far ?_ (by have h_:=Kd.R_ne p5.out p1.out (by decide); intro e_; exact h_ (by rw [e_]; rfl)) _; (with_reducible repeat (first | refine blk_drewN ?_ _ | refine blk_drew ?_ | refine blk_alloc ?_ _)); exact p1.out⟩
   have n2_ : Aside0 (Below w.heap.size w (w24.setCell ⟨go18,(((rd_T58 l0_1 p0).f0) : Int).toNat,none⟩ (.int .i64 (wrap64 ((rd p4 ((rd_T58 l0_1 p0).f0)) + (rd l1 p0)))))):=⟨by repeat (first | (with_reducible first | exact HB.out | apply below_alloc | apply pw_below_drewN | apply below_drew1 | refine below_set ?_ GB18.out | refine below_set ?_ r8.out) | exact HB.out)⟩
   (try clear p5)
   (try clear p1)
   (try clear HB)
   generalize (w24.setCell ⟨go18,(((rd_T58 l0_1 p0).f0) : Int).toNat,none⟩ (.int .i64 (wrap64 ((rd p4 ((rd_T58 l0_1 p0).f0)) + (rd l1 p0))))) = w27 at n0_ n1_ n2_ ⊢;have p5:=n0_;have p1:=n1_;have HB:=n2_;clear n0_ n1_ n2_;have n0_:=zx (Kd.R_drew p5.out);have n1_:=zx (blk_drew p1.out);have n2_:=zx (below_drew1 HB.out);clear p5;clear p1;clear HB;have p5:=n0_;have p1:=n1_;have HB:=n2_;clear n0_ n1_ n2_;have p761 : 0 ≤ (p0 : Int):=of_decide_eq_true (by first | (with_reducible assumption) | assumption);have q761 : p0 < (l0_1.length : Int):=of_decide_eq_true (by first | (with_reducible assumption) | assumption);obtain ⟨ad761,e761,r9,t0,t1,t2,t3⟩:=at_T58 v3.out p0 p761 q761;have z4:=t3;have z5:=t2;have z6:=t1;have z7:=t0;have z8:=r9;obtain rfl : p3 = ad761:=(by injection e761)
   replace r9:=(HB.out.cell (World.block_lt_of_cell? w _ r9)).trans r9;replace t0:=(HB.out.cell (World.block_lt_of_cell? w _ t0)).trans t0;replace t1:=(HB.out.cell (World.block_lt_of_cell? w _ t1)).trans t1;replace t2:=(HB.out.cell (World.block_lt_of_cell? w _ t2)).trans t2;replace t3:=(HB.out.cell (World.block_lt_of_cell? w _ t3)).trans t3;replace p761:=eq_true p761;replace q761:=eq_true q761;have p762 : 0 ≤ (p0 : Int):=of_decide_eq_true (by first | (with_reducible assumption) | assumption);have q762 : p0 < (l0_1.length : Int):=of_decide_eq_true (by first | (with_reducible assumption) | assumption);obtain ⟨ad762,e762,t4,t5,t6,t7,t8⟩:=at_T58 v3.out p0 p762 q762;have z9:=t8;have m0:=t7;have m1:=t6;have m2:=t5;have m3:=t4;obtain rfl : p3 = ad762:=(by injection e762)
   replace t4:=(HB.out.cell (World.block_lt_of_cell? w _ t4)).trans t4;replace t5:=(HB.out.cell (World.block_lt_of_cell? w _ t5)).trans t5;replace t6:=(HB.out.cell (World.block_lt_of_cell? w _ t6)).trans t6;replace t7:=(HB.out.cell (World.block_lt_of_cell? w _ t7)).trans t7;replace t8:=(HB.out.cell (World.block_lt_of_cell? w _ t8)).trans t8;replace p762:=eq_true p762;replace q762:=eq_true q762;have p763 : 0 ≤ (((rd_T58 l0_1 p0).f1) : Int):=of_decide_eq_true (by first | (with_reducible assumption) | assumption);have q763 : ((rd_T58 l0_1 p0).f1) < (y760.length : Int):=(by have h_ : (((rd_T58 l0_1 p0).f1) : Int) < ((p4.length : Int) : Int):=of_decide_eq_true (by first | (with_reducible assumption) | assumption); first | (have e_:=(Kd.R_reads' p5.out).1; omega) | simpa only [Ny760.out,List.length_set] using h_)
   have ql763 : ((((rd_T58 l0_1 p0).f1) : Int) < ((p4.length : Int) : Int)) = True:=eq_true (of_decide_eq_true (by first | (with_reducible assumption) | assumption));obtain ⟨ad763,e763,t9⟩:=Kd.at_int (Kd.R_reads' p5.out).2.2 ((rd_T58 l0_1 p0).f1) p763 q763;obtain rfl : (⟨go18,0,none⟩ : Addr) = ad763:=(by injection e763)
   (first | simp only [add_plain] at t9 | simp only [add_at] at t9 | simp only [Addr.add,Nat.zero_add] at t9 | skip)
   replace p763:=eq_true p763;replace q763:=eq_true q763;have p764 : 0 ≤ (p0 : Int):=of_decide_eq_true (by first | (with_reducible assumption) | assumption);have q764 : p0 < (l1.length : Int):=of_decide_eq_true (by first | (with_reducible assumption) | assumption);obtain ⟨ad764,e764,u0⟩:=Kd.at_int HR1.out p0 p764 q764;have m4:=u0;obtain rfl : v2 = ad764:=(by injection e764)
   replace u0:=(HB.out.cell (World.block_lt_of_cell? w _ u0)).trans u0;replace p764:=eq_true p764;replace q764:=eq_true q764;have p21 : 0 ≤ (((rd_T58 l0_1 p0).f1) : Int):=of_decide_eq_true (by first | (with_reducible assumption) | assumption);have q21 : (((rd_T58 l0_1 p0).f1) : Int) < ((p4.length : Int) : Int):=of_decide_eq_true (by first | (with_reducible assumption) | assumption);obtain ⟨m5,hf21_0⟩:=Kd.R_celln 0 p5.out (((rd_T58 l0_1 p0).f1) : Int) p21 q21;replace p21:=eq_true p21;replace q21:=eq_true q21;have HP29:=Kd.R_putn p5.out (((rd_T58 l0_1 p0).f1) : Int) (wrap64 ((rd y760 ((rd_T58 l0_1 p0).f1)) - (rd l1 p0)));rw [← Ny765.out] at HP29;have HQ29:=zx HP29;clear HP29
   refine start_ (n:=23) (S:=fun w' => w'.cell? ⟨p9,0,none⟩ = some (.int .i64 a0_0) ∧ w'.cell? ⟨p9,1,none⟩ = some (.slice (some p3) l0_1.length c0_1) ∧ w'.cell? (p3.add ((p0).toNat * 5)) = some (.int .i64 ((rd_T58 l0_1 p0).f0)) ∧ w'.cell? ⟨(p3.add ((p0).toNat * 5)).block,(p3.add ((p0).toNat * 5)).off + 1,none⟩ = some (.int .i64 ((rd_T58 l0_1 p0).f1)) ∧ w'.cell? ⟨(p3.add ((p0).toNat * 5)).block,(p3.add ((p0).toNat * 5)).off + 2,none⟩ = some (.int .i64 ((rd_T58 l0_1 p0).f2)) ∧ w'.cell? ⟨(p3.add ((p0).toNat * 5)).block,(p3.add ((p0).toNat * 5)).off + 3,none⟩ = some (.int .i64 ((rd_T58 l0_1 p0).f3)) ∧ w'.cell? ⟨(p3.add ((p0).toNat * 5)).block,(p3.add ((p0).toNat * 5)).off + 4,none⟩ = some (.int .i64 ((rd_T58 l0_1 p0).f4)) ∧ w'.cell? (p3.add ((p0).toNat * 5)) = some (.int .i64 ((rd_T58 l0_1 p0).f0)) ∧ w'.cell? ⟨(p3.add ((p0).toNat * 5)).block,(p3.add ((p0).toNat * 5)).off + 1,none⟩ = some (.int .i64 ((rd_T58 l0_1 p0).f1)) ∧ w'.cell? ⟨(p3.add ((p0).toNat * 5)).block,(p3.add ((p0).toNat * 5)).off + 2,none⟩ = some (.int .i64 ((rd_T58 l0_1 p0).f2)) ∧ w'.cell? ⟨(p3.add ((p0).toNat * 5)).block,(p3.add ((p0).toNat * 5)).off + 3,none⟩ = some (.int .i64 ((rd_T58 l0_1 p0).f3)) ∧ w'.cell? ⟨(p3.add ((p0).toNat * 5)).block,(p3.add ((p0).toNat * 5)).off + 4,none⟩ = some (.int .i64 ((rd_T58 l0_1 p0).f4)) ∧ w'.cell? ⟨go18,(((rd_T58 l0_1 p0).f1)).toNat,none⟩ = some (.int .i64 (rd y760 ((rd_T58 l0_1 p0).f1))) ∧ w'.cell? (v2.add (p0).toNat) = some (.int .i64 (rd l1 p0))) (ds:=[22]) #[J,J,J,J,J,J,J,J,J,J,J,J,J,J,J,J,J,J,J,J,J,J,J] (by kernel_rfl) rfl rfl ⟨(blk_cell p1.out 0).trans rfl,(blk_cell p1.out 1).trans rfl,((HB.out.cell (World.block_lt_of_cell? w _ z8)).trans z8),((HB.out.cell (World.block_lt_of_cell? w _ z7)).trans z7),((HB.out.cell (World.block_lt_of_cell? w _ z6)).trans z6),((HB.out.cell (World.block_lt_of_cell? w _ z5)).trans z5),((HB.out.cell (World.block_lt_of_cell? w _ z4)).trans z4),((HB.out.cell (World.block_lt_of_cell? w _ m3)).trans m3),((HB.out.cell (World.block_lt_of_cell? w _ m2)).trans m2),((HB.out.cell (World.block_lt_of_cell? w _ m1)).trans m1),((HB.out.cell (World.block_lt_of_cell? w _ m0)).trans m0),((HB.out.cell (World.block_lt_of_cell? w _ z9)).trans z9),t9,((HB.out.cell (World.block_lt_of_cell? w _ m4)).trans m4)⟩ (fun hHeld => ?_); refine with_tabW spec_l25Ok.tab8 spec_l25Ok.bits8 (fun HT_ HW_ => ?_);generalize w27.drew = w28 at p5 p1 HB HQ26 HQ29 hf21_0 m5 r9 t0 t1 t2 t3 t4 t5 t6 t7 t8 t9 u0 hHeld ⊢;refine pure_ (i:=0) (N:=some 57) (v:=?_) (a':=?_) #[Y,J,J,J,J,J,J,J,J,J,J,J,J,J,J,J,J,J,J,J,J,J,J] rfl rfl (any_of HT_.out (by kernel_rfl)) (fun _ _ _ h => h) (Or.inl ⟨by rfl,?_⟩) ?_ ?_;rotate_left
   ·intro w';go_simp;with_reducible rfl
   rotate_left
   ·simp only [Act.put,U,V,Z,i64_w,i32_w];rfl
   refine pure_ (i:=1) (N:=some 58) (v:=?_) (a':=?_) #[Y,Y,J,J,J,J,J,J,J,J,J,J,J,J,J,J,J,J,J,J,J,J,J] rfl rfl (any_of HT_.out (by kernel_rfl)) (fun _ _ _ h => h) (Or.inl ⟨by rfl,?_⟩) ?_ ?_;rotate_left
   ·intro w';go_simp;with_reducible rfl
   rotate_left
   ·simp only [Act.put,U,V,Z,i64_w,i32_w];rfl
   refine pure_ (i:=3) (N:=some 60) (v:=?_) (a':=?_) #[Y,Y,J,Y,J,J,J,J,J,J,J,J,J,J,J,J,J,J,J,J,J,J,J] rfl rfl (any_of HT_.out (by kernel_rfl)) (fun _ _ _ h => h) (Or.inl ⟨by rfl,?_⟩) ?_ ?_;rotate_left
   ·intro w';go_simp;with_reducible rfl
   rotate_left
   ·simp only [Act.put,U,V,Z,i64_w,i32_w];rfl
   refine pure_ (i:=7) (N:=some 64) (v:=?_) (a':=?_) #[Y,Y,J,Y,J,J,J,Y,J,J,J,J,J,J,J,J,J,J,J,J,J,J,J] rfl rfl (any_of HT_.out (by kernel_rfl)) (fun _ _ _ h => h) (Or.inl ⟨by rfl,?_⟩) ?_ ?_;rotate_left
   ·intro w';go_simp;with_reducible rfl
   rotate_left
   ·simp only [Act.put,U,V,Z,i64_w,i32_w];rfl
   refine pure_ (i:=8) (N:=some 65) (v:=?_) (a':=?_) #[Y,Y,J,Y,J,J,J,Y,Y,J,J,J,J,J,J,J,J,J,J,J,J,J,J] rfl rfl (any_of HT_.out (by kernel_rfl)) (fun _ _ _ h => h) (Or.inl ⟨by rfl,?_⟩) ?_ ?_;rotate_left
   ·intro w';go_simp;with_reducible rfl
   rotate_left
   ·simp only [Act.put,U,V,Z,i64_w,i32_w];rfl
   refine pure_ (i:=10) (N:=some 67) (v:=?_) (a':=?_) #[Y,Y,J,Y,J,J,J,Y,Y,J,Y,J,J,J,J,J,J,J,J,J,J,J,J] rfl rfl (any_of HT_.out (by kernel_rfl)) (fun _ _ _ h => h) (Or.inl ⟨by rfl,?_⟩) ?_ ?_;rotate_left
   ·intro w';go_simp;with_reducible rfl
   rotate_left
   ·simp only [Act.put,U,V,Z,i64_w,i32_w];rfl
   refine pure_ (i:=16) (N:=some 73) (v:=?_) (a':=?_) #[Y,Y,J,Y,J,J,J,Y,Y,J,Y,J,J,J,J,J,Y,J,J,J,J,J,J] rfl rfl (any_of HT_.out (by kernel_rfl)) (fun _ _ _ h => h) (Or.inl ⟨by rfl,?_⟩) ?_ ?_;rotate_left
   ·intro w';go_simp;with_reducible rfl
   rotate_left
   ·simp only [Act.put,U,V,Z,i64_w,i32_w];rfl
   refine pure_ (i:=17) (N:=some 74) (v:=?_) (a':=?_) #[Y,Y,J,Y,J,J,J,Y,Y,J,Y,J,J,J,J,J,Y,Y,J,J,J,J,J] rfl rfl (any_of HT_.out (by kernel_rfl)) (fun _ _ _ h => h) (Or.inl ⟨by rfl,?_⟩) ?_ ?_;rotate_left
   ·intro w';go_simp;with_reducible rfl
   rotate_left
   ·simp only [Act.put,U,V,Z,i64_w,i32_w];rfl
   refine pure_ (i:=18) (N:=some 75) (v:=?_) (a':=?_) #[Y,Y,J,Y,J,J,J,Y,Y,J,Y,J,J,J,J,J,Y,Y,Y,J,J,J,J] rfl rfl (any_of HT_.out (by kernel_rfl)) (fun _ _ _ h => h) (Or.inl ⟨by rfl,?_⟩) ?_ ?_;rotate_left
   ·intro w';go_simp;with_reducible rfl
   rotate_left
   ·simp only [Act.put,U,V,Z,i64_w,i32_w];rfl
   refine take_ (i:=2) (N:=some 59) (v:=?_) (a':=?_) #[Y,Y,Y,Y,J,J,J,Y,Y,J,Y,J,J,J,J,J,Y,Y,Y,J,J,J,J] rfl rfl (take_ofW HT_.out HW_.out (by kernel_rfl)) (fun _ _ _ h => h) (Or.inl ⟨by rfl,?_⟩) hHeld ?_ ?_;rotate_left
   ·rintro w' ⟨s0,s1,s2,s3,s4,s5,s6,s7,s8,s9,s10,s11,s12,s13⟩;go_simp;with_reducible rfl
   rotate_left
   ·simp only [Act.put,U,V,Z,i64_w,i32_w];rfl
   refine pure_ (i:=4) (N:=some 61) (v:=?_) (a':=?_) #[Y,Y,Y,Y,Y,J,J,Y,Y,J,Y,J,J,J,J,J,Y,Y,Y,J,J,J,J] rfl rfl (any_of HT_.out (by kernel_rfl)) (fun _ _ _ h => h) (Or.inl ⟨by rfl,?_⟩) ?_ ?_;rotate_left
   ·intro w';go_simp;with_reducible rfl
   rotate_left
   ·simp only [Act.put,U,V,Z,i64_w,i32_w];rfl
   refine pure_ (i:=5) (N:=some 62) (v:=?_) (a':=?_) #[Y,Y,Y,Y,Y,Y,J,Y,Y,J,Y,J,J,J,J,J,Y,Y,Y,J,J,J,J] rfl rfl (any_of HT_.out (by kernel_rfl)) (fun _ _ _ h => h) (Or.inl ⟨by rfl,?_⟩) ?_ ?_;rotate_left
   ·intro w';go_simp;with_reducible rfl
   rotate_left
   ·simp only [Act.put,U,V,Z,i64_w,i32_w];rfl
   refine take_ (i:=6) (N:=some 63) (v:=?_) (a':=?_) #[Y,Y,Y,Y,Y,Y,Y,Y,Y,J,Y,J,J,J,J,J,Y,Y,Y,J,J,J,J] rfl rfl (take_ofW HT_.out HW_.out (by kernel_rfl)) (fun _ _ _ h => h) (Or.inl ⟨by rfl,?_⟩) hHeld ?_ ?_;rotate_left
   ·rintro w' ⟨s0,s1,s2,s3,s4,s5,s6,s7,s8,s9,s10,s11,s12,s13⟩;go_simp;with_reducible rfl
   rotate_left
   ·simp only [Act.put,U,V,Z,i64_w,i32_w];rfl
   refine take_ (i:=9) (N:=some 66) (v:=?_) (a':=?_) #[Y,Y,Y,Y,Y,Y,Y,Y,Y,Y,Y,J,J,J,J,J,Y,Y,Y,J,J,J,J] rfl rfl (take_ofW HT_.out HW_.out (by kernel_rfl)) (fun _ _ _ h => h) (Or.inl ⟨by rfl,?_⟩) hHeld ?_ ?_;rotate_left
   ·rintro w' ⟨s0,s1,s2,s3,s4,s5,s6,s7,s8,s9,s10,s11,s12,s13⟩;go_simp;with_reducible rfl
   rotate_left
   ·simp only [Act.put,U,V,Z,i64_w,i32_w];rfl
   refine pure_ (i:=11) (N:=some 68) (v:=?_) (a':=?_) #[Y,Y,Y,Y,Y,Y,Y,Y,Y,Y,Y,Y,J,J,J,J,Y,Y,Y,J,J,J,J] rfl rfl (any_of HT_.out (by kernel_rfl)) (fun _ _ _ h => h) (Or.inl ⟨by rfl,?_⟩) ?_ ?_;rotate_left
   ·intro w';go_simp;with_reducible rfl
   rotate_left
   ·simp only [Act.put,U,V,Z,i64_w,i32_w];rfl
   refine pure_ (i:=12) (N:=some 69) (v:=?_) (a':=?_) #[Y,Y,Y,Y,Y,Y,Y,Y,Y,Y,Y,Y,Y,J,J,J,Y,Y,Y,J,J,J,J] rfl rfl (any_of HT_.out (by kernel_rfl)) (fun _ _ _ h => h) (Or.inl ⟨by rfl,?_⟩) ?_ ?_;rotate_left
   ·intro w';go_simp;with_reducible rfl
   rotate_left
   ·simp only [Act.put,U,V,Z,i64_w,i32_w];rfl
   refine take_ (i:=13) (N:=some 70) (v:=?_) (a':=?_) #[Y,Y,Y,Y,Y,Y,Y,Y,Y,Y,Y,Y,Y,Y,J,J,Y,Y,Y,J,J,J,J] rfl rfl (take_ofW HT_.out HW_.out (by kernel_rfl)) (fun _ _ _ h => h) (Or.inl ⟨by rfl,?_⟩) hHeld ?_ ?_;rotate_left
   ·rintro w' ⟨s0,s1,s2,s3,s4,s5,s6,s7,s8,s9,s10,s11,s12,s13⟩;go_simp;with_reducible rfl
   rotate_left
   ·simp only [Act.put,U,V,Z,i64_w,i32_w];rfl
   refine pure_ (i:=14) (N:=some 71) (v:=?_) (a':=?_) #[Y,Y,Y,Y,Y,Y,Y,Y,Y,Y,Y,Y,Y,Y,Y,J,Y,Y,Y,J,J,J,J] rfl rfl (any_of HT_.out (by kernel_rfl)) (fun _ _ _ h => h) (Or.inl ⟨by rfl,?_⟩) ?_ ?_;rotate_left
   ·intro w';go_simp;with_reducible rfl
   rotate_left
   ·simp only [Act.put,U,V,Z,i64_w,i32_w];rfl
   refine take_ (i:=15) (N:=some 72) (v:=?_) (a':=?_) #[Y,Y,Y,Y,Y,Y,Y,Y,Y,Y,Y,Y,Y,Y,Y,Y,Y,Y,Y,J,J,J,J] rfl rfl (take_ofW HT_.out HW_.out (by kernel_rfl)) (fun _ _ _ h => h) (Or.inl ⟨by rfl,?_⟩) hHeld ?_ ?_;rotate_left
   ·rintro w' ⟨s0,s1,s2,s3,s4,s5,s6,s7,s8,s9,s10,s11,s12,s13⟩;go_simp;with_reducible rfl
   rotate_left
   ·simp only [Act.put,U,V,Z,i64_w,i32_w];rfl
   refine take_ (i:=19) (N:=some 76) (v:=?_) (a':=?_) #[Y,Y,Y,Y,Y,Y,Y,Y,Y,Y,Y,Y,Y,Y,Y,Y,Y,Y,Y,Y,J,J,J] rfl rfl (take_ofW HT_.out HW_.out (by kernel_rfl)) (fun _ _ _ h => h) (Or.inl ⟨by rfl,?_⟩) hHeld ?_ ?_;rotate_left
   ·rintro w' ⟨s0,s1,s2,s3,s4,s5,s6,s7,s8,s9,s10,s11,s12,s13⟩;go_simp;with_reducible rfl
   rotate_left
   ·simp only [Act.put,U,V,Z,i64_w,i32_w];rfl
   refine pure_ (i:=20) (N:=some 77) (v:=?_) (a':=?_) #[Y,Y,Y,Y,Y,Y,Y,Y,Y,Y,Y,Y,Y,Y,Y,Y,Y,Y,Y,Y,Y,J,J] rfl rfl (any_of HT_.out (by kernel_rfl)) (fun _ _ _ h => h) (Or.inl ⟨by rfl,?_⟩) ?_ ?_;rotate_left
   ·intro w';go_simp;with_reducible rfl
   rotate_left
   ·simp only [Act.put,U,V,Z,i64_w,i32_w];rfl
   refine pure_ (i:=21) (N:=some 78) (v:=?_) (a':=?_) #[Y,Y,Y,Y,Y,Y,Y,Y,Y,Y,Y,Y,Y,Y,Y,Y,Y,Y,Y,Y,Y,Y,J] rfl rfl (any_of HT_.out (by kernel_rfl)) (fun _ _ _ h => h) (Or.inl ⟨by rfl,?_⟩) ?_ ?_;rotate_left
   ·intro w';go_simp;with_reducible rfl
   rotate_left
   ·simp only [Act.put,U,V,Z,i64_w,i32_w];rfl
   refine last_ (i:=22) (N:=none) #[true,true,true,true,true,true,true,true,true,true,true,true,true,true,true,true,true,true,true,true,true,true,true] rfl rfl (one_of HT_.out (by kernel_rfl)) (by decide) (fun K hK => ?_);refine skip_ (w1:=?_) (by rfl) rfl ?_ ?_;rotate_left
   ·go_simp;rfl
   refine hK.out _ _ ?_;clear hK K;refine done_ (done_of HT_.out (by kernel_rfl)) ?_
   try go_wp2
   go_roundg k1
   case measure => have:=HK1.out; omega
   case rel => exact ⟨(y765),(wrap64 (p0 + 1)),(by first | rfl | (simp; done) | (simp [*]; done)),H',⟨by have:=HK1.out; omega⟩,⟨by (with_reducible repeat (first | apply Kd.R_alloc | apply Kd.R_drewN | apply Kd.R_drew)); exact HQ29.out⟩,⟨by (with_reducible repeat (first | refine blk_drewN ?_ _ | refine blk_drew ?_ | refine blk_alloc ?_ _)); refine blk_far ?_ (by have h_:=Kd.R_ne p5.out p1.out (by decide); intro e_; exact h_ (by rw [e_]; rfl)) _; (with_reducible repeat (first | refine blk_drewN ?_ _ | refine blk_drew ?_ | refine blk_alloc ?_ _)); exact p1.out⟩,⟨by repeat (first | (with_reducible first | exact HB.out | apply below_alloc | apply pw_below_drewN | apply below_drew1 | refine below_set ?_ GB18.out | refine below_set ?_ r8.out) | exact HB.out)⟩⟩
def spec_FlowValue.f (k : Nat) (a0_0 : Int) (l0_1 : List (S58)) (l1 : List Int) (a2 : Int) (a3 : Int) : Option (Int × Bool):=(spec_l1Ok.f k a0_0 l0_1).bind fun t769 => (if t769 = true then ((spec_l1In.f a2 0 (wrap64 (a0_0 - 1))).bind fun t770 => (if t770 = true then ((spec_l1In.f a3 0 (wrap64 (a0_0 - 1))).bind fun t771 => (if t771 = true then (if a2 = a3 then (some (0,false)) else (if (l1.length : Int) = (l0_1.length : Int) then ((spec_l25Ok.f k a0_0 l0_1 l1 a2 a3).bind fun bt772 => (some (bt772.1,bt772.2))) else (some (0,false)))) else (some (0,false)))) else (some (0,false)))) else (some (0,false)))
set_option maxHeartbeats 8000000 in
set_option maxRecDepth 100000 in
theorem spec_FlowValue.calls (k : Nat) (a0_0 : Int) (A0_1 : Option Addr) (c0_1 : Nat) (l0_1 : List (S58)) (A1 : Option Addr) (c1 : Nat) (l1 : List Int) (a2 : Int) (a3 : Int) (r1 : Int) (r2 : Bool) (w : World) (hr0_1 : Kd.C k58 w A0_1 l0_1.length l0_1) (hc0_1 : l0_1.length ≤ c0_1) (hr1 : Kd.C (Kd.int .i64) w A1 l1.length l1) (hc1 : l1.length ≤ c1) (h : spec_FlowValue.f k a0_0 l0_1 l1 a2 a3 = some (r1,r2)) :
  Calls Try.prog 35 #[.agg #[.int .i64 a0_0,.slice A0_1 l0_1.length c0_1],.slice A1 l1.length c1,.int .i64 a2,.int .i64 a3] w fun e w' => e = .returned (.tuple #[.int .i64 r1,.bool r2]) ∧ Below w.heap.size w w':=by
 have hu34:=Try.underlying34;have p3:=zx hr0_1;have p4:=zx hc0_1;clear hr0_1 hc0_1;have HR1:=zx hr1;have HC1:=zx hc1;clear hr1 hc1;have HB:=zx (Below.refl w.heap.size w);have H : ((spec_l1Ok.f k a0_0 l0_1).bind fun t769 => (if t769 = true then ((spec_l1In.f a2 0 (wrap64 (a0_0 - 1))).bind fun t770 => (if t770 = true then ((spec_l1In.f a3 0 (wrap64 (a0_0 - 1))).bind fun t771 => (if t771 = true then (if a2 = a3 then (some (0,false)) else (if (l1.length : Int) = (l0_1.length : Int) then ((spec_l25Ok.f k a0_0 l0_1 l1 a2 a3).bind fun bt772 => (some (bt772.1,bt772.2))) else (some (0,false)))) else (some (0,false)))) else (some (0,false)))) else (some (0,false)))) = some (r1,r2):=h;clear h;replace H:=Option.bind_eq_some_iff.mp H;obtain ⟨t769,A50,H⟩:=H;replace H : (if t769 = true then ((spec_l1In.f a2 0 (wrap64 (a0_0 - 1))).bind fun t770 => (if t770 = true then ((spec_l1In.f a3 0 (wrap64 (a0_0 - 1))).bind fun t771 => (if t771 = true then (if a2 = a3 then (some (0,false)) else (if (l1.length : Int) = (l0_1.length : Int) then ((spec_l25Ok.f k a0_0 l0_1 l1 a2 a3).bind fun bt772 => (some (bt772.1,bt772.2))) else (some (0,false)))) else (some (0,false)))) else (some (0,false)))) else (some (0,false))) = some (r1,r2):=H;have A5:=zx A50;clear A50
 by_cases c6 : t769 = true
 case neg =>
  replace c6:=Bool.eq_false_iff.mpr c6;subst c6;have H1 : (some (0,false)) = some (r1,r2):=by rw [if_neg (show ¬ (false = true) by decide)] at H; exact H
  clear H;have H:=H1;clear H1;simp only [Option.some.injEq,Prod.mk.injEq] at H;obtain ⟨rfl,rfl⟩:=H
  go_enter Try.func35,Try.ntmps35
  go_wp2_with (first | ((with_reducible refine gate_dst (N:=4) rfl ?_); (try (refine gate_guard (by rfl) ?_; dsimp only)); refine box_event ?hg (N:=4) ?hd (cs:=#[.int .i64 a0_0,.slice A0_1 l0_1.length c0_1]) (t:=34) ?hr ?_; (case hd => rfl); (case hg => rfl); (case hr => first | (go_simp; done) | (go_simp; rfl)); intro p1 hg w35 hbox hb; have n0_:=zx (below_step HB.out hb); have n1_:=zx (hbox); have n2_:=zx ((by rw [hg]; exact (below_size HB.out) : w.heap.size ≤ p1)); have n3_:=zx ((by rw [hg]; exact (below_size HB.out) : w.heap.size ≤ p1)); clear HB; have HB:=n0_; have p0:=n1_; have p5:=n2_; have p2:=n3_; clear n0_ n1_ n2_ n3_; clear hb hbox hg; have hcz36_0 : w35.cell? ⟨p1,0,none⟩ = some (.int .i64 a0_0):=(blk_cell p0.out 0).trans rfl; have hcz36_1 : w35.cell? ⟨p1,1,none⟩ = some (.slice A0_1 l0_1.length c0_1):=(blk_cell p0.out 1).trans rfl; have hfz36_0:=blk_frozen p0.out 0; have hfz36_1:=blk_frozen p0.out 1) | ((with_reducible refine gate_callee (f:=76) rfl ?_); refine goesL_ (some 11) rfl rfl Try.func76 (by kernel_rfl) rfl #[.agg #[.int .i64 a0_0,.slice A0_1 l0_1.length c0_1]] rfl (by (try simp only [List.map_toArray,List.map_cons,List.map_nil]); first | done | rfl | (simp only [List.length_drop,List.length_take]; rfl)) ?_; (with_reducible refine (spec_l1Ok.calls k a0_0 _ _ l0_1 false _ ?side1 ?side2 A5.out).mono ?_); (case side1 => repeat (first | exact (Kd.C_below p3.out HB.out) | (with_reducible refine Kd.C_alloc ?_ _) | (with_reducible refine Kd.C_drewN ?_ _) | (with_reducible refine Kd.C_drew ?_))); (case side2 => exact p4.out); rintro e w37 ⟨rfl,hb⟩; refine ⟨_,rfl,?_⟩; have n0_:=zx (blk_below (g:=p1) (o:=.cells #[.int .i64 a0_0,.slice A0_1 l0_1.length c0_1] 34 (0,0)) p0.out hb); have n1_:=zx (below_step HB.out hb); clear p0; clear HB; have p0:=n0_; have HB:=n1_; clear n0_ n1_; (try clear hb); (try clear hb2); (try clear hk); (try clear hi)))
  go_ret2;exact ⟨by first | rfl | (simp [errW_none,errW_some] <;> rfl) | (simp [*,errW_none,errW_some] <;> rfl),by repeat (first | (with_reducible first | exact HB.out | apply below_alloc | apply pw_below_drewN | apply below_drew1 | refine below_set ?_ p2.out) | exact HB.out)⟩
 subst c6;have H1 : ((spec_l1In.f a2 0 (wrap64 (a0_0 - 1))).bind fun t770 => (if t770 = true then ((spec_l1In.f a3 0 (wrap64 (a0_0 - 1))).bind fun t771 => (if t771 = true then (if a2 = a3 then (some (0,false)) else (if (l1.length : Int) = (l0_1.length : Int) then ((spec_l25Ok.f k a0_0 l0_1 l1 a2 a3).bind fun bt772 => (some (bt772.1,bt772.2))) else (some (0,false)))) else (some (0,false)))) else (some (0,false)))) = some (r1,r2):=by rw [if_pos rfl] at H; exact H
 clear H;have H:=H1;clear H1;replace H:=Option.bind_eq_some_iff.mp H;obtain ⟨t770,A70,H⟩:=H;replace H : (if t770 = true then ((spec_l1In.f a3 0 (wrap64 (a0_0 - 1))).bind fun t771 => (if t771 = true then (if a2 = a3 then (some (0,false)) else (if (l1.length : Int) = (l0_1.length : Int) then ((spec_l25Ok.f k a0_0 l0_1 l1 a2 a3).bind fun bt772 => (some (bt772.1,bt772.2))) else (some (0,false)))) else (some (0,false)))) else (some (0,false))) = some (r1,r2):=H;have A7:=zx A70;clear A70
 by_cases c8 : t770 = true
 case neg =>
  replace c8:=Bool.eq_false_iff.mpr c8;subst c8;have H1 : (some (0,false)) = some (r1,r2):=by rw [if_neg (show ¬ (false = true) by decide)] at H; exact H
  clear H;have H:=H1;clear H1;simp only [Option.some.injEq,Prod.mk.injEq] at H;obtain ⟨rfl,rfl⟩:=H
  go_enter Try.func35,Try.ntmps35
  go_wp2_with (first | ((with_reducible refine gate_dst (N:=4) rfl ?_); (try (refine gate_guard (by rfl) ?_; dsimp only)); refine box_event ?hg (N:=4) ?hd (cs:=#[.int .i64 a0_0,.slice A0_1 l0_1.length c0_1]) (t:=34) ?hr ?_; (case hd => rfl); (case hg => rfl); (case hr => first | (go_simp; done) | (go_simp; rfl)); intro p1 hg w31 hbox hb; have n0_:=zx (below_step HB.out hb); have n1_:=zx (hbox); have n2_:=zx ((by rw [hg]; exact (below_size HB.out) : w.heap.size ≤ p1)); have n3_:=zx ((by rw [hg]; exact (below_size HB.out) : w.heap.size ≤ p1)); clear HB; have HB:=n0_; have p0:=n1_; have p5:=n2_; have p2:=n3_; clear n0_ n1_ n2_ n3_; clear hb hbox hg; have hcz32_0 : w31.cell? ⟨p1,0,none⟩ = some (.int .i64 a0_0):=(blk_cell p0.out 0).trans rfl; have hcz32_1 : w31.cell? ⟨p1,1,none⟩ = some (.slice A0_1 l0_1.length c0_1):=(blk_cell p0.out 1).trans rfl; have hfz32_0:=blk_frozen p0.out 0; have hfz32_1:=blk_frozen p0.out 1) | ((with_reducible refine gate_callee (f:=76) rfl ?_); refine goesL_ (some 11) rfl rfl Try.func76 (by kernel_rfl) rfl #[.agg #[.int .i64 a0_0,.slice A0_1 l0_1.length c0_1]] rfl (by (try simp only [List.map_toArray,List.map_cons,List.map_nil]); first | done | rfl | (simp only [List.length_drop,List.length_take]; rfl)) ?_; (with_reducible refine (spec_l1Ok.calls k a0_0 _ _ l0_1 true _ ?side1 ?side2 A5.out).mono ?_); (case side1 => repeat (first | exact (Kd.C_below p3.out HB.out) | (with_reducible refine Kd.C_alloc ?_ _) | (with_reducible refine Kd.C_drewN ?_ _) | (with_reducible refine Kd.C_drew ?_))); (case side2 => exact p4.out); rintro e w33 ⟨rfl,hb⟩; refine ⟨_,rfl,?_⟩; have n0_:=zx (blk_below (g:=p1) (o:=.cells #[.int .i64 a0_0,.slice A0_1 l0_1.length c0_1] 34 (0,0)) p0.out hb); have n1_:=zx (below_step HB.out hb); clear p0; clear HB; have p0:=n0_; have HB:=n1_; clear n0_ n1_; (try clear hb); (try clear hb2); (try clear hk); (try clear hi); have hcz34_0 : w33.cell? ⟨p1,0,none⟩ = some (.int .i64 a0_0):=(blk_cell p0.out 0).trans rfl; have hcz34_1 : w33.cell? ⟨p1,1,none⟩ = some (.slice A0_1 l0_1.length c0_1):=(blk_cell p0.out 1).trans rfl; have hfz34_0:=blk_frozen p0.out 0; have hfz34_1:=blk_frozen p0.out 1) | (go_at_call 90; (with_reducible refine (spec_l1In.calls a2 0 (wrap64 (a0_0 - 1)) false _ A7.out).mono ?_); rintro e w' ⟨rfl,⟨nd,rfl⟩⟩))
  go_ret2;exact ⟨by first | rfl | (simp [errW_none,errW_some] <;> rfl) | (simp [*,errW_none,errW_some] <;> rfl),by repeat (first | (with_reducible first | exact HB.out | apply below_alloc | apply pw_below_drewN | apply below_drew1 | refine below_set ?_ p2.out) | exact HB.out)⟩
 subst c8;have H1 : ((spec_l1In.f a3 0 (wrap64 (a0_0 - 1))).bind fun t771 => (if t771 = true then (if a2 = a3 then (some (0,false)) else (if (l1.length : Int) = (l0_1.length : Int) then ((spec_l25Ok.f k a0_0 l0_1 l1 a2 a3).bind fun bt772 => (some (bt772.1,bt772.2))) else (some (0,false)))) else (some (0,false)))) = some (r1,r2):=by rw [if_pos rfl] at H; exact H
 clear H;have H:=H1;clear H1;replace H:=Option.bind_eq_some_iff.mp H;obtain ⟨t771,A90,H⟩:=H;replace H : (if t771 = true then (if a2 = a3 then (some (0,false)) else (if (l1.length : Int) = (l0_1.length : Int) then ((spec_l25Ok.f k a0_0 l0_1 l1 a2 a3).bind fun bt772 => (some (bt772.1,bt772.2))) else (some (0,false)))) else (some (0,false))) = some (r1,r2):=H;have A9:=zx A90;clear A90
 by_cases c10 : t771 = true
 case neg =>
  replace c10:=Bool.eq_false_iff.mpr c10;subst c10;have H1 : (some (0,false)) = some (r1,r2):=by rw [if_neg (show ¬ (false = true) by decide)] at H; exact H
  clear H;have H:=H1;clear H1;simp only [Option.some.injEq,Prod.mk.injEq] at H;obtain ⟨rfl,rfl⟩:=H
  go_enter Try.func35,Try.ntmps35
  go_wp2_with (first | ((with_reducible refine gate_dst (N:=4) rfl ?_); (try (refine gate_guard (by rfl) ?_; dsimp only)); refine box_event ?hg (N:=4) ?hd (cs:=#[.int .i64 a0_0,.slice A0_1 l0_1.length c0_1]) (t:=34) ?hr ?_; (case hd => rfl); (case hg => rfl); (case hr => first | (go_simp; done) | (go_simp; rfl)); intro p1 hg w27 hbox hb; have n0_:=zx (below_step HB.out hb); have n1_:=zx (hbox); have n2_:=zx ((by rw [hg]; exact (below_size HB.out) : w.heap.size ≤ p1)); have n3_:=zx ((by rw [hg]; exact (below_size HB.out) : w.heap.size ≤ p1)); clear HB; have HB:=n0_; have p0:=n1_; have p5:=n2_; have p2:=n3_; clear n0_ n1_ n2_ n3_; clear hb hbox hg; have hcz28_0 : w27.cell? ⟨p1,0,none⟩ = some (.int .i64 a0_0):=(blk_cell p0.out 0).trans rfl; have hcz28_1 : w27.cell? ⟨p1,1,none⟩ = some (.slice A0_1 l0_1.length c0_1):=(blk_cell p0.out 1).trans rfl; have hfz28_0:=blk_frozen p0.out 0; have hfz28_1:=blk_frozen p0.out 1) | ((with_reducible refine gate_callee (f:=76) rfl ?_); refine goesL_ (some 11) rfl rfl Try.func76 (by kernel_rfl) rfl #[.agg #[.int .i64 a0_0,.slice A0_1 l0_1.length c0_1]] rfl (by (try simp only [List.map_toArray,List.map_cons,List.map_nil]); first | done | rfl | (simp only [List.length_drop,List.length_take]; rfl)) ?_; (with_reducible refine (spec_l1Ok.calls k a0_0 _ _ l0_1 true _ ?side1 ?side2 A5.out).mono ?_); (case side1 => repeat (first | exact (Kd.C_below p3.out HB.out) | (with_reducible refine Kd.C_alloc ?_ _) | (with_reducible refine Kd.C_drewN ?_ _) | (with_reducible refine Kd.C_drew ?_))); (case side2 => exact p4.out); rintro e w29 ⟨rfl,hb⟩; refine ⟨_,rfl,?_⟩; have n0_:=zx (blk_below (g:=p1) (o:=.cells #[.int .i64 a0_0,.slice A0_1 l0_1.length c0_1] 34 (0,0)) p0.out hb); have n1_:=zx (below_step HB.out hb); clear p0; clear HB; have p0:=n0_; have HB:=n1_; clear n0_ n1_; (try clear hb); (try clear hb2); (try clear hk); (try clear hi); have hcz30_0 : w29.cell? ⟨p1,0,none⟩ = some (.int .i64 a0_0):=(blk_cell p0.out 0).trans rfl; have hcz30_1 : w29.cell? ⟨p1,1,none⟩ = some (.slice A0_1 l0_1.length c0_1):=(blk_cell p0.out 1).trans rfl; have hfz30_0:=blk_frozen p0.out 0; have hfz30_1:=blk_frozen p0.out 1) | (go_at_call 90; (with_reducible refine (spec_l1In.calls a2 0 (wrap64 (a0_0 - 1)) true _ A7.out).mono ?_); rintro e w' ⟨rfl,⟨nd,rfl⟩⟩) | (go_at_call 90; (with_reducible refine (spec_l1In.calls a3 0 (wrap64 (a0_0 - 1)) false _ A9.out).mono ?_); rintro e w' ⟨rfl,⟨nd,rfl⟩⟩))
  go_ret2;exact ⟨by first | rfl | (simp [errW_none,errW_some] <;> rfl) | (simp [*,errW_none,errW_some] <;> rfl),by repeat (first | (with_reducible first | exact HB.out | apply below_alloc | apply pw_below_drewN | apply below_drew1 | refine below_set ?_ p2.out) | exact HB.out)⟩
 subst c10;have H1 : (if a2 = a3 then (some (0,false)) else (if (l1.length : Int) = (l0_1.length : Int) then ((spec_l25Ok.f k a0_0 l0_1 l1 a2 a3).bind fun bt772 => (some (bt772.1,bt772.2))) else (some (0,false)))) = some (r1,r2):=by rw [if_pos rfl] at H; exact H
 clear H;have H:=H1;clear H1
 by_cases c11 : a2 = a3
 case pos =>
  rw [if_pos c11] at H;have c11b0 : (a2 == a3) = true:=beq_iff_eq.mpr c11;have c11b1 : (a2 != a3) = false:=bne_eq_false_iff_eq.mpr c11;clear c11;simp only [Option.some.injEq,Prod.mk.injEq] at H;obtain ⟨rfl,rfl⟩:=H
  go_enter Try.func35,Try.ntmps35
  go_wp2_with (first | ((with_reducible refine gate_dst (N:=4) rfl ?_); (try (refine gate_guard (by rfl) ?_; dsimp only)); refine box_event ?hg (N:=4) ?hd (cs:=#[.int .i64 a0_0,.slice A0_1 l0_1.length c0_1]) (t:=34) ?hr ?_; (case hd => rfl); (case hg => rfl); (case hr => first | (go_simp; done) | (go_simp; rfl)); intro p1 hg w12 hbox hb; have n0_:=zx (below_step HB.out hb); have n1_:=zx (hbox); have n2_:=zx ((by rw [hg]; exact (below_size HB.out) : w.heap.size ≤ p1)); have n3_:=zx ((by rw [hg]; exact (below_size HB.out) : w.heap.size ≤ p1)); clear HB; have HB:=n0_; have p0:=n1_; have p5:=n2_; have p2:=n3_; clear n0_ n1_ n2_ n3_; clear hb hbox hg; have hcz13_0 : w12.cell? ⟨p1,0,none⟩ = some (.int .i64 a0_0):=(blk_cell p0.out 0).trans rfl; have hcz13_1 : w12.cell? ⟨p1,1,none⟩ = some (.slice A0_1 l0_1.length c0_1):=(blk_cell p0.out 1).trans rfl; have hfz13_0:=blk_frozen p0.out 0; have hfz13_1:=blk_frozen p0.out 1) | ((with_reducible refine gate_callee (f:=76) rfl ?_); refine goesL_ (some 11) rfl rfl Try.func76 (by kernel_rfl) rfl #[.agg #[.int .i64 a0_0,.slice A0_1 l0_1.length c0_1]] rfl (by (try simp only [List.map_toArray,List.map_cons,List.map_nil]); first | done | rfl | (simp only [List.length_drop,List.length_take]; rfl)) ?_; (with_reducible refine (spec_l1Ok.calls k a0_0 _ _ l0_1 true _ ?side1 ?side2 A5.out).mono ?_); (case side1 => repeat (first | exact (Kd.C_below p3.out HB.out) | (with_reducible refine Kd.C_alloc ?_ _) | (with_reducible refine Kd.C_drewN ?_ _) | (with_reducible refine Kd.C_drew ?_))); (case side2 => exact p4.out); rintro e w14 ⟨rfl,hb⟩; refine ⟨_,rfl,?_⟩; have n0_:=zx (blk_below (g:=p1) (o:=.cells #[.int .i64 a0_0,.slice A0_1 l0_1.length c0_1] 34 (0,0)) p0.out hb); have n1_:=zx (below_step HB.out hb); clear p0; clear HB; have p0:=n0_; have HB:=n1_; clear n0_ n1_; (try clear hb); (try clear hb2); (try clear hk); (try clear hi); have hcz15_0 : w14.cell? ⟨p1,0,none⟩ = some (.int .i64 a0_0):=(blk_cell p0.out 0).trans rfl; have hcz15_1 : w14.cell? ⟨p1,1,none⟩ = some (.slice A0_1 l0_1.length c0_1):=(blk_cell p0.out 1).trans rfl; have hfz15_0:=blk_frozen p0.out 0; have hfz15_1:=blk_frozen p0.out 1) | (go_at_call 90; (with_reducible refine (spec_l1In.calls a2 0 (wrap64 (a0_0 - 1)) true _ A7.out).mono ?_); rintro e w' ⟨rfl,⟨nd,rfl⟩⟩) | (go_at_call 90; (with_reducible refine (spec_l1In.calls a3 0 (wrap64 (a0_0 - 1)) true _ A9.out).mono ?_); rintro e w' ⟨rfl,⟨nd,rfl⟩⟩))
  go_ret2;exact ⟨by first | rfl | (simp [errW_none,errW_some] <;> rfl) | (simp [*,errW_none,errW_some] <;> rfl),by repeat (first | (with_reducible first | exact HB.out | apply below_alloc | apply pw_below_drewN | apply below_drew1 | refine below_set ?_ p2.out) | exact HB.out)⟩
 rw [if_neg c11] at H;have c11b0 : (a2 == a3) = false:=beq_eq_false_iff_ne.mpr c11;have c11b1 : (a2 != a3) = true:=bne_iff_ne.mpr c11
 by_cases c16 : (l1.length : Int) = (l0_1.length : Int)
 case neg =>
  rw [if_neg c16] at H;have c16b0 : ((l1.length : Int) == (l0_1.length : Int)) = false:=beq_eq_false_iff_ne.mpr c16;have c16b1 : ((l1.length : Int) != (l0_1.length : Int)) = true:=bne_iff_ne.mpr c16;have c16b2 : (l1.length == l0_1.length) = false:=by first | simpa using c16 | (simp at c16 ⊢; omega)
  simp only [Option.some.injEq,Prod.mk.injEq] at H;obtain ⟨rfl,rfl⟩:=H
  go_enter Try.func35,Try.ntmps35
  go_wp2_with (first | ((with_reducible refine gate_dst (N:=4) rfl ?_); (try (refine gate_guard (by rfl) ?_; dsimp only)); refine box_event ?hg (N:=4) ?hd (cs:=#[.int .i64 a0_0,.slice A0_1 l0_1.length c0_1]) (t:=34) ?hr ?_; (case hd => rfl); (case hg => rfl); (case hr => first | (go_simp; done) | (go_simp; rfl)); intro p1 hg w23 hbox hb; have n0_:=zx (below_step HB.out hb); have n1_:=zx (hbox); have n2_:=zx ((by rw [hg]; exact (below_size HB.out) : w.heap.size ≤ p1)); have n3_:=zx ((by rw [hg]; exact (below_size HB.out) : w.heap.size ≤ p1)); clear HB; have HB:=n0_; have p0:=n1_; have p5:=n2_; have p2:=n3_; clear n0_ n1_ n2_ n3_; clear hb hbox hg; have hcz24_0 : w23.cell? ⟨p1,0,none⟩ = some (.int .i64 a0_0):=(blk_cell p0.out 0).trans rfl; have hcz24_1 : w23.cell? ⟨p1,1,none⟩ = some (.slice A0_1 l0_1.length c0_1):=(blk_cell p0.out 1).trans rfl; have hfz24_0:=blk_frozen p0.out 0; have hfz24_1:=blk_frozen p0.out 1) | ((with_reducible refine gate_callee (f:=76) rfl ?_); refine goesL_ (some 11) rfl rfl Try.func76 (by kernel_rfl) rfl #[.agg #[.int .i64 a0_0,.slice A0_1 l0_1.length c0_1]] rfl (by (try simp only [List.map_toArray,List.map_cons,List.map_nil]); first | done | rfl | (simp only [List.length_drop,List.length_take]; rfl)) ?_; (with_reducible refine (spec_l1Ok.calls k a0_0 _ _ l0_1 true _ ?side1 ?side2 A5.out).mono ?_); (case side1 => repeat (first | exact (Kd.C_below p3.out HB.out) | (with_reducible refine Kd.C_alloc ?_ _) | (with_reducible refine Kd.C_drewN ?_ _) | (with_reducible refine Kd.C_drew ?_))); (case side2 => exact p4.out); rintro e w25 ⟨rfl,hb⟩; refine ⟨_,rfl,?_⟩; have n0_:=zx (blk_below (g:=p1) (o:=.cells #[.int .i64 a0_0,.slice A0_1 l0_1.length c0_1] 34 (0,0)) p0.out hb); have n1_:=zx (below_step HB.out hb); clear p0; clear HB; have p0:=n0_; have HB:=n1_; clear n0_ n1_; (try clear hb); (try clear hb2); (try clear hk); (try clear hi); have hcz26_0 : w25.cell? ⟨p1,0,none⟩ = some (.int .i64 a0_0):=(blk_cell p0.out 0).trans rfl; have hcz26_1 : w25.cell? ⟨p1,1,none⟩ = some (.slice A0_1 l0_1.length c0_1):=(blk_cell p0.out 1).trans rfl; have hfz26_0:=blk_frozen p0.out 0; have hfz26_1:=blk_frozen p0.out 1) | (go_at_call 90; (with_reducible refine (spec_l1In.calls a2 0 (wrap64 (a0_0 - 1)) true _ A7.out).mono ?_); rintro e w' ⟨rfl,⟨nd,rfl⟩⟩) | (go_at_call 90; (with_reducible refine (spec_l1In.calls a3 0 (wrap64 (a0_0 - 1)) true _ A9.out).mono ?_); rintro e w' ⟨rfl,⟨nd,rfl⟩⟩))
  go_ret2;exact ⟨by first | rfl | (simp [errW_none,errW_some] <;> rfl) | (simp [*,errW_none,errW_some] <;> rfl),by repeat (first | (with_reducible first | exact HB.out | apply below_alloc | apply pw_below_drewN | apply below_drew1 | refine below_set ?_ p2.out) | exact HB.out)⟩
 rw [if_pos c16] at H;have c16b0 : ((l1.length : Int) == (l0_1.length : Int)) = true:=beq_iff_eq.mpr c16;have c16b1 : ((l1.length : Int) != (l0_1.length : Int)) = false:=bne_eq_false_iff_eq.mpr c16;have c16b2 : (l1.length == l0_1.length) = true:=by first | simpa using c16 | (simp at c16 ⊢; omega)
 clear c16;replace H:=Option.bind_eq_some_iff.mp H;obtain ⟨⟨t772,t773⟩,A170,H⟩:=H;replace H : (some (t772,t773)) = some (r1,r2):=H;have A17:=zx A170;clear A170;simp only [Option.some.injEq,Prod.mk.injEq] at H;obtain ⟨rfl,rfl⟩:=H
 go_enter Try.func35,Try.ntmps35
 go_wp2_with (first | ((with_reducible refine gate_dst (N:=4) rfl ?_); (try (refine gate_guard (by rfl) ?_; dsimp only)); refine box_event ?hg (N:=4) ?hd (cs:=#[.int .i64 a0_0,.slice A0_1 l0_1.length c0_1]) (t:=34) ?hr ?_; (case hd => rfl); (case hg => rfl); (case hr => first | (go_simp; done) | (go_simp; rfl)); intro p1 hg w18 hbox hb; have n0_:=zx (below_step HB.out hb); have n1_:=zx (hbox); have n2_:=zx ((by rw [hg]; exact (below_size HB.out) : w.heap.size ≤ p1)); have n3_:=zx ((by rw [hg]; exact (below_size HB.out) : w.heap.size ≤ p1)); clear HB; have HB:=n0_; have p0:=n1_; have p5:=n2_; have p2:=n3_; clear n0_ n1_ n2_ n3_; clear hb hbox hg; have hcz19_0 : w18.cell? ⟨p1,0,none⟩ = some (.int .i64 a0_0):=(blk_cell p0.out 0).trans rfl; have hcz19_1 : w18.cell? ⟨p1,1,none⟩ = some (.slice A0_1 l0_1.length c0_1):=(blk_cell p0.out 1).trans rfl; have hfz19_0:=blk_frozen p0.out 0; have hfz19_1:=blk_frozen p0.out 1) | ((with_reducible refine gate_callee (f:=76) rfl ?_); refine goesL_ (some 11) rfl rfl Try.func76 (by kernel_rfl) rfl #[.agg #[.int .i64 a0_0,.slice A0_1 l0_1.length c0_1]] rfl (by (try simp only [List.map_toArray,List.map_cons,List.map_nil]); first | done | rfl | (simp only [List.length_drop,List.length_take]; rfl)) ?_; (with_reducible refine (spec_l1Ok.calls k a0_0 _ _ l0_1 true _ ?side1 ?side2 A5.out).mono ?_); (case side1 => repeat (first | exact (Kd.C_below p3.out HB.out) | (with_reducible refine Kd.C_alloc ?_ _) | (with_reducible refine Kd.C_drewN ?_ _) | (with_reducible refine Kd.C_drew ?_))); (case side2 => exact p4.out); rintro e w20 ⟨rfl,hb⟩; refine ⟨_,rfl,?_⟩; have n0_:=zx (blk_below (g:=p1) (o:=.cells #[.int .i64 a0_0,.slice A0_1 l0_1.length c0_1] 34 (0,0)) p0.out hb); have n1_:=zx (below_step HB.out hb); clear p0; clear HB; have p0:=n0_; have HB:=n1_; clear n0_ n1_; (try clear hb); (try clear hb2); (try clear hk); (try clear hi); have hcz21_0 : w20.cell? ⟨p1,0,none⟩ = some (.int .i64 a0_0):=(blk_cell p0.out 0).trans rfl; have hcz21_1 : w20.cell? ⟨p1,1,none⟩ = some (.slice A0_1 l0_1.length c0_1):=(blk_cell p0.out 1).trans rfl; have hfz21_0:=blk_frozen p0.out 0; have hfz21_1:=blk_frozen p0.out 1) | (go_at_call 90; (with_reducible refine (spec_l1In.calls a2 0 (wrap64 (a0_0 - 1)) true _ A7.out).mono ?_); rintro e w' ⟨rfl,⟨nd,rfl⟩⟩) | (go_at_call 90; (with_reducible refine (spec_l1In.calls a3 0 (wrap64 (a0_0 - 1)) true _ A9.out).mono ?_); rintro e w' ⟨rfl,⟨nd,rfl⟩⟩) | ((with_reducible refine gate_callee (f:=91) rfl ?_); refine goesL_ (some 46) rfl rfl Try.func91 (by kernel_rfl) rfl #[.agg #[.int .i64 a0_0,.slice A0_1 l0_1.length c0_1],.slice A1 l1.length c1,.int .i64 a2,.int .i64 a3] rfl (by (try simp only [List.map_toArray,List.map_cons,List.map_nil]); first | done | rfl | (simp only [List.length_drop,List.length_take]; rfl)) ?_; (with_reducible refine (spec_l25Ok.calls k a0_0 _ _ l0_1 _ _ l1 a2 a3 t772 t773 _ ?side1 ?side2 ?side3 ?side4 A17.out).mono ?_); (case side1 => repeat (first | exact (Kd.C_below p3.out (by repeat (first | (with_reducible first | exact HB.out | apply below_alloc | apply pw_below_drewN | apply below_drew1 | refine below_set ?_ p2.out) | exact HB.out))) | (with_reducible refine Kd.C_alloc ?_ _) | (with_reducible refine Kd.C_drewN ?_ _) | (with_reducible refine Kd.C_drew ?_))); (case side2 => exact p4.out); (case side3 => repeat (first | exact (Kd.C_below HR1.out (by repeat (first | (with_reducible first | exact HB.out | apply below_alloc | apply pw_below_drewN | apply below_drew1 | refine below_set ?_ p2.out) | exact HB.out))) | (with_reducible refine Kd.C_alloc ?_ _) | (with_reducible refine Kd.C_drewN ?_ _) | (with_reducible refine Kd.C_drew ?_))); (case side4 => exact HC1.out); rintro e w22 ⟨rfl,hb⟩; refine ⟨_,rfl,?_⟩; have n0_:=zx (blk_below (g:=p1) (o:=.cells #[.int .i64 a0_0,.slice A0_1 l0_1.length c0_1] 34 (0,0)) (by (with_reducible repeat (first | refine blk_drewN ?_ _ | refine blk_drew ?_ | refine blk_alloc ?_ _)); exact p0.out) hb); have n1_:=zx (below_step (by repeat (first | (with_reducible first | exact HB.out | apply below_alloc | apply pw_below_drewN | apply below_drew1 | refine below_set ?_ p2.out) | exact HB.out)) hb); clear p0; clear HB; have p0:=n0_; have HB:=n1_; clear n0_ n1_; (try clear hb); (try clear hb2); (try clear hk); (try clear hi)))
 go_ret2;exact ⟨by first | rfl | (simp [errW_none,errW_some] <;> rfl) | (simp [*,errW_none,errW_some] <;> rfl),by repeat (first | (with_reducible first | exact HB.out | apply below_alloc | apply pw_below_drewN | apply below_drew1 | refine below_set ?_ p2.out) | exact HB.out)⟩
def impl_Net_cut.l0 : Nat → Int → Int → List (S58) → Int → Int → Option (Int)
 | 0,_,_,_,_,_ => none
 | k + 1,x1,x5,x9,x10,x11 => if x11 < x10 then (if 0 ≤ x11 then (if x11 < (x9.length : Int) then (if 0 ≤ ((rd_T58 x9 x11).f0) then (if (Go.bits .and .i64 (shr .i64 x1 ((rd_T58 x9 x11).f0)) 1) = 1 then (if 0 ≤ ((rd_T58 x9 x11).f1) then (if (Go.bits .and .i64 (shr .i64 x1 ((rd_T58 x9 x11).f1)) 1) = 0 then (impl_Net_cut.l0 k x1 (wrap64 (x5 + ((rd_T58 x9 x11).f4))) x9 x10 (wrap64 (x11 + 1))) else (impl_Net_cut.l0 k x1 x5 x9 x10 (wrap64 (x11 + 1)))) else (none)) else (impl_Net_cut.l0 k x1 x5 x9 x10 (wrap64 (x11 + 1)))) else (none)) else (none)) else (none)) else (some x5)
def impl_Net_cut.f (k : Nat) (a0_0 : Int) (l0_1 : List (S58)) (a1 : Int) : Option (Int):=impl_Net_cut.l0 k a1 0 l0_1 (l0_1.length : Int) 0
set_option maxHeartbeats 8000000 in
set_option maxRecDepth 100000 in
theorem impl_Net_cut.calls (k : Nat) (a0_0 : Int) (A0_1 : Option Addr) (c0_1 : Nat) (l0_1 : List (S58)) (a1 : Int) (r : Int) (w : World) (hr0_1 : Kd.C k58 w A0_1 l0_1.length l0_1) (hc0_1 : l0_1.length ≤ c0_1) (h : impl_Net_cut.f k a0_0 l0_1 a1 = some r) :
  Calls Try.prog 92 #[.agg #[.int .i64 a0_0,.slice A0_1 l0_1.length c0_1],.int .i64 a1] w fun e w' => e = .returned (.int .i64 r) ∧ Below w.heap.size w w':=by
 have hu34:=Try.underlying34;have hu58:=Try.underlying58;have q6:=zx hr0_1;have HC0_1:=zx hc0_1;clear hr0_1 hc0_1;have HB:=zx (Below.refl w.heap.size w);have H : (impl_Net_cut.l0 k a1 0 l0_1 (l0_1.length : Int) 0) = some r:=h;clear h;have H':=zx H;clear H
 go_enter Try.func92,Try.ntmps92
 go_wp2_with (first | ((with_reducible refine gate_dst (N:=2) rfl ?_); refine box_event ?hg (N:=2) ?hd (cs:=#[.int .i64 a0_0,.slice A0_1 l0_1.length c0_1]) (t:=34) ?hr ?_; (case hd => rfl); (case hg => rfl); (case hr => first | (go_simp; done) | (go_simp; rfl)); intro p6 hg w3 hbox hb; have n0_:=zx (below_step HB.out hb); have n1_:=zx (hbox); have n2_:=zx ((by rw [hg]; exact (below_size HB.out) : w.heap.size ≤ p6)); have n3_:=zx ((by rw [hg]; exact (below_size HB.out) : w.heap.size ≤ p6)); clear HB; have HB:=n0_; have p5:=n1_; have GW774:=n2_; have q4:=n3_; clear n0_ n1_ n2_ n3_; clear hb hbox hg; have hcz4_0 : w3.cell? ⟨p6,0,none⟩ = some (.int .i64 a0_0):=(blk_cell p5.out 0).trans rfl; have hcz4_1 : w3.cell? ⟨p6,1,none⟩ = some (.slice A0_1 l0_1.length c0_1):=(blk_cell p5.out 1).trans rfl; have hfz4_0:=blk_frozen p5.out 0; have hfz4_1:=blk_frozen p5.out 1))
 go_loopg [5,11] k (fun kq v5 v11 w' => ∃ (x5_1 : Int) (p1 : Int),v5 = .int .i64 x5_1 ∧ v11 = .int .i64 p1 ∧ Aside0 (impl_Net_cut.l0 kq a1 x5_1 l0_1 (l0_1.length : Int) p1 = some r) ∧ Aside0 (kq ≤ k) ∧ Aside0 (w'.heap[p6]? = some (.cells #[.int .i64 a0_0,(.slice A0_1 l0_1.length c0_1)] 34 (0,0))) ∧ Aside0 (Below w.heap.size w w'))
 case atStart => exact ⟨(0),(0),(by first | rfl | (simp; done) | (simp [*]; done)),(by first | rfl | (simp; done) | (simp [*]; done)),H',⟨Nat.le_refl _⟩,⟨by (with_reducible repeat (first | refine blk_drewN ?_ _ | refine blk_drew ?_ | refine blk_alloc ?_ _)); exact p5.out⟩,⟨by repeat (first | (with_reducible first | exact HB.out | apply below_alloc | apply pw_below_drewN | apply below_drew1 | refine below_set ?_ q4.out) | exact HB.out)⟩⟩
 case round =>
  clear H'
  try clear p2
  try clear hcz4_0
  try clear hcz4_1
  try clear hfz4_0
  try clear hfz4_1
  obtain ⟨x5_1,p1,rfl,rfl,HA,HK1,p5,HB⟩:=hrel;cases gk with
  | zero => exact absurd HA.out (by simp [impl_Net_cut.l0])
  | succ k1 =>
   have H:=HA.out;clear HA;simp only [impl_Net_cut.l0] at H
   by_cases c5 : p1 < (l0_1.length : Int)
   case neg =>
    rw [if_neg c5] at H;have c5b0 : decide (p1 < (l0_1.length : Int)) = false:=decide_eq_false c5;clear c5;obtain rfl:=Option.some.inj H
    go_wp2
    go_ret;exact ⟨by first | rfl | (simp [errW_none,errW_some] <;> rfl) | (simp [*,errW_none,errW_some] <;> rfl),by repeat (first | (with_reducible first | exact HB.out | apply below_alloc | apply pw_below_drewN | apply below_drew1 | refine below_set ?_ q4.out) | exact HB.out)⟩
   rw [if_pos c5] at H;have c5b0 : decide (p1 < (l0_1.length : Int)) = true:=decide_eq_true c5;clear c5
   by_cases c6 : 0 ≤ p1
   case neg =>
    rw [if_neg c6] at H;exact absurd H (by simp)
   rw [if_pos c6] at H;have c6b0 : decide (0 ≤ p1) = true:=decide_eq_true c6;clear c6
   by_cases c7 : p1 < (l0_1.length : Int)
   case neg =>
    rw [if_neg c7] at H;exact absurd H (by simp)
   rw [if_pos c7] at H;have c7b0 : decide (p1 < (l0_1.length : Int)) = true:=decide_eq_true c7;clear c7
   by_cases c8 : 0 ≤ ((rd_T58 l0_1 p1).f0)
   case neg =>
    rw [if_neg c8] at H;exact absurd H (by simp)
   rw [if_pos c8] at H;have c8b0:=eq_true c8;have c8b1 : decide (0 ≤ ((rd_T58 l0_1 p1).f0)) = true:=decide_eq_true c8;clear c8;obtain ⟨ji9,hji9⟩ : ∃ j_ : Int,(shr .i64 a1 ((rd_T58 l0_1 p1).f0)) = j_:=⟨_,rfl⟩
   replace H : (if (Go.bits .and .i64 (ji9) 1) = 1 then (if 0 ≤ ((rd_T58 l0_1 p1).f1) then (if (Go.bits .and .i64 (shr .i64 a1 ((rd_T58 l0_1 p1).f1)) 1) = 0 then (impl_Net_cut.l0 k1 a1 (wrap64 (x5_1 + ((rd_T58 l0_1 p1).f4))) l0_1 (l0_1.length : Int) (wrap64 (p1 + 1))) else (impl_Net_cut.l0 k1 a1 x5_1 l0_1 (l0_1.length : Int) (wrap64 (p1 + 1)))) else (none)) else (impl_Net_cut.l0 k1 a1 x5_1 l0_1 (l0_1.length : Int) (wrap64 (p1 + 1)))) = some r:=by first | (rw [hji9] at H; exact H) | (simp only [hji9] at H ⊢; exact H)
   have hji9_ : (a1 / 2 ^ min ((rd_T58 l0_1 p1).f0).toNat 64) = ji9:=hji9;have hji9z : ((rd_T58 l0_1 p1).f0) ≤ 64 → (a1 / 2 ^ ((rd_T58 l0_1 p1).f0).toNat) = ji9:=shr_small hji9
   by_cases c10 : (Go.bits .and .i64 (ji9) 1) = 1
   case neg =>
    rw [if_neg c10] at H;have c10b0 : ((Go.bits .and .i64 (ji9) 1) == 1) = false:=beq_eq_false_iff_ne.mpr c10;have c10b1 : ((Go.bits .and .i64 (ji9) 1) != 1) = true:=bne_iff_ne.mpr c10;have H':=zx H;clear H;have p775 : 0 ≤ (p1 : Int):=of_decide_eq_true (by first | (with_reducible assumption) | assumption);have q775 : p1 < (l0_1.length : Int):=of_decide_eq_true (by first | (with_reducible assumption) | assumption);obtain ⟨q3,e775,p7,p8,p9,q0,q1⟩:=at_T58 q6.out p1 p775 q775;cases e775;replace p7:=(HB.out.cell (World.block_lt_of_cell? w _ p7)).trans p7;replace p8:=(HB.out.cell (World.block_lt_of_cell? w _ p8)).trans p8;replace p9:=(HB.out.cell (World.block_lt_of_cell? w _ p9)).trans p9;replace q0:=(HB.out.cell (World.block_lt_of_cell? w _ q0)).trans q0;replace q1:=(HB.out.cell (World.block_lt_of_cell? w _ q1)).trans q1;replace p775:=eq_true p775;replace q775:=eq_true q775
    go_wp2_with (first | ((with_reducible refine gate_dst (N:=7) rfl ?_); refine box_event ?hg (N:=7) ?hd (cs:=#[.int .i64 0,.int .i64 0,.int .i64 0,.int .i64 0,.int .i64 0]) (t:=58) ?hr ?_; (case hd => rfl); (case hg => rfl); (case hr => first | (go_simp; done) | (go_simp; rfl)); intro p4 hg w20 hbox hb; have n0_:=zx (blk_below (g:=p6) (o:=.cells #[.int .i64 a0_0,.slice (some q3) l0_1.length c0_1] 34 (0,0)) p5.out hb); have n1_:=zx (below_step HB.out hb); have n2_:=zx (hbox); have n3_:=zx ((by rw [hg]; exact (below_size HB.out) : w.heap.size ≤ p4)); have n4_:=zx ((by rw [hg]; exact (below_size HB.out) : w.heap.size ≤ p4)); have n5_:=zx ((by rw [hg]; exact Nat.ne_of_lt (blk_lt (g:=p6) (o:=.cells #[.int .i64 a0_0,.slice (some q3) l0_1.length c0_1] 34 (0,0)) p5.out) : p6 ≠ p4)); have n6_:=zx ((by rw [hg]; exact Nat.ne_of_gt (blk_lt (g:=p6) (o:=.cells #[.int .i64 a0_0,.slice (some q3) l0_1.length c0_1] 34 (0,0)) p5.out) : p4 ≠ p6)); clear p5; clear HB; have p5:=n0_; have HB:=n1_; have p3:=n2_; have GW776:=n3_; have q5:=n4_; have p0:=n5_; have q2:=n6_; clear n0_ n1_ n2_ n3_ n4_ n5_ n6_; clear hb hbox hg; have hnb21:=q2.out; have hnc21:=p0.out; have hcz22_0 : w20.cell? ⟨p4,0,none⟩ = some (.int .i64 0):=(blk_cell p3.out 0).trans rfl; have hcz22_1 : w20.cell? ⟨p4,1,none⟩ = some (.int .i64 0):=(blk_cell p3.out 1).trans rfl; have hcz22_2 : w20.cell? ⟨p4,2,none⟩ = some (.int .i64 0):=(blk_cell p3.out 2).trans rfl; have hcz22_3 : w20.cell? ⟨p4,3,none⟩ = some (.int .i64 0):=(blk_cell p3.out 3).trans rfl; have hcz22_4 : w20.cell? ⟨p4,4,none⟩ = some (.int .i64 0):=(blk_cell p3.out 4).trans rfl; have hfz22_0:=blk_frozen p3.out 0; have hfz22_1:=blk_frozen p3.out 1; have hfz22_2:=blk_frozen p3.out 2; have hfz22_3:=blk_frozen p3.out 3; have hfz22_4:=blk_frozen p3.out 4))
    go_roundg k1
    case measure => have:=HK1.out; omega
    case rel => exact ⟨(x5_1),(wrap64 (p1 + 1)),(by first | rfl | (simp; done) | (simp [*]; done)),(by first | rfl | (simp; done) | (simp [*]; done)),H',⟨by have:=HK1.out; omega⟩,⟨by (with_reducible repeat (first | refine blk_drewN ?_ _ | refine blk_drew ?_ | refine blk_alloc ?_ _)); refine blk_far ?_ p0.out _; (with_reducible repeat (first | refine blk_drewN ?_ _ | refine blk_drew ?_ | refine blk_alloc ?_ _)); refine blk_far ?_ p0.out _; (with_reducible repeat (first | refine blk_drewN ?_ _ | refine blk_drew ?_ | refine blk_alloc ?_ _)); refine blk_far ?_ p0.out _; (with_reducible repeat (first | refine blk_drewN ?_ _ | refine blk_drew ?_ | refine blk_alloc ?_ _)); refine blk_far ?_ p0.out _; (with_reducible repeat (first | refine blk_drewN ?_ _ | refine blk_drew ?_ | refine blk_alloc ?_ _)); refine blk_far ?_ p0.out _; (with_reducible repeat (first | refine blk_drewN ?_ _ | refine blk_drew ?_ | refine blk_alloc ?_ _)); exact p5.out⟩,⟨by repeat (first | (with_reducible first | exact HB.out | apply below_alloc | apply pw_below_drewN | apply below_drew1 | refine below_set ?_ q4.out | refine below_set ?_ q5.out) | exact HB.out)⟩⟩
   rw [if_pos c10] at H;have c10b0 : ((Go.bits .and .i64 (ji9) 1) == 1) = true:=beq_iff_eq.mpr c10;have c10b1 : ((Go.bits .and .i64 (ji9) 1) != 1) = false:=bne_eq_false_iff_eq.mpr c10;clear c10
   by_cases c11 : 0 ≤ ((rd_T58 l0_1 p1).f1)
   case neg =>
    rw [if_neg c11] at H;exact absurd H (by simp)
   rw [if_pos c11] at H;have c11b0:=eq_true c11;have c11b1 : decide (0 ≤ ((rd_T58 l0_1 p1).f1)) = true:=decide_eq_true c11;clear c11;obtain ⟨ji12,hji12⟩ : ∃ j_ : Int,(shr .i64 a1 ((rd_T58 l0_1 p1).f1)) = j_:=⟨_,rfl⟩
   replace H : (if (Go.bits .and .i64 (ji12) 1) = 0 then (impl_Net_cut.l0 k1 a1 (wrap64 (x5_1 + ((rd_T58 l0_1 p1).f4))) l0_1 (l0_1.length : Int) (wrap64 (p1 + 1))) else (impl_Net_cut.l0 k1 a1 x5_1 l0_1 (l0_1.length : Int) (wrap64 (p1 + 1)))) = some r:=by first | (rw [hji12] at H; exact H) | (simp only [hji12] at H ⊢; exact H)
   have hji12_ : (a1 / 2 ^ min ((rd_T58 l0_1 p1).f1).toNat 64) = ji12:=hji12;have hji12z : ((rd_T58 l0_1 p1).f1) ≤ 64 → (a1 / 2 ^ ((rd_T58 l0_1 p1).f1).toNat) = ji12:=shr_small hji12
   by_cases c13 : (Go.bits .and .i64 (ji12) 1) = 0
   case neg =>
    rw [if_neg c13] at H;have c13b0 : ((Go.bits .and .i64 (ji12) 1) == 0) = false:=beq_eq_false_iff_ne.mpr c13;have c13b1 : ((Go.bits .and .i64 (ji12) 1) != 0) = true:=bne_iff_ne.mpr c13;have H':=zx H;clear H;have p775 : 0 ≤ (p1 : Int):=of_decide_eq_true (by first | (with_reducible assumption) | assumption);have q775 : p1 < (l0_1.length : Int):=of_decide_eq_true (by first | (with_reducible assumption) | assumption);obtain ⟨q3,e775,p7,p8,p9,q0,q1⟩:=at_T58 q6.out p1 p775 q775;cases e775;replace p7:=(HB.out.cell (World.block_lt_of_cell? w _ p7)).trans p7;replace p8:=(HB.out.cell (World.block_lt_of_cell? w _ p8)).trans p8;replace p9:=(HB.out.cell (World.block_lt_of_cell? w _ p9)).trans p9;replace q0:=(HB.out.cell (World.block_lt_of_cell? w _ q0)).trans q0;replace q1:=(HB.out.cell (World.block_lt_of_cell? w _ q1)).trans q1;replace p775:=eq_true p775;replace q775:=eq_true q775
    go_wp2_with (first | ((with_reducible refine gate_dst (N:=7) rfl ?_); refine box_event ?hg (N:=7) ?hd (cs:=#[.int .i64 0,.int .i64 0,.int .i64 0,.int .i64 0,.int .i64 0]) (t:=58) ?hr ?_; (case hd => rfl); (case hg => rfl); (case hr => first | (go_simp; done) | (go_simp; rfl)); intro p4 hg w17 hbox hb; have n0_:=zx (blk_below (g:=p6) (o:=.cells #[.int .i64 a0_0,.slice (some q3) l0_1.length c0_1] 34 (0,0)) p5.out hb); have n1_:=zx (below_step HB.out hb); have n2_:=zx (hbox); have n3_:=zx ((by rw [hg]; exact (below_size HB.out) : w.heap.size ≤ p4)); have n4_:=zx ((by rw [hg]; exact (below_size HB.out) : w.heap.size ≤ p4)); have n5_:=zx ((by rw [hg]; exact Nat.ne_of_lt (blk_lt (g:=p6) (o:=.cells #[.int .i64 a0_0,.slice (some q3) l0_1.length c0_1] 34 (0,0)) p5.out) : p6 ≠ p4)); have n6_:=zx ((by rw [hg]; exact Nat.ne_of_gt (blk_lt (g:=p6) (o:=.cells #[.int .i64 a0_0,.slice (some q3) l0_1.length c0_1] 34 (0,0)) p5.out) : p4 ≠ p6)); clear p5; clear HB; have p5:=n0_; have HB:=n1_; have p3:=n2_; have GW776:=n3_; have q5:=n4_; have p0:=n5_; have q2:=n6_; clear n0_ n1_ n2_ n3_ n4_ n5_ n6_; clear hb hbox hg; have hnb18:=q2.out; have hnc18:=p0.out; have hcz19_0 : w17.cell? ⟨p4,0,none⟩ = some (.int .i64 0):=(blk_cell p3.out 0).trans rfl; have hcz19_1 : w17.cell? ⟨p4,1,none⟩ = some (.int .i64 0):=(blk_cell p3.out 1).trans rfl; have hcz19_2 : w17.cell? ⟨p4,2,none⟩ = some (.int .i64 0):=(blk_cell p3.out 2).trans rfl; have hcz19_3 : w17.cell? ⟨p4,3,none⟩ = some (.int .i64 0):=(blk_cell p3.out 3).trans rfl; have hcz19_4 : w17.cell? ⟨p4,4,none⟩ = some (.int .i64 0):=(blk_cell p3.out 4).trans rfl; have hfz19_0:=blk_frozen p3.out 0; have hfz19_1:=blk_frozen p3.out 1; have hfz19_2:=blk_frozen p3.out 2; have hfz19_3:=blk_frozen p3.out 3; have hfz19_4:=blk_frozen p3.out 4))
    go_roundg k1
    case measure => have:=HK1.out; omega
    case rel => exact ⟨(x5_1),(wrap64 (p1 + 1)),(by first | rfl | (simp; done) | (simp [*]; done)),(by first | rfl | (simp; done) | (simp [*]; done)),H',⟨by have:=HK1.out; omega⟩,⟨by (with_reducible repeat (first | refine blk_drewN ?_ _ | refine blk_drew ?_ | refine blk_alloc ?_ _)); refine blk_far ?_ p0.out _; (with_reducible repeat (first | refine blk_drewN ?_ _ | refine blk_drew ?_ | refine blk_alloc ?_ _)); refine blk_far ?_ p0.out _; (with_reducible repeat (first | refine blk_drewN ?_ _ | refine blk_drew ?_ | refine blk_alloc ?_ _)); refine blk_far ?_ p0.out _; (with_reducible repeat (first | refine blk_drewN ?_ _ | refine blk_drew ?_ | refine blk_alloc ?_ _)); refine blk_far ?_ p0.out _; (with_reducible repeat (first | refine blk_drewN ?_ _ | refine blk_drew ?_ | refine blk_alloc ?_ _)); refine blk_far ?_ p0.out _; (with_reducible repeat (first | refine blk_drewN ?_ _ | refine blk_drew ?_ | refine blk_alloc ?_ _)); exact p5.out⟩,⟨by repeat (first | (with_reducible first | exact HB.out | apply below_alloc | apply pw_below_drewN | apply below_drew1 | refine below_set ?_ q4.out | refine below_set ?_ q5.out) | exact HB.out)⟩⟩
   rw [if_pos c13] at H;have c13b0 : ((Go.bits .and .i64 (ji12) 1) == 0) = true:=beq_iff_eq.mpr c13;have c13b1 : ((Go.bits .and .i64 (ji12) 1) != 0) = false:=bne_eq_false_iff_eq.mpr c13;clear c13;have H':=zx H;clear H;have p775 : 0 ≤ (p1 : Int):=of_decide_eq_true (by first | (with_reducible assumption) | assumption);have q775 : p1 < (l0_1.length : Int):=of_decide_eq_true (by first | (with_reducible assumption) | assumption);obtain ⟨q3,e775,p7,p8,p9,q0,q1⟩:=at_T58 q6.out p1 p775 q775;cases e775;replace p7:=(HB.out.cell (World.block_lt_of_cell? w _ p7)).trans p7;replace p8:=(HB.out.cell (World.block_lt_of_cell? w _ p8)).trans p8;replace p9:=(HB.out.cell (World.block_lt_of_cell? w _ p9)).trans p9;replace q0:=(HB.out.cell (World.block_lt_of_cell? w _ q0)).trans q0;replace q1:=(HB.out.cell (World.block_lt_of_cell? w _ q1)).trans q1;replace p775:=eq_true p775;replace q775:=eq_true q775
   go_wp2_with (first | ((with_reducible refine gate_dst (N:=7) rfl ?_); refine box_event ?hg (N:=7) ?hd (cs:=#[.int .i64 0,.int .i64 0,.int .i64 0,.int .i64 0,.int .i64 0]) (t:=58) ?hr ?_; (case hd => rfl); (case hg => rfl); (case hr => first | (go_simp; done) | (go_simp; rfl)); intro p4 hg w14 hbox hb; have n0_:=zx (blk_below (g:=p6) (o:=.cells #[.int .i64 a0_0,.slice (some q3) l0_1.length c0_1] 34 (0,0)) p5.out hb); have n1_:=zx (below_step HB.out hb); have n2_:=zx (hbox); have n3_:=zx ((by rw [hg]; exact (below_size HB.out) : w.heap.size ≤ p4)); have n4_:=zx ((by rw [hg]; exact (below_size HB.out) : w.heap.size ≤ p4)); have n5_:=zx ((by rw [hg]; exact Nat.ne_of_lt (blk_lt (g:=p6) (o:=.cells #[.int .i64 a0_0,.slice (some q3) l0_1.length c0_1] 34 (0,0)) p5.out) : p6 ≠ p4)); have n6_:=zx ((by rw [hg]; exact Nat.ne_of_gt (blk_lt (g:=p6) (o:=.cells #[.int .i64 a0_0,.slice (some q3) l0_1.length c0_1] 34 (0,0)) p5.out) : p4 ≠ p6)); clear p5; clear HB; have p5:=n0_; have HB:=n1_; have p3:=n2_; have GW776:=n3_; have q5:=n4_; have p0:=n5_; have q2:=n6_; clear n0_ n1_ n2_ n3_ n4_ n5_ n6_; clear hb hbox hg; have hnb15:=q2.out; have hnc15:=p0.out; have hcz16_0 : w14.cell? ⟨p4,0,none⟩ = some (.int .i64 0):=(blk_cell p3.out 0).trans rfl; have hcz16_1 : w14.cell? ⟨p4,1,none⟩ = some (.int .i64 0):=(blk_cell p3.out 1).trans rfl; have hcz16_2 : w14.cell? ⟨p4,2,none⟩ = some (.int .i64 0):=(blk_cell p3.out 2).trans rfl; have hcz16_3 : w14.cell? ⟨p4,3,none⟩ = some (.int .i64 0):=(blk_cell p3.out 3).trans rfl; have hcz16_4 : w14.cell? ⟨p4,4,none⟩ = some (.int .i64 0):=(blk_cell p3.out 4).trans rfl; have hfz16_0:=blk_frozen p3.out 0; have hfz16_1:=blk_frozen p3.out 1; have hfz16_2:=blk_frozen p3.out 2; have hfz16_3:=blk_frozen p3.out 3; have hfz16_4:=blk_frozen p3.out 4))
   go_roundg k1
   case measure => have:=HK1.out; omega
   case rel => exact ⟨(wrap64 (x5_1 + ((rd_T58 l0_1 p1).f4))),(wrap64 (p1 + 1)),(by first | rfl | (simp; done) | (simp [*]; done)),(by first | rfl | (simp; done) | (simp [*]; done)),H',⟨by have:=HK1.out; omega⟩,⟨by (with_reducible repeat (first | refine blk_drewN ?_ _ | refine blk_drew ?_ | refine blk_alloc ?_ _)); refine blk_far ?_ p0.out _; (with_reducible repeat (first | refine blk_drewN ?_ _ | refine blk_drew ?_ | refine blk_alloc ?_ _)); refine blk_far ?_ p0.out _; (with_reducible repeat (first | refine blk_drewN ?_ _ | refine blk_drew ?_ | refine blk_alloc ?_ _)); refine blk_far ?_ p0.out _; (with_reducible repeat (first | refine blk_drewN ?_ _ | refine blk_drew ?_ | refine blk_alloc ?_ _)); refine blk_far ?_ p0.out _; (with_reducible repeat (first | refine blk_drewN ?_ _ | refine blk_drew ?_ | refine blk_alloc ?_ _)); refine blk_far ?_ p0.out _; (with_reducible repeat (first | refine blk_drewN ?_ _ | refine blk_drew ?_ | refine blk_alloc ?_ _)); exact p5.out⟩,⟨by repeat (first | (with_reducible first | exact HB.out | apply below_alloc | apply pw_below_drewN | apply below_drew1 | refine below_set ?_ q4.out | refine below_set ?_ q5.out) | exact HB.out)⟩⟩
def impl_FlowMost.l0 : Nat → Int → Int → Int → Int → Int → Int → List (S58) → Option (Int)
 | 0,_,_,_,_,_,_,_ => none
 | k + 1,x1,x2,x7,x16,x17,p4,p5 => if x17 < x16 then (if 0 ≤ x1 then (if (Go.bits .and .i64 (shr .i64 x17 x1) 1) = 1 then (if 0 ≤ x2 then (if (Go.bits .and .i64 (shr .i64 x17 x2) 1) = 0 then (if x7 < 0 then ((impl_Net_cut.f k p4 p5 x17).bind fun t779 => (impl_FlowMost.l0 k x1 x2 t779 x16 (wrap64 (x17 + 1)) p4 p5)) else ((impl_Net_cut.f k p4 p5 x17).bind fun t780 => (if t780 < x7 then ((impl_Net_cut.f k p4 p5 x17).bind fun t781 => (impl_FlowMost.l0 k x1 x2 t781 x16 (wrap64 (x17 + 1)) p4 p5)) else (impl_FlowMost.l0 k x1 x2 x7 x16 (wrap64 (x17 + 1)) p4 p5)))) else (impl_FlowMost.l0 k x1 x2 x7 x16 (wrap64 (x17 + 1)) p4 p5)) else (none)) else (impl_FlowMost.l0 k x1 x2 x7 x16 (wrap64 (x17 + 1)) p4 p5)) else (none)) else (some x7)
def impl_FlowMost.f (k : Nat) (a0_0 : Int) (l0_1 : List (S58)) (a1 : Int) (a2 : Int) : Option (Int):=(impl_apart.f a0_0 l0_1 a1 a2).bind fun t778 => (if t778 = true then (if 0 ≤ a0_0 then (impl_FlowMost.l0 k a1 a2 (-1) (shl .i64 1 a0_0) 0 a0_0 l0_1) else (none)) else (some (-1)))
set_option maxHeartbeats 8000000 in
set_option maxRecDepth 100000 in
theorem impl_FlowMost.calls (k : Nat) (a0_0 : Int) (A0_1 : Option Addr) (c0_1 : Nat) (l0_1 : List (S58)) (a1 : Int) (a2 : Int) (r : Int) (w : World) (hr0_1 : Kd.C k58 w A0_1 l0_1.length l0_1) (hc0_1 : l0_1.length ≤ c0_1) (h : impl_FlowMost.f k a0_0 l0_1 a1 a2 = some r) :
  Calls Try.prog 36 #[.agg #[.int .i64 a0_0,.slice A0_1 l0_1.length c0_1],.int .i64 a1,.int .i64 a2] w fun e w' => e = .returned (.int .i64 r) ∧ Below w.heap.size w w':=by
 have hu34:=Try.underlying34;have p8:=zx hr0_1;have p9:=zx hc0_1;clear hr0_1 hc0_1;have HB:=zx (Below.refl w.heap.size w);have H : ((impl_apart.f a0_0 l0_1 a1 a2).bind fun t778 => (if t778 = true then (if 0 ≤ a0_0 then (impl_FlowMost.l0 k a1 a2 (-1) (shl .i64 1 a0_0) 0 a0_0 l0_1) else (none)) else (some (-1)))) = some r:=h;clear h;replace H:=Option.bind_eq_some_iff.mp H;obtain ⟨t778,A40,H⟩:=H;replace H : (if t778 = true then (if 0 ≤ a0_0 then (impl_FlowMost.l0 k a1 a2 (-1) (shl .i64 1 a0_0) 0 a0_0 l0_1) else (none)) else (some (-1))) = some r:=H;have A4:=zx A40;clear A40
 by_cases c5 : t778 = true
 case neg =>
  replace c5:=Bool.eq_false_iff.mpr c5;subst c5;have H1 : (some (-1)) = some r:=by rw [if_neg (show ¬ (false = true) by decide)] at H; exact H
  clear H;have H:=H1;clear H1;obtain rfl:=Option.some.inj H
  go_enter Try.func36,Try.ntmps36
  go_wp2_with (first | ((with_reducible refine gate_dst (N:=3) rfl ?_); refine box_event ?hg (N:=3) ?hd (cs:=#[.int .i64 a0_0,.slice A0_1 l0_1.length c0_1]) (t:=34) ?hr ?_; (case hd => rfl); (case hg => rfl); (case hr => first | (go_simp; done) | (go_simp; rfl)); intro p3 hg w32 hbox hb; have n0_:=zx (below_step HB.out hb); have n1_:=zx (hbox); have n2_:=zx ((by rw [hg]; exact (below_size HB.out) : w.heap.size ≤ p3)); have n3_:=zx ((by rw [hg]; exact (below_size HB.out) : w.heap.size ≤ p3)); clear HB; have HB:=n0_; have p0:=n1_; have GW777:=n2_; have p7:=n3_; clear n0_ n1_ n2_ n3_; clear hb hbox hg; have hcz33_0 : w32.cell? ⟨p3,0,none⟩ = some (.int .i64 a0_0):=(blk_cell p0.out 0).trans rfl; have hcz33_1 : w32.cell? ⟨p3,1,none⟩ = some (.slice A0_1 l0_1.length c0_1):=(blk_cell p0.out 1).trans rfl; have hfz33_0:=blk_frozen p0.out 0; have hfz33_1:=blk_frozen p0.out 1) | ((with_reducible refine gate_callee (f:=89) rfl ?_); refine goesL_ (some 12) rfl rfl Try.func89 (by kernel_rfl) rfl #[.agg #[.int .i64 a0_0,.slice A0_1 l0_1.length c0_1],.int .i64 a1,.int .i64 a2] rfl (by (try simp only [List.map_toArray,List.map_cons,List.map_nil]); first | done | rfl | (simp only [List.length_drop,List.length_take]; rfl)) ?_; (with_reducible refine (impl_apart.calls a0_0 _ _ l0_1 a1 a2 false _ ?side1 ?side2 A4.out).mono ?_); (case side1 => repeat (first | exact (Kd.C_below p8.out HB.out) | (with_reducible refine Kd.C_alloc ?_ _) | (with_reducible refine Kd.C_drewN ?_ _) | (with_reducible refine Kd.C_drew ?_))); (case side2 => exact p9.out); rintro e w34 ⟨rfl,hb⟩; refine ⟨_,rfl,?_⟩; have n0_:=zx (blk_below (g:=p3) (o:=.cells #[.int .i64 a0_0,.slice A0_1 l0_1.length c0_1] 34 (0,0)) p0.out hb); have n1_:=zx (below_step HB.out hb); clear p0; clear HB; have p0:=n0_; have HB:=n1_; clear n0_ n1_; (try clear hb); (try clear hb2); (try clear hk); (try clear hi)))
  go_ret;exact ⟨by first | rfl | (simp [errW_none,errW_some] <;> rfl) | (simp [*,errW_none,errW_some] <;> rfl),by repeat (first | (with_reducible first | exact HB.out | apply below_alloc | apply pw_below_drewN | apply below_drew1 | refine below_set ?_ p7.out) | exact HB.out)⟩
 subst c5;have H1 : (if 0 ≤ a0_0 then (impl_FlowMost.l0 k a1 a2 (-1) (shl .i64 1 a0_0) 0 a0_0 l0_1) else (none)) = some r:=by rw [if_pos rfl] at H; exact H
 clear H;have H:=H1;clear H1
 by_cases c6 : 0 ≤ a0_0
 case neg =>
  rw [if_neg c6] at H;exact absurd H (by simp)
 rw [if_pos c6] at H;have c6b0:=eq_true c6;have c6b1 : decide (0 ≤ a0_0) = true:=decide_eq_true c6;clear c6;obtain ⟨ji7,hji7⟩ : ∃ j_ : Int,(shl .i64 1 a0_0) = j_:=⟨_,rfl⟩
 replace H : (impl_FlowMost.l0 k a1 a2 (-1) ji7 0 a0_0 l0_1) = some r:=by first | (rw [hji7] at H; exact H) | (simp only [hji7] at H ⊢; exact H)
 (try rw [hji7] at A4)
 have hji7_ : (IntKind.i64.wrap (1 * 2 ^ min a0_0.toNat 64)) = ji7:=hji7;have hji7z : a0_0 ≤ 64 → (IntKind.i64.wrap (1 * 2 ^ a0_0.toNat)) = ji7:=shl_small hji7;have hji7u : (IntKind.i64.wrap (2 ^ min a0_0.toNat 64)) = ji7:=by have h_:=hji7_; rw [Int.one_mul] at h_; exact h_
 have hji7v : a0_0 ≤ 64 → (IntKind.i64.wrap (2 ^ a0_0.toNat)) = ji7:=fun hle_ => by have h_:=hji7z hle_; rw [Int.one_mul] at h_; exact h_
 have hji7y : (wrap64 (1 * 2 ^ min a0_0.toNat 64)) = ji7:=(i64_w _).symm.trans hji7_;have hji7x : a0_0 ≤ 64 → (wrap64 (1 * 2 ^ a0_0.toNat)) = ji7:=fun h_ => (i64_w _).symm.trans (hji7z h_)
 have H':=zx H;clear H
 go_enter Try.func36,Try.ntmps36
 go_wp2_with (first | ((with_reducible refine gate_dst (N:=3) rfl ?_); refine box_event ?hg (N:=3) ?hd (cs:=#[.int .i64 a0_0,.slice A0_1 l0_1.length c0_1]) (t:=34) ?hr ?_; (case hd => rfl); (case hg => rfl); (case hr => first | (go_simp; done) | (go_simp; rfl)); intro p3 hg w8 hbox hb; have n0_:=zx (below_step HB.out hb); have n1_:=zx (hbox); have n2_:=zx ((by rw [hg]; exact (below_size HB.out) : w.heap.size ≤ p3)); have n3_:=zx ((by rw [hg]; exact (below_size HB.out) : w.heap.size ≤ p3)); clear HB; have HB:=n0_; have p0:=n1_; have GW777:=n2_; have p7:=n3_; clear n0_ n1_ n2_ n3_; clear hb hbox hg; have hcz9_0 : w8.cell? ⟨p3,0,none⟩ = some (.int .i64 a0_0):=(blk_cell p0.out 0).trans rfl; have hcz9_1 : w8.cell? ⟨p3,1,none⟩ = some (.slice A0_1 l0_1.length c0_1):=(blk_cell p0.out 1).trans rfl; have hfz9_0:=blk_frozen p0.out 0; have hfz9_1:=blk_frozen p0.out 1) | ((with_reducible refine gate_callee (f:=89) rfl ?_); refine goesL_ (some 12) rfl rfl Try.func89 (by kernel_rfl) rfl #[.agg #[.int .i64 a0_0,.slice A0_1 l0_1.length c0_1],.int .i64 a1,.int .i64 a2] rfl (by (try simp only [List.map_toArray,List.map_cons,List.map_nil]); first | done | rfl | (simp only [List.length_drop,List.length_take]; rfl)) ?_; (with_reducible refine (impl_apart.calls a0_0 _ _ l0_1 a1 a2 true _ ?side1 ?side2 A4.out).mono ?_); (case side1 => repeat (first | exact (Kd.C_below p8.out HB.out) | (with_reducible refine Kd.C_alloc ?_ _) | (with_reducible refine Kd.C_drewN ?_ _) | (with_reducible refine Kd.C_drew ?_))); (case side2 => exact p9.out); rintro e w10 ⟨rfl,hb⟩; refine ⟨_,rfl,?_⟩; have n0_:=zx (blk_below (g:=p3) (o:=.cells #[.int .i64 a0_0,.slice A0_1 l0_1.length c0_1] 34 (0,0)) p0.out hb); have n1_:=zx (below_step HB.out hb); clear p0; clear HB; have p0:=n0_; have HB:=n1_; clear n0_ n1_; (try clear hb); (try clear hb2); (try clear hk); (try clear hi); have q0 : w10.cell? ⟨p3,0,none⟩ = some (.int .i64 a0_0):=(blk_cell p0.out 0).trans rfl; have q1 : w10.cell? ⟨p3,1,none⟩ = some (.slice A0_1 l0_1.length c0_1):=(blk_cell p0.out 1).trans rfl; have q2:=blk_frozen p0.out 0; have q3:=blk_frozen p0.out 1))
 go_loopg [7,17] k (fun kq v7 v17 w' => ∃ (x7_1 : Int) (p1 : Int),v7 = .int .i64 x7_1 ∧ v17 = .int .i64 p1 ∧ Aside0 (impl_FlowMost.l0 kq a1 a2 x7_1 ji7 p1 a0_0 l0_1 = some r) ∧ Aside0 (kq ≤ k) ∧ Aside0 (w'.heap[p3]? = some (.cells #[.int .i64 a0_0,(.slice A0_1 l0_1.length c0_1)] 34 (0,0))) ∧ Aside0 (Below w.heap.size w w'))
 case atStart => exact ⟨((-1)),(0),(by first | rfl | (simp; done) | (simp [*]; done)),(by first | rfl | (simp; done) | (simp [*]; done)),H',⟨Nat.le_refl _⟩,⟨by (with_reducible repeat (first | refine blk_drewN ?_ _ | refine blk_drew ?_ | refine blk_alloc ?_ _)); exact p0.out⟩,⟨by repeat (first | (with_reducible first | exact HB.out | apply below_alloc | apply pw_below_drewN | apply below_drew1 | refine below_set ?_ p7.out) | exact HB.out)⟩⟩
 case round =>
  clear H'
  try clear p2
  try clear c3
  try clear c5
  try clear c6
  try clear c6b0
  try clear c6b1
  try clear p6
  try clear c8
  try clear q0
  try clear q1
  try clear hcz9_0
  try clear hcz9_1
  try clear q2
  try clear q3
  try clear hfz9_0
  try clear hfz9_1
  obtain ⟨x7_1,p1,rfl,rfl,HA,HK1,p0,HB⟩:=hrel;cases gk with
  | zero => exact absurd HA.out (by simp [impl_FlowMost.l0])
  | succ k1 =>
   have H:=HA.out;clear HA;simp only [impl_FlowMost.l0] at H
   by_cases c12 : p1 < ji7
   case neg =>
    rw [if_neg c12] at H;have c12b0 : decide (p1 < ji7) = false:=decide_eq_false c12;clear c12;obtain rfl:=Option.some.inj H
    go_wp2
    go_ret;exact ⟨by first | rfl | (simp [errW_none,errW_some] <;> rfl) | (simp only [← hji7]; first | rfl | (simp [errW_none,errW_some] <;> rfl)) | (simp [*,errW_none,errW_some] <;> rfl),by repeat (first | (with_reducible first | exact HB.out | apply below_alloc | apply pw_below_drewN | apply below_drew1 | refine below_set ?_ p7.out) | exact HB.out)⟩
   rw [if_pos c12] at H;have c12b0 : decide (p1 < ji7) = true:=decide_eq_true c12;clear c12
   by_cases c13 : 0 ≤ a1
   case neg =>
    rw [if_neg c13] at H;exact absurd H (by simp)
   rw [if_pos c13] at H;have c13b0:=eq_true c13;have c13b1 : decide (0 ≤ a1) = true:=decide_eq_true c13;clear c13;obtain ⟨ji14,hji14⟩ : ∃ j_ : Int,(shr .i64 p1 a1) = j_:=⟨_,rfl⟩
   replace H : (if (Go.bits .and .i64 (ji14) 1) = 1 then (if 0 ≤ a2 then (if (Go.bits .and .i64 (shr .i64 p1 a2) 1) = 0 then (if x7_1 < 0 then ((impl_Net_cut.f k1 a0_0 l0_1 p1).bind fun t779 => (impl_FlowMost.l0 k1 a1 a2 t779 ji7 (wrap64 (p1 + 1)) a0_0 l0_1)) else ((impl_Net_cut.f k1 a0_0 l0_1 p1).bind fun t780 => (if t780 < x7_1 then ((impl_Net_cut.f k1 a0_0 l0_1 p1).bind fun t781 => (impl_FlowMost.l0 k1 a1 a2 t781 ji7 (wrap64 (p1 + 1)) a0_0 l0_1)) else (impl_FlowMost.l0 k1 a1 a2 x7_1 ji7 (wrap64 (p1 + 1)) a0_0 l0_1)))) else (impl_FlowMost.l0 k1 a1 a2 x7_1 ji7 (wrap64 (p1 + 1)) a0_0 l0_1)) else (none)) else (impl_FlowMost.l0 k1 a1 a2 x7_1 ji7 (wrap64 (p1 + 1)) a0_0 l0_1)) = some r:=by first | (rw [hji14] at H; exact H) | (simp only [hji14] at H ⊢; exact H)
   have hji14_ : (p1 / 2 ^ min a1.toNat 64) = ji14:=hji14;have hji14z : a1 ≤ 64 → (p1 / 2 ^ a1.toNat) = ji14:=shr_small hji14
   by_cases c15 : (Go.bits .and .i64 (ji14) 1) = 1
   case neg =>
    rw [if_neg c15] at H;have c15b0 : ((Go.bits .and .i64 (ji14) 1) == 1) = false:=beq_eq_false_iff_ne.mpr c15;have c15b1 : ((Go.bits .and .i64 (ji14) 1) != 1) = true:=bne_iff_ne.mpr c15;have H':=zx H;clear H
    go_wp2
    go_roundg k1
    case measure => have:=HK1.out; omega
    case rel => exact ⟨(x7_1),(wrap64 (p1 + 1)),(by first | rfl | (simp; done) | (simp [*]; done)),(by first | rfl | (simp; done) | (simp [*]; done)),H',⟨by have:=HK1.out; omega⟩,⟨by (with_reducible repeat (first | refine blk_drewN ?_ _ | refine blk_drew ?_ | refine blk_alloc ?_ _)); exact p0.out⟩,⟨by repeat (first | (with_reducible first | exact HB.out | apply below_alloc | apply pw_below_drewN | apply below_drew1 | refine below_set ?_ p7.out) | exact HB.out)⟩⟩
   rw [if_pos c15] at H;have c15b0 : ((Go.bits .and .i64 (ji14) 1) == 1) = true:=beq_iff_eq.mpr c15;have c15b1 : ((Go.bits .and .i64 (ji14) 1) != 1) = false:=bne_eq_false_iff_eq.mpr c15;clear c15
   by_cases c16 : 0 ≤ a2
   case neg =>
    rw [if_neg c16] at H;exact absurd H (by simp)
   rw [if_pos c16] at H;have c16b0:=eq_true c16;have c16b1 : decide (0 ≤ a2) = true:=decide_eq_true c16;clear c16;obtain ⟨ji17,hji17⟩ : ∃ j_ : Int,(shr .i64 p1 a2) = j_:=⟨_,rfl⟩
   replace H : (if (Go.bits .and .i64 (ji17) 1) = 0 then (if x7_1 < 0 then ((impl_Net_cut.f k1 a0_0 l0_1 p1).bind fun t779 => (impl_FlowMost.l0 k1 a1 a2 t779 ji7 (wrap64 (p1 + 1)) a0_0 l0_1)) else ((impl_Net_cut.f k1 a0_0 l0_1 p1).bind fun t780 => (if t780 < x7_1 then ((impl_Net_cut.f k1 a0_0 l0_1 p1).bind fun t781 => (impl_FlowMost.l0 k1 a1 a2 t781 ji7 (wrap64 (p1 + 1)) a0_0 l0_1)) else (impl_FlowMost.l0 k1 a1 a2 x7_1 ji7 (wrap64 (p1 + 1)) a0_0 l0_1)))) else (impl_FlowMost.l0 k1 a1 a2 x7_1 ji7 (wrap64 (p1 + 1)) a0_0 l0_1)) = some r:=by first | (rw [hji17] at H; exact H) | (simp only [hji17] at H ⊢; exact H)
   have hji17_ : (p1 / 2 ^ min a2.toNat 64) = ji17:=hji17;have hji17z : a2 ≤ 64 → (p1 / 2 ^ a2.toNat) = ji17:=shr_small hji17
   by_cases c18 : (Go.bits .and .i64 (ji17) 1) = 0
   case neg =>
    rw [if_neg c18] at H;have c18b0 : ((Go.bits .and .i64 (ji17) 1) == 0) = false:=beq_eq_false_iff_ne.mpr c18;have c18b1 : ((Go.bits .and .i64 (ji17) 1) != 0) = true:=bne_iff_ne.mpr c18;have H':=zx H;clear H
    go_wp2
    go_roundg k1
    case measure => have:=HK1.out; omega
    case rel => exact ⟨(x7_1),(wrap64 (p1 + 1)),(by first | rfl | (simp; done) | (simp [*]; done)),(by first | rfl | (simp; done) | (simp [*]; done)),H',⟨by have:=HK1.out; omega⟩,⟨by (with_reducible repeat (first | refine blk_drewN ?_ _ | refine blk_drew ?_ | refine blk_alloc ?_ _)); exact p0.out⟩,⟨by repeat (first | (with_reducible first | exact HB.out | apply below_alloc | apply pw_below_drewN | apply below_drew1 | refine below_set ?_ p7.out) | exact HB.out)⟩⟩
   rw [if_pos c18] at H;have c18b0 : ((Go.bits .and .i64 (ji17) 1) == 0) = true:=beq_iff_eq.mpr c18;have c18b1 : ((Go.bits .and .i64 (ji17) 1) != 0) = false:=bne_eq_false_iff_eq.mpr c18;clear c18
   by_cases c19 : x7_1 < 0
   case pos =>
    rw [if_pos c19] at H;have c19b0 : decide (x7_1 < 0) = true:=decide_eq_true c19;clear c19;replace H:=Option.bind_eq_some_iff.mp H;obtain ⟨t779,A200,H⟩:=H;replace H : (impl_FlowMost.l0 k1 a1 a2 t779 ji7 (wrap64 (p1 + 1)) a0_0 l0_1) = some r:=H;have A20:=zx A200;clear A200;have H':=zx H;clear H;have hcz21_0 : wr.cell? ⟨p3,0,none⟩ = some (.int .i64 a0_0):=(blk_cell p0.out 0).trans rfl;have hcz21_1 : wr.cell? ⟨p3,1,none⟩ = some (.slice A0_1 l0_1.length c0_1):=(blk_cell p0.out 1).trans rfl;have hfz21_0:=blk_frozen p0.out 0;have hfz21_1:=blk_frozen p0.out 1
    go_wp2_with (first | ((with_reducible refine gate_callee (f:=92) rfl ?_); refine goesL_ (some 45) rfl rfl Try.func92 (by kernel_rfl) rfl #[.agg #[.int .i64 a0_0,.slice A0_1 l0_1.length c0_1],.int .i64 p1] rfl (by (try simp only [List.map_toArray,List.map_cons,List.map_nil]); first | done | rfl | (simp only [List.length_drop,List.length_take]; rfl)) ?_; (with_reducible refine (impl_Net_cut.calls k1 a0_0 _ _ l0_1 p1 t779 _ ?side1 ?side2 A20.out).mono ?_); (case side1 => repeat (first | exact (Kd.C_below p8.out HB.out) | (with_reducible refine Kd.C_alloc ?_ _) | (with_reducible refine Kd.C_drewN ?_ _) | (with_reducible refine Kd.C_drew ?_))); (case side2 => exact p9.out); rintro e w22 ⟨rfl,hb⟩; refine ⟨_,rfl,?_⟩; have n0_:=zx (blk_below (g:=p3) (o:=.cells #[.int .i64 a0_0,.slice A0_1 l0_1.length c0_1] 34 (0,0)) p0.out hb); have n1_:=zx (below_step HB.out hb); clear p0; clear HB; have p0:=n0_; have HB:=n1_; clear n0_ n1_; (try clear hb); (try clear hb2); (try clear hk); (try clear hi)))
    go_roundg k1
    case measure => have:=HK1.out; omega
    case rel => exact ⟨(t779),(wrap64 (p1 + 1)),(by first | rfl | (simp; done) | (simp [*]; done)),(by first | rfl | (simp; done) | (simp [*]; done)),H',⟨by have:=HK1.out; omega⟩,⟨by (with_reducible repeat (first | refine blk_drewN ?_ _ | refine blk_drew ?_ | refine blk_alloc ?_ _)); exact p0.out⟩,⟨by repeat (first | (with_reducible first | exact HB.out | apply below_alloc | apply pw_below_drewN | apply below_drew1 | refine below_set ?_ p7.out) | exact HB.out)⟩⟩
   rw [if_neg c19] at H;have c19b0 : decide (x7_1 < 0) = false:=decide_eq_false c19;clear c19;replace H:=Option.bind_eq_some_iff.mp H;obtain ⟨t780,A230,H⟩:=H;replace H : (if t780 < x7_1 then ((impl_Net_cut.f k1 a0_0 l0_1 p1).bind fun t781 => (impl_FlowMost.l0 k1 a1 a2 t781 ji7 (wrap64 (p1 + 1)) a0_0 l0_1)) else (impl_FlowMost.l0 k1 a1 a2 x7_1 ji7 (wrap64 (p1 + 1)) a0_0 l0_1)) = some r:=H;have A23:=zx A230;clear A230
   by_cases c24 : t780 < x7_1
   case neg =>
    rw [if_neg c24] at H;have c24b0 : decide (t780 < x7_1) = false:=decide_eq_false c24;clear c24;have H':=zx H;clear H;have hcz30_0 : wr.cell? ⟨p3,0,none⟩ = some (.int .i64 a0_0):=(blk_cell p0.out 0).trans rfl;have hcz30_1 : wr.cell? ⟨p3,1,none⟩ = some (.slice A0_1 l0_1.length c0_1):=(blk_cell p0.out 1).trans rfl;have hfz30_0:=blk_frozen p0.out 0;have hfz30_1:=blk_frozen p0.out 1
    go_wp2_with (first | (go_at_call 92; (with_reducible refine (impl_Net_cut.calls k1 a0_0 _ _ l0_1 p1 t780 _ ?side1 ?side2 A23.out).mono ?_); (case side1 => repeat (first | exact (Kd.C_below p8.out HB.out) | (with_reducible refine Kd.C_alloc ?_ _) | (with_reducible refine Kd.C_drewN ?_ _) | (with_reducible refine Kd.C_drew ?_))); (case side2 => exact p9.out); rintro e w31 ⟨rfl,hb⟩; have n0_:=zx (blk_below (g:=p3) (o:=.cells #[.int .i64 a0_0,.slice A0_1 l0_1.length c0_1] 34 (0,0)) p0.out hb); have n1_:=zx (below_step HB.out hb); clear p0; clear HB; have p0:=n0_; have HB:=n1_; clear n0_ n1_; (try clear hb); (try clear hb2); (try clear hk); (try clear hi)))
    go_roundg k1
    case measure => have:=HK1.out; omega
    case rel => exact ⟨(x7_1),(wrap64 (p1 + 1)),(by first | rfl | (simp; done) | (simp [*]; done)),(by first | rfl | (simp; done) | (simp [*]; done)),H',⟨by have:=HK1.out; omega⟩,⟨by (with_reducible repeat (first | refine blk_drewN ?_ _ | refine blk_drew ?_ | refine blk_alloc ?_ _)); exact p0.out⟩,⟨by repeat (first | (with_reducible first | exact HB.out | apply below_alloc | apply pw_below_drewN | apply below_drew1 | refine below_set ?_ p7.out) | exact HB.out)⟩⟩
   rw [if_pos c24] at H;have c24b0 : decide (t780 < x7_1) = true:=decide_eq_true c24;clear c24;replace H:=Option.bind_eq_some_iff.mp H;obtain ⟨t781,A250,H⟩:=H;replace H : (impl_FlowMost.l0 k1 a1 a2 t781 ji7 (wrap64 (p1 + 1)) a0_0 l0_1) = some r:=H;have A25:=zx A250;clear A250;have H':=zx H;clear H;have hcz26_0 : wr.cell? ⟨p3,0,none⟩ = some (.int .i64 a0_0):=(blk_cell p0.out 0).trans rfl;have hcz26_1 : wr.cell? ⟨p3,1,none⟩ = some (.slice A0_1 l0_1.length c0_1):=(blk_cell p0.out 1).trans rfl;have hfz26_0:=blk_frozen p0.out 0;have hfz26_1:=blk_frozen p0.out 1
   go_wp2_with (first | (go_at_call 92; (with_reducible refine (impl_Net_cut.calls k1 a0_0 _ _ l0_1 p1 t780 _ ?side1 ?side2 A23.out).mono ?_); (case side1 => repeat (first | exact (Kd.C_below p8.out HB.out) | (with_reducible refine Kd.C_alloc ?_ _) | (with_reducible refine Kd.C_drewN ?_ _) | (with_reducible refine Kd.C_drew ?_))); (case side2 => exact p9.out); rintro e w27 ⟨rfl,hb⟩; have n0_:=zx (blk_below (g:=p3) (o:=.cells #[.int .i64 a0_0,.slice A0_1 l0_1.length c0_1] 34 (0,0)) p0.out hb); have n1_:=zx (below_step HB.out hb); clear p0; clear HB; have p0:=n0_; have HB:=n1_; clear n0_ n1_; (try clear hb); (try clear hb2); (try clear hk); (try clear hi); have hcz28_0 : w27.cell? ⟨p3,0,none⟩ = some (.int .i64 a0_0):=(blk_cell p0.out 0).trans rfl; have hcz28_1 : w27.cell? ⟨p3,1,none⟩ = some (.slice A0_1 l0_1.length c0_1):=(blk_cell p0.out 1).trans rfl; have hfz28_0:=blk_frozen p0.out 0; have hfz28_1:=blk_frozen p0.out 1) | ((with_reducible refine gate_callee (f:=92) rfl ?_); refine goesL_ (some 45) rfl rfl Try.func92 (by kernel_rfl) rfl #[.agg #[.int .i64 a0_0,.slice A0_1 l0_1.length c0_1],.int .i64 p1] rfl (by (try simp only [List.map_toArray,List.map_cons,List.map_nil]); first | done | rfl | (simp only [List.length_drop,List.length_take]; rfl)) ?_; (with_reducible refine (impl_Net_cut.calls k1 a0_0 _ _ l0_1 p1 t781 _ ?side1 ?side2 A25.out).mono ?_); (case side1 => repeat (first | exact (Kd.C_below p8.out HB.out) | (with_reducible refine Kd.C_alloc ?_ _) | (with_reducible refine Kd.C_drewN ?_ _) | (with_reducible refine Kd.C_drew ?_))); (case side2 => exact p9.out); rintro e w29 ⟨rfl,hb⟩; refine ⟨_,rfl,?_⟩; have n0_:=zx (blk_below (g:=p3) (o:=.cells #[.int .i64 a0_0,.slice A0_1 l0_1.length c0_1] 34 (0,0)) p0.out hb); have n1_:=zx (below_step HB.out hb); clear p0; clear HB; have p0:=n0_; have HB:=n1_; clear n0_ n1_; (try clear hb); (try clear hb2); (try clear hk); (try clear hi)))
   go_roundg k1
   case measure => have:=HK1.out; omega
   case rel => exact ⟨(t781),(wrap64 (p1 + 1)),(by first | rfl | (simp; done) | (simp [*]; done)),(by first | rfl | (simp; done) | (simp [*]; done)),H',⟨by have:=HK1.out; omega⟩,⟨by (with_reducible repeat (first | refine blk_drewN ?_ _ | refine blk_drew ?_ | refine blk_alloc ?_ _)); exact p0.out⟩,⟨by repeat (first | (with_reducible first | exact HB.out | apply below_alloc | apply pw_below_drewN | apply below_drew1 | refine below_set ?_ p7.out) | exact HB.out)⟩⟩
mutual
def laws_FnFlowValue.j0 : Nat → List Int → Int → Int → Int → Bool → Int → Bool → Bool → Int → List (S58) → Option (Bool)
 | 0,_,_,_,_,_,_,_,_,_,_ => none
 | k + 1,x4,x5,x6,x7,x8,x9,x10,x50,x792000,x792001 => if x50 = true then (if (x8 == x10) = true then (some (x7 == x9)) else (some false)) else (laws_FnFlowValue.l0 k x4 x5 x6 x7 0 0 x792000 x792001)
def laws_FnFlowValue.l0 : Nat → List Int → Int → Int → Int → Int → Int → Int → List (S58) → Option (Bool)
 | 0,_,_,_,_,_,_,_,_ => none
 | k + 1,x4,x5,x6,x7,x11,x12,x792000,x792001 => if x12 < (x4.length : Int) then (if 0 ≤ x12 then (if x12 < (x792001.length : Int) then (if ((rd_T58 x792001 x12).f1) = x6 then (if ((rd_T58 x792001 x12).f0) = x6 then (laws_FnFlowValue.l0 k x4 x5 x6 x7 (wrap64 ((wrap64 (x11 + (rd x4 x12))) - (rd x4 x12))) (wrap64 (x12 + 1)) x792000 x792001) else (laws_FnFlowValue.l0 k x4 x5 x6 x7 (wrap64 (x11 + (rd x4 x12))) (wrap64 (x12 + 1)) x792000 x792001)) else (if ((rd_T58 x792001 x12).f0) = x6 then (laws_FnFlowValue.l0 k x4 x5 x6 x7 (wrap64 (x11 - (rd x4 x12))) (wrap64 (x12 + 1)) x792000 x792001) else (laws_FnFlowValue.l0 k x4 x5 x6 x7 x11 (wrap64 (x12 + 1)) x792000 x792001))) else (none)) else (none)) else (if x11 = x7 then ((impl_FlowMost.f k x792000 x792001 x5 x6).bind fun t796 => (some (decide (x7 ≤ t796)))) else (some false))
end
def laws_FnFlowValue.f (k : Nat) (l0 : List Int) : Option (Bool):=if (l0.length : Int) > 1048576 then (some true) else ((spec_DrawFlowValue.f k l0).bind fun bt782 => ((impl_FlowValue.f k bt782.1 bt782.2.1 bt782.2.2.1 bt782.2.2.2.1 bt782.2.2.2.2).bind fun bt792 => ((spec_FlowValue.f k bt782.1 bt782.2.1 bt782.2.2.1 bt782.2.2.2.1 bt782.2.2.2.2).bind fun bt794 => (if (bt792.2 != bt794.2) = true then (laws_FnFlowValue.j0 k bt782.2.2.1 bt782.2.2.2.1 bt782.2.2.2.2 bt792.1 bt792.2 bt794.1 bt794.2 true bt782.1 bt782.2.1) else (if bt792.1 = bt794.1 then (laws_FnFlowValue.j0 k bt782.2.2.1 bt782.2.2.2.1 bt782.2.2.2.2 bt792.1 bt792.2 bt794.1 bt794.2 (!bt792.2) bt782.1 bt782.2.1) else (laws_FnFlowValue.j0 k bt782.2.2.1 bt782.2.2.2.1 bt782.2.2.2.2 bt792.1 bt792.2 bt794.1 bt794.2 true bt782.1 bt782.2.1))))))
set_option maxHeartbeats 8000000 in
set_option maxRecDepth 100000 in
theorem laws_FnFlowValue.calls (k : Nat) (A0 : Option Addr) (c0 : Nat) (l0 : List Int) (r : Bool) (w : World) (hr0 : Kd.C (Kd.int .u8) w A0 l0.length l0) (hc0 : l0.length ≤ c0) (h : laws_FnFlowValue.f k l0 = some r) :
  Calls Try.prog 6 #[.slice A0 l0.length c0] w fun e w' => e = .returned (.bool r) ∧ Below w.heap.size w w':=by
 have hu34:=Try.underlying34;have HR0:=zx hr0;have HC0:=zx hc0;clear hr0 hc0;have HB:=zx (Below.refl w.heap.size w);have H : (if (l0.length : Int) > 1048576 then (some true) else ((spec_DrawFlowValue.f k l0).bind fun bt782 => ((impl_FlowValue.f k bt782.1 bt782.2.1 bt782.2.2.1 bt782.2.2.2.1 bt782.2.2.2.2).bind fun bt792 => ((spec_FlowValue.f k bt782.1 bt782.2.1 bt782.2.2.1 bt782.2.2.2.1 bt782.2.2.2.2).bind fun bt794 => (if (bt792.2 != bt794.2) = true then (laws_FnFlowValue.j0 k bt782.2.2.1 bt782.2.2.2.1 bt782.2.2.2.2 bt792.1 bt792.2 bt794.1 bt794.2 true bt782.1 bt782.2.1) else (if bt792.1 = bt794.1 then (laws_FnFlowValue.j0 k bt782.2.2.1 bt782.2.2.2.1 bt782.2.2.2.2 bt792.1 bt792.2 bt794.1 bt794.2 (!bt792.2) bt782.1 bt782.2.1) else (laws_FnFlowValue.j0 k bt782.2.2.1 bt782.2.2.2.1 bt782.2.2.2.2 bt792.1 bt792.2 bt794.1 bt794.2 true bt782.1 bt782.2.1))))))) = some r:=h;clear h
 by_cases c2 : (l0.length : Int) > 1048576
 case pos =>
  rw [if_pos c2] at H;have c2b0 : decide (1048576 < (l0.length : Int)) = true:=decide_eq_true c2;have c2b1 : decide (1048576 < l0.length) = true:=decide_eq_true (by omega);clear c2;obtain rfl:=Option.some.inj H
  go_enter Try.func6,Try.ntmps6
  go_wp2
  go_ret;exact ⟨by first | rfl | (simp [errW_none,errW_some] <;> rfl) | (simp [*,errW_none,errW_some] <;> rfl),by repeat (first | (with_reducible first | exact HB.out | apply below_alloc | apply pw_below_drewN | apply below_drew1) | exact HB.out)⟩
 rw [if_neg c2] at H;have c2b0 : decide (1048576 < (l0.length : Int)) = false:=decide_eq_false c2;have c2b1 : decide (1048576 < l0.length) = false:=decide_eq_false (by omega);clear c2;replace H:=Option.bind_eq_some_iff.mp H;obtain ⟨⟨t782,t783,t786,t789,t790⟩,A30,H⟩:=H;replace H : ((impl_FlowValue.f k t782 t783 t786 t789 t790).bind fun bt792 => ((spec_FlowValue.f k t782 t783 t786 t789 t790).bind fun bt794 => (if (bt792.2 != bt794.2) = true then (laws_FnFlowValue.j0 k t786 t789 t790 bt792.1 bt792.2 bt794.1 bt794.2 true t782 t783) else (if bt792.1 = bt794.1 then (laws_FnFlowValue.j0 k t786 t789 t790 bt792.1 bt792.2 bt794.1 bt794.2 (!bt792.2) t782 t783) else (laws_FnFlowValue.j0 k t786 t789 t790 bt792.1 bt792.2 bt794.1 bt794.2 true t782 t783))))) = some r:=H;have A3:=zx A30;clear A30;replace H:=Option.bind_eq_some_iff.mp H;obtain ⟨⟨t792,t793⟩,A40,H⟩:=H;replace H : ((spec_FlowValue.f k t782 t783 t786 t789 t790).bind fun bt794 => (if (t793 != bt794.2) = true then (laws_FnFlowValue.j0 k t786 t789 t790 t792 t793 bt794.1 bt794.2 true t782 t783) else (if t792 = bt794.1 then (laws_FnFlowValue.j0 k t786 t789 t790 t792 t793 bt794.1 bt794.2 (!t793) t782 t783) else (laws_FnFlowValue.j0 k t786 t789 t790 t792 t793 bt794.1 bt794.2 true t782 t783)))) = some r:=H;have A4:=zx A40;clear A40;replace H:=Option.bind_eq_some_iff.mp H;obtain ⟨⟨t794,t795⟩,A50,H⟩:=H;replace H : (if (t793 != t795) = true then (laws_FnFlowValue.j0 k t786 t789 t790 t792 t793 t794 t795 true t782 t783) else (if t792 = t794 then (laws_FnFlowValue.j0 k t786 t789 t790 t792 t793 t794 t795 (!t793) t782 t783) else (laws_FnFlowValue.j0 k t786 t789 t790 t792 t793 t794 t795 true t782 t783))) = some r:=H;have A5:=zx A50;clear A50;have HC6:=zx H;clear H
 go_enter Try.func6,Try.ntmps6
 go_upto_region 6 with (first | ((with_reducible refine gate_callee (f:=33) rfl ?_); refine goesL_ (some 18) rfl rfl Try.func33 (by kernel_rfl) rfl #[.slice A0 l0.length c0] rfl (by (try simp only [List.map_toArray,List.map_cons,List.map_nil]); first | done | rfl | (simp only [List.length_drop,List.length_take]; rfl)) ?_; (with_reducible refine (spec_DrawFlowValue.calls k _ _ l0 t782 t783 t786 t789 t790 _ ?side1 ?side2 A3.out).mono ?_); (case side1 => repeat (first | exact HR0.out | (with_reducible refine Kd.C_alloc ?_ _) | (with_reducible refine Kd.C_drewN ?_ _) | (with_reducible refine Kd.C_drew ?_))); (case side2 => exact HC0.out); rintro e w7 ⟨v784,v787,rfl,ho0,ho1,hb⟩; refine ⟨_,rfl,?_⟩; have n0_:=zx (Kd.R_lower ho0 (below_size (by repeat (first | (with_reducible first | exact HB.out | apply below_alloc | apply pw_below_drewN | apply below_drew1) | exact HB.out)))); have n1_:=zx (Kd.R_lower ho1 (below_size (by repeat (first | (with_reducible first | exact HB.out | apply below_alloc | apply pw_below_drewN | apply below_drew1) | exact HB.out)))); have n2_:=zx (below_step (by repeat (first | (with_reducible first | exact HB.out | apply below_alloc | apply pw_below_drewN | apply below_drew1) | exact HB.out)) hb); clear HB; have HO785:=n0_; have HO788:=n1_; have HB:=n2_; clear n0_ n1_ n2_; (try clear hb); (try clear hb2); (try clear hk); (try clear hi); (try clear ho0); (try clear ho1)) | ((with_reducible refine gate_dst (N:=3) rfl ?_); refine box_event ?hg (N:=3) ?hd (cs:=#[.int .i64 0,.slice none 0 0]) (t:=34) ?hr ?_; (case hd => rfl); (case hg => rfl); (case hr => first | (go_simp; done) | (go_simp; rfl)); intro gb791 hg w8 hbox hb; have n0_:=zx (Kd.R_below (by (with_reducible repeat (first | apply Kd.R_alloc | apply Kd.R_drewN | apply Kd.R_drew)); exact HO785.out) hb); have n1_:=zx (Kd.R_below (by (with_reducible repeat (first | apply Kd.R_alloc | apply Kd.R_drewN | apply Kd.R_drew)); exact HO788.out) hb); have n2_:=zx (below_step (by repeat (first | (with_reducible first | exact HB.out | apply below_alloc | apply pw_below_drewN | apply below_drew1) | exact HB.out)) hb); have n3_:=zx (hbox); have n4_:=zx ((by rw [hg]; exact (below_size (by repeat (first | (with_reducible first | exact HB.out | apply below_alloc | apply pw_below_drewN | apply below_drew1) | exact HB.out))) : w.heap.size ≤ gb791)); have n5_:=zx ((by rw [hg]; exact (below_size (by repeat (first | (with_reducible first | exact HB.out | apply below_alloc | apply pw_below_drewN | apply below_drew1) | exact HB.out))) : w.heap.size ≤ gb791)); clear HO785; clear HO788; clear HB; have HO785:=n0_; have HO788:=n1_; have HB:=n2_; have BK791:=n3_; have GW791:=n4_; have GE791:=n5_; clear n0_ n1_ n2_ n3_ n4_ n5_; clear hb hbox hg; have hcz9_0 : w8.cell? ⟨gb791,0,none⟩ = some (.int .i64 0):=(blk_cell BK791.out 0).trans rfl; have hcz9_1 : w8.cell? ⟨gb791,1,none⟩ = some (.slice none 0 0):=(blk_cell BK791.out 1).trans rfl; have hfz9_0:=blk_frozen BK791.out 0; have hfz9_1:=blk_frozen BK791.out 1; obtain ⟨Ao10,co10,eo10⟩:=Kd.R_slice HO785.out; subst eo10; obtain ⟨Ao11,co11,eo11⟩:=Kd.R_slice HO788.out; subst eo11) | ((with_reducible refine gate_callee (f:=34) rfl ?_); refine goesL_ (some 28) rfl rfl Try.func34 (by kernel_rfl) rfl #[.agg #[.int .i64 t782,.slice Ao10 t783.length co10],.slice Ao11 t786.length co11,.int .i64 t789,.int .i64 t790] rfl (by (try simp only [List.map_toArray,List.map_cons,List.map_nil]); first | done | rfl | (simp only [List.length_drop,List.length_take]; rfl)) ?_; (with_reducible refine (impl_FlowValue.calls k t782 _ _ t783 _ _ t786 t789 t790 t792 t793 _ ?side1 ?side2 ?side3 ?side4 A4.out).mono ?_); (case side1 => refine (Kd.R_reads' (e:=58) (base:=w.heap.size) (ok:=fun k_ => True) (n:=t783.length) (c:=co10) ?_).2.2; exact (by (with_reducible repeat (first | apply Kd.R_alloc | apply Kd.R_drewN | apply Kd.R_drew)); exact (Kd.R_mono (Kd.R_far (p:=⟨gb791,1,none⟩) (Kd.R_far (p:=⟨gb791,0,none⟩) (Kd.R_types HO785.out BK791.out (by decide)) (fun _ hk => hk.2) (.int .i64 t782)) (fun _ hk => hk.2) (.slice Ao10 t783.length co10)) (fun _ h_ => h_.1)))); (case side2 => exact (Kd.R_reads' HO785.out).2.1); (case side3 => refine (Kd.R_reads' (e:=3) (base:=w.heap.size) (ok:=fun k_ => True) (n:=t786.length) (c:=co11) ?_).2.2; exact (by (with_reducible repeat (first | apply Kd.R_alloc | apply Kd.R_drewN | apply Kd.R_drew)); exact (Kd.R_mono (Kd.R_far (p:=⟨gb791,1,none⟩) (Kd.R_far (p:=⟨gb791,0,none⟩) (Kd.R_types HO788.out BK791.out (by decide)) (fun _ hk => hk.2) (.int .i64 t782)) (fun _ hk => hk.2) (.slice Ao10 t783.length co10)) (fun _ h_ => h_.1)))); (case side4 => exact (Kd.R_reads' HO788.out).2.1); rintro e w12 ⟨rfl,hb⟩; refine ⟨_,rfl,?_⟩; have n0_:=zx (Kd.R_below (by (with_reducible repeat (first | apply Kd.R_alloc | apply Kd.R_drewN | apply Kd.R_drew)); exact (Kd.R_mono (Kd.R_far (p:=⟨gb791,1,none⟩) (Kd.R_far (p:=⟨gb791,0,none⟩) (Kd.R_types HO785.out BK791.out (by decide)) (fun _ hk => hk.2) (.int .i64 t782)) (fun _ hk => hk.2) (.slice Ao10 t783.length co10)) (fun _ h_ => h_.1))) hb); have n1_:=zx (Kd.R_below (by (with_reducible repeat (first | apply Kd.R_alloc | apply Kd.R_drewN | apply Kd.R_drew)); exact (Kd.R_mono (Kd.R_far (p:=⟨gb791,1,none⟩) (Kd.R_far (p:=⟨gb791,0,none⟩) (Kd.R_types HO788.out BK791.out (by decide)) (fun _ hk => hk.2) (.int .i64 t782)) (fun _ hk => hk.2) (.slice Ao10 t783.length co10)) (fun _ h_ => h_.1))) hb); have n2_:=zx (blk_below (g:=gb791) (o:=.cells #[.int .i64 t782,.slice Ao10 t783.length co10] 34 (0,0)) (by (with_reducible repeat (first | refine blk_drewN ?_ _ | refine blk_drew ?_ | refine blk_alloc ?_ _)); refine blk_put (cs:=#[.int .i64 t782,.slice none 0 0]) ?_ 1 _ rfl; (with_reducible repeat (first | refine blk_drewN ?_ _ | refine blk_drew ?_ | refine blk_alloc ?_ _)); refine blk_put (cs:=#[.int .i64 0,.slice none 0 0]) ?_ 0 _ rfl; (with_reducible repeat (first | refine blk_drewN ?_ _ | refine blk_drew ?_ | refine blk_alloc ?_ _)); exact BK791.out) hb); have n3_:=zx (below_step (by repeat (first | (with_reducible first | exact HB.out | apply below_alloc | apply pw_below_drewN | apply below_drew1 | refine below_set ?_ GE791.out) | exact HB.out)) hb); clear HO785; clear HO788; clear BK791; clear HB; have HO785:=n0_; have HO788:=n1_; have BK791:=n2_; have HB:=n3_; clear n0_ n1_ n2_ n3_; (try clear hb); (try clear hb2); (try clear hk); (try clear hi); have hcz13_0 : w12.cell? ⟨gb791,0,none⟩ = some (.int .i64 t782):=(blk_cell BK791.out 0).trans rfl; have hcz13_1 : w12.cell? ⟨gb791,1,none⟩ = some (.slice Ao10 t783.length co10):=(blk_cell BK791.out 1).trans rfl; have hfz13_0:=blk_frozen BK791.out 0; have hfz13_1:=blk_frozen BK791.out 1) | ((with_reducible refine gate_callee (f:=35) rfl ?_); refine goesL_ (some 36) rfl rfl Try.func35 (by kernel_rfl) rfl #[.agg #[.int .i64 t782,.slice Ao10 t783.length co10],.slice Ao11 t786.length co11,.int .i64 t789,.int .i64 t790] rfl (by (try simp only [List.map_toArray,List.map_cons,List.map_nil]); first | done | rfl | (simp only [List.length_drop,List.length_take]; rfl)) ?_; (with_reducible refine (spec_FlowValue.calls k t782 _ _ t783 _ _ t786 t789 t790 t794 t795 _ ?side1 ?side2 ?side3 ?side4 A5.out).mono ?_); (case side1 => repeat (first | exact (Kd.R_reads' HO785.out).2.2 | (with_reducible refine Kd.C_alloc ?_ _) | (with_reducible refine Kd.C_drewN ?_ _) | (with_reducible refine Kd.C_drew ?_))); (case side2 => exact (Kd.R_reads' HO785.out).2.1); (case side3 => repeat (first | exact (Kd.R_reads' HO788.out).2.2 | (with_reducible refine Kd.C_alloc ?_ _) | (with_reducible refine Kd.C_drewN ?_ _) | (with_reducible refine Kd.C_drew ?_))); (case side4 => exact (Kd.R_reads' HO788.out).2.1); rintro e w14 ⟨rfl,hb⟩; refine ⟨_,rfl,?_⟩; have n0_:=zx (Kd.R_below (by (with_reducible repeat (first | apply Kd.R_alloc | apply Kd.R_drewN | apply Kd.R_drew)); exact HO785.out) hb); have n1_:=zx (Kd.R_below (by (with_reducible repeat (first | apply Kd.R_alloc | apply Kd.R_drewN | apply Kd.R_drew)); exact HO788.out) hb); have n2_:=zx (blk_below (g:=gb791) (o:=.cells #[.int .i64 t782,.slice Ao10 t783.length co10] 34 (0,0)) (by (with_reducible repeat (first | refine blk_drewN ?_ _ | refine blk_drew ?_ | refine blk_alloc ?_ _)); exact BK791.out) hb); have n3_:=zx (below_step (by repeat (first | (with_reducible first | exact HB.out | apply below_alloc | apply pw_below_drewN | apply below_drew1 | refine below_set ?_ GE791.out) | exact HB.out)) hb); clear HO785; clear HO788; clear BK791; clear HB; have HO785:=n0_; have HO788:=n1_; have BK791:=n2_; have HB:=n3_; clear n0_ n1_ n2_ n3_; (try clear hb); (try clear hb2); (try clear hk); (try clear hi)))
 (try simp only [Act.put,U,V,Z])
 go_cut [50] (fun v50 wc => ∃ (kq : Nat) (x50_5 : Bool),v50 = .bool x50_5 ∧ Aside0 (laws_FnFlowValue.j0 kq t786 t789 t790 t792 t793 t794 t795 x50_5 t782 t783 = some r) ∧ Aside0 (kq ≤ k) ∧ Aside0 (Kd.R (Kd.int .i64) 3 wc w.heap.size (fun _ => True) (.slice Ao11 t786.length co11) t786) ∧ Aside0 (Kd.R k58 58 wc w.heap.size (fun _ => True) (.slice Ao10 t783.length co10) t783) ∧ Aside0 (wc.heap[gb791]? = some (.cells #[.int .i64 t782,(.slice Ao10 t783.length co10)] 34 (0,0))) ∧ Aside0 (Below w.heap.size w wc))
 case first =>
  have H:=HC6.out;clear HC6
  by_cases c15 : (t793 != t795) = true
  case pos =>
   rw [if_pos c15] at H;have c15b0 : (t793 != t795) = true:=c15
   (try (have c15b1 : decide (t793 = t795) = false:=by simpa using c15))
   (try (have c15b2 : (t793 == t795) = false:=by simpa using c15))
   (try (have c15b3 : ¬ (t793 = t795):=by simpa using c15))
   clear c15
   (first | rw [c15b0] | (simp only [i64_w,i32_w]; rw [c15b0]) | skip)
   have H':=zx H;clear H
   go_wp2
   go_meet
   case rel => exact ⟨_,(true),(by first | rfl | (simp; done) | (simp [*]; done)),H',⟨by first | omega | exact Nat.le_refl _⟩,⟨by (with_reducible repeat (first | apply Kd.R_alloc | apply Kd.R_drewN | apply Kd.R_drew)); exact HO788.out⟩,⟨by (with_reducible repeat (first | apply Kd.R_alloc | apply Kd.R_drewN | apply Kd.R_drew)); exact HO785.out⟩,⟨by (with_reducible repeat (first | refine blk_drewN ?_ _ | refine blk_drew ?_ | refine blk_alloc ?_ _)); exact BK791.out⟩,⟨by repeat (first | (with_reducible first | exact HB.out | apply below_alloc | apply pw_below_drewN | apply below_drew1 | refine below_set ?_ GE791.out) | exact HB.out)⟩⟩
  rw [if_neg c15] at H;have c15b0 : (t793 != t795) = false:=by simpa using c15
  (try (have c15b1 : decide (t793 = t795) = true:=by simpa using c15))
  (try (have c15b2 : (t793 == t795) = true:=by simpa using c15))
  clear c15
  (first | rw [c15b0] | (simp only [i64_w,i32_w]; rw [c15b0]) | skip)
  by_cases c16 : t792 = t794
  case neg =>
   rw [if_neg c16] at H;have c16b0 : (t792 == t794) = false:=beq_eq_false_iff_ne.mpr c16;have c16b1 : (t792 != t794) = true:=bne_iff_ne.mpr c16;have H':=zx H;clear H
   go_wp2
   go_meet
   case rel => exact ⟨_,(true),(by first | rfl | (simp; done) | (simp [*]; done)),H',⟨by first | omega | exact Nat.le_refl _⟩,⟨by (with_reducible repeat (first | apply Kd.R_alloc | apply Kd.R_drewN | apply Kd.R_drew)); exact HO788.out⟩,⟨by (with_reducible repeat (first | apply Kd.R_alloc | apply Kd.R_drewN | apply Kd.R_drew)); exact HO785.out⟩,⟨by (with_reducible repeat (first | refine blk_drewN ?_ _ | refine blk_drew ?_ | refine blk_alloc ?_ _)); exact BK791.out⟩,⟨by repeat (first | (with_reducible first | exact HB.out | apply below_alloc | apply pw_below_drewN | apply below_drew1 | refine below_set ?_ GE791.out) | exact HB.out)⟩⟩
  rw [if_pos c16] at H;have c16b0 : (t792 == t794) = true:=beq_iff_eq.mpr c16;have c16b1 : (t792 != t794) = false:=bne_eq_false_iff_eq.mpr c16;clear c16;have H':=zx H;clear H
  go_wp2
  go_meet
  case rel => exact ⟨_,(!t793),(by first | rfl | (simp; done) | (simp [*]; done)),H',⟨by first | omega | exact Nat.le_refl _⟩,⟨by (with_reducible repeat (first | apply Kd.R_alloc | apply Kd.R_drewN | apply Kd.R_drew)); exact HO788.out⟩,⟨by (with_reducible repeat (first | apply Kd.R_alloc | apply Kd.R_drewN | apply Kd.R_drew)); exact HO785.out⟩,⟨by (with_reducible repeat (first | refine blk_drewN ?_ _ | refine blk_drew ?_ | refine blk_alloc ?_ _)); exact BK791.out⟩,⟨by repeat (first | (with_reducible first | exact HB.out | apply below_alloc | apply pw_below_drewN | apply below_drew1 | refine below_set ?_ GE791.out) | exact HB.out)⟩⟩
 case rest =>
  clear HC6
  try clear c1
  try clear c2
  try clear c2b0
  try clear c2b1
  try clear p2
  try clear c3
  try clear c6
  try clear c15
  try clear c15b0
  try clear c15b1
  try clear c15b2
  try clear c16
  try clear c16b0
  try clear c16b1
  try clear hcz13_0
  try clear hcz13_1
  try clear hcz9_0
  try clear hcz9_1
  try clear hfz13_0
  try clear hfz13_1
  try clear hfz9_0
  try clear hfz9_1
  obtain ⟨kq,x50_5,rfl,HA,HJ5,HO_4,HO_792001,BK791,HB⟩:=hcut;cases kq with
  | zero => exact absurd HA.out (by simp [laws_FnFlowValue.j0])
  | succ kj5 =>
   have H:=HA.out;clear HA;simp only [laws_FnFlowValue.j0] at H
   by_cases c17 : x50_5 = true
   case pos =>
    subst c17;have H1 : (if (t793 == t795) = true then (some (t792 == t794)) else (some false)) = some r:=by rw [if_pos rfl] at H; exact H
    clear H;have H:=H1;clear H1
    by_cases c18 : (t793 == t795) = true
    case pos =>
     rw [if_pos c18] at H;have c18b0 : (t793 == t795) = true:=c18
     (try (have c18b1 : decide (t793 = t795) = true:=by simpa using c18))
     (try (have c18b2 : (t793 == t795) = true:=by simpa using c18))
     clear c18;obtain rfl:=Option.some.inj H
     go_wp2
     go_ret;exact ⟨by first | rfl | (simp [errW_none,errW_some] <;> rfl) | (simp [*,errW_none,errW_some] <;> rfl),by repeat (first | (with_reducible first | exact HB.out | apply below_alloc | apply pw_below_drewN | apply below_drew1 | refine below_set ?_ GE791.out) | exact HB.out)⟩
    rw [if_neg c18] at H;have c18b0 : (t793 == t795) = false:=by simpa using c18
    (try (have c18b1 : decide (t793 = t795) = false:=by simpa using c18))
    (try (have c18b2 : (t793 == t795) = false:=by simpa using c18))
    (try (have c18b3 : ¬ (t793 = t795):=by simpa using c18))
    clear c18;obtain rfl:=Option.some.inj H
    go_wp2
    go_ret;exact ⟨by first | rfl | (simp [errW_none,errW_some] <;> rfl) | (simp [*,errW_none,errW_some] <;> rfl),by repeat (first | (with_reducible first | exact HB.out | apply below_alloc | apply pw_below_drewN | apply below_drew1 | refine below_set ?_ GE791.out) | exact HB.out)⟩
   replace c17:=Bool.eq_false_iff.mpr c17;subst c17;have H1 : (laws_FnFlowValue.l0 kj5 t786 t789 t790 t792 0 0 t782 t783) = some r:=by rw [if_neg (show ¬ (false = true) by decide)] at H; exact H
   clear H;have H:=H1;clear H1;have H':=zx H;clear H
   go_wp2
   go_loopg [11,12] kj5 (fun kq v11 v12 w' => ∃ (x11_2 : Int) (x12_2 : Int),v11 = .int .i64 x11_2 ∧ v12 = .int .i64 x12_2 ∧ Aside0 (laws_FnFlowValue.l0 kq t786 t789 t790 t792 x11_2 x12_2 t782 t783 = some r) ∧ Aside0 (kq ≤ kj5) ∧ Aside0 (Kd.R (Kd.int .i64) 3 w' w.heap.size (fun _ => True) (.slice Ao11 t786.length co11) t786) ∧ Aside0 (Kd.R k58 58 w' w.heap.size (fun _ => True) (.slice Ao10 t783.length co10) t783) ∧ Aside0 (w'.heap[gb791]? = some (.cells #[.int .i64 t782,(.slice Ao10 t783.length co10)] 34 (0,0))) ∧ Aside0 (Below w.heap.size w w'))
   case atStart => exact ⟨(0),(0),(by first | rfl | (simp; done) | (simp [*]; done)),(by first | rfl | (simp; done) | (simp [*]; done)),H',⟨Nat.le_refl _⟩,⟨by (with_reducible repeat (first | apply Kd.R_alloc | apply Kd.R_drewN | apply Kd.R_drew)); exact HO_4.out⟩,⟨by (with_reducible repeat (first | apply Kd.R_alloc | apply Kd.R_drewN | apply Kd.R_drew)); exact HO_792001.out⟩,⟨by (with_reducible repeat (first | refine blk_drewN ?_ _ | refine blk_drew ?_ | refine blk_alloc ?_ _)); exact BK791.out⟩,⟨by repeat (first | (with_reducible first | exact HB.out | apply below_alloc | apply pw_below_drewN | apply below_drew1 | refine below_set ?_ GE791.out) | exact HB.out)⟩⟩
   case round =>
    clear H'
    try clear c1
    try clear c2
    try clear c2b0
    try clear c2b1
    try clear p2
    try clear c3
    try clear c6
    try clear c15
    try clear c15b0
    try clear c15b1
    try clear c15b2
    try clear c16
    try clear c16b0
    try clear c16b1
    try clear c17
    try clear c18
    try clear c18b0
    try clear c18b1
    try clear c18b2
    try clear hcz13_0
    try clear hcz13_1
    try clear hcz9_0
    try clear hcz9_1
    try clear hfz13_0
    try clear hfz13_1
    try clear hfz9_0
    try clear hfz9_1
    try clear p2
    obtain ⟨x11_2,x12_2,rfl,rfl,HA,HK2,HO_4,HO_792001,BK791,HB⟩:=hrel;cases gk with
    | zero => exact absurd HA.out (by simp [laws_FnFlowValue.l0])
    | succ k2 =>
     have H:=HA.out;clear HA;simp only [laws_FnFlowValue.l0] at H
     by_cases c19 : x12_2 < (t786.length : Int)
     case neg =>
      rw [if_neg c19] at H;have c19b0 : decide (x12_2 < (t786.length : Int)) = false:=decide_eq_false c19;clear c19
      by_cases c29 : x11_2 = t792
      case neg =>
       rw [if_neg c29] at H;have c29b0 : (x11_2 == t792) = false:=beq_eq_false_iff_ne.mpr c29;have c29b1 : (x11_2 != t792) = true:=bne_iff_ne.mpr c29;obtain rfl:=Option.some.inj H
       go_wp2
       go_ret;exact ⟨by first | rfl | (simp [errW_none,errW_some] <;> rfl) | (simp [*,errW_none,errW_some] <;> rfl),by repeat (first | (with_reducible first | exact HB.out | apply below_alloc | apply pw_below_drewN | apply below_drew1 | refine below_set ?_ GE791.out) | exact HB.out)⟩
      rw [if_pos c29] at H;have c29b0 : (x11_2 == t792) = true:=beq_iff_eq.mpr c29;have c29b1 : (x11_2 != t792) = false:=bne_eq_false_iff_eq.mpr c29;clear c29;replace H:=Option.bind_eq_some_iff.mp H;obtain ⟨t796,A300,H⟩:=H;replace H : (some (decide (t792 ≤ t796))) = some r:=H;have A30:=zx A300;clear A300;obtain rfl:=Option.some.inj H;have hcz31_0 : wr.cell? ⟨gb791,0,none⟩ = some (.int .i64 t782):=(blk_cell BK791.out 0).trans rfl;have hcz31_1 : wr.cell? ⟨gb791,1,none⟩ = some (.slice Ao10 t783.length co10):=(blk_cell BK791.out 1).trans rfl;have hfz31_0:=blk_frozen BK791.out 0;have hfz31_1:=blk_frozen BK791.out 1
      go_wp2_with (first | (go_at_call 36; (with_reducible refine (impl_FlowMost.calls k2 t782 _ _ t783 t789 t790 t796 _ ?side1 ?side2 A30.out).mono ?_); (case side1 => repeat (first | exact (Kd.R_reads' HO_792001.out).2.2 | (with_reducible refine Kd.C_alloc ?_ _) | (with_reducible refine Kd.C_drewN ?_ _) | (with_reducible refine Kd.C_drew ?_))); (case side2 => exact (Kd.R_reads' HO_792001.out).2.1); rintro e w32 ⟨rfl,hb⟩; have n0_:=zx (Kd.R_below (by (with_reducible repeat (first | apply Kd.R_alloc | apply Kd.R_drewN | apply Kd.R_drew)); exact HO_4.out) hb); have n1_:=zx (Kd.R_below (by (with_reducible repeat (first | apply Kd.R_alloc | apply Kd.R_drewN | apply Kd.R_drew)); exact HO_792001.out) hb); have n2_:=zx (blk_below (g:=gb791) (o:=.cells #[.int .i64 t782,.slice Ao10 t783.length co10] 34 (0,0)) (by (with_reducible repeat (first | refine blk_drewN ?_ _ | refine blk_drew ?_ | refine blk_alloc ?_ _)); exact BK791.out) hb); have n3_:=zx (below_step (by repeat (first | (with_reducible first | exact HB.out | apply below_alloc | apply pw_below_drewN | apply below_drew1 | refine below_set ?_ GE791.out) | exact HB.out)) hb); clear HO_4; clear HO_792001; clear BK791; clear HB; have HO_4:=n0_; have HO_792001:=n1_; have BK791:=n2_; have HB:=n3_; clear n0_ n1_ n2_ n3_; (try clear hb); (try clear hb2); (try clear hk); (try clear hi)))
      go_ret;exact ⟨by first | rfl | (simp [errW_none,errW_some] <;> rfl) | (simp [*,errW_none,errW_some] <;> rfl),by repeat (first | (with_reducible first | exact HB.out | apply below_alloc | apply pw_below_drewN | apply below_drew1 | refine below_set ?_ GE791.out) | exact HB.out)⟩
     rw [if_pos c19] at H;have c19b0 : decide (x12_2 < (t786.length : Int)) = true:=decide_eq_true c19;clear c19
     by_cases c20 : 0 ≤ x12_2
     case neg =>
      rw [if_neg c20] at H;exact absurd H (by simp)
     rw [if_pos c20] at H;have c20b0 : decide (0 ≤ x12_2) = true:=decide_eq_true c20;clear c20
     by_cases c21 : x12_2 < (t783.length : Int)
     case neg =>
      rw [if_neg c21] at H;exact absurd H (by simp)
     rw [if_pos c21] at H;have c21b0 : decide (x12_2 < (t783.length : Int)) = true:=decide_eq_true c21;clear c21
     by_cases c22 : ((rd_T58 t783 x12_2).f1) = t790
     case neg =>
      rw [if_neg c22] at H;have c22b0 : (((rd_T58 t783 x12_2).f1) == t790) = false:=beq_eq_false_iff_ne.mpr c22;have c22b1 : (((rd_T58 t783 x12_2).f1) != t790) = true:=bne_iff_ne.mpr c22
      by_cases c26 : ((rd_T58 t783 x12_2).f0) = t790
      case neg =>
       rw [if_neg c26] at H;have c26b0 : (((rd_T58 t783 x12_2).f0) == t790) = false:=beq_eq_false_iff_ne.mpr c26;have c26b1 : (((rd_T58 t783 x12_2).f0) != t790) = true:=bne_iff_ne.mpr c26;have H':=zx H;clear H;have hcz28_0 : wr.cell? ⟨gb791,0,none⟩ = some (.int .i64 t782):=(blk_cell BK791.out 0).trans rfl;have hcz28_1 : wr.cell? ⟨gb791,1,none⟩ = some (.slice Ao10 t783.length co10):=(blk_cell BK791.out 1).trans rfl;have hfz28_0:=blk_frozen BK791.out 0;have hfz28_1:=blk_frozen BK791.out 1;have p797 : 0 ≤ (x12_2 : Int):=of_decide_eq_true (by first | (with_reducible assumption) | assumption);have q797 : x12_2 < (t783.length : Int):=of_decide_eq_true (by first | (with_reducible assumption) | assumption);obtain ⟨ad797,e797,hx797_0,hx797_1,hx797_2,hx797_3,hx797_4⟩:=at_T58 (Kd.R_reads' HO_792001.out).2.2 x12_2 p797 q797;cases e797;replace p797:=eq_true p797;replace q797:=eq_true q797;have p801 : 0 ≤ (x12_2 : Int):=of_decide_eq_true (by first | (with_reducible assumption) | assumption);have q801 : x12_2 < (t783.length : Int):=of_decide_eq_true (by first | (with_reducible assumption) | assumption);obtain ⟨ad801,e801,hx801_0,hx801_1,hx801_2,hx801_3,hx801_4⟩:=at_T58 (Kd.R_reads' HO_792001.out).2.2 x12_2 p801 q801;obtain rfl : ad797 = ad801:=(by injection e801)
       replace p801:=eq_true p801;replace q801:=eq_true q801
       go_wp2
       go_roundg k2
       case measure => have:=HJ5.out; have:=HK2.out; omega
       case rel => exact ⟨(x11_2),(wrap64 (x12_2 + 1)),(by first | rfl | (simp; done) | (simp [*]; done)),(by first | rfl | (simp; done) | (simp [*]; done)),H',⟨by have:=HJ5.out; have:=HK2.out; omega⟩,⟨by (with_reducible repeat (first | apply Kd.R_alloc | apply Kd.R_drewN | apply Kd.R_drew)); exact HO_4.out⟩,⟨by (with_reducible repeat (first | apply Kd.R_alloc | apply Kd.R_drewN | apply Kd.R_drew)); exact HO_792001.out⟩,⟨by (with_reducible repeat (first | refine blk_drewN ?_ _ | refine blk_drew ?_ | refine blk_alloc ?_ _)); exact BK791.out⟩,⟨by repeat (first | (with_reducible first | exact HB.out | apply below_alloc | apply pw_below_drewN | apply below_drew1 | refine below_set ?_ GE791.out) | exact HB.out)⟩⟩
      rw [if_pos c26] at H;have c26b0 : (((rd_T58 t783 x12_2).f0) == t790) = true:=beq_iff_eq.mpr c26;have c26b1 : (((rd_T58 t783 x12_2).f0) != t790) = false:=bne_eq_false_iff_eq.mpr c26;clear c26;have H':=zx H;clear H;have hcz27_0 : wr.cell? ⟨gb791,0,none⟩ = some (.int .i64 t782):=(blk_cell BK791.out 0).trans rfl;have hcz27_1 : wr.cell? ⟨gb791,1,none⟩ = some (.slice Ao10 t783.length co10):=(blk_cell BK791.out 1).trans rfl;have hfz27_0:=blk_frozen BK791.out 0;have hfz27_1:=blk_frozen BK791.out 1;have p797 : 0 ≤ (x12_2 : Int):=of_decide_eq_true (by first | (with_reducible assumption) | assumption);have q797 : x12_2 < (t783.length : Int):=of_decide_eq_true (by first | (with_reducible assumption) | assumption);obtain ⟨ad797,e797,hx797_0,hx797_1,hx797_2,hx797_3,hx797_4⟩:=at_T58 (Kd.R_reads' HO_792001.out).2.2 x12_2 p797 q797;cases e797;replace p797:=eq_true p797;replace q797:=eq_true q797;have p801 : 0 ≤ (x12_2 : Int):=of_decide_eq_true (by first | (with_reducible assumption) | assumption);have q801 : x12_2 < (t783.length : Int):=of_decide_eq_true (by first | (with_reducible assumption) | assumption);obtain ⟨ad801,e801,hx801_0,hx801_1,hx801_2,hx801_3,hx801_4⟩:=at_T58 (Kd.R_reads' HO_792001.out).2.2 x12_2 p801 q801;obtain rfl : ad797 = ad801:=(by injection e801)
      replace p801:=eq_true p801;replace q801:=eq_true q801;have p802 : 0 ≤ (x12_2 : Int):=of_decide_eq_true (by first | (with_reducible assumption) | assumption);have q802 : x12_2 < (t786.length : Int):=of_decide_eq_true (by first | (with_reducible assumption) | assumption);obtain ⟨ad802,e802,hx802_0⟩:=Kd.at_int (Kd.R_reads' HO_4.out).2.2 x12_2 p802 q802;cases e802;replace p802:=eq_true p802;replace q802:=eq_true q802
      go_wp2
      go_roundg k2
      case measure => have:=HJ5.out; have:=HK2.out; omega
      case rel => exact ⟨(wrap64 (x11_2 - (rd t786 x12_2))),(wrap64 (x12_2 + 1)),(by first | rfl | (simp; done) | (simp [*]; done)),(by first | rfl | (simp; done) | (simp [*]; done)),H',⟨by have:=HJ5.out; have:=HK2.out; omega⟩,⟨by (with_reducible repeat (first | apply Kd.R_alloc | apply Kd.R_drewN | apply Kd.R_drew)); exact HO_4.out⟩,⟨by (with_reducible repeat (first | apply Kd.R_alloc | apply Kd.R_drewN | apply Kd.R_drew)); exact HO_792001.out⟩,⟨by (with_reducible repeat (first | refine blk_drewN ?_ _ | refine blk_drew ?_ | refine blk_alloc ?_ _)); exact BK791.out⟩,⟨by repeat (first | (with_reducible first | exact HB.out | apply below_alloc | apply pw_below_drewN | apply below_drew1 | refine below_set ?_ GE791.out) | exact HB.out)⟩⟩
     rw [if_pos c22] at H;have c22b0 : (((rd_T58 t783 x12_2).f1) == t790) = true:=beq_iff_eq.mpr c22;have c22b1 : (((rd_T58 t783 x12_2).f1) != t790) = false:=bne_eq_false_iff_eq.mpr c22;clear c22
     by_cases c23 : ((rd_T58 t783 x12_2).f0) = t790
     case neg =>
      rw [if_neg c23] at H;have c23b0 : (((rd_T58 t783 x12_2).f0) == t790) = false:=beq_eq_false_iff_ne.mpr c23;have c23b1 : (((rd_T58 t783 x12_2).f0) != t790) = true:=bne_iff_ne.mpr c23;have H':=zx H;clear H;have hcz25_0 : wr.cell? ⟨gb791,0,none⟩ = some (.int .i64 t782):=(blk_cell BK791.out 0).trans rfl;have hcz25_1 : wr.cell? ⟨gb791,1,none⟩ = some (.slice Ao10 t783.length co10):=(blk_cell BK791.out 1).trans rfl;have hfz25_0:=blk_frozen BK791.out 0;have hfz25_1:=blk_frozen BK791.out 1;have p797 : 0 ≤ (x12_2 : Int):=of_decide_eq_true (by first | (with_reducible assumption) | assumption);have q797 : x12_2 < (t783.length : Int):=of_decide_eq_true (by first | (with_reducible assumption) | assumption);obtain ⟨ad797,e797,hx797_0,hx797_1,hx797_2,hx797_3,hx797_4⟩:=at_T58 (Kd.R_reads' HO_792001.out).2.2 x12_2 p797 q797;cases e797;replace p797:=eq_true p797;replace q797:=eq_true q797;have p798 : 0 ≤ (x12_2 : Int):=of_decide_eq_true (by first | (with_reducible assumption) | assumption);have q798 : x12_2 < (t786.length : Int):=of_decide_eq_true (by first | (with_reducible assumption) | assumption);obtain ⟨ad798,e798,hx798_0⟩:=Kd.at_int (Kd.R_reads' HO_4.out).2.2 x12_2 p798 q798;cases e798;replace p798:=eq_true p798;replace q798:=eq_true q798;have p799 : 0 ≤ (x12_2 : Int):=of_decide_eq_true (by first | (with_reducible assumption) | assumption);have q799 : x12_2 < (t783.length : Int):=of_decide_eq_true (by first | (with_reducible assumption) | assumption);obtain ⟨ad799,e799,hx799_0,hx799_1,hx799_2,hx799_3,hx799_4⟩:=at_T58 (Kd.R_reads' HO_792001.out).2.2 x12_2 p799 q799;obtain rfl : ad797 = ad799:=(by injection e799)
      replace p799:=eq_true p799;replace q799:=eq_true q799
      go_wp2
      go_roundg k2
      case measure => have:=HJ5.out; have:=HK2.out; omega
      case rel => exact ⟨(wrap64 (x11_2 + (rd t786 x12_2))),(wrap64 (x12_2 + 1)),(by first | rfl | (simp; done) | (simp [*]; done)),(by first | rfl | (simp; done) | (simp [*]; done)),H',⟨by have:=HJ5.out; have:=HK2.out; omega⟩,⟨by (with_reducible repeat (first | apply Kd.R_alloc | apply Kd.R_drewN | apply Kd.R_drew)); exact HO_4.out⟩,⟨by (with_reducible repeat (first | apply Kd.R_alloc | apply Kd.R_drewN | apply Kd.R_drew)); exact HO_792001.out⟩,⟨by (with_reducible repeat (first | refine blk_drewN ?_ _ | refine blk_drew ?_ | refine blk_alloc ?_ _)); exact BK791.out⟩,⟨by repeat (first | (with_reducible first | exact HB.out | apply below_alloc | apply pw_below_drewN | apply below_drew1 | refine below_set ?_ GE791.out) | exact HB.out)⟩⟩
     rw [if_pos c23] at H;have c23b0 : (((rd_T58 t783 x12_2).f0) == t790) = true:=beq_iff_eq.mpr c23;have c23b1 : (((rd_T58 t783 x12_2).f0) != t790) = false:=bne_eq_false_iff_eq.mpr c23;clear c23;have H':=zx H;clear H;have hcz24_0 : wr.cell? ⟨gb791,0,none⟩ = some (.int .i64 t782):=(blk_cell BK791.out 0).trans rfl;have hcz24_1 : wr.cell? ⟨gb791,1,none⟩ = some (.slice Ao10 t783.length co10):=(blk_cell BK791.out 1).trans rfl;have hfz24_0:=blk_frozen BK791.out 0;have hfz24_1:=blk_frozen BK791.out 1;have p797 : 0 ≤ (x12_2 : Int):=of_decide_eq_true (by first | (with_reducible assumption) | assumption);have q797 : x12_2 < (t783.length : Int):=of_decide_eq_true (by first | (with_reducible assumption) | assumption);obtain ⟨ad797,e797,hx797_0,hx797_1,hx797_2,hx797_3,hx797_4⟩:=at_T58 (Kd.R_reads' HO_792001.out).2.2 x12_2 p797 q797;cases e797;replace p797:=eq_true p797;replace q797:=eq_true q797;have p798 : 0 ≤ (x12_2 : Int):=of_decide_eq_true (by first | (with_reducible assumption) | assumption);have q798 : x12_2 < (t786.length : Int):=of_decide_eq_true (by first | (with_reducible assumption) | assumption);obtain ⟨ad798,e798,hx798_0⟩:=Kd.at_int (Kd.R_reads' HO_4.out).2.2 x12_2 p798 q798;cases e798;replace p798:=eq_true p798;replace q798:=eq_true q798;have p799 : 0 ≤ (x12_2 : Int):=of_decide_eq_true (by first | (with_reducible assumption) | assumption);have q799 : x12_2 < (t783.length : Int):=of_decide_eq_true (by first | (with_reducible assumption) | assumption);obtain ⟨ad799,e799,hx799_0,hx799_1,hx799_2,hx799_3,hx799_4⟩:=at_T58 (Kd.R_reads' HO_792001.out).2.2 x12_2 p799 q799;obtain rfl : ad797 = ad799:=(by injection e799)
     replace p799:=eq_true p799;replace q799:=eq_true q799;have p800 : 0 ≤ (x12_2 : Int):=of_decide_eq_true (by first | (with_reducible assumption) | assumption);have q800 : x12_2 < (t786.length : Int):=of_decide_eq_true (by first | (with_reducible assumption) | assumption);obtain ⟨ad800,e800,hx800_0⟩:=Kd.at_int (Kd.R_reads' HO_4.out).2.2 x12_2 p800 q800;obtain rfl : ad798 = ad800:=(by injection e800)
     replace p800:=eq_true p800;replace q800:=eq_true q800
     go_wp2
     go_roundg k2
     case measure => have:=HJ5.out; have:=HK2.out; omega
     case rel => exact ⟨(wrap64 ((wrap64 (x11_2 + (rd t786 x12_2))) - (rd t786 x12_2))),(wrap64 (x12_2 + 1)),(by first | rfl | (simp; done) | (simp [*]; done)),(by first | rfl | (simp; done) | (simp [*]; done)),H',⟨by have:=HJ5.out; have:=HK2.out; omega⟩,⟨by (with_reducible repeat (first | apply Kd.R_alloc | apply Kd.R_drewN | apply Kd.R_drew)); exact HO_4.out⟩,⟨by (with_reducible repeat (first | apply Kd.R_alloc | apply Kd.R_drewN | apply Kd.R_drew)); exact HO_792001.out⟩,⟨by (with_reducible repeat (first | refine blk_drewN ?_ _ | refine blk_drew ?_ | refine blk_alloc ?_ _)); exact BK791.out⟩,⟨by repeat (first | (with_reducible first | exact HB.out | apply below_alloc | apply pw_below_drewN | apply below_drew1 | refine below_set ?_ GE791.out) | exact HB.out)⟩⟩
end Go.Proofs.Ytlhmljngjdfbpaa.Pr
end
section
set_option linter.unusedVariables false
namespace Go.Proofs.YtlhmljngjdfbpaaW.PrintWords
open Go.RowKit Go.ChangeShapes Go.WideShapes
def Opens (P : Program) {α : Type} (d : Kd α) (t : TypeId) (wf : α → Prop) : Prop :=
 ∀ {H : Type} {enc : TypeId × Value → H} {w : World} {sp : Nat → Bool} {held : Bool} {fuel : Nat} {cs : List Value} {x : DataW H × List MemPlace},DataW.trod enc P w 0 sp held fuel t cs = some x → ∃ a,d.K w a cs ∧ wf a
section
variable {P : Program} {α β : Type}
theorem opens_int {t : TypeId} {k : IntKind} (ht : P.underlying t = some (.int k)) : Opens P (Kd.int k) t (fun n => (Lit.int k n).wf = true):=by
 intro H enc w sp held fuel cs x h;obtain ⟨n,rfl,_,hw⟩:=DataW.trod_int ht h;exact ⟨n,rfl,hw⟩
theorem addr_add_add (a : Addr) (i j : Nat) : (a.add i).add j = a.add (i + j):=by
 unfold Addr.add
 by_cases hi : i = 0 <;> by_cases hj : j = 0 <;> simp [hi,hj,Nat.add_assoc]
theorem opens_slice [Inhabited α] {d : Kd α} {t e : TypeId} {wf : α → Prop} (ht : P.underlying t = some (.slice e)) (hc : P.cellsOf e = d.sz) (he : Opens P d e wf) : Opens P (Kd.slice e d) t (fun l => l.length ≤ maxLen ∧ ∀ x ∈ l,wf x):=by
 intro H enc w sp held fuel cs x h
 rcases Deep.open_slice ht h with ⟨rfl,_⟩ | ⟨a,len,cap,m,n,D,Pl,rfl,_,hl,hm,hmm,_,hel⟩
 ·exact ⟨[],⟨none,0,rfl,Nat.le_refl _,Kd.C_nil d w⟩,by simp,by simp⟩
 ·have hlm : len ≤ m:=by rw [hmm]; split <;> omega
  have hx : ∀ i,i < len → ∃ y : α,(∃ c,c.length = d.sz ∧ d.K w y c ∧ ∀ j u,c[j]? = some u → w.cell? (a.add (i * d.sz + j)) = some u) ∧ wf y:=by
   intro i hi;obtain ⟨cs',hcs,htr⟩:=hel i (by omega);obtain ⟨y,hk,hw⟩:=he htr;obtain ⟨_,hlen,hcell⟩:=World.cells?_some hcs;refine ⟨y,⟨cs',d.K_len hk,hk,fun j u hu => ?_⟩,hw⟩;have hj : j < P.cellsOf e:=by
    have:=(List.getElem?_eq_some_iff.1 hu).1;omega
   have:=hcell j hj;rw [addr_add_add,hc,hu] at this;exact this
  obtain ⟨f,hf⟩:=Deep.choose_lt hx;refine ⟨(List.range len).map f,⟨some a,cap,by simp,by simpa using hl,by simp,by simp only [maxLen] at hm; simp; omega,fun _ => ⟨a,rfl,fun j p hj => ?_⟩⟩,by simp; omega,fun y hy => ?_⟩
  ·obtain ⟨hj1,hj2⟩:=List.getElem?_eq_some_iff.1 hj;simp at hj1 hj2;subst hj2;exact (hf j hj1).1
  ·simp only [List.mem_map,List.mem_range] at hy;obtain ⟨i,hi,rfl⟩:=hy;exact (hf i hi).2
end
end Go.Proofs.YtlhmljngjdfbpaaW.PrintWords
end
section
namespace Go.Proofs.Ytlhmljngjdfbpaa.Pr
open Go.RowKit Go.Proofs.YtlhmljngjdfbpaaW.PrintWords Go.Proofs.YtlhmljngjdfbpaaW.PrintLast Go.Proofs.YtlhmljngjdfbpaaW.PrintMore
open List renaming setIfInBounds_toArray → U,set_cons_zero → V,set_cons_succ → Z
open Go.Proofs.YtlhmljngjdfbpaaW.PrintWords.Aside0 renaming mk → zx
def laws_FnFlowValue.Asked : Prop:=∀ (l0 : List Int),(l0.length ≤ maxLen ∧ ∀ x_ ∈ l0,(Lit.int .u8 x_).wf = true) → ∃ k,laws_FnFlowValue.f k l0 = some true
end Go.Proofs.Ytlhmljngjdfbpaa.Pr
end
section
set_option linter.unusedVariables false
namespace Go.Proofs.YtlhmljngjdfbpaaW.PrintWords
open Go.RowKit
section
variable {α β : Type}
theorem Ev.pos {c : Prop} [Decidable c] {t e : Nat → Option α} {r : α} (h : c) (k : Ev t r) : Ev (fun n => if c then t n else e n) r:=by
 simp only [if_pos h]; exact k
theorem Ev.neg {c : Prop} [Decidable c] {t e : Nat → Option α} {r : α} (h : ¬ c) (k : Ev e r) : Ev (fun n => if c then t n else e n) r:=by
 simp only [if_neg h]; exact k
theorem Ev.bind0 {g : Option α} {f : Nat → α → Option β} {a : α} {r : β} (h : g = some a) (k : Ev (fun n => f n a) r) : Ev (fun n => g.bind (f n)) r:=by
 subst h; exact k
theorem Ev.is {a r : α} (h : a = r) : Ev (fun _ => some a) r:=by subst h; exact Ev.now _
theorem Ev.cast {g : Nat → Option α} {a r : α} (k : Ev g a) (h : a = r) : Ev g r:=h ▸ k
theorem Ev.go {g f : Nat → Option α} {r : α} (k : Ev f r) (h : ∀ k,g (k + 1) = f k) : Ev g r:=Ev.step h k
end
theorem w64 {n : Int} (h : -9223372036854775808 ≤ n) (h' : n ≤ 9223372036854775807) : wrap64 n = n:=by unfold wrap64; omega
theorem some_ite (b x : Bool) : (if b = true then some x else some false) = some (b && x):=by cases b <;> rfl
end Go.Proofs.YtlhmljngjdfbpaaW.PrintWords
end
section
set_option linter.unusedSimpArgs false
set_option linter.unusedVariables false
namespace Go.Proofs.Ytlhmljngjdfbpaa.Pure
open Go.RowKit Go.Proofs.Ytlhmljngjdfbpaa.Pr Go.Proofs.YtlhmljngjdfbpaaW.PrintWords Go.Proofs.YtlhmljngjdfbpaaW.PrintLast Go.Proofs.YtlhmljngjdfbpaaW.PrintMore
def inB (x a b : Int) : Bool:=decide (a ≤ x) && decide (x ≤ b)
theorem inB_iff {x a b : Int} : inB x a b = true ↔ a ≤ x ∧ x ≤ b:=by simp [inB]
theorem in1 (x a b : Int) : spec_l1In.f x a b = some (inB x a b):=by
 unfold spec_l1In.f inB
 by_cases h : x ≥ a
 case pos => rw [if_pos h]; simp [show a ≤ x from h]
 rw [if_neg h]; simp [show ¬ a ≤ x from h]
theorem within1 (x a b : Int) : impl_within.f x a b = some (inB x a b):=by
 unfold impl_within.f inB
 by_cases h : x ≥ a
 case pos => rw [if_pos h]; simp [show a ≤ x from h]
 rw [if_neg h]; simp [show ¬ a ≤ x from h]
theorem up1 {i n : Nat} (h : i < n) (hn : n ≤ maxLen) : wrap64 ((i : Int) + 1) = ((i + 1 : Nat) : Int):=by
 simp only [maxLen] at hn;rw [w64 (by omega) (by omega)]; omega
def nth (l : List Int) (i : Nat) : Int:=l.getD i 0
theorem rdg {l : List Int} (i : Nat) : rd l (i : Int) = nth l i:=by simp [rd,nth]
theorem nth_get {l : List Int} {i : Nat} (h : i < l.length) : nth l i = l[i]:=by simp [nth,h]
theorem getD_mem {l : List Int} {i : Nat} (h : i < l.length) : nth l i ∈ l:=by
 rw [nth_get h];exact List.getElem_mem h
theorem drop_cons {α : Type} {l : List α} {i : Nat} (h : i < l.length) : l.drop i = l[i] :: l.drop (i + 1):=List.drop_eq_getElem_cons h
def Pv {α : Type} (g : Nat → Option α) (P : α → Prop) : Prop:=∃ r,Ev g r ∧ P r
section
variable {α β : Type} {P : α → Prop}
theorem Pv.of {g : Nat → Option α} {r : α} (h : Ev g r) (hp : P r) : Pv g P:=⟨r,h,hp⟩
theorem Pv.now {a : α} (h : P a) : Pv (fun _ => some a) P:=⟨a,Ev.now a,h⟩
theorem Pv.pos {c : Prop} [Decidable c] {t e : Nat → Option α} (h : c) (k : Pv t P) : Pv (fun n => if c then t n else e n) P:=by
 obtain ⟨r,k,hp⟩:=k;exact ⟨r,Ev.pos h k,hp⟩
theorem Pv.neg {c : Prop} [Decidable c] {t e : Nat → Option α} (h : ¬ c) (k : Pv e P) : Pv (fun n => if c then t n else e n) P:=by
 obtain ⟨r,k,hp⟩:=k;exact ⟨r,Ev.neg h k,hp⟩
theorem Pv.ite {c : Prop} [Decidable c] {t e : Nat → Option α} (h : c → Pv t P) (k : ¬ c → Pv e P) : Pv (fun n => if c then t n else e n) P:=by
 by_cases hc : c
 case neg => exact Pv.neg hc (k hc)
 exact Pv.pos hc (h hc)
theorem Pv.bind {g : Nat → Option β} {f : Nat → β → Option α} {R : β → Prop} (h : Pv g R) (k : ∀ b,R b → Pv (fun n => f n b) P) : Pv (fun n => (g n).bind (f n)) P:=by
 obtain ⟨b,h,hb⟩:=h;obtain ⟨r,k,hp⟩:=k b hb;exact ⟨r,Ev.bind h k,hp⟩
theorem Pv.bind0 {g : Option β} {f : Nat → β → Option α} {b : β} (h : g = some b) (k : Pv (fun n => f n b) P) : Pv (fun n => g.bind (f n)) P:=by
 obtain ⟨r,k,hp⟩:=k;exact ⟨r,Ev.bind0 h k,hp⟩
theorem Pv.go {g f : Nat → Option α} (k : Pv f P) (h : ∀ k,g (k + 1) = f k) : Pv g P:=by
 obtain ⟨r,k,hp⟩:=k;exact ⟨r,Ev.go k h,hp⟩
theorem Pv.mono {g : Nat → Option α} {R : α → Prop} (h : Pv g R) (k : ∀ a,R a → P a) : Pv g P:=by
 obtain ⟨r,h,hr⟩:=h;exact ⟨r,h,k r hr⟩
end
theorem Pv.rounds {g : Nat → Option Bool} (h : Pv g (· = true)) : ∃ k,g k = some true:=by
 obtain ⟨r,h,rfl⟩:=h;exact Ev.rounds h
end Go.Proofs.Ytlhmljngjdfbpaa.Pure
end
section
set_option linter.unusedSimpArgs false
set_option linter.unusedVariables false
namespace Go.Proofs.Ytlhmljngjdfbpaa.Pure
open Go.RowKit Go.Proofs.Ytlhmljngjdfbpaa.Pr Go.Proofs.YtlhmljngjdfbpaaW.PrintWords Go.Proofs.YtlhmljngjdfbpaaW.PrintLast Go.Proofs.YtlhmljngjdfbpaaW.PrintMore
section
variable {t e : Nat → Option Bool} {r : Bool}
theorem Ev.and {b : Bool} (k : Ev t r) : Ev (fun n => if b = true then t n else some false) (b && r):=by
 cases b with
 | false => exact Ev.neg (by simp) (Ev.now _)
 | true => exact Ev.pos rfl k
theorem Ev.nand {c : Prop} [Decidable c] (k : Ev t r) : Ev (fun n => if c then some false else t n) (!decide c && r):=by
 by_cases h : c
 case pos => exact Ev.pos h (Ev.is (by simp [h]))
 exact Ev.neg h (k.cast (by simp [h]))
end
abbrev Arc:=S58
def arc (l : List Arc) (i : Nat) : Arc:=rd_T58 l (i : Int)
theorem rda (l : List Arc) (i : Nat) : rd_T58 l (i : Int) = arc l i:=rfl
theorem arc_get {l : List Arc} {i : Nat} (h : i < l.length) : arc l i = l[i]:=by simp [arc,rd_T58,h]
theorem arc_mem {l : List Arc} {i : Nat} (h : i < l.length) : arc l i ∈ l:=by
 rw [arc_get h];exact List.getElem_mem h
attribute [irreducible] arc
def okArcW (n : Int) (a : Arc) : Bool:=inB a.f0 0 (wrap64 (n - 1)) && (inB a.f1 0 (wrap64 (n - 1)) && (!decide (a.f0 = a.f1) && (inB a.f2 0 99 && (inB a.f3 0 99 && inB a.f4 0 9))))
theorem l1Ok_l (n : Int) (l : List Arc) (hm : l.length ≤ maxLen) : ∀ (m i : Nat),l.length - i = m → i ≤ l.length → Ev (fun k => spec_l1Ok.l0 k (i : Int) n l) ((l.drop i).all (okArcW n) && (inB n 1 8 && decide ((l.length : Int) ≤ 16))):=by
 intro m
 induction m with
 | zero =>
  intro i hd hi;refine Ev.go ?_ (fun k => by rw [spec_l1Ok.l0]);refine Ev.neg (by omega) (Ev.bind0 (in1 _ _ _) ?_);rw [List.drop_of_length_le (by omega)];exact (Ev.and (Ev.now _)).cast (by simp)
 | succ m ih =>
  intro i hd hi;have hlt : i < l.length:=by omega
  refine Ev.go ?_ (fun k => by rw [spec_l1Ok.l0]);rw [drop_cons hlt,← arc_get hlt,List.all_cons,rda,up1 hlt hm];refine Ev.pos (by omega) (Ev.pos (by omega) ?_);refine Ev.cast (Ev.bind0 (in1 _ _ _) (Ev.and (Ev.bind0 (in1 _ _ _) (Ev.and (Ev.nand (Ev.bind0 (in1 _ _ _) (Ev.and (Ev.bind0 (in1 _ _ _) (Ev.and (Ev.bind0 (in1 _ _ _) (Ev.and (ih (i + 1) (by omega) (by omega))))))))))))) ?_;simp only [okArcW,Bool.and_assoc]
theorem okArcW_okArc {n : Int} (h : 1 ≤ n) (h8 : n ≤ 8) (a : Arc) : okArcW n a = okArc n a:=by
 unfold okArcW okArc inB okN okC
 rw [w64 (by omega) (by omega)];have e : (a.f4 ≤ 9) ↔ (a.f4 ≤ 10 - 1):=by omega
 have e2 : (a.f0 == a.f1) = decide (a.f0 = a.f1):=by
  by_cases c : a.f0 = a.f1 <;> simp [c]
 rw [e2];simp only [Bool.and_assoc,e]
theorem l1Ok_ev (n : Int) (l : List Arc) (hm : l.length ≤ maxLen) : Ev (fun k => spec_l1Ok.f k n l) (netOkB n l):=by
 unfold spec_l1Ok.f
 refine (l1Ok_l n l hm _ 0 rfl (by omega)).cast ?_
 unfold netOkB
 rw [List.drop_zero]
 by_cases h : 1 ≤ n ∧ n ≤ 8
 case pos =>
  have e : l.all (okArcW n) = l.all (okArc n):=by
   congr 1
   funext a
   exact okArcW_okArc h.1 h.2 a
  rw [e,show inB n 1 8 = true from inB_iff.2 h];simp [h.1,h.2,Bool.and_comm]
 have e : inB n 1 8 = false:=by
  cases c : inB n 1 8 with
  | false => rfl
  | true => exact absurd (inB_iff.1 c) h
 rw [e];have e2 : (decide (1 ≤ n) && decide (n ≤ 8)) = false:=e;simp only [e2,Bool.false_and,Bool.and_false]
structure NetGood (n : Int) (l : List Arc) : Prop where
 n1 : 1 ≤ n
 n8 : n ≤ 8
 len : l.length ≤ 16
 ok : ∀ i,i < l.length → (0 ≤ (arc l i).f0 ∧ (arc l i).f0 < n) ∧ (0 ≤ (arc l i).f1 ∧ (arc l i).f1 < n) ∧ (arc l i).f0 ≠ (arc l i).f1 ∧ (0 ≤ (arc l i).f2 ∧ (arc l i).f2 ≤ 99) ∧ (0 ≤ (arc l i).f3 ∧ (arc l i).f3 ≤ 99) ∧ (0 ≤ (arc l i).f4 ∧ (arc l i).f4 ≤ 9)
theorem okArc_iff (n : Int) (a : Arc) : okArc n a = true ↔ (0 ≤ a.f0 ∧ a.f0 < n) ∧ (0 ≤ a.f1 ∧ a.f1 < n) ∧ a.f0 ≠ a.f1 ∧ (0 ≤ a.f2 ∧ a.f2 ≤ 99) ∧ (0 ≤ a.f3 ∧ a.f3 ≤ 99) ∧ (0 ≤ a.f4 ∧ a.f4 ≤ 9):=by
 simp only [okArc,okN,okC,Bool.and_eq_true,decide_eq_true_eq,Bool.not_eq_true',beq_eq_false_iff_ne];constructor
 ·rintro ⟨⟨⟨⟨⟨⟨a1,a2⟩,a3,a4⟩,a5⟩,a6⟩,a7⟩,a8,a9⟩;exact ⟨⟨a1,by omega⟩,⟨a3,by omega⟩,a5,a6,a7,a8,by omega⟩
 ·rintro ⟨⟨a1,a2⟩,⟨a3,a4⟩,a5,a6,a7,a8,a9⟩;exact ⟨⟨⟨⟨⟨⟨a1,by omega⟩,a3,by omega⟩,a5⟩,a6⟩,a7⟩,a8,by omega⟩
theorem netOkB_iff (n : Int) (l : List Arc) : netOkB n l = true ↔ NetGood n l:=by
 simp only [netOkB,Bool.and_eq_true,decide_eq_true_eq,List.all_eq_true];constructor
 ·rintro ⟨⟨⟨h1,h2⟩,h3⟩,h4⟩;exact ⟨h1,h2,by omega,fun i hi => (okArc_iff n _).1 (h4 _ (arc_mem hi))⟩
 ·rintro ⟨h1,h2,h3,h4⟩;refine ⟨⟨⟨h1,h2⟩,by omega⟩,fun a ha => ?_⟩;obtain ⟨i,hi,rfl⟩:=List.getElem_of_mem ha;rw [← arc_get hi];exact (okArc_iff n _).2 (h4 i hi)
theorem hasOf {n : Int} {l : List Arc} (h : NetGood n l) (v : List Int) : impl_Net_has.f n l v = some (v.all (okN n)):=by
 have:=h.n1;have:=h.n8
 unfold impl_Net_has.f
 rw [if_pos (by omega),if_pos (by omega)]
theorem nodesIn_eq (n : Int) (l : List Arc) (v : List Int) : impl_nodesIn.f n l v = some (netOkB n l && v.all (okN n)):=by
 unfold impl_nodesIn.f
 rw [show impl_NetOk.f n l = some (netOkB n l) from rfl,Option.bind_some];cases h : netOkB n l with
 | false => rfl
 | true => rw [if_pos rfl,hasOf ((netOkB_iff n l).1 h),Option.bind_some,Bool.true_and]
theorem apart_eq (n : Int) (l : List Arc) (a b : Int) : impl_apart.f n l a b = some (netOkB n l && (okN n a && (okN n b && (a != b)))):=by
 unfold impl_apart.f
 rw [nodesIn_eq,Option.bind_some];simp only [List.all_cons,List.all_nil,Bool.and_true,some_ite,Bool.and_assoc]
end Go.Proofs.Ytlhmljngjdfbpaa.Pure
end
section
namespace Go.Proofs.Ytlhmljngjdfbpaa.Pr
open Go.RowKit Go.Proofs.YtlhmljngjdfbpaaW.PrintWords Go.Proofs.YtlhmljngjdfbpaaW.PrintLast Go.Proofs.YtlhmljngjdfbpaaW.PrintMore
attribute [local go_sem] max2_int min2_int max_two min_two max_three min_three max_four min_four
set_option linter.unusedVariables false
set_option linter.unusedSimpArgs false
open List renaming setIfInBounds_toArray → U,set_cons_zero → V,set_cons_succ → Z
open Go.Proofs.YtlhmljngjdfbpaaW.PrintWords.Aside0 renaming mk → zx
def spec_l25Side.f (a0 : Int) (a1 : Int) : Option (Bool):=if 0 ≤ a1 then (some ((Int.tmod (shr .i64 a0 a1) 2) == 1)) else (none)
def spec_l25Cut.l0 : Nat → Int → Int → Int → Int → List (S58) → Option (Int)
 | 0,_,_,_,_,_ => none
 | k + 1,x1,x5,x6,q5,p7 => if x6 < (p7.length : Int) then (if 0 ≤ x6 then ((spec_l25Side.f x1 ((rd_T58 p7 x6).f0)).bind fun t924 => (if t924 = true then ((spec_l25Side.f x1 ((rd_T58 p7 x6).f1)).bind fun t926 => (if t926 = true then (spec_l25Cut.l0 k x1 x5 (wrap64 (x6 + 1)) q5 p7) else (spec_l25Cut.l0 k x1 (wrap64 (x5 + ((rd_T58 p7 x6).f4))) (wrap64 (x6 + 1)) q5 p7))) else (spec_l25Cut.l0 k x1 x5 (wrap64 (x6 + 1)) q5 p7))) else (none)) else (some x5)
def spec_l25Cut.f (k : Nat) (a0_0 : Int) (l0_1 : List (S58)) (a1 : Int) : Option (Int):=spec_l25Cut.l0 k a1 0 0 a0_0 l0_1
mutual
def spec_FlowMost.j0 : Nat → Int → Int → Int → Bool → Int → List (S58) → Option (Int)
 | 0,_,_,_,_,_,_ => none
 | k + 1,x1,x2,x7,x33,p3,p4 => if x33 = true then (some (-1)) else (spec_FlowMost.l0 k x1 x2 x7 0 p3 p4)
def spec_FlowMost.l0 : Nat → Int → Int → Int → Int → Int → List (S58) → Option (Int)
 | 0,_,_,_,_,_,_ => none
 | k + 1,x1,x2,x7,x8,p3,p4 => if 0 ≤ p3 then (if x8 < (shl .i64 1 p3) then ((spec_l25Side.f x8 x1).bind fun t932 => (if t932 = true then ((spec_l25Side.f x8 x2).bind fun t933 => (spec_FlowMost.j2 k x1 x2 x7 x8 (!t933) p3 p4)) else (spec_FlowMost.j2 k x1 x2 x7 x8 false p3 p4))) else (some x7)) else (none)
def spec_FlowMost.j2 : Nat → Int → Int → Int → Int → Bool → Int → List (S58) → Option (Int)
 | 0,_,_,_,_,_,_,_ => none
 | k + 1,x1,x2,x7,x8,x49,p3,p4 => if x49 = true then ((spec_l25Cut.f k p3 p4 x8).bind fun t934 => (if x7 < 0 then (spec_FlowMost.l0 k x1 x2 t934 (wrap64 (x8 + 1)) p3 p4) else (if t934 < x7 then (spec_FlowMost.l0 k x1 x2 t934 (wrap64 (x8 + 1)) p3 p4) else (spec_FlowMost.l0 k x1 x2 x7 (wrap64 (x8 + 1)) p3 p4)))) else (spec_FlowMost.l0 k x1 x2 x7 (wrap64 (x8 + 1)) p3 p4)
end
end Go.Proofs.Ytlhmljngjdfbpaa.Pr
end
section
set_option linter.unusedSimpArgs false
set_option linter.unusedVariables false
namespace Go.Proofs.Ytlhmljngjdfbpaa.Pure
open Go.RowKit Go.Proofs.Ytlhmljngjdfbpaa.Pr Go.Proofs.YtlhmljngjdfbpaaW.PrintWords Go.Proofs.YtlhmljngjdfbpaaW.PrintLast Go.Proofs.YtlhmljngjdfbpaaW.PrintMore
def side (s v : Nat) : Bool:=s.testBit v
theorem shr_fin : ∀ (s : Fin 256) (v : Fin 8),((Int.tmod (shr .i64 ((s.val : Nat) : Int) ((v.val : Nat) : Int)) 2) == 1) = s.val.testBit v.val ∧ Go.bits .and .i64 (shr .i64 ((s.val : Nat) : Int) ((v.val : Nat) : Int)) 1 = (if s.val.testBit v.val then 1 else 0):=by decide +kernel
theorem shl_fin : ∀ (v : Fin 9),shl .i64 1 ((v.val : Nat) : Int) = ((2 ^ v.val : Nat) : Int):=by decide +kernel
theorem two8 {v : Nat} (h : v ≤ 8) : 2 ^ v ≤ 256:=by
 have : (2:Nat) ^ v ≤ 2 ^ 8:=Nat.pow_le_pow_right (by omega) h;omega
theorem side_spec {s v : Nat} (hs : s < 256) (hv : v < 8) : spec_l25Side.f (s : Int) (v : Int) = some (side s v):=by
 unfold spec_l25Side.f side
 rw [if_pos (by omega),(shr_fin ⟨s,hs⟩ ⟨v,hv⟩).1]
theorem side_bits {s v : Nat} (hs : s < 256) (hv : v < 8) : Go.bits .and .i64 (shr .i64 (s : Int) (v : Int)) 1 = if side s v = true then 1 else 0:=(shr_fin ⟨s,hs⟩ ⟨v,hv⟩).2
def outB (s : Nat) (a : Arc) : Bool:=side s a.f0.toNat && !side s a.f1.toNat
def cutTo (l : List Arc) (s : Nat) : Nat → Int
 | 0 => 0
 | i + 1 => cutTo l s i + if outB s (arc l i) = true then (arc l i).f4 else 0
theorem cutTo_bd {n : Int} {l : List Arc} (h : NetGood n l) (s : Nat) : ∀ i,i ≤ l.length → 0 ≤ cutTo l s i ∧ cutTo l s i ≤ 9 * (i : Int):=by
 intro i
 induction i with
 | zero => intro _; simp [cutTo]
 | succ i ih =>
  intro hi;have h1:=ih (by omega);have h2:=(h.ok i (by omega)).2.2.2.2.2;simp only [cutTo]
  split <;> omega
def cutOf (l : List Arc) (s : Nat) : Int:=cutTo l s l.length
theorem cutOf_bd {n : Int} {l : List Arc} (h : NetGood n l) (s : Nat) : 0 ≤ cutOf l s ∧ cutOf l s ≤ 144:=by
 have:=cutTo_bd h s l.length (by omega);have:=h.len
 unfold cutOf
 omega
theorem node8 {n : Int} {l : List Arc} (h : NetGood n l) {i : Nat} (hi : i < l.length) : (∃ v : Nat,(arc l i).f0 = (v : Int) ∧ v < 8) ∧ ∃ v : Nat,(arc l i).f1 = (v : Int) ∧ v < 8:=by
 have h1:=h.ok i hi;have:=h.n8;exact ⟨⟨(arc l i).f0.toNat,by omega,by omega⟩,⟨(arc l i).f1.toNat,by omega,by omega⟩⟩
theorem specCut_l {n : Int} {l : List Arc} (hg : NetGood n l) {s : Nat} (hs : s < 256) : ∀ (m i : Nat),l.length - i = m → i ≤ l.length → Ev (fun k => spec_l25Cut.l0 k (s : Int) (cutTo l s i) (i : Int) n l) (cutOf l s):=by
 have h16:=hg.len;intro m
 induction m with
 | zero =>
  intro i hd hi;refine Ev.go ?_ (fun k => by rw [spec_l25Cut.l0]);have e : i = l.length:=by omega
  subst e;exact Ev.neg (by omega) (Ev.now _)
 | succ m ih =>
  intro i hd hi;have hlt : i < l.length:=by omega
  have hn:=ih (i + 1) (by omega) (by omega);refine Ev.go ?_ (fun k => by rw [spec_l25Cut.l0]);refine Ev.pos (by omega) (Ev.pos (by omega) ?_);obtain ⟨⟨v0,e0,h0⟩,v1,e1,h1⟩:=node8 hg hlt;have hw : wrap64 (cutTo l s i + (arc l i).f4) = cutTo l s i + (arc l i).f4:=by
   have hb:=cutTo_bd hg s i (by omega);have hf:=(hg.ok i hlt).2.2.2.2.2;clear hn e0 e1;generalize cutTo l s i = c at *;generalize (arc l i).f4 = f at *;exact w64 (by omega) (by omega)
  have hu:=up1 hlt (by simp only [maxLen]; omega);rw [rda,e0,e1,hu,hw];simp only [cutTo,outB,e0,e1,Int.toNat_natCast] at hn;refine Ev.bind0 (side_spec hs h0) ?_;cases c0 : side s v0 with
  | false =>
   rw [c0] at hn;exact Ev.neg (by simp) (by simpa using hn)
  | true =>
   refine Ev.pos rfl (Ev.bind0 (side_spec hs h1) ?_);rw [c0] at hn;cases c1 : side s v1 with
   | true =>
    rw [c1] at hn;exact Ev.pos rfl (by simpa using hn)
   | false =>
    rw [c1] at hn;exact Ev.neg (by simp) (by simpa using hn)
theorem specCut_ev {n : Int} {l : List Arc} (hg : NetGood n l) {s : Nat} (hs : s < 256) : Ev (fun k => spec_l25Cut.f k n l (s : Int)) (cutOf l s):=specCut_l hg hs _ 0 rfl (by omega)
theorem implCut_l {n : Int} {l : List Arc} (hg : NetGood n l) {s : Nat} (hs : s < 256) : ∀ (m i : Nat),l.length - i = m → i ≤ l.length → Ev (fun k => impl_Net_cut.l0 k (s : Int) (cutTo l s i) l (l.length : Int) (i : Int)) (cutOf l s):=by
 have h16:=hg.len;intro m
 induction m with
 | zero =>
  intro i hd hi;refine Ev.go ?_ (fun k => by rw [impl_Net_cut.l0]);have e : i = l.length:=by omega
  subst e;exact Ev.neg (by omega) (Ev.now _)
 | succ m ih =>
  intro i hd hi;have hlt : i < l.length:=by omega
  have hn:=ih (i + 1) (by omega) (by omega);refine Ev.go ?_ (fun k => by rw [impl_Net_cut.l0]);refine Ev.pos (by omega) (Ev.pos (by omega) (Ev.pos (by omega) ?_));obtain ⟨⟨v0,e0,h0⟩,v1,e1,h1⟩:=node8 hg hlt;have hw : wrap64 (cutTo l s i + (arc l i).f4) = cutTo l s i + (arc l i).f4:=by
   have hb:=cutTo_bd hg s i (by omega);have hf:=(hg.ok i hlt).2.2.2.2.2;clear hn e0 e1;generalize cutTo l s i = c at *;generalize (arc l i).f4 = f at *;exact w64 (by omega) (by omega)
  have hu:=up1 hlt (by simp only [maxLen]; omega);rw [rda,e0,e1,hu,hw,side_bits hs h0,side_bits hs h1];simp only [cutTo,outB,e0,e1,Int.toNat_natCast] at hn;refine Ev.pos (by omega) ?_;cases c0 : side s v0 with
  | false =>
   rw [c0] at hn;exact Ev.neg (by simp) (by simpa using hn)
  | true =>
   refine Ev.pos rfl (Ev.pos (by omega) ?_);rw [c0] at hn;cases c1 : side s v1 with
   | true =>
    rw [c1] at hn;exact Ev.neg (by simp) (by simpa using hn)
   | false =>
    rw [c1] at hn;exact Ev.pos (by simp) (by simpa using hn)
theorem implCut_ev {n : Int} {l : List Arc} (hg : NetGood n l) {s : Nat} (hs : s < 256) : Ev (fun k => impl_Net_cut.f k n l (s : Int)) (cutOf l s):=implCut_l hg hs _ 0 rfl (by omega)
def mostTo (l : List Arc) (a b : Nat) : Nat → Int
 | 0 => -1
 | s + 1 => if side s a = true then (if side s b = true then mostTo l a b s else if mostTo l a b s < 0 then cutOf l s else if cutOf l s < mostTo l a b s then cutOf l s else mostTo l a b s) else mostTo l a b s
theorem specMost_l {n : Int} {l : List Arc} (hg : NetGood n l) {a b : Nat} (ha : a < 8) (hb : b < 8) {N : Nat} (hN : n = (N : Int)) : ∀ (m s : Nat),2 ^ N - s = m → s ≤ 2 ^ N → Ev (fun k => spec_FlowMost.l0 k (a : Int) (b : Int) (mostTo l a b s) (s : Int) n l) (mostTo l a b (2 ^ N)):=by
 have hN8 : N ≤ 8:=by have:=hg.n8; omega
 have h256:=two8 hN8;have hsh : shl .i64 1 n = ((2 ^ N : Nat) : Int):=by rw [hN]; exact shl_fin ⟨N,by omega⟩
 intro m
 induction m with
 | zero =>
  intro s hd hi;refine Ev.go ?_ (fun k => by rw [spec_FlowMost.l0]);have e : s = 2 ^ N:=by omega
  refine Ev.pos (by have:=hg.n1; omega) ?_;rw [hsh];subst e;exact Ev.neg (by omega) (Ev.now _)
 | succ m ih =>
  intro s hd hi;have hlt : s < 2 ^ N:=by omega
  have hn:=ih (s + 1) (by omega) (by omega);have hu : wrap64 ((s : Int) + 1) = ((s + 1 : Nat) : Int):=up1 hlt (by simp only [maxLen]; omega);rw [← hu] at hn;refine Ev.go ?_ (fun k => by rw [spec_FlowMost.l0]);refine Ev.pos (by have:=hg.n1; omega) ?_;rw [hsh];refine Ev.pos (by omega) (Ev.bind0 (side_spec (by omega) ha) ?_);simp only [mostTo] at hn;cases c0 : side s a with
  | false =>
   rw [c0] at hn;refine Ev.neg (by simp) (Ev.go ?_ (fun k => by rw [spec_FlowMost.j2]));exact Ev.neg (by simp) (by simpa using hn)
  | true =>
   rw [c0] at hn;refine Ev.pos rfl (Ev.bind0 (side_spec (by omega) hb) (Ev.go ?_ (fun k => by rw [spec_FlowMost.j2])));cases c1 : side s b with
   | true =>
    rw [c1] at hn;exact Ev.neg (by simp) (by simpa using hn)
   | false =>
    rw [c1] at hn;refine Ev.pos (by simp) (Ev.bind (specCut_ev hg (by omega)) ?_);simp only [Bool.false_eq_true,if_false,if_true] at hn
    by_cases c2 : mostTo l a b s < 0
    case pos =>
     rw [if_pos c2] at hn;exact Ev.pos c2 hn
    rw [if_neg c2] at hn;refine Ev.neg c2 ?_
    by_cases c3 : cutOf l s < mostTo l a b s
    case neg =>
     rw [if_neg c3] at hn;exact Ev.neg c3 hn
    rw [if_pos c3] at hn;exact Ev.pos c3 hn
theorem implMost_l {n : Int} {l : List Arc} (hg : NetGood n l) {a b : Nat} (ha : a < 8) (hb : b < 8) {N : Nat} (hN : n = (N : Int)) : ∀ (m s : Nat),2 ^ N - s = m → s ≤ 2 ^ N → Ev (fun k => impl_FlowMost.l0 k (a : Int) (b : Int) (mostTo l a b s) ((2 ^ N : Nat) : Int) (s : Int) n l) (mostTo l a b (2 ^ N)):=by
 have hN8 : N ≤ 8:=by have:=hg.n8; omega
 have h256:=two8 hN8;intro m
 induction m with
 | zero =>
  intro s hd hi;refine Ev.go ?_ (fun k => by rw [impl_FlowMost.l0]);have e : s = 2 ^ N:=by omega
  subst e;exact Ev.neg (by omega) (Ev.now _)
 | succ m ih =>
  intro s hd hi;have hlt : s < 2 ^ N:=by omega
  have hn:=ih (s + 1) (by omega) (by omega);have hu : wrap64 ((s : Int) + 1) = ((s + 1 : Nat) : Int):=up1 hlt (by simp only [maxLen]; omega);rw [← hu] at hn;refine Ev.go ?_ (fun k => by rw [impl_FlowMost.l0]);rw [side_bits (by omega) ha,side_bits (by omega) hb];refine Ev.pos (by omega) (Ev.pos (by omega) ?_);simp only [mostTo] at hn;cases c0 : side s a with
  | false =>
   rw [c0] at hn;exact Ev.neg (by simp) (by simpa using hn)
  | true =>
   rw [c0] at hn;refine Ev.pos rfl (Ev.pos (by omega) ?_);cases c1 : side s b with
   | true =>
    rw [c1] at hn;exact Ev.neg (by simp) (by simpa using hn)
   | false =>
    rw [c1] at hn;refine Ev.pos (by simp) ?_;simp only [Bool.false_eq_true,if_false,if_true] at hn
    by_cases c2 : mostTo l a b s < 0
    case pos =>
     rw [if_pos c2] at hn;exact Ev.pos c2 (Ev.bind (implCut_ev hg (by omega)) hn)
    rw [if_neg c2] at hn;refine Ev.neg c2 (Ev.bind (implCut_ev hg (by omega)) ?_)
    by_cases c3 : cutOf l s < mostTo l a b s
    case neg =>
     rw [if_neg c3] at hn;exact Ev.neg c3 hn
    rw [if_pos c3] at hn;exact Ev.pos c3 (Ev.bind (implCut_ev hg (by omega)) hn)
def mostB (n : Int) (l : List Arc) (a b : Int) : Bool:=netOkB n l && (okN n a && (okN n b && (a != b)))
def mostV (n : Int) (l : List Arc) (a b : Int) : Int:=if mostB n l a b = true then mostTo l a.toNat b.toNat (2 ^ n.toNat) else -1
theorem mostB_iff (n : Int) (l : List Arc) (a b : Int) : mostB n l a b = true ↔ NetGood n l ∧ (0 ≤ a ∧ a < n) ∧ (0 ≤ b ∧ b < n) ∧ a ≠ b:=by
 simp only [mostB,Bool.and_eq_true,netOkB_iff,okN,decide_eq_true_eq,bne_iff_ne];constructor
 ·rintro ⟨h1,⟨h2,h3⟩,⟨h4,h5⟩,h6⟩;exact ⟨h1,⟨h2,by omega⟩,⟨h4,by omega⟩,h6⟩
 ·rintro ⟨h1,⟨h2,h3⟩,⟨h4,h5⟩,h6⟩;exact ⟨h1,⟨h2,by omega⟩,⟨h4,by omega⟩,h6⟩
theorem inB_okN {n : Int} {l : List Arc} (h : NetGood n l) (a : Int) : inB a 0 (wrap64 (n - 1)) = okN n a:=by
 have:=h.n1;have:=h.n8;rw [w64 (by omega) (by omega)];rfl
theorem implMost_ev (n : Int) (l : List Arc) (a b : Int) : Ev (fun k => impl_FlowMost.f k n l a b) (mostV n l a b):=by
 unfold impl_FlowMost.f
 refine Ev.bind0 (apart_eq n l a b) ?_
 unfold mostV
 change Ev (fun k => if mostB n l a b = true then _ else _) _
 cases hx : mostB n l a b with
 | false => exact Ev.neg (by simp) (Ev.now _)
 | true =>
  obtain ⟨hg,ha,hb,hne⟩:=(mostB_iff n l a b).1 hx;have h1:=hg.n1;have h8:=hg.n8;refine Ev.pos rfl (Ev.pos (by omega) ?_);rw [if_pos rfl];have:=implMost_l hg (a:=a.toNat) (b:=b.toNat) (by omega) (by omega) (N:=n.toNat) (by omega) _ 0 rfl (Nat.zero_le _);rw [show ((a.toNat : Nat) : Int) = a by omega,show ((b.toNat : Nat) : Int) = b by omega] at this;have hsh : shl .i64 1 n = ((2 ^ n.toNat : Nat) : Int):=by
   have:=shl_fin ⟨n.toNat,by omega⟩
   rwa [show ((n.toNat : Nat) : Int) = n by omega] at this
  rw [hsh];exact this
end Go.Proofs.Ytlhmljngjdfbpaa.Pure
end
section
set_option linter.unusedSimpArgs false
set_option linter.unusedVariables false
set_option linter.unusedVariables false
end
section
set_option linter.unusedSimpArgs false
set_option linter.unusedVariables false
namespace Go.Proofs.Ytlhmljngjdfbpaa.Pure
open Go.RowKit Go.Proofs.Ytlhmljngjdfbpaa.Pr Go.Proofs.YtlhmljngjdfbpaaW.PrintWords Go.Proofs.YtlhmljngjdfbpaaW.PrintLast Go.Proofs.YtlhmljngjdfbpaaW.PrintMore
def netTo (n : Int) (l : List Arc) (x : List Int) : Nat → List Int
 | 0 => List.replicate n.toNat 0
 | i + 1 =>
  let y:=(netTo n l x i).set (arc l i).f0.toNat (wrap64 (rd (netTo n l x i) (arc l i).f0 + nth x i))
  y.set (arc l i).f1.toNat (wrap64 (rd y (arc l i).f1 - nth x i))
theorem netTo_len (n : Int) (l : List Arc) (x : List Int) (i : Nat) : (netTo n l x i).length = n.toNat:=by
 induction i with
 | zero => simp [netTo]
 | succ i ih => simp [netTo,ih]
def EvenFrom (y : List Int) (a b : Int) (v : Nat) : Prop:=∀ j,j < y.length → v ≤ j → nth y j = 0 ∨ (j : Int) = a ∨ (j : Int) = b
def FitsFrom (l : List Arc) (x : List Int) (i : Nat) : Prop:=∀ j,j < l.length → i ≤ j → 0 ≤ nth x j ∧ nth x j ≤ (arc l j).f4
def ValueOk (n : Int) (l : List Arc) (x : List Int) (a b : Int) : Prop:=FitsFrom l x 0 ∧ EvenFrom (netTo n l x l.length) a b 0
open Classical in
noncomputable def valueV (n : Int) (l : List Arc) (x : List Int) (a b : Int) : Int × Bool:=if mostB n l a b = true ∧ x.length = l.length ∧ ValueOk n l x a b then (rd (netTo n l x l.length) a,true) else (0,false)
open Classical in
theorem specEven_l {n : Int} {l : List Arc} (hg : NetGood n l) {a b : Int} (ha : 0 ≤ a ∧ a < n) (y : List Int) (hy : y.length = n.toNat) : ∀ (m v : Nat),y.length - v = m → v ≤ y.length → Ev (fun k => spec_l25Ok.l1 k a b y (v : Int) n l) (if EvenFrom y a b v then (rd y a,true) else (0,false)):=by
 have h8:=hg.n8;have h1:=hg.n1;intro m
 induction m with
 | zero =>
  intro v hd hi;refine Ev.go ?_ (fun k => by rw [spec_l25Ok.l1]);refine Ev.neg (by omega) (Ev.pos (by omega) (Ev.pos (by omega) ?_));rw [if_pos (show EvenFrom y a b v from fun j h1 h2 => absurd h1 (by omega))];exact Ev.now _
 | succ m ih =>
  intro v hd hi;have hlt : v < y.length:=by omega
  have hn:=ih (v + 1) (by omega) (by omega);have step : EvenFrom y a b v ↔ (nth y v = 0 ∨ (v : Int) = a ∨ (v : Int) = b) ∧ EvenFrom y a b (v + 1):=by
   constructor
   ·exact fun h => ⟨h v hlt (Nat.le_refl _),fun j hj hij => h j hj (by omega)⟩
   ·intro h j hj hij
    by_cases e : j = v
    case pos => subst e; exact h.1
    exact h.2 j hj (by omega)
  rw [← up1 hlt (by simp only [maxLen]; omega)] at hn;refine Ev.go ?_ (fun k => by rw [spec_l25Ok.l1]);refine Ev.pos (by omega) (Ev.pos (by omega) (Ev.pos (by omega) ?_));rw [rdg v]
  by_cases c0 : nth y v = 0
  case pos => exact Ev.pos c0 (hn.cast (by rw [step]; simp [c0]))
  refine Ev.neg c0 ?_
  by_cases c1 : (v : Int) = a
  case pos => exact Ev.pos c1 (hn.cast (by rw [step]; simp [c1]))
  refine Ev.neg c1 ?_
  by_cases c2 : (v : Int) = b
  case pos => exact Ev.pos c2 (hn.cast (by rw [step]; simp [c2]))
  exact Ev.neg c2 (Ev.is (by rw [step]; simp [c0,c1,c2]))
open Classical in
theorem specVal_l {n : Int} {l : List Arc} (hg : NetGood n l) {a b : Int} (ha : 0 ≤ a ∧ a < n) (x : List Int) (hx : x.length = l.length) : ∀ (m i : Nat),l.length - i = m → i ≤ l.length → Ev (fun k => spec_l25Ok.l0 k x a b (netTo n l x i) (i : Int) n l) (if FitsFrom l x i ∧ EvenFrom (netTo n l x l.length) a b 0 then (rd (netTo n l x l.length) a,true) else (0,false)):=by
 have h16:=hg.len;intro m
 induction m with
 | zero =>
  intro i hd hi;have e : i = l.length:=by omega
  subst e;refine Ev.go ?_ (fun k => by rw [spec_l25Ok.l0]);refine Ev.neg (by omega) ((specEven_l hg ha _ (netTo_len n l x _) _ 0 rfl (Nat.zero_le _)).cast ?_);have : FitsFrom l x l.length:=fun j h1 h2 => absurd h1 (by omega)
  simp [this]
 | succ m ih =>
  intro i hd hi;have hlt : i < l.length:=by omega
  have hn:=ih (i + 1) (by omega) (by omega);have hlen:=netTo_len n l x i;have step : FitsFrom l x i ↔ (0 ≤ nth x i ∧ nth x i ≤ (arc l i).f4) ∧ FitsFrom l x (i + 1):=by
   constructor
   ·exact fun h => ⟨h i hlt (Nat.le_refl _),fun j hj hij => h j hj (by omega)⟩
   ·intro h j hj hij
    by_cases e : j = i
    case pos => subst e; exact h.1
    exact h.2 j hj (by omega)
  have h1:=hg.n1;refine Ev.go ?_ (fun k => by rw [spec_l25Ok.l0]);refine Ev.pos (by omega) (Ev.pos (by omega) (Ev.pos (by omega) (Ev.bind0 (in1 _ _ _) ?_)));rw [rda,rdg i];cases c0 : inB (nth x i) 0 (arc l i).f4 with
  | false =>
   refine Ev.neg (by simp) (Ev.is ?_);rw [if_neg];intro h;have:=inB_iff.2 (step.1 h.1).1;rw [c0] at this;simp at this
  | true =>
   have hf:=inB_iff.1 c0;have ho:=hg.ok i hlt;have hu:=up1 hlt (by simp only [maxLen]; omega);refine Ev.pos rfl ?_;have hl0 : (arc l i).f0 < ((netTo n l x i).length : Int):=by rw [hlen]; omega
   have hl1 : (arc l i).f1 < ((netTo n l x i).length : Int):=by rw [hlen]; omega
   refine Ev.pos ho.1.1 (Ev.pos hl0 (Ev.bind0 rfl (Ev.pos ho.2.1.1 (Ev.pos (by exact hl1) ?_))));rw [hu];refine hn.cast ?_;rw [step];simp [hf]
open Classical in
theorem implEven_l {n : Int} {l : List Arc} (hg : NetGood n l) {a b : Int} (ha : 0 ≤ a ∧ a < n) (y : List Int) (hy : y.length = n.toNat) : ∀ (m v : Nat),y.length - v = m → v ≤ y.length → Ev (fun k => impl_FlowValue.l1 k a b y (y.length : Int) (v : Int)) (if EvenFrom y a b v then (rd y a,true) else (0,false)):=by
 have h8:=hg.n8;have h1:=hg.n1;intro m
 induction m with
 | zero =>
  intro v hd hi;refine Ev.go ?_ (fun k => by rw [impl_FlowValue.l1]);refine Ev.neg (by omega) (Ev.pos (by omega) (Ev.pos (by omega) ?_));rw [if_pos (show EvenFrom y a b v from fun j h1 h2 => absurd h1 (by omega))];exact Ev.now _
 | succ m ih =>
  intro v hd hi;have hlt : v < y.length:=by omega
  have hn:=ih (v + 1) (by omega) (by omega);have step : EvenFrom y a b v ↔ (nth y v = 0 ∨ (v : Int) = a ∨ (v : Int) = b) ∧ EvenFrom y a b (v + 1):=by
   constructor
   ·exact fun h => ⟨h v hlt (Nat.le_refl _),fun j hj hij => h j hj (by omega)⟩
   ·intro h j hj hij
    by_cases e : j = v
    case pos => subst e; exact h.1
    exact h.2 j hj (by omega)
  rw [← up1 hlt (by simp only [maxLen]; omega)] at hn;refine Ev.go ?_ (fun k => by rw [impl_FlowValue.l1]);refine Ev.pos (by omega) (Ev.pos (by omega) (Ev.pos (by omega) ?_));rw [rdg v]
  by_cases c0 : nth y v = 0
  case pos => exact Ev.pos c0 (hn.cast (by rw [step]; simp [c0]))
  refine Ev.neg c0 ?_
  by_cases c1 : (v : Int) = a
  case pos => exact Ev.pos c1 (hn.cast (by rw [step]; simp [c1]))
  refine Ev.neg c1 ?_
  by_cases c2 : (v : Int) = b
  case pos => exact Ev.pos c2 (hn.cast (by rw [step]; simp [c2]))
  exact Ev.neg c2 (Ev.is (by rw [step]; simp [c0,c1,c2]))
open Classical in
theorem implVal_l {n : Int} {l : List Arc} (hg : NetGood n l) {a b : Int} (ha : 0 ≤ a ∧ a < n) (x : List Int) (hx : x.length = l.length) : ∀ (m i : Nat),l.length - i = m → i ≤ l.length → Ev (fun k => impl_FlowValue.l0 k x a b (netTo n l x i) l (l.length : Int) (i : Int)) (if FitsFrom l x i ∧ EvenFrom (netTo n l x l.length) a b 0 then (rd (netTo n l x l.length) a,true) else (0,false)):=by
 have h16:=hg.len;intro m
 induction m with
 | zero =>
  intro i hd hi;have e : i = l.length:=by omega
  subst e;refine Ev.go ?_ (fun k => by rw [impl_FlowValue.l0]);refine Ev.neg (by omega) ((implEven_l hg ha _ (netTo_len n l x _) _ 0 rfl (Nat.zero_le _)).cast ?_);have : FitsFrom l x l.length:=fun j h1 h2 => absurd h1 (by omega)
  simp [this]
 | succ m ih =>
  intro i hd hi;have hlt : i < l.length:=by omega
  have hn:=ih (i + 1) (by omega) (by omega);have hlen:=netTo_len n l x i;have step : FitsFrom l x i ↔ (0 ≤ nth x i ∧ nth x i ≤ (arc l i).f4) ∧ FitsFrom l x (i + 1):=by
   constructor
   ·exact fun h => ⟨h i hlt (Nat.le_refl _),fun j hj hij => h j hj (by omega)⟩
   ·intro h j hj hij
    by_cases e : j = i
    case pos => subst e; exact h.1
    exact h.2 j hj (by omega)
  have h1:=hg.n1;refine Ev.go ?_ (fun k => by rw [impl_FlowValue.l0]);refine Ev.pos (by omega) (Ev.pos (by omega) (Ev.pos (by omega) (Ev.pos (by omega) (Ev.bind0 (within1 _ _ _) ?_))));rw [rda,rdg i];cases c0 : inB (nth x i) 0 (arc l i).f4 with
  | false =>
   refine Ev.neg (by simp) (Ev.is ?_);rw [if_neg];intro h;have:=inB_iff.2 (step.1 h.1).1;rw [c0] at this;simp at this
  | true =>
   have hf:=inB_iff.1 c0;have ho:=hg.ok i hlt;have hu:=up1 hlt (by simp only [maxLen]; omega);refine Ev.pos rfl ?_;have hl0 : (arc l i).f0 < ((netTo n l x i).length : Int):=by rw [hlen]; omega
   have hl1 : (arc l i).f1 < ((netTo n l x i).length : Int):=by rw [hlen]; omega
   refine Ev.pos ho.1.1 (Ev.pos hl0 (Ev.bind0 rfl (Ev.pos ho.2.1.1 (Ev.pos (by exact hl1) ?_))));rw [hu];refine hn.cast ?_;rw [step];simp [hf]
theorem specValue_ev (n : Int) (l : List Arc) (x : List Int) (a b : Int) (hm : l.length ≤ maxLen) : Ev (fun k => spec_FlowValue.f k n l x a b) (valueV n l x a b):=by
 unfold spec_FlowValue.f
 have bad : mostB n l a b = false → valueV n l x a b = (0,false):=by
  intro h
  unfold valueV
  rw [if_neg (by simp [h])]
 refine Ev.bind (l1Ok_ev n l hm) ?_;cases c0 : netOkB n l with
 | false => exact Ev.neg (by simp) (Ev.is (bad (by simp [mostB,c0])).symm)
 | true =>
  have hg:=(netOkB_iff n l).1 c0;refine Ev.pos rfl (Ev.bind0 (in1 _ _ _) ?_);rw [inB_okN hg];cases c1 : okN n a with
  | false => exact Ev.neg (by simp) (Ev.is (bad (by simp [mostB,c1])).symm)
  | true =>
   refine Ev.pos rfl (Ev.bind0 (in1 _ _ _) ?_);rw [inB_okN hg];cases c2 : okN n b with
   | false => exact Ev.neg (by simp) (Ev.is (bad (by simp [mostB,c2])).symm)
   | true =>
    refine Ev.pos rfl ?_
    by_cases c3 : a = b
    case pos => exact Ev.pos c3 (Ev.is (bad (by simp [mostB,c3])).symm)
    refine Ev.neg c3 ?_;have hB : mostB n l a b = true:=by simp [mostB,c0,c1,c2,c3]
    obtain ⟨_,ha,hb,_⟩:=(mostB_iff n l a b).1 hB
    by_cases c4 : x.length = l.length
    case neg =>
     refine Ev.neg (by omega) (Ev.is ?_)
     unfold valueV
     rw [if_neg (by simp [c4])]
    refine Ev.pos (by omega) (Ev.bind (a:=valueV n l x a b) ?_ (Ev.now _))
    unfold spec_l25Ok.f
    have h1:=hg.n1;have h8:=hg.n8;refine Ev.pos (by omega) (Ev.pos (by omega) ?_);refine (specVal_l hg ha x c4 _ 0 rfl (Nat.zero_le _)).cast ?_
    unfold valueV
    by_cases hv : ValueOk n l x a b
    case pos => rw [if_pos (show FitsFrom l x 0 ∧ EvenFrom (netTo n l x l.length) a b 0 from hv),if_pos ⟨hB,c4,hv⟩]
    rw [if_neg (show ¬ (FitsFrom l x 0 ∧ EvenFrom (netTo n l x l.length) a b 0) from hv),if_neg (fun h => hv h.2.2)]
theorem implValue_ev (n : Int) (l : List Arc) (x : List Int) (a b : Int) : Ev (fun k => impl_FlowValue.f k n l x a b) (valueV n l x a b):=by
 unfold impl_FlowValue.f
 refine Ev.bind0 (apart_eq n l a b) ?_
 change Ev (fun k => if mostB n l a b = true then _ else _) _
 cases hB : mostB n l a b with
 | false =>
  refine Ev.neg (by simp) (Ev.go ?_ (fun k => by rw [impl_FlowValue.j0]));refine Ev.pos rfl (Ev.is ?_)
  unfold valueV
  rw [if_neg (by simp [hB])]
 | true =>
  obtain ⟨hg,ha,hb,_⟩:=(mostB_iff n l a b).1 hB;refine Ev.pos rfl (Ev.go ?_ (fun k => by rw [impl_FlowValue.j0]))
  by_cases c4 : x.length = l.length
  case neg =>
   refine Ev.pos (by simp; omega) (Ev.is ?_)
   unfold valueV
   rw [if_neg (by simp [c4])]
  have h1:=hg.n1;have h8:=hg.n8;refine Ev.neg (by simp [c4]) (Ev.pos (by omega) (Ev.pos (by omega) ?_));refine (implVal_l hg ha x c4 _ 0 rfl (Nat.zero_le _)).cast ?_
  unfold valueV
  by_cases hv : ValueOk n l x a b
  case pos => rw [if_pos (show FitsFrom l x 0 ∧ EvenFrom (netTo n l x l.length) a b 0 from hv),if_pos ⟨hB,c4,hv⟩]
  rw [if_neg (show ¬ (FitsFrom l x 0 ∧ EvenFrom (netTo n l x l.length) a b 0) from hv),if_neg (fun h => hv h.2.2)]
end Go.Proofs.Ytlhmljngjdfbpaa.Pure
end
section
set_option linter.unusedSectionVars false
namespace Go.Proofs.Ytlhmljngjdfbpaa.Fl
def sm (F : Nat → Int) : Nat → Int
 | 0 => 0
 | n + 1 => sm F n + F n
theorem sm_congr {F H : Nat → Int} {n : Nat} (h : ∀ i,i < n → F i = H i) : sm F n = sm H n:=by
 induction n with
 | zero => rfl
 | succ n ih => simp only [sm]; rw [ih (fun i hi => h i (by omega)),h n (by omega)]
theorem sm_add (F H : Nat → Int) (n : Nat) : sm (fun i => F i + H i) n = sm F n + sm H n:=by
 induction n with
 | zero => rfl
 | succ n ih => simp only [sm]; rw [ih]; omega
theorem sm_sub (F H : Nat → Int) (n : Nat) : sm (fun i => F i - H i) n = sm F n - sm H n:=by
 induction n with
 | zero => rfl
 | succ n ih => simp only [sm]; rw [ih]; omega
theorem sm_zero (n : Nat) : sm (fun _ => 0) n = 0:=by
 induction n with
 | zero => rfl
 | succ n ih => simp only [sm]; rw [ih]; rfl
theorem sm_le {F H : Nat → Int} {n : Nat} (h : ∀ i,i < n → F i ≤ H i) : sm F n ≤ sm H n:=by
 induction n with
 | zero => exact Int.le_refl _
 | succ n ih => simp only [sm]; have:=ih (fun i hi => h i (by omega)); have:=h n (by omega); omega
theorem sm_swap (F : Nat → Nat → Int) (n m : Nat) : sm (fun v => sm (F v) m) n = sm (fun i => sm (fun v => F v i) n) m:=by
 induction n with
 | zero => simp only [sm]; rw [sm_zero]
 | succ n ih => simp only [sm]; rw [ih,sm_add]
theorem sm_one (n a : Nat) (x : Int) (h : a < n) : sm (fun v => if v = a then x else 0) n = x:=by
 induction n with
 | zero => omega
 | succ n ih =>
  simp only [sm]
  by_cases e : a = n
  case neg =>
   rw [ih (by omega),if_neg (by omega)];omega
  subst e;rw [if_pos rfl,sm_congr (H:=fun _ => 0) (fun i hi => by rw [if_neg (by omega)]),sm_zero];omega
theorem sm_pick (n a : Nat) (S : Nat → Bool) (x : Int) (h : a < n) : sm (fun v => if S v = true then (if a = v then x else 0) else 0) n = if S a = true then x else 0:=by
 have : sm (fun v => if S v = true then (if a = v then x else 0) else 0) n = sm (fun v => if v = a then (if S a = true then x else 0) else 0) n:=by
  apply sm_congr
  intro v _
  by_cases e : v = a
  case pos => subst e; simp
  have e' : ¬ a = v:=fun h => e h.symm
  rw [if_neg e]; simp [e']
 rw [this,sm_one n a _ h]
section
variable {n m : Nat} {fr tw : Nat → Nat} {f : Nat → Int} (hf : ∀ i,i < m → fr i < n) (ht : ∀ i,i < m → tw i < n)
def net (m : Nat) (fr tw : Nat → Nat) (f : Nat → Int) (v : Nat) : Int:=sm (fun i => (if fr i = v then f i else 0) - (if tw i = v then f i else 0)) m
include hf ht
theorem net_set (S : Nat → Bool) : sm (fun v => if S v = true then net m fr tw f v else 0) n = sm (fun i => (if S (fr i) = true then f i else 0) - (if S (tw i) = true then f i else 0)) m:=by
 have h1 : sm (fun v => if S v = true then net m fr tw f v else 0) n = sm (fun v => sm (fun i => (if S v = true then (if fr i = v then f i else 0) else 0) - (if S v = true then (if tw i = v then f i else 0) else 0)) m) n:=by
  apply sm_congr
  intro v _
  by_cases e : S v = true
  case pos => simp only [e,if_true,net]
  simp only [e,if_false,Bool.false_eq_true];rw [show (fun i : Nat => (0 : Int) - 0) = fun _ => 0 from rfl,sm_zero]
 rw [h1,sm_swap]
 apply sm_congr
 intro i hi;rw [sm_sub,sm_pick n (fr i) S (f i) (hf i hi),sm_pick n (tw i) S (f i) (ht i hi)]
theorem net_cut {s t : Nat} (hs : s < n) (hz : ∀ v,v < n → v ≠ s → v ≠ t → net m fr tw f v = 0) (S : Nat → Bool) (h1 : S s = true) (h2 : S t = false) : net m fr tw f s = sm (fun i => (if S (fr i) = true then f i else 0) - (if S (tw i) = true then f i else 0)) m:=by
 rw [← net_set hf ht S];have : sm (fun v => if S v = true then net m fr tw f v else 0) n = sm (fun v => if v = s then net m fr tw f s else 0) n:=by
  apply sm_congr
  intro v hv
  by_cases e : v = s
  case pos => subst e; rw [if_pos h1,if_pos rfl]
  rw [if_neg e]
  split
  ·rename_i h3;exact hz v hv e (by rintro rfl; rw [h2] at h3; cases h3)
  ·rfl
 rw [this,sm_one n s _ hs]
theorem net_all : sm (net m fr tw f) n = 0:=by
 have:=net_set (f:=f) hf ht (fun _ => true);simp only [if_true] at this;rw [this];have e : (fun i => f i - f i) = fun _ => (0 : Int):=by funext i; omega
 rw [e,sm_zero]
theorem net_end {s t : Nat} (hs : s < n) (ht' : t < n) (hne : s ≠ t) (hz : ∀ v,v < n → v ≠ s → v ≠ t → net m fr tw f v = 0) : net m fr tw f t = - net m fr tw f s:=by
 have h:=net_all (f:=f) hf ht;have : sm (net m fr tw f) n = sm (fun v => (if v = s then net m fr tw f s else 0) + (if v = t then net m fr tw f t else 0)) n:=by
  apply sm_congr
  intro v hv
  by_cases e : v = s
  case pos => subst e; rw [if_pos rfl,if_neg hne]; omega
  rw [if_neg e]
  by_cases e' : v = t
  case pos => subst e'; rw [if_pos rfl]; omega
  rw [if_neg e',hz v hv e e']; rfl
 rw [this,sm_add,sm_one n s _ hs,sm_one n t _ ht'] at h;omega
end
def cut (m : Nat) (fr tw : Nat → Nat) (cap : Nat → Int) (S : Nat → Bool) : Int:=sm (fun i => if S (fr i) = true then (if S (tw i) = true then 0 else cap i) else 0) m
section
variable {n m : Nat} {fr tw : Nat → Nat} {f cap : Nat → Int} (hf : ∀ i,i < m → fr i < n) (ht : ∀ i,i < m → tw i < n) (h0 : ∀ i,i < m → 0 ≤ f i ∧ f i ≤ cap i) {s t : Nat} (hs : s < n) (hz : ∀ v,v < n → v ≠ s → v ≠ t → net m fr tw f v = 0)
include hf ht h0 hs hz
theorem value_le (S : Nat → Bool) (h1 : S s = true) (h2 : S t = false) : net m fr tw f s ≤ cut m fr tw cap S:=by
 rw [net_cut hf ht hs hz S h1 h2]
 apply sm_le
 intro i hi;have:=h0 i hi
 by_cases a : S (fr i) = true <;> by_cases b : S (tw i) = true <;> simp only [a,b,if_true,if_false,Bool.false_eq_true] <;> omega
end
end Go.Proofs.Ytlhmljngjdfbpaa.Fl
end
section
set_option linter.unusedSectionVars false
namespace Go.Proofs.Ytlhmljngjdfbpaa.Sp
structure G where
 n : Nat
 m : Nat
 fr : Nat → Nat
 tw : Nat → Nat
 w : Nat → Int
 use : Nat → Bool
structure G.Ok (g : G) : Prop where
 fl : ∀ i,i < g.m → g.fr i < g.n
 tl : ∀ i,i < g.m → g.tw i < g.n
 w0 : ∀ i,i < g.m → 0 ≤ g.w i
inductive Wk (g : G) : Nat → Nat → Nat → Int → Prop
 | nil (v : Nat) : Wk g v v 0 0
 | cons {i v k : Nat} {c : Int} : i < g.m → g.use i = true → Wk g (g.tw i) v k c → Wk g (g.fr i) v (k + 1) (g.w i + c)
theorem nodup_len : ∀ (n : Nat) (l : List Nat),l.Nodup → (∀ x ∈ l,x < n) → l.length ≤ n:=by
 intro n
 induction n with
 | zero =>
  intro l _ h;cases l with
  | nil => simp
  | cons a l => exact absurd (h a (by simp)) (by omega)
 | succ n ih =>
  intro l hn h;have h1:=ih (l.erase n) (hn.erase n) (fun x hx => by
   have h2:=h x (List.mem_of_mem_erase hx);have h3 : x ≠ n:=by
    rintro rfl;exact (List.Nodup.not_mem_erase hn) hx
   omega)
  have:=List.length_erase_le (a:=n) (l:=l);have h4 : l.length ≤ (l.erase n).length + 1:=by
   rw [List.length_erase]
   split <;> omega
  omega
inductive Sm (g : G) (t : Nat) : Nat → List Nat → Nat → Int → Prop
 | nil : Sm g t t [t] 0 0
 | cons {i k : Nat} {L : List Nat} {c : Int} : i < g.m → g.use i = true → Sm g t (g.tw i) L k c → g.fr i ∉ L → Sm g t (g.fr i) (g.fr i :: L) (k + 1) (g.w i + c)
def Opt (g : G) (t : Nat) (L : Nat → Option Int) : Prop:=∀ v,v < g.n → (∀ x,L v = some x → ∃ k,Wk g v t k x) ∧ (∀ k c,Wk g v t k c → ∃ x,L v = some x ∧ x ≤ c)
def lts (a : Int) : Option Int → Bool
 | none => true
 | some y => decide (a < y)
def put (L : Nat → Option Int) (a : Nat) (x : Int) : Nat → Option Int:=fun v => if v = a then some x else L v
def relax (g : G) (L : Nat → Option Int) (i : Nat) : Nat → Option Int :=
 if g.use i = true then
  match L (g.tw i) with
  | none => L
  | some x => if lts (x + g.w i) (L (g.fr i)) = true then put L (g.fr i) (x + g.w i) else L
 else L
def sweep (g : G) (L : Nat → Option Int) : Nat → (Nat → Option Int)
 | 0 => L
 | i + 1 => relax g (sweep g L i) i
def start (t : Nat) : Nat → Option Int:=fun v => if v = t then some 0 else none
def rounds (g : G) (t : Nat) : Nat → (Nat → Option Int)
 | 0 => start t
 | r + 1 => sweep g (rounds g t r) g.m
end Go.Proofs.Ytlhmljngjdfbpaa.Sp
namespace Go.Proofs.Ytlhmljngjdfbpaa.Sp
structure Dbl (g e s : G) (D : Nat → Option Int) : Prop where
 en : e.n = g.n
 em : e.m = g.m
 ef : e.fr = g.fr
 et : e.tw = g.tw
 eu : e.use = g.use
 ew : ∀ i,i < g.m → e.w i = 1000 * g.w i + 1
 sn : s.n = g.n
 sm : s.m = g.m
 sf : s.fr = g.fr
 st : s.tw = g.tw
 sw : ∀ i,i < g.m → s.w i = 1
 su : ∀ i,i < g.m → (s.use i = true ↔ g.use i = true ∧ ∃ x,D (g.tw i) = some x ∧ D (g.fr i) = some (g.w i + x))
section
variable {g e s : G} {t : Nat} {D S : Nat → Option Int} (h : Dbl g e s D) (ok : g.Ok) (hD : Opt g t D) (hS : Opt s t S) (ht : t < g.n)
include h
end
end Go.Proofs.Ytlhmljngjdfbpaa.Sp
end
section
set_option linter.unusedSimpArgs false
set_option linter.unusedSectionVars false
set_option linter.unusedVariables false
namespace Go.Proofs.Ytlhmljngjdfbpaa.Fl
def ud (F : Nat → Int) (a : Nat) (x : Int) : Nat → Int:=fun v => if v = a then x else F v
theorem ud_at (F : Nat → Int) (a : Nat) (x : Int) : ud F a x a = x:=by simp [ud]
theorem ud_off (F : Nat → Int) {a v : Nat} (x : Int) (h : v ≠ a) : ud F a x v = F v:=by simp [ud,h]
section
variable {m : Nat} {fr tw : Nat → Nat} {cap f : Nat → Int} {s : Nat}
def Came (m : Nat) (fr tw : Nat → Nat) (cap f : Nat → Int) (b : Int) (u v : Nat) : Prop:=(∃ i : Nat,i < m ∧ b = (i : Int) + 1 ∧ fr i = u ∧ tw i = v ∧ f i < cap i) ∨ (∃ i : Nat,i < m ∧ b = -(i : Int) - 1 ∧ tw i = u ∧ fr i = v ∧ 0 < f i)
structure Tr (m : Nat) (fr tw : Nat → Nat) (cap f : Nat → Int) (s : Nat) (b : Nat → Int) (L : List Nat) : Prop where
 nodup : L.Nodup
 root : s ∈ L
 up : ∀ p v q,L = p ++ v :: q → v ≠ s → ∃ u,u ∈ p ∧ Came m fr tw cap f (b v) u v
 none : ∀ v,v ∉ L ∨ v = s → b v = 0
theorem Came.ne {b : Int} {u v : Nat} (h : Came m fr tw cap f b u v) : b ≠ 0:=by
 rcases h with ⟨i,_,e,_⟩ | ⟨i,_,e,_⟩ <;> omega
theorem Tr.some {b : Nat → Int} {L : List Nat} (h : Tr m fr tw cap f s b L) {v : Nat} (hv : v ∈ L) (hs : v ≠ s) : b v ≠ 0:=by
 obtain ⟨p,q,e⟩:=List.append_of_mem hv;obtain ⟨u,_,c⟩:=h.up p v q e hs;exact c.ne
theorem Tr.free {b : Nat → Int} {L : List Nat} (h : Tr m fr tw cap f s b L) (v : Nat) : (b v = 0 ∧ v ≠ s) ↔ v ∉ L:=by
 constructor
 ·exact fun ⟨h1,h2⟩ hv => h.some hv h2 h1
 ·exact fun hv => ⟨h.none v (.inl hv),fun e => hv (by rw [e]; exact h.root)⟩
theorem Tr.start : Tr m fr tw cap f s (fun _ => 0) [s]:=by
 refine ⟨by simp,by simp,fun p v q e hv => ?_,fun _ _ => rfl⟩;cases p with
 | nil => simp at e; exact absurd e.1.symm hv
 | cons a p => simp at e
theorem Tr.add {b : Nat → Int} {L : List Nat} (h : Tr m fr tw cap f s b L) {u v : Nat} {x : Int} (hu : u ∈ L) (hv : v ∉ L) (c : Came m fr tw cap f x u v) : Tr m fr tw cap f s (ud b v x) (L ++ [v]):=by
 have hvs : v ≠ s:=fun e => hv (by rw [e]; exact h.root)
 refine ⟨?_,List.mem_append_left _ h.root,fun p w q e hw => ?_,fun w hw => ?_⟩
 ·rw [List.nodup_append];exact ⟨h.nodup,by simp,fun a ha b hb e => hv (by rw [List.mem_singleton] at hb; rw [← hb,← e]; exact ha)⟩
 ·by_cases hq : q = []
  case pos =>
   subst hq;have e2:=List.append_inj' e (by simp);obtain ⟨rfl,e3⟩:=e2;have e4 : v = w:=by simpa using e3
   subst e4;exact ⟨u,hu,by rw [ud_at]; exact c⟩
  obtain ⟨q',y,rfl⟩ : ∃ q' y,q = q' ++ [y]:=⟨q.dropLast,q.getLast hq,(List.dropLast_concat_getLast hq).symm⟩
  have e1 : L ++ [v] = (p ++ w :: q') ++ [y]:=by rw [e]; simp
  have e3:=(List.append_inj' e1 (by simp)).1;have hwv : w ≠ v:=fun e => hv (by rw [e3,← e]; simp)
  rw [ud_off _ _ hwv];exact h.up p w q' e3 hw
 ·have hwv : w ≠ v:=by
   rcases hw with hw | hw
   ·exact fun e => hw (by rw [e]; simp)
   ·exact fun e => hvs (by rw [← e]; exact hw)
  rw [ud_off _ _ hwv];exact h.none w (hw.imp (fun h k => h (List.mem_append_left _ k)) id)
abbrev St:=(Nat → Int) × List Nat
variable (fr tw cap f)
def vis1 (u i : Nat) (st : St) : St:=if fr i = u ∧ f i < cap i ∧ tw i ∉ st.2 then (ud st.1 (tw i) ((i : Int) + 1),st.2 ++ [tw i]) else st
def vis2 (u i : Nat) (st : St) : St:=if tw i = u ∧ 0 < f i ∧ fr i ∉ st.2 then (ud st.1 (fr i) (-(i : Int) - 1),st.2 ++ [fr i]) else st
def vis (u i : Nat) (st : St) : St:=vis2 fr tw f u i (vis1 fr tw cap f u i st)
def visAll (u : Nat) : Nat → Nat → St → St
 | _,0,st => st
 | i,d + 1,st => visAll u (i + 1) d (vis fr tw cap f u i st)
def bfs (m : Nat) : Nat → Nat → St → St
 | 0,_,st => st
 | d + 1,h,st => if hh : h < st.2.length then bfs m d (h + 1) (visAll fr tw cap f st.2[h] 0 m st) else st
variable {fr tw cap f}
def Shut (m : Nat) (fr tw : Nat → Nat) (cap f : Nat → Int) (L : List Nat) (u : Nat) (lo hi : Nat) : Prop:=∀ i,lo ≤ i → i < hi → (fr i = u → f i < cap i → tw i ∈ L) ∧ (tw i = u → 0 < f i → fr i ∈ L)
theorem Shut.mono {L L' : List Nat} {u lo hi : Nat} (h : Shut m fr tw cap f L u lo hi) (k : ∀ x,x ∈ L → x ∈ L') : Shut m fr tw cap f L' u lo hi :=
 fun i h1 h2 => ⟨fun a b => k _ ((h i h1 h2).1 a b),fun a b => k _ ((h i h1 h2).2 a b)⟩
variable {N : Nat} (hf : ∀ i,i < m → fr i < N) (ht : ∀ i,i < m → tw i < N)
def Good (m : Nat) (fr tw : Nat → Nat) (cap f : Nat → Int) (s N : Nat) (st : St) : Prop:=Tr m fr tw cap f s st.1 st.2 ∧ ∀ v ∈ st.2,v < N
include hf ht
theorem vis1_good {u i : Nat} {st : St} (h : Good m fr tw cap f s N st) (hu : u ∈ st.2) (hi : i < m) : Good m fr tw cap f s N (vis1 fr tw cap f u i st) ∧ ∃ x,(vis1 fr tw cap f u i st).2 = st.2 ++ x:=by
 unfold vis1
 split
 ·rename_i c;refine ⟨⟨h.1.add hu c.2.2 (.inl ⟨i,hi,rfl,c.1,rfl,c.2.1⟩),fun v hv => ?_⟩,_,rfl⟩
  rcases List.mem_append.1 hv with h1 | h1
  ·exact h.2 v h1
  ·rw [List.mem_singleton.1 h1]; exact ht i hi
 ·exact ⟨h,[],by simp⟩
theorem vis2_good {u i : Nat} {st : St} (h : Good m fr tw cap f s N st) (hu : u ∈ st.2) (hi : i < m) : Good m fr tw cap f s N (vis2 fr tw f u i st) ∧ ∃ x,(vis2 fr tw f u i st).2 = st.2 ++ x:=by
 unfold vis2
 split
 ·rename_i c;refine ⟨⟨h.1.add hu c.2.2 (.inr ⟨i,hi,rfl,c.1,rfl,c.2.1⟩),fun v hv => ?_⟩,_,rfl⟩
  rcases List.mem_append.1 hv with h1 | h1
  ·exact h.2 v h1
  ·rw [List.mem_singleton.1 h1]; exact hf i hi
 ·exact ⟨h,[],by simp⟩
theorem vis_good {u i : Nat} {st : St} (h : Good m fr tw cap f s N st) (hu : u ∈ st.2) (hi : i < m) : Good m fr tw cap f s N (vis fr tw cap f u i st) ∧ (∃ x,(vis fr tw cap f u i st).2 = st.2 ++ x) ∧ Shut m fr tw cap f (vis fr tw cap f u i st).2 u i (i + 1):=by
 obtain ⟨g1,x1,e1⟩:=vis1_good hf ht h hu hi;obtain ⟨g2,x2,e2⟩:=vis2_good hf ht g1 (u:=u) (i:=i) (by rw [e1]; exact List.mem_append_left _ hu) hi;refine ⟨g2,⟨x1 ++ x2,by unfold vis; rw [e2,e1,List.append_assoc]⟩,fun j h1 h2 => ?_⟩;have : j = i:=by omega
 subst this;constructor
 ·intro a b
  unfold vis
  rw [e2];refine List.mem_append_left _ ?_
  by_cases c : tw j ∈ st.2
  case pos => rw [e1]; exact List.mem_append_left _ c
  unfold vis1
  rw [if_pos ⟨a,b,c⟩];simp
 ·intro a b
  unfold vis
  by_cases c : fr j ∈ (vis1 fr tw cap f u j st).2
  case pos => rw [e2]; exact List.mem_append_left _ c
  unfold vis2
  rw [if_pos ⟨a,b,c⟩];simp
theorem visAll_good {u : Nat} : ∀ (d i : Nat) (st : St),Good m fr tw cap f s N st → u ∈ st.2 → i + d ≤ m → Good m fr tw cap f s N (visAll fr tw cap f u i d st) ∧ (∃ x,(visAll fr tw cap f u i d st).2 = st.2 ++ x) ∧ Shut m fr tw cap f (visAll fr tw cap f u i d st).2 u i (i + d)
 | 0,i,st,h,_,_ => ⟨h,⟨[],by simp [visAll]⟩,fun j h1 h2 => by omega⟩
 | d + 1,i,st,h,hu,hd => by
  obtain ⟨g1,⟨x1,e1⟩,s1⟩:=vis_good hf ht h hu (i:=i) (by omega);obtain ⟨g2,⟨x2,e2⟩,s2⟩:=visAll_good d (i + 1) (vis fr tw cap f u i st) g1 (by rw [e1]; exact List.mem_append_left _ hu) (by omega);refine ⟨g2,⟨x1 ++ x2,by simp only [visAll]; rw [e2,e1,List.append_assoc]⟩,fun j h1 h2 => ?_⟩
  by_cases c : j = i
  case neg => exact s2 j (by omega) (by omega)
  exact (s1.mono (L':=(visAll fr tw cap f u i (d + 1) st).2) (fun y hy => by simp only [visAll]; rw [e2]; exact List.mem_append_left _ hy)) j h1 (by omega)
theorem bfs_good : ∀ (d h : Nat) (st : St),Good m fr tw cap f s N st → N ≤ d + h → (∀ u ∈ st.2.take h,Shut m fr tw cap f st.2 u 0 m) → Good m fr tw cap f s N (bfs fr tw cap f m d h st) ∧ ∀ u ∈ (bfs fr tw cap f m d h st).2,Shut m fr tw cap f (bfs fr tw cap f m d h st).2 u 0 m
 | 0,h,st,g,hd,hs => by
  have:=Sp.nodup_len N st.2 g.1.nodup g.2;refine ⟨g,fun u hu => hs u ?_⟩;rw [List.take_of_length_le (by omega)];exact hu
 | d + 1,h,st,g,hd,hs => by
  unfold bfs
  split
  ·rename_i hh;obtain ⟨g1,⟨x,e⟩,s1⟩:=visAll_good hf ht (u:=st.2[h]) m 0 st g (List.getElem_mem hh) (by omega);refine bfs_good d (h + 1) _ g1 (by omega) (fun u hu => ?_);rw [e,List.take_append_of_le_length (by omega),List.take_succ_eq_append_getElem hh] at hu
   rcases List.mem_append.1 hu with h1 | h1
   ·exact (hs u h1).mono (fun y hy => by rw [e]; exact List.mem_append_left _ hy)
   ·rw [List.mem_singleton.1 h1];rw [Nat.zero_add] at s1;exact s1
  ·rename_i hh;refine ⟨g,fun u hu => hs u ?_⟩;rw [List.take_of_length_le (by omega)];exact hu
omit hf ht
inductive Way (fr tw : Nat → Nat) (s : Nat) (b : Nat → Int) : Nat → List (Nat × Bool) → Prop
 | nil : Way fr tw s b s []
 | fwd {v i : Nat} {P : List (Nat × Bool)} : v ≠ s → b v = (i : Int) + 1 → tw i = v → Way fr tw s b (fr i) P → Way fr tw s b v ((i,true) :: P)
 | bck {v i : Nat} {P : List (Nat × Bool)} : v ≠ s → b v = -(i : Int) - 1 → fr i = v → Way fr tw s b (tw i) P → Way fr tw s b v ((i,false) :: P)
def dl (d : Bool) : Int:=if d = true then 1 else -1
def ap (f : Nat → Int) : List (Nat × Bool) → (Nat → Int)
 | [] => f
 | x :: P => ap (ud f x.1 (f x.1 + dl x.2)) P
def Fit (m : Nat) (cap f : Nat → Int) (x : Nat × Bool) : Prop:=x.1 < m ∧ (x.2 = true → f x.1 < cap x.1) ∧ (x.2 = false → 0 < f x.1)
theorem Tr.way {b : Nat → Int} {L : List Nat} (h : Tr m fr tw cap f s b L) : ∀ (n : Nat) (p : List Nat) (v : Nat) (q : List Nat),p.length ≤ n → L = p ++ v :: q → ∃ P,Way fr tw s b v P ∧ (P.map Prod.fst).Nodup ∧ ∀ x ∈ P,Fit m cap f x ∧ fr x.1 ∈ p ++ [v] ∧ tw x.1 ∈ p ++ [v]:=by
 intro n
 induction n with
 | zero =>
  intro p v q hp e;have : p = []:=List.length_eq_zero_iff.1 (by omega);subst this
  by_cases hv : v = s
  case pos => subst hv; exact ⟨[],.nil,by simp,by simp⟩
  obtain ⟨u,hu,_⟩:=h.up [] v q e hv;simp at hu
 | succ n ih =>
  intro p v q hp e
  by_cases hv : v = s
  case pos => subst hv; exact ⟨[],.nil,by simp,by simp⟩
  obtain ⟨u,hu,c⟩:=h.up p v q e hv;obtain ⟨p1,p2,ep⟩:=List.append_of_mem hu;have hvp : v ∉ p:=fun hm => by
   have hn:=h.nodup;rw [e] at hn;exact (List.nodup_append.1 hn).2.2 v hm v (List.mem_cons_self ..) rfl
  obtain ⟨P,w,hn,hP⟩:=ih p1 u (p2 ++ v :: q) (by rw [ep] at hp; simp at hp; omega) (by rw [e,ep]; simp);have hin : ∀ y,y ∈ p1 ++ [u] → y ∈ p:=fun y hy => by
   rw [ep]
   rcases List.mem_append.1 hy with h1 | h1
   ·exact List.mem_append_left _ h1
   ·rw [List.mem_singleton.1 h1]; simp
  have hL : ∀ x ∈ P,Fit m cap f x ∧ fr x.1 ∈ p ++ [v] ∧ tw x.1 ∈ p ++ [v]:=fun x hx => ⟨(hP x hx).1,List.mem_append_left _ (hin _ (hP x hx).2.1),List.mem_append_left _ (hin _ (hP x hx).2.2)⟩
  rcases c with ⟨i,hi,eb,e1,e2,hc⟩ | ⟨i,hi,eb,e1,e2,hc⟩
  ·refine ⟨(i,true) :: P,.fwd hv eb e2 (by rw [e1]; exact w),?_,fun x hx => ?_⟩
   ·rw [List.map_cons,List.nodup_cons];refine ⟨fun hm => ?_,hn⟩;obtain ⟨x,hx,ex⟩:=List.mem_map.1 hm;have h3:=hin _ (hP x hx).2.2;have ex : x.1 = i:=ex;rw [ex,e2] at h3;exact hvp h3
   ·rcases List.mem_cons.1 hx with rfl | hx
    ·exact ⟨⟨hi,fun _ => hc,fun h => by simp at h⟩,by show fr i ∈ _; rw [e1]; exact List.mem_append_left _ hu,by show tw i ∈ _; rw [e2]; simp⟩
    ·exact hL x hx
  ·refine ⟨(i,false) :: P,.bck hv eb e2 (by rw [e1]; exact w),?_,fun x hx => ?_⟩
   ·rw [List.map_cons,List.nodup_cons];refine ⟨fun hm => ?_,hn⟩;obtain ⟨x,hx,ex⟩:=List.mem_map.1 hm;have h3:=hin _ (hP x hx).2.1;have ex : x.1 = i:=ex;rw [ex,e2] at h3;exact hvp h3
   ·rcases List.mem_cons.1 hx with rfl | hx
    ·exact ⟨⟨hi,fun h => by simp at h,fun _ => hc⟩,by show fr i ∈ _; rw [e2]; simp,by show tw i ∈ _; rw [e1]; exact List.mem_append_left _ hu⟩
    ·exact hL x hx
theorem ap_fit : ∀ (P : List (Nat × Bool)) (f : Nat → Int),(P.map Prod.fst).Nodup → (∀ x ∈ P,Fit m cap f x) → (∀ i,i < m → 0 ≤ f i ∧ f i ≤ cap i) → ∀ i,i < m → 0 ≤ ap f P i ∧ ap f P i ≤ cap i
 | [],f,_,_,h => h
 | x :: P,f,hn,hx,h => by
  rw [List.map_cons,List.nodup_cons] at hn;have h1:=hx x (List.mem_cons_self ..);refine ap_fit P _ hn.2 (fun y hy => ?_) (fun i hi => ?_)
  ·have hne : y.1 ≠ x.1:=fun e => hn.1 (by rw [← e]; exact List.mem_map_of_mem hy)
   have:=hx y (List.mem_cons_of_mem _ hy)
   unfold Fit at this ⊢
   rw [ud_off _ _ hne];exact this
  ·have:=h i hi
   by_cases c : i = x.1
   case neg => rw [ud_off _ _ c]; exact this
   subst c;rw [ud_at]
   unfold dl
   cases hd : x.2 with
   | true => have:=h1.2.1 hd; rw [if_pos rfl]; omega
   | false => have:=h1.2.2 hd; rw [if_neg (by simp)]; omega
theorem net_ud (f : Nat → Int) {i : Nat} (hi : i < m) (c : Int) (w : Nat) : net m fr tw (ud f i (f i + c)) w = net m fr tw f w + ((if fr i = w then c else 0) - (if tw i = w then c else 0)):=by
 unfold net
 have e : sm (fun j => (if fr j = w then ud f i (f i + c) j else 0) - (if tw j = w then ud f i (f i + c) j else 0)) m = sm (fun j => ((if fr j = w then f j else 0) - (if tw j = w then f j else 0)) + (if j = i then ((if fr i = w then c else 0) - (if tw i = w then c else 0)) else 0)) m:=by
  apply sm_congr
  intro j hj
  by_cases e : j = i
  case neg => rw [ud_off _ _ e,if_neg e,Int.add_zero]
  subst e;rw [ud_at,if_pos rfl]
  by_cases a : fr j = w <;> by_cases b : tw j = w <;> simp only [a,b,if_true,if_false] <;> omega
 rw [e,sm_add,sm_one m i _ hi]
theorem ap_net {b : Nat → Int} {v : Nat} {P : List (Nat × Bool)} (h : Way fr tw s b v P) : ∀ (f : Nat → Int),(∀ x ∈ P,x.1 < m) → ∀ w,net m fr tw (ap f P) w = net m fr tw f w + ((if s = w then 1 else 0) - (if v = w then 1 else 0)):=by
 induction h with
 | nil => intro f _ w; show net m fr tw f w = _; omega
 | @fwd v i P hv _ e _ ih =>
  intro f hP w;have hi:=hP _ (List.mem_cons_self ..);have:=ih (ud f i (f i + 1)) (fun x hx => hP x (List.mem_cons_of_mem _ hx)) w
  show net m fr tw (ap (ud f i (f i + 1)) P) w = _
  rw [this,net_ud f hi,e]
  by_cases a : s = w <;> by_cases b : fr i = w <;> by_cases c : v = w <;> simp only [a,b,c,if_true,if_false] <;> omega
 | @bck v i P hv _ e _ ih =>
  intro f hP w;have hi:=hP _ (List.mem_cons_self ..);have:=ih (ud f i (f i + -1)) (fun x hx => hP x (List.mem_cons_of_mem _ hx)) w
  show net m fr tw (ap (ud f i (f i + -1)) P) w = _
  rw [this,net_ud f hi,e]
  by_cases a : s = w <;> by_cases b : tw i = w <;> by_cases c : v = w <;> simp only [a,b,c,if_true,if_false] <;> omega
end
end Go.Proofs.Ytlhmljngjdfbpaa.Fl
end
section
set_option linter.unusedSimpArgs false
set_option linter.unusedVariables false
namespace Go.Proofs.Ytlhmljngjdfbpaa.Pure
open Go.RowKit Go.Proofs.Ytlhmljngjdfbpaa.Pr Go.Proofs.YtlhmljngjdfbpaaW.PrintWords Go.Proofs.YtlhmljngjdfbpaaW.PrintLast Go.Proofs.YtlhmljngjdfbpaaW.PrintMore
def lst (n : Nat) (F : Nat → Int) : List Int:=(List.range n).map F
theorem lst_len (n : Nat) (F : Nat → Int) : (lst n F).length = n:=by simp [lst]
theorem lst_nth {n v : Nat} (F : Nat → Int) (h : v < n) : nth (lst n F) v = F v:=by
 simp [nth,lst,h]
theorem lst_rd {n v : Nat} (F : Nat → Int) (h : v < n) : rd (lst n F) (v : Int) = F v:=by rw [rdg,lst_nth F h]
theorem lst_congr {n : Nat} {F G : Nat → Int} (h : ∀ v,v < n → F v = G v) : lst n F = lst n G:=by
 unfold lst
 exact List.map_congr_left (fun v hv => h v (List.mem_range.1 hv))
def upd (F : Nat → Int) (a : Nat) (x : Int) : Nat → Int:=fun v => if v = a then x else F v
theorem lst_set {n a : Nat} (F : Nat → Int) (x : Int) : (lst n F).set a x = lst n (upd F a x):=by
 apply List.ext_getElem (by simp [lst])
 intro i h1 h2;have hi : i < n:=by simpa [lst] using h2
 simp only [List.getElem_set]
 by_cases e : a = i
 case pos => subst e; simp [lst,upd]
 simp [lst,upd,e,show ¬ i = a from fun h => e h.symm]
inductive Conn (E : Nat → Nat → Prop) : Nat → Nat → Prop
 | refl (v : Nat) : Conn E v v
 | tail {u v w : Nat} : Conn E u v → (E v w ∨ E w v) → Conn E u w
end Go.Proofs.Ytlhmljngjdfbpaa.Pure
end
section
set_option linter.unusedSimpArgs false
set_option linter.unusedVariables false
set_option linter.unusedSectionVars false
namespace Go.Proofs.Ytlhmljngjdfbpaa.Pure
open Go.RowKit Go.Proofs.Ytlhmljngjdfbpaa.Pr Go.Proofs.YtlhmljngjdfbpaaW.PrintWords Go.Proofs.YtlhmljngjdfbpaaW.PrintLast Go.Proofs.YtlhmljngjdfbpaaW.PrintMore
open Go.Proofs.Ytlhmljngjdfbpaa.Fl (ud vis1 vis2 vis visAll bfs Tr Way Fit ap dl net cut Shut sm)
def frF (l : List Arc) (i : Nat) : Nat:=(arc l i).f0.toNat
def twF (l : List Arc) (i : Nat) : Nat:=(arc l i).f1.toNat
def capF (l : List Arc) (i : Nat) : Int:=(arc l i).f4
def iL (L : List Nat) : List Int:=L.map fun v => ((v : Nat) : Int)
theorem iL_len (L : List Nat) : (iL L).length = L.length:=by simp [iL]
theorem iL_snoc (L : List Nat) (v : Nat) : iL L ++ [((v : Nat) : Int)] = iL (L ++ [v]):=by simp [iL]
theorem iL_rd {L : List Nat} {h : Nat} (hh : h < L.length) : rd (iL L) (h : Int) = ((L[h] : Nat) : Int):=by
 rw [rdg,nth_get (by rw [iL_len]; exact hh)];simp [iL]
theorem set_ud (n : Nat) (F : Nat → Int) (a : Nat) (x : Int) : (lst n F).set a x = lst n (ud F a x):=lst_set F x
section
variable {N : Nat} {l : List Arc} (hg : NetGood N l)
include hg
theorem arcF {i : Nat} (h : i < l.length) : (((frF l i : Nat) : Int) = (arc l i).f0 ∧ frF l i < N) ∧ (((twF l i : Nat) : Int) = (arc l i).f1 ∧ twF l i < N) ∧ (0 ≤ capF l i ∧ capF l i ≤ 9):=by
 have:=hg.ok i h
 unfold frF twF capF
 omega
variable {f : Nat → Int} {s t : Nat} (hs : s < N) (ht : t < N)
include hs ht
abbrev GoodF (N : Nat) (l : List Arc) (f : Nat → Int) (s : Nat) (st : Fl.St) : Prop:=Fl.Good l.length (frF l) (twF l) (capF l) f s N st
abbrev visF (l : List Arc) (f : Nat → Int) (u i : Nat) (st : Fl.St) : Fl.St:=vis (frF l) (twF l) (capF l) f u i st
theorem good_len {st : Fl.St} (h : GoodF N l f s st) : st.2.length ≤ 8:=by
 have:=Sp.nodup_len N st.2 h.1.nodup h.2;have:=hg.n8;omega
theorem hfF : ∀ i,i < l.length → frF l i < N:=fun i hi => (arcF hg hi).1.2
theorem htF : ∀ i,i < l.length → twF l i < N:=fun i hi => (arcF hg hi).2.1.2
omit hg hs ht in
theorem back_w {i : Nat} (h : i < 100) : wrap64 ((wrap64 (-(i : Int))) - 1) = -(i : Int) - 1:=by
 rw [w64 (n:=-(i : Int)) (by omega) (by omega),w64 (by omega) (by omega)]
omit hg hs ht in
theorem next_w {i : Nat} (h : i < 100) : wrap64 ((i : Int) + 1) = (i : Int) + 1:=w64 (by omega) (by omega)
omit hg hs ht in
theorem short_w {L : List Nat} (h : L.length ≤ 100) : (iL L).length < 17592186044416:=by rw [iL_len]; omega
def come (N : Nat) (l : List Arc) (f : Nat → Int) (s : Nat) : Fl.St:=bfs (frF l) (twF l) (capF l) f l.length N 0 ((fun _ => 0),[s])
omit ht in
theorem start_good : GoodF N l f s ((fun _ => 0),[s]):=⟨Fl.Tr.start,fun v hv => by rw [List.mem_singleton.1 hv]; exact hs⟩
theorem come_good : GoodF N l f s (come N l f s) ∧ ∀ u ∈ (come N l f s).2,Fl.Shut l.length (frF l) (twF l) (capF l) f (come N l f s).2 u 0 l.length :=
 Fl.bfs_good (hfF hg hs ht) (htF hg hs ht) N 0 _ (start_good hg hs) (by omega) (fun u hu => by simp at hu)
theorem come_way (h : t ∈ (come N l f s).2) : ∃ P,Fl.Way (frF l) (twF l) s (come N l f s).1 t P ∧ (P.map Prod.fst).Nodup ∧ ∀ x ∈ P,Fl.Fit l.length (capF l) f x:=by
 obtain ⟨p,q,e⟩:=List.append_of_mem h;obtain ⟨P,w,hn,hP⟩:=(come_good hg hs ht).1.1.way p.length p t q (Nat.le_refl _) e;exact ⟨P,w,hn,fun x hx => (hP x hx).1⟩
end
inductive Aug (N : Nat) (l : List Arc) (s t : Nat) : (Nat → Int) → (Nat → Int) → Prop
 | stop {f : Nat → Int} : t ∉ (come N l f s).2 → Aug N l s t f f
 | more {f g : Nat → Int} {P : List (Nat × Bool)} : t ∈ (come N l f s).2 → Fl.Way (frF l) (twF l) s (come N l f s).1 t P → (P.map Prod.fst).Nodup → (∀ x ∈ P,Fl.Fit l.length (capF l) f x) → Aug N l s t (ap f P) g → Aug N l s t f g
structure FlowI (N : Nat) (l : List Arc) (s t : Nat) (f : Nat → Int) : Prop where
 fits : ∀ i,i < l.length → 0 ≤ f i ∧ f i ≤ capF l i
 even : ∀ v,v < N → v ≠ s → v ≠ t → Fl.net l.length (frF l) (twF l) f v = 0
section
variable {N : Nat} {l : List Arc} (hg : NetGood N l) {s t : Nat} (hs : s < N) (ht : t < N) (hne : s ≠ t)
include hg hs ht hne
theorem flow_ap {f : Nat → Int} (h : FlowI N l s t f) {b : Nat → Int} {P : List (Nat × Bool)} (w : Fl.Way (frF l) (twF l) s b t P) (hn : (P.map Prod.fst).Nodup) (hf : ∀ x ∈ P,Fl.Fit l.length (capF l) f x) : FlowI N l s t (ap f P) ∧ Fl.net l.length (frF l) (twF l) (ap f P) s = Fl.net l.length (frF l) (twF l) f s + 1:=by
 have hnet:=Fl.ap_net w f (fun x hx => (hf x hx).1);refine ⟨⟨Fl.ap_fit P f hn hf h.fits,fun v hv h1 h2 => ?_⟩,?_⟩
 ·rw [hnet,h.even v hv h1 h2,if_neg (fun e => h1 e.symm),if_neg (fun e => h2 e.symm)]; rfl
 ·rw [hnet,if_pos rfl,if_neg (fun e => hne e.symm)]; rfl
theorem flow_le {f : Nat → Int} (h : FlowI N l s t f) : Fl.net l.length (frF l) (twF l) f s ≤ Fl.cut l.length (frF l) (twF l) (capF l) (fun v => v == s) :=
 Fl.value_le (hfF hg hs ht) (htF hg hs ht) h.fits hs h.even _ (by simp) (by simp; exact fun e => hne e.symm)
theorem aug_ex : ∀ (m : Nat) (f : Nat → Int),FlowI N l s t f → Fl.cut l.length (frF l) (twF l) (capF l) (fun v => v == s) - Fl.net l.length (frF l) (twF l) f s ≤ (m : Int) → ∃ g,Aug N l s t f g:=by
 intro m
 induction m with
 | zero =>
  intro f h hm
  by_cases c : t ∈ (come N l f s).2
  case neg => exact ⟨f,.stop c⟩
  obtain ⟨P,w,hn,hf⟩:=come_way hg hs ht c;have h1:=flow_ap hg hs ht hne h w hn hf;have h2:=flow_le hg hs ht hne h1.1;omega
 | succ m ih =>
  intro f h hm
  by_cases c : t ∈ (come N l f s).2
  case neg => exact ⟨f,.stop c⟩
  obtain ⟨P,w,hn,hf⟩:=come_way hg hs ht c;have h1:=flow_ap hg hs ht hne h w hn hf;obtain ⟨g,hg2⟩:=ih (ap f P) h1.1 (by omega);exact ⟨g,.more c w hn hf hg2⟩
theorem flow_zero : FlowI N l s t (fun _ => 0):=by
 refine ⟨fun i hi => ?_,fun v hv _ _ => ?_⟩
 ·have:=(arcF hg hi).2.2;omega
 ·unfold Fl.net
  have e : (fun i => (if frF l i = v then (0 : Int) else 0) - (if twF l i = v then (0 : Int) else 0)) = fun _ => 0:=by
   funext i
   split <;> split <;> rfl
  rw [e,Fl.sm_zero]
theorem aug_zero : ∃ g,Aug N l s t (fun _ => 0) g:=by
 have h0:=flow_zero hg hs ht hne;exact aug_ex hg hs ht hne _ _ h0 (Int.self_le_toNat _)
end
end Go.Proofs.Ytlhmljngjdfbpaa.Pure
end
section
set_option linter.unusedSimpArgs false
set_option linter.unusedVariables false
set_option linter.unusedSectionVars false
namespace Go.Proofs.Ytlhmljngjdfbpaa.Pure
open Go.RowKit Go.Proofs.Ytlhmljngjdfbpaa.Pr Go.Proofs.YtlhmljngjdfbpaaW.PrintWords Go.Proofs.YtlhmljngjdfbpaaW.PrintLast Go.Proofs.YtlhmljngjdfbpaaW.PrintMore
open Go.Proofs.Ytlhmljngjdfbpaa.Fl (ud net cut sm)
theorem most_le {n : Int} {l : List Arc} (h : NetGood n l) {a b : Nat} : ∀ S s,s < S → side s a = true → side s b = false → 0 ≤ mostTo l a b S ∧ mostTo l a b S ≤ cutOf l s:=by
 intro S
 induction S with
 | zero => intro s hs; omega
 | succ S ih =>
  intro s hs ha hb;have hc:=(cutOf_bd h S).1;simp only [mostTo]
  by_cases e : s = S
  case pos =>
   subst e;rw [if_pos ha,if_neg (by simp [hb])]
   split
   ·omega
   ·split <;> omega
  have:=ih s (by omega) ha hb
  split
  ·split
   ·exact this
   ·split
    ·omega
    ·split <;> omega
  ·exact this
theorem most_from {n : Int} {l : List Arc} (h : NetGood n l) {a b : Nat} : ∀ S,mostTo l a b S = -1 ∨ ∃ s,s < S ∧ side s a = true ∧ side s b = false ∧ mostTo l a b S = cutOf l s:=by
 intro S
 induction S with
 | zero => exact .inl rfl
 | succ S ih =>
  have keep : mostTo l a b (S + 1) = mostTo l a b S → mostTo l a b (S + 1) = -1 ∨ ∃ s,s < S + 1 ∧ side s a = true ∧ side s b = false ∧ mostTo l a b (S + 1) = cutOf l s:=fun e => by
   rw [e]
   rcases ih with h | ⟨s,h1,h2⟩
   ·exact .inl h
   ·exact .inr ⟨s,by omega,h2⟩
  by_cases ha : side S a = true
  case neg => exact keep (by simp only [mostTo]; rw [if_neg ha])
  by_cases hb : side S b = true
  case pos => exact keep (by simp only [mostTo]; rw [if_pos ha,if_pos hb])
  have hb2 : side S b = false:=by simpa using hb
  have new : mostTo l a b (S + 1) = cutOf l S → mostTo l a b (S + 1) = -1 ∨ ∃ s,s < S + 1 ∧ side s a = true ∧ side s b = false ∧ mostTo l a b (S + 1) = cutOf l s:=fun e => .inr ⟨S,by omega,ha,hb2,e⟩
  by_cases c : mostTo l a b S < 0
  case pos => exact new (by simp only [mostTo]; rw [if_pos ha,if_neg hb,if_pos c])
  by_cases c2 : cutOf l S < mostTo l a b S
  case pos => exact new (by simp only [mostTo]; rw [if_pos ha,if_neg hb,if_neg c,if_pos c2])
  exact keep (by simp only [mostTo]; rw [if_pos ha,if_neg hb,if_neg c,if_neg c2])
theorem cutTo_sm (l : List Arc) (s : Nat) : ∀ i,cutTo l s i = cut i (frF l) (twF l) (capF l) (fun v => side s v)
 | 0 => rfl
 | i + 1 => by
  have ih:=cutTo_sm l s i
  unfold cut at ih ⊢
  simp only [cutTo,sm];rw [ih]
  congr 1
  by_cases h1 : side s (arc l i).f0.toNat = true <;> by_cases h2 : side s (arc l i).f1.toNat = true <;> simp [outB,frF,twF,capF,h1,h2]
section
variable {N : Nat} {l : List Arc} (hg : NetGood N l)
include hg
theorem net_bd {f : Nat → Int} (hb : ∀ i,i < l.length → 0 ≤ f i ∧ f i ≤ capF l i) (v : Nat) : ∀ i,i ≤ l.length → -(9 * (i : Int)) ≤ net i (frF l) (twF l) f v ∧ net i (frF l) (twF l) f v ≤ 9 * (i : Int)
 | 0,_ => by simp [net,sm]
 | i + 1,hi => by
  have ih:=net_bd hb v i (by omega);have h1:=hb i (by omega);have h2:=(arcF hg (show i < l.length by omega)).2.2
  unfold net at ih ⊢
  simp only [sm]
  by_cases a : frF l i = v <;> by_cases b : twF l i = v <;> simp only [a,b,if_true,if_false] <;> omega
theorem netTo_lst {x : List Int} (hb : FitsFrom l x 0) : ∀ i,i ≤ l.length → netTo (N : Int) l x i = lst N (fun v => net i (frF l) (twF l) (nth x) v):=by
 have hb2 : ∀ i,i < l.length → 0 ≤ nth x i ∧ nth x i ≤ capF l i:=fun i hi => hb i hi (Nat.zero_le _)
 have h16:=hg.len;intro i
 induction i with
 | zero =>
  intro _;simp only [netTo]
  apply List.ext_getElem (by simp [lst])
  intro i h1 h2;simp [lst,net,sm]
 | succ i ih =>
  intro hi;have hlt : i < l.length:=by omega
  have ha:=arcF hg hlt;have hne:=(hg.ok i hlt).2.2.1;have hfi:=hb2 i hlt;have hcap:=ha.2.2;have hne2 : frF l i ≠ twF l i:=fun e => hne (by rw [← ha.1.1,← ha.2.1.1,e])
  have n1:=net_bd hg hb2 (frF l i) i (by omega);have n2:=net_bd hg hb2 (twF l i) i (by omega);simp only [netTo];rw [ih (by omega)];have r1 : rd (lst N (fun v => net i (frF l) (twF l) (nth x) v)) (arc l i).f0 = net i (frF l) (twF l) (nth x) (frF l i):=by rw [← ha.1.1]; exact lst_rd _ ha.1.2
  rw [r1,show (arc l i).f0.toNat = frF l i from rfl,show (arc l i).f1.toNat = twF l i from rfl,set_ud];have r2 : rd (lst N (ud (fun v => net i (frF l) (twF l) (nth x) v) (frF l i) (wrap64 (net i (frF l) (twF l) (nth x) (frF l i) + nth x i)))) (arc l i).f1 = net i (frF l) (twF l) (nth x) (twF l i):=by
   rw [← ha.2.1.1,lst_rd _ ha.2.1.2,Fl.ud_off _ _ (fun e => hne2 e.symm)]
  rw [r2,set_ud,w64 (by omega) (by omega),w64 (by omega) (by omega)];refine lst_congr (fun v hv => ?_);have e : net (i + 1) (frF l) (twF l) (nth x) v = net i (frF l) (twF l) (nth x) v + ((if frF l i = v then nth x i else 0) - (if twF l i = v then nth x i else 0)):=rfl;rw [e]
  by_cases a : v = twF l i
  case pos =>
   subst a;rw [Fl.ud_at,if_neg hne2,if_pos rfl]; omega
  have t1 : ¬ twF l i = v:=fun h => a h.symm
  rw [Fl.ud_off _ _ a,if_neg t1]
  by_cases b : v = frF l i
  case pos =>
   have t2 : frF l i = v:=b.symm;rw [if_pos t2,b,Fl.ud_at]; omega
  have t2 : ¬ frF l i = v:=fun h => b h.symm
  rw [Fl.ud_off _ _ b,if_neg t2]; omega
variable {s t : Nat} (hs : s < N) (ht : t < N) (hne : s ≠ t)
include hs ht hne
theorem most_pos : 0 ≤ mostTo l s t (2 ^ N):=by
 have h8:=hg.n8;have h1 : side (2 ^ s) s = true:=by simp [side]
 have h2 : side (2 ^ s) t = false:=by
  simp only [side];rw [Nat.testBit_two_pow];simp [hne]
 exact (most_le hg (2 ^ N) (2 ^ s) (Nat.pow_lt_pow_right (by omega) hs) h1 h2).1
theorem value_most {f : Nat → Int} (h : FlowI N l s t f) : net l.length (frF l) (twF l) f s ≤ mostTo l s t (2 ^ N):=by
 rcases most_from hg (a:=s) (b:=t) (2 ^ N) with e | ⟨S,_,h1,h2,e⟩
 ·have:=most_pos hg hs ht hne;omega
 ·rw [e]
  unfold cutOf
  rw [cutTo_sm];exact Fl.value_le (hfF hg hs ht) (htF hg hs ht) h.fits hs h.even _ h1 h2
end
end Go.Proofs.Ytlhmljngjdfbpaa.Pure
end
section
set_option linter.unusedSimpArgs false
set_option linter.unusedVariables false
set_option linter.unusedSectionVars false
namespace Go.Proofs.Ytlhmljngjdfbpaa.Pure
open Go.RowKit Go.Proofs.Ytlhmljngjdfbpaa.Pr Go.Proofs.YtlhmljngjdfbpaaW.PrintWords Go.Proofs.YtlhmljngjdfbpaaW.PrintLast Go.Proofs.YtlhmljngjdfbpaaW.PrintMore
open Go.Proofs.Ytlhmljngjdfbpaa.Fl (ud vis1 vis2 vis visAll bfs Tr Way Fit ap dl net cut Shut sm)
section
variable {N : Nat} {l : List Arc} (hg : NetGood N l)
include hg
variable {f : Nat → Int} {s t : Nat} (hs : s < N) (ht : t < N)
include hs ht
theorem half2 {R : List Int × Bool} {st : Fl.St} (h : GoodF N l f s st) {i q u : Nat} (hi : i < l.length) (hq : q < st.2.length) (hu : rd (iL st.2) (q : Int) = (u : Int)) (hn : Ev (fun k => spec_l25Push.l2 k (lst l.length f) (s : Int) (t : Int) (lst N (vis2 (frF l) (twF l) f u i st).1) (iL (vis2 (frF l) (twF l) f u i st).2) (q : Int) ((i : Int) + 1) (N : Int) l) R) :
  Ev (fun k => if 0 ≤ (q : Int) then (if (q : Int) < ((iL st.2).length : Int) then (if ((twF l i : Nat) : Int) = (rd (iL st.2) (q : Int)) then (if 0 ≤ (i : Int) then (if (i : Int) < (l.length : Int) then (if (rd (lst l.length f) (i : Int)) > 0 then (if 0 ≤ ((frF l i : Nat) : Int) then (if ((frF l i : Nat) : Int) < (N : Int) then (if (rd (lst N st.1) ((frF l i : Nat) : Int)) = 0 then (if ((frF l i : Nat) : Int) = (s : Int) then (spec_l25Push.l2 k (lst l.length f) (s : Int) (t : Int) (lst N st.1) (iL st.2) (q : Int) ((i : Int) + 1) (N : Int) l) else (if (iL st.2).length < 17592186044416 then (spec_l25Push.l2 k (lst l.length f) (s : Int) (t : Int) ((lst N st.1).set (frF l i) (-(i : Int) - 1)) (iL st.2 ++ [((frF l i : Nat) : Int)]) (q : Int) ((i : Int) + 1) (N : Int) l) else (none))) else (spec_l25Push.l2 k (lst l.length f) (s : Int) (t : Int) (lst N st.1) (iL st.2) (q : Int) ((i : Int) + 1) (N : Int) l)) else (none)) else (none)) else (spec_l25Push.l2 k (lst l.length f) (s : Int) (t : Int) (lst N st.1) (iL st.2) (q : Int) ((i : Int) + 1) (N : Int) l)) else (none)) else (none)) else (spec_l25Push.l2 k (lst l.length f) (s : Int) (t : Int) (lst N st.1) (iL st.2) (q : Int) ((i : Int) + 1) (N : Int) l)) else (none)) else (none)) R:=by
 have ha:=(arcF hg hi).1.2;have hl8:=good_len hg hs ht h;have hfree:=h.1.free (frF l i);have hb : rd (lst N st.1) ((frF l i : Nat) : Int) = st.1 (frF l i):=lst_rd _ ha;have hfl : rd (lst l.length f) (i : Int) = f i:=lst_rd _ hi;rw [hb,hfl,hu];refine Ev.pos (Int.natCast_nonneg q) (Ev.pos (by rw [iL_len]; exact Int.ofNat_lt.2 hq) ?_)
 unfold vis2 at hn
 by_cases c1 : twF l i = u
 case neg =>
  rw [if_neg (fun h => c1 h.1)] at hn;exact Ev.neg (fun e => c1 (Int.ofNat_inj.1 e)) hn
 refine Ev.pos (by rw [c1]) (Ev.pos (Int.natCast_nonneg i) (Ev.pos (Int.ofNat_lt.2 hi) ?_))
 by_cases c2 : 0 < f i
 case neg =>
  rw [if_neg (fun h => c2 h.2.1)] at hn;exact Ev.neg c2 hn
 refine Ev.pos c2 (Ev.pos (Int.natCast_nonneg _) (Ev.pos (Int.ofNat_lt.2 ha) ?_))
 by_cases c3 : frF l i ∉ st.2
 case pos =>
  rw [if_pos ⟨c1,c2,c3⟩] at hn;obtain ⟨f1,f2⟩:=hfree.2 c3;refine Ev.pos f1 (Ev.neg (fun e => f2 (Int.ofNat_inj.1 e)) (Ev.pos (short_w (Nat.le_trans hl8 (by decide))) ?_));rw [iL_snoc,set_ud];exact hn
 rw [if_neg (fun h => c3 h.2.2)] at hn
 by_cases c4 : st.1 (frF l i) = 0
 case neg => exact Ev.neg c4 hn
 have e : frF l i = s:=Classical.byContradiction (fun e => c3 (hfree.1 ⟨c4,e⟩));exact Ev.pos c4 (Ev.pos (by rw [e]) hn)
theorem arc_step {R : List Int × Bool} {st : Fl.St} (h : GoodF N l f s st) {i q u : Nat} (hi : i < l.length) (hq : q < st.2.length) (hu : rd (iL st.2) (q : Int) = (u : Int)) (hm : u ∈ st.2) (hn : Ev (fun k => spec_l25Push.l2 k (lst l.length f) (s : Int) (t : Int) (lst N (visF l f u i st).1) (iL (visF l f u i st).2) (q : Int) ((i : Int) + 1) (N : Int) l) R) :
  Ev (fun k => spec_l25Push.l2 k (lst l.length f) (s : Int) (t : Int) (lst N st.1) (iL st.2) (q : Int) (i : Int) (N : Int) l) R:=by
 have hfr:=(arcF hg hi).1;have htw:=(arcF hg hi).2.1;have hi100 : i < 100:=Nat.lt_of_lt_of_le hi (Nat.le_trans hg.len (by decide));have hl8:=good_len hg hs ht h;have hfree:=h.1.free (twF l i);have hup:=next_w hi100;have hbw:=back_w hi100;have hb : rd (lst N st.1) ((twF l i : Nat) : Int) = st.1 (twF l i):=lst_rd _ htw.2;have hfl : rd (lst l.length f) (i : Int) = f i:=lst_rd _ hi;obtain ⟨g1,⟨x1,e1⟩⟩:=Fl.vis1_good (hfF hg hs ht) (htF hg hs ht) h (u:=u) (i:=i) hm hi;have hq1 : q < (vis1 (frF l) (twF l) (capF l) f u i st).2.length:=by rw [e1,List.length_append]; exact Nat.lt_of_lt_of_le hq (Nat.le_add_right _ _)
 have hu1 : rd (iL (vis1 (frF l) (twF l) (capF l) f u i st).2) (q : Int) = (u : Int):=by
  rw [← hu,e1,iL_rd hq,iL_rd (by rw [List.length_append]; exact Nat.lt_of_lt_of_le hq (Nat.le_add_right _ _)),List.getElem_append_left hq]
 have hh:=half2 hg hs ht g1 hi hq1 hu1 hn;refine Ev.go ?_ (fun k => by rw [spec_l25Push.l2]);rw [rda,← hfr.1,← htw.1,hu,hfl,hb];refine Ev.pos (Int.ofNat_lt.2 hi) (Ev.pos (Int.natCast_nonneg i) (Ev.pos (Int.natCast_nonneg q) (Ev.pos (by rw [iL_len]; exact Int.ofNat_lt.2 hq) ?_)));have no : ¬ (frF l i = u ∧ f i < capF l i ∧ twF l i ∉ st.2) → Ev (fun k => spec_l25Push.j3 k (lst l.length f) (s : Int) (t : Int) (lst N st.1) (iL st.2) (q : Int) (i : Int) false (N : Int) l ((frF l i : Nat) : Int) ((twF l i : Nat) : Int) (arc l i).f2 (arc l i).f3 (arc l i).f4) R:=by
  intro c;have e : vis1 (frF l) (twF l) (capF l) f u i st = st:=if_neg c;refine Ev.go ?_ (fun k => by rw [spec_l25Push.j3]);rw [e] at hh;simp only [lst_len,hup,hbw,Int.toNat_natCast];exact Ev.neg (by simp) hh
 by_cases c1 : frF l i = u
 case neg => exact Ev.neg (fun e => c1 (Int.ofNat_inj.1 e)) (no (fun h2 => c1 h2.1))
 refine Ev.pos (by rw [c1]) (Ev.pos (by rw [lst_len]; exact Int.ofNat_lt.2 hi) ?_)
 by_cases c2 : f i < capF l i
 case neg => exact Ev.neg c2 (no (fun h2 => c2 h2.2.1))
 refine Ev.pos c2 (Ev.pos (Int.natCast_nonneg _) (Ev.pos (by rw [lst_len]; exact Int.ofNat_lt.2 htw.2) ?_))
 by_cases c3 : st.1 (twF l i) = 0
 case neg => exact Ev.neg c3 (no (fun h2 => c3 (hfree.2 h2.2.2).1))
 refine Ev.pos c3 ?_
 by_cases c4 : twF l i = s
 case pos =>
  have e : (((twF l i : Nat) : Int) != (s : Int)) = false:=by rw [bne_eq_false_iff_eq,c4]
  rw [e];exact no (fun h2 => h2.2.2 (by rw [c4]; exact h.1.root))
 have e : (((twF l i : Nat) : Int) != (s : Int)) = true:=by rw [bne_iff_ne]; exact fun e => c4 (Int.ofNat_inj.1 e)
 rw [e];have hin:=hfree.1 ⟨c3,c4⟩;have e2 : vis1 (frF l) (twF l) (capF l) f u i st = (ud st.1 (twF l i) ((i : Int) + 1),st.2 ++ [twF l i]):=if_pos ⟨c1,c2,hin⟩;refine Ev.go ?_ (fun k => by rw [spec_l25Push.j3]);rw [e2] at hh;refine Ev.pos rfl (Ev.pos (Int.natCast_nonneg _) (Ev.pos (by rw [lst_len]; exact Int.ofNat_lt.2 htw.2) (Ev.bind0 rfl (Ev.pos (short_w (Nat.le_trans hl8 (by decide))) (Ev.bind0 rfl ?_)))));simp only [lst_len,hup,hbw,Int.toNat_natCast,set_ud,iL_snoc];simp only [set_ud,iL_snoc] at hh;exact hh
end
end Go.Proofs.Ytlhmljngjdfbpaa.Pure
end
