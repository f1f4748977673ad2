/- For the statement FnJobAt of this seat: it is proved here, with no further conditions (part 8 of its texts: words, walks of the functions, the plain law, the row). -/
import Derived.ChangeArms
import Derived.ChangeSlices
import Derived.Deep.Slices
import Derived.WideShapes
import Derived.DataReads
import Derived.Test.YtmioaahiflfcdaaKFnJobAt6
section
namespace Go.Proofs.Ytmioaahiflfcdaa.Pr
open Go.RowKit Go.Proofs.YtmioaahiflfcdaaW.PrintWords Go.Proofs.YtmioaahiflfcdaaW.PrintLast Go.Proofs.YtmioaahiflfcdaaW.PrintMore
attribute [local go_sem] max2_int min2_int max_two min_two max_three min_three max_four min_four
set_option linter.unusedVariables false
set_option linter.unusedSimpArgs false
open List renaming setIfInBounds_toArray → U,set_cons_zero → Z,set_cons_succ → zx
open Go.Proofs.YtmioaahiflfcdaaW.PrintWords.Aside0 renaming mk → zy
mutual
def spec_l3All.l0 : Nat → Int → List Int → Int → Int → List (S80) → Option (List Int)
 | 0,_,_,_,_,_ => none
 | k + 1,x1,x5,x6,x358000,x358001 => if x6 < x358000 then (if 0 ≤ x6 then (if x6 < (x5.length : Int) then (spec_l3All.l0 k x1 (x5.set (x6 : Int).toNat 99999) (wrap64 (x6 + 1)) x358000 x358001) else (none)) else (none)) else (if 0 ≤ x1 then (if x1 < (x5.length : Int) then (spec_l3All.l1 k (x5.set (x1 : Int).toNat 0) 0 x358000 x358001) else (none)) else (none))
def spec_l3All.l1 : Nat → List Int → Int → Int → List (S80) → Option (List Int)
 | 0,_,_,_,_ => none
 | k + 1,x5,x7,x358000,x358001 => if x7 < x358000 then (spec_l3All.l2 k x5 x7 0 x358000 x358001) else (some x5)
def spec_l3All.l2 : Nat → List Int → Int → Int → Int → List (S80) → Option (List Int)
 | 0,_,_,_,_,_ => none
 | k + 1,x5,x7,x8,x358000,x358001 => if x8 < (x358001.length : Int) then (if 0 ≤ x8 then (if 0 ≤ ((rd_T80 x358001 x8).f0) then (if ((rd_T80 x358001 x8).f0) < (x5.length : Int) then (if (rd x5 ((rd_T80 x358001 x8).f0)) < 99999 then (if 0 ≤ ((rd_T80 x358001 x8).f1) then (if ((rd_T80 x358001 x8).f1) < (x5.length : Int) then (if (wrap64 ((rd x5 ((rd_T80 x358001 x8).f0)) + ((rd_T80 x358001 x8).f2))) < (rd x5 ((rd_T80 x358001 x8).f1)) then (spec_l3All.l2 k (x5.set (((rd_T80 x358001 x8).f1) : Int).toNat (wrap64 ((rd x5 ((rd_T80 x358001 x8).f0)) + ((rd_T80 x358001 x8).f2)))) x7 (wrap64 (x8 + 1)) x358000 x358001) else (spec_l3All.l2 k x5 x7 (wrap64 (x8 + 1)) x358000 x358001)) else (none)) else (none)) else (spec_l3All.l2 k x5 x7 (wrap64 (x8 + 1)) x358000 x358001)) else (none)) else (none)) else (none)) else (spec_l3All.l1 k x5 (wrap64 (x7 + 1)) x358000 x358001)
end
def spec_l3All.f (k : Nat) (a0_0 : Int) (l0_1 : List (S80)) (a1 : Int) : Option (List Int):=if 0 ≤ a0_0 then (if (a0_0 : Int).toNat ≤ 35184372088832 then (spec_l3All.l0 k a1 (List.replicate (a0_0 : Int).toNat 0) 0 a0_0 l0_1) else (none)) else (none)
def spec_l3All.T14 : Bool × List (List Nat × List Nat):=(true,[([],[]),([],[]),([1],[1]),([0,2],[0,2]),([3],[3]),([4],[4]),([5],[5]),([6],[6]),([6],[6]),([8,6],[6,8]),([7,9,6],[6,7,9]),([10,6],[6,10]),([6],[6]),([12,6],[6,12]),([11,13,6],[6,11,13]),([6],[6]),([6],[6]),([16,6],[6,16]),([15,17,6],[6,15,17]),([18,6],[6,18]),([14,19,6],[6,14,19]),([6,20],[6,20])])
def spec_l3All.B14 : List Nat:=[0,0,2,7,15,31,63,127,127,383,1023,2047,127,4223,16383,127,127,65663,229503,491647,1048575,2097151]
theorem spec_l3All.tab14 : rtab .any (opsOf Try.f63 14) = spec_l3All.T14:=by kernel_rfl
theorem spec_l3All.bits14 : waitsOk spec_l3All.T14.2 spec_l3All.B14 = true:=by kernel_rfl
def spec_l3All.T15 : Bool × List (List Nat × List Nat):=(true,[([],[]),([],[]),([1],[1]),([],[]),([],[]),([4],[4]),([3,5],[3,5]),([6],[6]),([],[]),([8],[8]),([7,9],[7,9]),([0,2,0,1,2,3,4,5,6,7,8,9,10],[0,2]),([11,10,0,1,2,3,4,5,6,7,8,9,10],[10,11])])
def spec_l3All.B15 : List Nat:=[0,0,2,0,0,16,56,120,0,256,1016,2047,4095]
theorem spec_l3All.tab15 : rtab .any (opsOf Try.f63 15) = spec_l3All.T15:=by kernel_rfl
theorem spec_l3All.bits15 : waitsOk spec_l3All.T15.2 spec_l3All.B15 = true:=by kernel_rfl
set_option maxHeartbeats 8000000 in
set_option maxRecDepth 100000 in
theorem spec_l3All.calls (k : Nat) (a0_0 : Int) (A0_1 : Option Addr) (c0_1 : Nat) (l0_1 : List (S80)) (a1 : Int) (r : List Int) (w : World) (hr0_1 : Kd.C k80 w A0_1 l0_1.length l0_1) (hc0_1 : l0_1.length ≤ c0_1) (h : spec_l3All.f k a0_0 l0_1 a1 = some r) :
  Calls Try.prog 63 #[.agg #[.int .i64 a0_0,.slice A0_1 l0_1.length c0_1],.int .i64 a1] w fun e w' => ∃ v0_ : Value,e = .returned (v0_) ∧ Kd.R (Kd.int .i64) 3 w' w.heap.size (fun _ => True) v0_ r ∧ Below w.heap.size w w':=by
 have hu25:=Try.underlying25;have hu80:=Try.underlying80;have HR0_1:=zy hr0_1;have HC0_1:=zy hc0_1;clear hr0_1 hc0_1;have HB:=zy (Below.refl w.heap.size w);have H : (if 0 ≤ a0_0 then (if (a0_0 : Int).toNat ≤ 35184372088832 then (spec_l3All.l0 k a1 (List.replicate (a0_0 : Int).toNat 0) 0 a0_0 l0_1) else (none)) else (none)) = some r:=h;clear h
 by_cases c3 : 0 ≤ a0_0
 case neg =>
  rw [if_neg c3] at H;exact absurd H (by simp)
 rw [if_pos c3] at H;have c3b0:=eq_true c3;have c3b1 : decide (0 ≤ a0_0) = true:=decide_eq_true c3;clear c3
 by_cases c4 : (a0_0 : Int).toNat ≤ 35184372088832
 case neg =>
  rw [if_neg c4] at H;exact absurd H (by simp)
 rw [if_pos c4] at H;have c4b0:=eq_true c4;have c4b1 : decide ((a0_0 : Int).toNat ≤ 35184372088832) = true:=decide_eq_true c4;clear c4;obtain ⟨y358,hy358⟩ : ∃ y_ : List Int,y_ = (List.replicate (a0_0 : Int).toNat 0):=⟨_,rfl⟩
 replace H : (spec_l3All.l0 k a1 y358 0 a0_0 l0_1) = some r:=by first | (rw [hy358]; with_reducible exact H) | (have H2_:=(Option.bind_some _ _).symm.trans H; rw [hy358]; with_reducible exact H2_) | (have H2_:=(Option.bind_some _ _).symm.trans H; with_reducible exact H2_) | with_reducible exact H | (rw [hy358]; exact H) | exact H
 have Ny358:=zy hy358;clear hy358;have H':=zy H;clear H
 go_enter Try.func63,Try.ntmps63
 go_wp2_with (first | ((with_reducible refine gate_dst (N:=2) rfl ?_); refine box_event ?hg (N:=2) ?hd (cs:=#[.int .i64 a0_0,.slice A0_1 l0_1.length c0_1]) (t:=25) ?hr ?_; (case hd => rfl); (case hg => rfl); (case hr => first | (go_simp; done) | (go_simp; rfl)); intro gb357 hg w5 hbox hb; have n0_:=zy (below_step (by repeat (first | (with_reducible first | exact HB.out | apply below_alloc | apply pw_below_drewN | apply below_drew1) | exact HB.out)) hb); have n1_:=zy (hbox); have n2_:=zy ((by rw [hg]; exact (below_size (by repeat (first | (with_reducible first | exact HB.out | apply below_alloc | apply pw_below_drewN | apply below_drew1) | exact HB.out))) : w.heap.size ≤ gb357)); have n3_:=zy ((by rw [hg]; exact (below_size (by repeat (first | (with_reducible first | exact HB.out | apply below_alloc | apply pw_below_drewN | apply below_drew1) | exact HB.out))) : w.heap.size ≤ gb357)); clear HB; have HB:=n0_; have BK357:=n1_; have GW357:=n2_; have GE357:=n3_; clear n0_ n1_ n2_ n3_; clear hb hbox hg; have hcz6_0 : w5.cell? ⟨gb357,0,none⟩ = some (.int .i64 a0_0):=(blk_cell BK357.out 0).trans rfl; have hcz6_1 : w5.cell? ⟨gb357,1,none⟩ = some (.slice A0_1 l0_1.length c0_1):=(blk_cell BK357.out 1).trans rfl; have hfz6_0:=blk_frozen BK357.out 0; have hfz6_1:=blk_frozen BK357.out 1) | ((with_reducible refine gate_dst (N:=12) rfl ?_); refine Kd.R_make (Kd.int .i64) _ 3 rfl (N:=12) rfl 26 _ _ rfl a0_0 (by first | rfl | (go_simp; done) | (go_simp; rfl)) (by first | rfl | (go_simp; done) | (go_simp; rfl)) Try.underlying26 (.int .i64 0) 8 info3 rfl (by decide) (by omega) 0 (ok:=fun _ => True) (okp:=fun _ => True) rfl (fun _ hk => hk) trivial (of_decide_eq_true (by first | (with_reducible assumption) | assumption)) (Nat.le_trans (Nat.mul_le_mul_right _ (of_decide_eq_true (by first | (with_reducible assumption) | assumption) : a0_0.toNat ≤ 35184372088832)) (by omega)) (Below.refl _ _) (Nat.le_refl _) ?_; intro v359 w7 ho8 hb hg_ hnew_; clear hg_ hnew_; (first | rw [← Ny358.out] at ho8 | (simp only [Int.reduceToNat] at ho8; rw [← Ny358.out] at ho8)); have n0_:=zy (Kd.R_lower ho8 (below_size (by repeat (first | (with_reducible first | exact HB.out | apply below_alloc | apply pw_below_drewN | apply below_drew1 | refine below_set ?_ GE357.out) | exact HB.out)))); have n1_:=zy (blk_below (g:=gb357) (o:=.cells #[.int .i64 a0_0,.slice A0_1 l0_1.length c0_1] 25 (0,0)) (by (with_reducible repeat (first | refine blk_drewN ?_ _ | refine blk_drew ?_ | refine blk_alloc ?_ _)); exact BK357.out) hb); have n2_:=zy (below_step (by repeat (first | (with_reducible first | exact HB.out | apply below_alloc | apply pw_below_drewN | apply below_drew1 | refine below_set ?_ GE357.out) | exact HB.out)) hb); clear BK357; clear HB; have HO360:=n0_; have BK357:=n1_; have HB:=n2_; clear n0_ n1_ n2_; clear hb ho8))
 go_loopg [6] k (fun kq v6 w' => ∃ (x5_1 : List Int) (x6_1 : Int),v6 = .int .i64 x6_1 ∧ Aside0 (spec_l3All.l0 kq a1 x5_1 x6_1 a0_0 l0_1 = some r) ∧ Aside0 (kq ≤ k) ∧ Aside0 (Kd.R (Kd.int .i64) 3 w' w.heap.size (fun _ => True) v359 x5_1) ∧ Aside0 (w'.heap[gb357]? = some (.cells #[.int .i64 a0_0,(.slice A0_1 l0_1.length c0_1)] 25 (0,0))) ∧ Aside0 (Below w.heap.size w w'))
 case atStart => exact ⟨(y358),(0),(by first | rfl | (simp; done) | (simp [*]; done)),H',⟨Nat.le_refl _⟩,⟨by (with_reducible repeat (first | apply Kd.R_alloc | apply Kd.R_drewN | apply Kd.R_drew)); exact HO360.out⟩,⟨by (with_reducible repeat (first | refine blk_drewN ?_ _ | refine blk_drew ?_ | refine blk_alloc ?_ _)); exact BK357.out⟩,⟨by repeat (first | (with_reducible first | exact HB.out | apply below_alloc | apply pw_below_drewN | apply below_drew1 | refine below_set ?_ GE357.out) | exact HB.out)⟩⟩
 case round =>
  clear H'
  try clear p2
  try clear c3
  try clear c3b0
  try clear c3b1
  try clear c4
  try clear c4b0
  try clear c4b1
  try clear c6
  try clear hcz6_0
  try clear hcz6_1
  try clear hfz6_0
  try clear hfz6_1
  obtain ⟨x5_1,x6_1,rfl,HA,HK1,HO_5,BK357,HB⟩:=hrel;cases gk with
  | zero => exact absurd HA.out (by simp [spec_l3All.l0])
  | succ k1 =>
   have H:=HA.out;clear HA;simp only [spec_l3All.l0] at H
   by_cases c9 : x6_1 < a0_0
   case pos =>
    rw [if_pos c9] at H;have c9b0 : decide (x6_1 < a0_0) = true:=decide_eq_true c9;clear c9
    by_cases c10 : 0 ≤ x6_1
    case neg =>
     rw [if_neg c10] at H;exact absurd H (by simp)
    rw [if_pos c10] at H;have c10b0 : decide (0 ≤ x6_1) = true:=decide_eq_true c10;clear c10
    by_cases c11 : x6_1 < (x5_1.length : Int)
    case neg =>
     rw [if_neg c11] at H;exact absurd H (by simp)
    rw [if_pos c11] at H;have c11b0 : decide (x6_1 < (x5_1.length : Int)) = true:=decide_eq_true c11;clear c11;obtain ⟨y361,hy361⟩ : ∃ y_ : List Int,y_ = (x5_1.set (x6_1 : Int).toNat 99999):=⟨_,rfl⟩
    replace H : (spec_l3All.l0 k1 a1 y361 (wrap64 (x6_1 + 1)) a0_0 l0_1) = some r:=by first | (rw [hy361]; with_reducible exact H) | (have H2_:=(Option.bind_some _ _).symm.trans H; rw [hy361]; with_reducible exact H2_) | (have H2_:=(Option.bind_some _ _).symm.trans H; with_reducible exact H2_) | with_reducible exact H | (rw [hy361]; exact H) | exact H
    have Ny361:=zy hy361;clear hy361;have H':=zy H;clear H;have hcz13_0 : wr.cell? ⟨gb357,0,none⟩ = some (.int .i64 a0_0):=(blk_cell BK357.out 0).trans rfl;have hcz13_1 : wr.cell? ⟨gb357,1,none⟩ = some (.slice A0_1 l0_1.length c0_1):=(blk_cell BK357.out 1).trans rfl;have hfz13_0:=blk_frozen BK357.out 0;have hfz13_1:=blk_frozen BK357.out 1;have p12 : 0 ≤ (x6_1 : Int):=of_decide_eq_true (by first | (with_reducible assumption) | assumption);have q12 : (x6_1 : Int) < ((x5_1.length : Int) : Int):=of_decide_eq_true (by first | (with_reducible assumption) | assumption);obtain ⟨go12,co12,eo12,gb12,gl12,cl12,HG12⟩:=Kd.R_form HO_5.out (by omega)
    (first | cases eo12 | (injection eo12 with ea_ en_ ec_; (first | subst ea_ | (injection ea_ with ea_; subst ea_)); subst ec_; clear en_))
    have GB12:=zy gb12;have GG12:=zy HG12;clear gb12 gl12 HG12;obtain ⟨hx12_0,hf12_0⟩:=Kd.R_celln 0 HO_5.out (x6_1 : Int) p12 q12;replace p12:=eq_true p12;replace q12:=eq_true q12;have HP14:=Kd.R_putg HO_5.out (x6_1 : Int) 99999
    go_wp2_with (first | ((with_reducible refine gate_store (t:=3) (p:=21) rfl ?_); refine store_event (t:=3) (p:=21) (v:=?vo_w15) (w1:=(wr.setCell ⟨go12,(x6_1 : Int).toNat,none⟩ (.int .i64 99999))) ?hg ?ho ?hn ?hr ?_; (case ho => rfl); (case hg => rfl); (case hn => rfl); (case hr => first | (go_simp; done) | (go_simp; rfl)); intro w15 hw; have hg : wr.grownBy w15 (some go12):=(by rw [hw]; exact HP14.2); have hp_ : Kd.R (Kd.int .i64) 3 w15 w.heap.size (fun _ => True) (.slice (some ⟨go12,0,none⟩) x5_1.length co12) y361:=(by rw [hw,Ny361.out]; exact HP14.1); clear HP14; have n0_:=zy (hp_); have n1_:=zy (blk_grown (g:=gb357) (o:=.cells #[.int .i64 a0_0,.slice A0_1 l0_1.length c0_1] 25 (0,0)) (by (with_reducible repeat (first | refine blk_drewN ?_ _ | refine blk_drew ?_ | refine blk_alloc ?_ _)); exact BK357.out) hg (Kd.R_ne HO_5.out BK357.out (by decide))); have n2_:=zy ((by rw [hw]; exact below_set (HB.out) GB12.out : Below w.heap.size w w15)); clear HO_5; clear BK357; clear HB; have HO_5:=n0_; have BK357:=n1_; have HB:=n2_; clear n0_ n1_ n2_; clear hg hw hp_))
    go_roundg k1
    case measure => have:=HK1.out; omega
    case rel => exact ⟨(y361),(wrap64 (x6_1 + 1)),(by first | rfl | (simp; done) | (simp [*]; done)),H',⟨by have:=HK1.out; omega⟩,⟨by (with_reducible repeat (first | apply Kd.R_alloc | apply Kd.R_drewN | apply Kd.R_drew)); exact HO_5.out⟩,⟨by (with_reducible repeat (first | refine blk_drewN ?_ _ | refine blk_drew ?_ | refine blk_alloc ?_ _)); exact BK357.out⟩,⟨by repeat (first | (with_reducible first | exact HB.out | apply below_alloc | apply pw_below_drewN | apply below_drew1 | refine below_set ?_ GE357.out) | exact HB.out)⟩⟩
   rw [if_neg c9] at H;have c9b0 : decide (x6_1 < a0_0) = false:=decide_eq_false c9;clear c9
   by_cases c16 : 0 ≤ a1
   case neg =>
    rw [if_neg c16] at H;exact absurd H (by simp)
   rw [if_pos c16] at H;have c16b0 : decide (0 ≤ a1) = true:=decide_eq_true c16;clear c16
   by_cases c17 : a1 < (x5_1.length : Int)
   case neg =>
    rw [if_neg c17] at H;exact absurd H (by simp)
   rw [if_pos c17] at H;have c17b0 : decide (a1 < (x5_1.length : Int)) = true:=decide_eq_true c17;clear c17;obtain ⟨y362,hy362⟩ : ∃ y_ : List Int,y_ = (x5_1.set (a1 : Int).toNat 0):=⟨_,rfl⟩
   replace H : (spec_l3All.l1 k1 y362 0 a0_0 l0_1) = some r:=by first | (rw [hy362]; with_reducible exact H) | (have H2_:=(Option.bind_some _ _).symm.trans H; rw [hy362]; with_reducible exact H2_) | (have H2_:=(Option.bind_some _ _).symm.trans H; with_reducible exact H2_) | with_reducible exact H | (rw [hy362]; exact H) | exact H
   have Ny362:=zy hy362;clear hy362;have H':=zy H;clear H;have hcz19_0 : wr.cell? ⟨gb357,0,none⟩ = some (.int .i64 a0_0):=(blk_cell BK357.out 0).trans rfl;have hcz19_1 : wr.cell? ⟨gb357,1,none⟩ = some (.slice A0_1 l0_1.length c0_1):=(blk_cell BK357.out 1).trans rfl;have hfz19_0:=blk_frozen BK357.out 0;have hfz19_1:=blk_frozen BK357.out 1;have p18 : 0 ≤ (a1 : Int):=of_decide_eq_true (by first | (with_reducible assumption) | assumption);have q18 : (a1 : Int) < ((x5_1.length : Int) : Int):=of_decide_eq_true (by first | (with_reducible assumption) | assumption);obtain ⟨go18,co18,eo18,gb18,gl18,cl18,HG18⟩:=Kd.R_form HO_5.out (by omega)
   (first | cases eo18 | (injection eo18 with ea_ en_ ec_; (first | subst ea_ | (injection ea_ with ea_; subst ea_)); subst ec_; clear en_))
   have GB18:=zy gb18;have GG18:=zy HG18;clear gb18 gl18 HG18;obtain ⟨hx18_0,hf18_0⟩:=Kd.R_celln 0 HO_5.out (a1 : Int) p18 q18;replace p18:=eq_true p18;replace q18:=eq_true q18;have HP20:=Kd.R_putg HO_5.out (a1 : Int) 0
   go_wp2_with (first | ((with_reducible refine gate_store (t:=3) (p:=24) rfl ?_); refine store_event (t:=3) (p:=24) (v:=?vo_w21) (w1:=(wr.setCell ⟨go18,(a1 : Int).toNat,none⟩ (.int .i64 0))) ?hg ?ho ?hn ?hr ?_; (case ho => rfl); (case hg => rfl); (case hn => rfl); (case hr => first | (go_simp; done) | (go_simp; rfl)); intro w21 hw; have hg : wr.grownBy w21 (some go18):=(by rw [hw]; exact HP20.2); have hp_ : Kd.R (Kd.int .i64) 3 w21 w.heap.size (fun _ => True) (.slice (some ⟨go18,0,none⟩) x5_1.length co18) y362:=(by rw [hw,Ny362.out]; exact HP20.1); clear HP20; have n0_:=zy (hp_); have n1_:=zy (blk_grown (g:=gb357) (o:=.cells #[.int .i64 a0_0,.slice A0_1 l0_1.length c0_1] 25 (0,0)) (by (with_reducible repeat (first | refine blk_drewN ?_ _ | refine blk_drew ?_ | refine blk_alloc ?_ _)); exact BK357.out) hg (Kd.R_ne HO_5.out BK357.out (by decide))); have n2_:=zy ((by rw [hw]; exact below_set (HB.out) GB18.out : Below w.heap.size w w21)); clear HO_5; clear BK357; clear HB; have HO_5:=n0_; have BK357:=n1_; have HB:=n2_; clear n0_ n1_ n2_; clear hg hw hp_))
   go_loopg [7] k1 (fun kq v7 w' => ∃ (x5_2 : List Int) (x7_2 : Int),v7 = .int .i64 x7_2 ∧ Aside0 (spec_l3All.l1 kq x5_2 x7_2 a0_0 l0_1 = some r) ∧ Aside0 (kq ≤ k1) ∧ Aside0 (Kd.R (Kd.int .i64) 3 w' w.heap.size (fun _ => True) (.slice (some ⟨go18,0,none⟩) x5_1.length co18) x5_2) ∧ Aside0 (w'.heap[gb357]? = some (.cells #[.int .i64 a0_0,(.slice A0_1 l0_1.length c0_1)] 25 (0,0))) ∧ Aside0 (Below w.heap.size w w'))
   case atStart => exact ⟨(y362),(0),(by first | rfl | (simp; done) | (simp [*]; done)),H',⟨Nat.le_refl _⟩,⟨by (with_reducible repeat (first | apply Kd.R_alloc | apply Kd.R_drewN | apply Kd.R_drew)); exact HO_5.out⟩,⟨by (with_reducible repeat (first | refine blk_drewN ?_ _ | refine blk_drew ?_ | refine blk_alloc ?_ _)); exact BK357.out⟩,⟨by repeat (first | (with_reducible first | exact HB.out | apply below_alloc | apply pw_below_drewN | apply below_drew1 | refine below_set ?_ GE357.out) | exact HB.out)⟩⟩
   case round =>
    clear H'
    try clear c1
    try clear p1
    try clear q1
    try clear hx1
    try clear p2
    try clear c3
    try clear c3b0
    try clear c3b1
    try clear c4
    try clear c4b0
    try clear c4b1
    try clear c6
    try clear p6
    try clear c9
    try clear c9b0
    try clear c10
    try clear c10b0
    try clear c11
    try clear c11b0
    try clear p12
    try clear q12
    try clear hx12
    try clear hf12
    try clear c16
    try clear c16b0
    try clear c17
    try clear c17b0
    try clear p18
    try clear q18
    try clear hx18
    try clear hf18
    try clear hcz13_0
    try clear hcz13_1
    try clear hcz19_0
    try clear hcz19_1
    try clear hcz6_0
    try clear hcz6_1
    try clear hfz13_0
    try clear hfz13_1
    try clear hfz19_0
    try clear hfz19_1
    try clear hfz6_0
    try clear hfz6_1
    try clear hx12_0
    try clear hx18_0
    try clear p12
    try clear p18
    try clear p2
    try clear q12
    try clear q18
    obtain ⟨x5_2,x7_2,rfl,HA,HK2,HO_5,BK357,HB⟩:=hrel;have hl5_2:=(Kd.R_reads' HO_5.out).1;rw [hl5_2] at HO_5
    (try simp only [hl5_2])
    (try simp only [hl5_2] at BK357)
    cases gk with
    | zero => exact absurd HA.out (by simp [spec_l3All.l1])
    | succ k2 =>
     have H:=HA.out;clear HA;simp only [spec_l3All.l1] at H
     by_cases c22 : x7_2 < a0_0
     case neg =>
      rw [if_neg c22] at H;have c22b0 : decide (x7_2 < a0_0) = false:=decide_eq_false c22;clear c22;obtain rfl:=Option.some.inj H;have hcz54_0 : wr.cell? ⟨gb357,0,none⟩ = some (.int .i64 a0_0):=(blk_cell BK357.out 0).trans rfl;have hcz54_1 : wr.cell? ⟨gb357,1,none⟩ = some (.slice A0_1 l0_1.length c0_1):=(blk_cell BK357.out 1).trans rfl;have hfz54_0:=blk_frozen BK357.out 0;have hfz54_1:=blk_frozen BK357.out 1
      go_wp2
      go_ret;exact ⟨_,by first | rfl | (simp [errW_none,errW_some] <;> rfl) | (simp [*,errW_none,errW_some] <;> rfl),by (with_reducible repeat (first | apply Kd.R_alloc | apply Kd.R_drewN | apply Kd.R_drew)); exact HO_5.out,by repeat (first | (with_reducible first | exact HB.out | apply below_alloc | apply pw_below_drewN | apply below_drew1 | refine below_set ?_ GE357.out) | exact HB.out)⟩
     rw [if_pos c22] at H;have c22b0 : decide (x7_2 < a0_0) = true:=decide_eq_true c22;clear c22;have H':=zy H;clear H;have hcz23_0 : wr.cell? ⟨gb357,0,none⟩ = some (.int .i64 a0_0):=(blk_cell BK357.out 0).trans rfl;have hcz23_1 : wr.cell? ⟨gb357,1,none⟩ = some (.slice A0_1 l0_1.length c0_1):=(blk_cell BK357.out 1).trans rfl;have hfz23_0:=blk_frozen BK357.out 0;have hfz23_1:=blk_frozen BK357.out 1
     go_wp2
     go_loopg [8] k2 (fun kq v8 w' => ∃ (x5_3 : List Int) (x8_3 : Int),v8 = .int .i64 x8_3 ∧ Aside0 (spec_l3All.l2 kq x5_3 x7_2 x8_3 a0_0 l0_1 = some r) ∧ Aside0 (kq ≤ k2) ∧ Aside0 (Kd.R (Kd.int .i64) 3 w' w.heap.size (fun _ => True) (.slice (some ⟨go18,0,none⟩) x5_2.length co18) x5_3) ∧ Aside0 (w'.heap[gb357]? = some (.cells #[.int .i64 a0_0,(.slice A0_1 l0_1.length c0_1)] 25 (0,0))) ∧ Aside0 (Below w.heap.size w w'))
     case atStart => exact ⟨(x5_2),(0),(by first | rfl | (simp; done) | (simp [*]; done)),H',⟨Nat.le_refl _⟩,⟨by (try simp only [hl5_2]); (with_reducible repeat (first | apply Kd.R_alloc | apply Kd.R_drewN | apply Kd.R_drew)); exact HO_5.out⟩,⟨by (try simp only [hl5_2]); (with_reducible repeat (first | refine blk_drewN ?_ _ | refine blk_drew ?_ | refine blk_alloc ?_ _)); exact BK357.out⟩,⟨by repeat (first | (with_reducible first | exact HB.out | apply below_alloc | apply pw_below_drewN | apply below_drew1 | refine below_set ?_ GE357.out) | exact HB.out)⟩⟩
     case round =>
      clear H'
      try clear c1
      try clear p1
      try clear q1
      try clear hx1
      try clear c2
      try clear p2
      try clear c3
      try clear c3b0
      try clear c3b1
      try clear c4
      try clear c4b0
      try clear c4b1
      try clear c6
      try clear p6
      try clear c9
      try clear c9b0
      try clear c10
      try clear c10b0
      try clear c11
      try clear c11b0
      try clear p12
      try clear q12
      try clear hx12
      try clear hf12
      try clear c16
      try clear c16b0
      try clear c17
      try clear c17b0
      try clear p18
      try clear q18
      try clear hx18
      try clear hf18
      try clear c22
      try clear c22b0
      try clear hcz13_0
      try clear hcz13_1
      try clear hcz19_0
      try clear hcz19_1
      try clear hcz23_0
      try clear hcz23_1
      try clear hcz6_0
      try clear hcz6_1
      try clear hfz13_0
      try clear hfz13_1
      try clear hfz19_0
      try clear hfz19_1
      try clear hfz23_0
      try clear hfz23_1
      try clear hfz6_0
      try clear hfz6_1
      try clear hx12_0
      try clear hx18_0
      try clear p1
      try clear p12
      try clear p18
      try clear p2
      try clear p6
      try clear q1
      try clear q12
      try clear q18
      obtain ⟨x5_3,x8_3,rfl,HA,HK3,HO_5,BK357,HB⟩:=hrel;have hl5_3:=(Kd.R_reads' HO_5.out).1;rw [hl5_3] at HO_5
      (try simp only [hl5_3])
      (try simp only [hl5_3] at BK357)
      cases gk with
      | zero => exact absurd HA.out (by simp [spec_l3All.l2])
      | succ k3 =>
       have H:=HA.out;clear HA;simp only [spec_l3All.l2] at H
       by_cases c24 : x8_3 < (l0_1.length : Int)
       case neg =>
        rw [if_neg c24] at H;have c24b0 : decide (x8_3 < (l0_1.length : Int)) = false:=decide_eq_false c24;clear c24;have H':=zy H;clear H;have hcz53_0 : wr.cell? ⟨gb357,0,none⟩ = some (.int .i64 a0_0):=(blk_cell BK357.out 0).trans rfl;have hcz53_1 : wr.cell? ⟨gb357,1,none⟩ = some (.slice A0_1 l0_1.length c0_1):=(blk_cell BK357.out 1).trans rfl;have hfz53_0:=blk_frozen BK357.out 0;have hfz53_1:=blk_frozen BK357.out 1
        go_wp2
        (try simp only [← hl5_2,← hl5_3])
        go_roundg k3
        case measure => have:=HK1.out; have:=HK2.out; have:=HK3.out; omega
        case rel => exact ⟨(x5_3),(wrap64 (x7_2 + 1)),(by first | rfl | (simp; done) | (simp [*]; done)),H',⟨by have:=HK1.out; have:=HK2.out; have:=HK3.out; omega⟩,⟨by (try simp only [hl5_2]); (try simp only [hl5_3]); (with_reducible repeat (first | apply Kd.R_alloc | apply Kd.R_drewN | apply Kd.R_drew)); exact HO_5.out⟩,⟨by (try simp only [hl5_2]); (try simp only [hl5_3]); (with_reducible repeat (first | refine blk_drewN ?_ _ | refine blk_drew ?_ | refine blk_alloc ?_ _)); exact BK357.out⟩,⟨by repeat (first | (with_reducible first | exact HB.out | apply below_alloc | apply pw_below_drewN | apply below_drew1 | refine below_set ?_ GE357.out) | exact HB.out)⟩⟩
       rw [if_pos c24] at H;have c24b0 : decide (x8_3 < (l0_1.length : Int)) = true:=decide_eq_true c24;clear c24
       by_cases c25 : 0 ≤ x8_3
       case neg =>
        rw [if_neg c25] at H;exact absurd H (by simp)
       rw [if_pos c25] at H;have c25b0 : decide (0 ≤ x8_3) = true:=decide_eq_true c25;clear c25
       by_cases c26 : 0 ≤ ((rd_T80 l0_1 x8_3).f0)
       case neg =>
        rw [if_neg c26] at H;exact absurd H (by simp)
       rw [if_pos c26] at H;have c26b0 : decide (0 ≤ ((rd_T80 l0_1 x8_3).f0)) = true:=decide_eq_true c26;clear c26
       by_cases c27 : ((rd_T80 l0_1 x8_3).f0) < (x5_3.length : Int)
       case neg =>
        rw [if_neg c27] at H;exact absurd H (by simp)
       rw [if_pos c27] at H;have c27b0 : decide (((rd_T80 l0_1 x8_3).f0) < (x5_3.length : Int)) = true:=decide_eq_true c27;clear c27
       by_cases c28 : (rd x5_3 ((rd_T80 l0_1 x8_3).f0)) < 99999
       case neg =>
        rw [if_neg c28] at H;have c28b0 : decide ((rd x5_3 ((rd_T80 l0_1 x8_3).f0)) < 99999) = false:=decide_eq_false c28;clear c28;have H':=zy H;clear H;have hcz47_0 : wr.cell? ⟨gb357,0,none⟩ = some (.int .i64 a0_0):=(blk_cell BK357.out 0).trans rfl;have hcz47_1 : wr.cell? ⟨gb357,1,none⟩ = some (.slice A0_1 l0_1.length c0_1):=(blk_cell BK357.out 1).trans rfl;have hfz47_0:=blk_frozen BK357.out 0;have hfz47_1:=blk_frozen BK357.out 1;have p363 : 0 ≤ (x8_3 : Int):=of_decide_eq_true (by first | (with_reducible assumption) | assumption);have q363 : x8_3 < (l0_1.length : Int):=of_decide_eq_true (by first | (with_reducible assumption) | assumption);obtain ⟨ad363,e363,hx363_0,hx363_1,hx363_2,hx363_3,hx363_4⟩:=at_T80 HR0_1.out x8_3 p363 q363;cases e363;replace hx363_0:=(HB.out.cell (World.block_lt_of_cell? w _ hx363_0)).trans hx363_0;replace hx363_1:=(HB.out.cell (World.block_lt_of_cell? w _ hx363_1)).trans hx363_1;replace hx363_2:=(HB.out.cell (World.block_lt_of_cell? w _ hx363_2)).trans hx363_2;replace hx363_3:=(HB.out.cell (World.block_lt_of_cell? w _ hx363_3)).trans hx363_3;replace hx363_4:=(HB.out.cell (World.block_lt_of_cell? w _ hx363_4)).trans hx363_4;replace p363:=eq_true p363;replace q363:=eq_true q363
        try go_wp2_with (first | ((with_reducible refine gate_dst (N:=9) rfl ?_); refine box_event ?hg (N:=9) ?hd (cs:=#[.int .i64 0,.int .i64 0,.int .i64 0,.int .i64 0,.int .i64 0]) (t:=80) ?hr ?_; (case hd => rfl); (case hg => rfl); (case hr => first | (go_simp; done) | (go_simp; rfl)); intro gb364 hg w48 hbox hb; have n0_:=zy (Kd.R_below (by (with_reducible repeat (first | apply Kd.R_alloc | apply Kd.R_drewN | apply Kd.R_drew)); exact HO_5.out) hb); have n1_:=zy (blk_below (g:=gb357) (o:=.cells #[.int .i64 a0_0,.slice (some ad363) l0_1.length c0_1] 25 (0,0)) (by (with_reducible repeat (first | refine blk_drewN ?_ _ | refine blk_drew ?_ | refine blk_alloc ?_ _)); exact BK357.out) hb); have n2_:=zy (below_step (by repeat (first | (with_reducible first | exact HB.out | apply below_alloc | apply pw_below_drewN | apply below_drew1 | refine below_set ?_ GE357.out) | exact HB.out)) hb); have n3_:=zy (hbox); have n4_:=zy ((by rw [hg]; exact (below_size (by repeat (first | (with_reducible first | exact HB.out | apply below_alloc | apply pw_below_drewN | apply below_drew1 | refine below_set ?_ GE357.out) | exact HB.out))) : w.heap.size ≤ gb364)); have n5_:=zy ((by rw [hg]; exact (below_size (by repeat (first | (with_reducible first | exact HB.out | apply below_alloc | apply pw_below_drewN | apply below_drew1 | refine below_set ?_ GE357.out) | exact HB.out))) : w.heap.size ≤ gb364)); have n6_:=zy ((by rw [hg]; exact Nat.ne_of_lt (blk_lt (g:=gb357) (o:=.cells #[.int .i64 a0_0,.slice (some ad363) l0_1.length c0_1] 25 (0,0)) (by (with_reducible repeat (first | refine blk_drewN ?_ _ | refine blk_drew ?_ | refine blk_alloc ?_ _)); exact BK357.out)) : gb357 ≠ gb364)); have n7_:=zy ((by rw [hg]; exact Nat.ne_of_gt (blk_lt (g:=gb357) (o:=.cells #[.int .i64 a0_0,.slice (some ad363) l0_1.length c0_1] 25 (0,0)) (by (with_reducible repeat (first | refine blk_drewN ?_ _ | refine blk_drew ?_ | refine blk_alloc ?_ _)); exact BK357.out)) : gb364 ≠ gb357)); clear HO_5; clear BK357; clear HB; have HO_5:=n0_; have BK357:=n1_; have HB:=n2_; have BK364:=n3_; have GW364:=n4_; have GE364:=n5_; have NB357_364:=n6_; have NB364_357:=n7_; clear n0_ n1_ n2_ n3_ n4_ n5_ n6_ n7_; clear hb hbox hg; have hnb49:=NB364_357.out; have hnc49:=NB357_364.out; have hcz50_0 : w48.cell? ⟨gb364,0,none⟩ = some (.int .i64 0):=(blk_cell BK364.out 0).trans rfl; have hcz50_1 : w48.cell? ⟨gb364,1,none⟩ = some (.int .i64 0):=(blk_cell BK364.out 1).trans rfl; have hcz50_2 : w48.cell? ⟨gb364,2,none⟩ = some (.int .i64 0):=(blk_cell BK364.out 2).trans rfl; have hcz50_3 : w48.cell? ⟨gb364,3,none⟩ = some (.int .i64 0):=(blk_cell BK364.out 3).trans rfl; have hcz50_4 : w48.cell? ⟨gb364,4,none⟩ = some (.int .i64 0):=(blk_cell BK364.out 4).trans rfl; have hfz50_0:=blk_frozen BK364.out 0; have hfz50_1:=blk_frozen BK364.out 1; have hfz50_2:=blk_frozen BK364.out 2; have hfz50_3:=blk_frozen BK364.out 3; have hfz50_4:=blk_frozen BK364.out 4))
        have n0_ : Aside0 (Kd.R (Kd.int .i64) 3 (((((w48.setCell ⟨gb364,0,none⟩ (.int .i64 ((rd_T80 l0_1 x8_3).f0))).setCell ⟨gb364,1,none⟩ (.int .i64 ((rd_T80 l0_1 x8_3).f1))).setCell ⟨gb364,2,none⟩ (.int .i64 ((rd_T80 l0_1 x8_3).f2))).setCell ⟨gb364,3,none⟩ (.int .i64 ((rd_T80 l0_1 x8_3).f3))).setCell ⟨gb364,4,none⟩ (.int .i64 ((rd_T80 l0_1 x8_3).f4))) w.heap.size (fun _ => True) (.slice (some ⟨go18,0,none⟩) x5_3.length co18) x5_3):=⟨by (with_reducible repeat (first | apply Kd.R_alloc | apply Kd.R_drewN | apply Kd.R_drew)); exact Kd.R_mono (Kd.R_far (p:=⟨gb364,4,none⟩) (Kd.R_far (p:=⟨gb364,3,none⟩) (Kd.R_far (p:=⟨gb364,2,none⟩) (Kd.R_far (p:=⟨gb364,1,none⟩) (Kd.R_far (p:=⟨gb364,0,none⟩) (Kd.R_types HO_5.out BK364.out (by decide)) (fun _ hk => hk.2) (.int .i64 ((rd_T80 l0_1 x8_3).f0))) (fun _ hk => hk.2) (.int .i64 ((rd_T80 l0_1 x8_3).f1))) (fun _ hk => hk.2) (.int .i64 ((rd_T80 l0_1 x8_3).f2))) (fun _ hk => hk.2) (.int .i64 ((rd_T80 l0_1 x8_3).f3))) (fun _ hk => hk.2) (.int .i64 ((rd_T80 l0_1 x8_3).f4))) (fun _ hk => trivial)⟩
        have n1_ : Aside0 ((((((w48.setCell ⟨gb364,0,none⟩ (.int .i64 ((rd_T80 l0_1 x8_3).f0))).setCell ⟨gb364,1,none⟩ (.int .i64 ((rd_T80 l0_1 x8_3).f1))).setCell ⟨gb364,2,none⟩ (.int .i64 ((rd_T80 l0_1 x8_3).f2))).setCell ⟨gb364,3,none⟩ (.int .i64 ((rd_T80 l0_1 x8_3).f3))).setCell ⟨gb364,4,none⟩ (.int .i64 ((rd_T80 l0_1 x8_3).f4))).heap[gb357]? = some (.cells #[.int .i64 a0_0,.slice (some ad363) l0_1.length c0_1] 25 (0,0))):=⟨by (with_reducible repeat (first | refine blk_drewN ?_ _ | refine blk_drew ?_ | refine blk_alloc ?_ _)); refine blk_far ?_ NB357_364.out _; (with_reducible repeat (first | refine blk_drewN ?_ _ | refine blk_drew ?_ | refine blk_alloc ?_ _)); refine blk_far ?_ NB357_364.out _; (with_reducible repeat (first | refine blk_drewN ?_ _ | refine blk_drew ?_ | refine blk_alloc ?_ _)); refine blk_far ?_ NB357_364.out _; (with_reducible repeat (first | refine blk_drewN ?_ _ | refine blk_drew ?_ | refine blk_alloc ?_ _)); refine blk_far ?_ NB357_364.out _; (with_reducible repeat (first | refine blk_drewN ?_ _ | refine blk_drew ?_ | refine blk_alloc ?_ _)); refine blk_far ?_ NB357_364.out _; (with_reducible repeat (first | refine blk_drewN ?_ _ | refine blk_drew ?_ | refine blk_alloc ?_ _)); exact BK357.out⟩
        have n2_ : Aside0 ((((((w48.setCell ⟨gb364,0,none⟩ (.int .i64 ((rd_T80 l0_1 x8_3).f0))).setCell ⟨gb364,1,none⟩ (.int .i64 ((rd_T80 l0_1 x8_3).f1))).setCell ⟨gb364,2,none⟩ (.int .i64 ((rd_T80 l0_1 x8_3).f2))).setCell ⟨gb364,3,none⟩ (.int .i64 ((rd_T80 l0_1 x8_3).f3))).setCell ⟨gb364,4,none⟩ (.int .i64 ((rd_T80 l0_1 x8_3).f4))).heap[gb364]? = some (.cells #[.int .i64 ((rd_T80 l0_1 x8_3).f0),.int .i64 ((rd_T80 l0_1 x8_3).f1),.int .i64 ((rd_T80 l0_1 x8_3).f2),.int .i64 ((rd_T80 l0_1 x8_3).f3),.int .i64 ((rd_T80 l0_1 x8_3).f4)] 80 (0,0))):=⟨by (with_reducible repeat (first | refine blk_drewN ?_ _ | refine blk_drew ?_ | refine blk_alloc ?_ _)); refine blk_put (cs:=#[.int .i64 ((rd_T80 l0_1 x8_3).f0),.int .i64 ((rd_T80 l0_1 x8_3).f1),.int .i64 ((rd_T80 l0_1 x8_3).f2),.int .i64 ((rd_T80 l0_1 x8_3).f3),.int .i64 0]) ?_ 4 _ rfl; (with_reducible repeat (first | refine blk_drewN ?_ _ | refine blk_drew ?_ | refine blk_alloc ?_ _)); refine blk_put (cs:=#[.int .i64 ((rd_T80 l0_1 x8_3).f0),.int .i64 ((rd_T80 l0_1 x8_3).f1),.int .i64 ((rd_T80 l0_1 x8_3).f2),.int .i64 0,.int .i64 0]) ?_ 3 _ rfl; (with_reducible repeat (first | refine blk_drewN ?_ _ | refine blk_drew ?_ | refine blk_alloc ?_ _)); refine blk_put (cs:=#[.int .i64 ((rd_T80 l0_1 x8_3).f0),.int .i64 ((rd_T80 l0_1 x8_3).f1),.int .i64 0,.int .i64 0,.int .i64 0]) ?_ 2 _ rfl; (with_reducible repeat (first | refine blk_drewN ?_ _ | refine blk_drew ?_ | refine blk_alloc ?_ _)); refine blk_put (cs:=#[.int .i64 ((rd_T80 l0_1 x8_3).f0),.int .i64 0,.int .i64 0,.int .i64 0,.int .i64 0]) ?_ 1 _ rfl; (with_reducible repeat (first | refine blk_drewN ?_ _ | refine blk_drew ?_ | refine blk_alloc ?_ _)); refine blk_put (cs:=#[.int .i64 0,.int .i64 0,.int .i64 0,.int .i64 0,.int .i64 0]) ?_ 0 _ rfl; (with_reducible repeat (first | refine blk_drewN ?_ _ | refine blk_drew ?_ | refine blk_alloc ?_ _)); exact BK364.out⟩
        have n3_ : Aside0 (Below w.heap.size w (((((w48.setCell ⟨gb364,0,none⟩ (.int .i64 ((rd_T80 l0_1 x8_3).f0))).setCell ⟨gb364,1,none⟩ (.int .i64 ((rd_T80 l0_1 x8_3).f1))).setCell ⟨gb364,2,none⟩ (.int .i64 ((rd_T80 l0_1 x8_3).f2))).setCell ⟨gb364,3,none⟩ (.int .i64 ((rd_T80 l0_1 x8_3).f3))).setCell ⟨gb364,4,none⟩ (.int .i64 ((rd_T80 l0_1 x8_3).f4)))):=⟨by repeat (first | (with_reducible first | exact HB.out | apply below_alloc | apply pw_below_drewN | apply below_drew1 | refine below_set ?_ GE357.out | refine below_set ?_ GE364.out) | exact HB.out)⟩
        (try clear HO_5)
        (try clear BK357)
        (try clear BK364)
        (try clear HB)
        generalize (((((w48.setCell ⟨gb364,0,none⟩ (.int .i64 ((rd_T80 l0_1 x8_3).f0))).setCell ⟨gb364,1,none⟩ (.int .i64 ((rd_T80 l0_1 x8_3).f1))).setCell ⟨gb364,2,none⟩ (.int .i64 ((rd_T80 l0_1 x8_3).f2))).setCell ⟨gb364,3,none⟩ (.int .i64 ((rd_T80 l0_1 x8_3).f3))).setCell ⟨gb364,4,none⟩ (.int .i64 ((rd_T80 l0_1 x8_3).f4))) = w51 at n0_ n1_ n2_ n3_ ⊢;have HO_5:=n0_;have BK357:=n1_;have BK364:=n2_;have HB:=n3_;clear n0_ n1_ n2_ n3_;have n0_:=zy (Kd.R_drew HO_5.out);have n1_:=zy (blk_drew BK357.out);have n2_:=zy (blk_drew BK364.out);have n3_:=zy (below_drew1 HB.out);clear HO_5;clear BK357;clear BK364;clear HB;have HO_5:=n0_;have BK357:=n1_;have BK364:=n2_;have HB:=n3_;clear n0_ n1_ n2_ n3_;have p365 : 0 ≤ (((rd_T80 l0_1 x8_3).f0) : Int):=of_decide_eq_true (by first | (with_reducible assumption) | assumption);have q365 : ((rd_T80 l0_1 x8_3).f0) < (x5_3.length : Int):=of_decide_eq_true (by first | (with_reducible assumption) | assumption);obtain ⟨ad365,e365,hx365_0⟩:=Kd.at_int (Kd.R_reads' HO_5.out).2.2 ((rd_T80 l0_1 x8_3).f0) p365 q365;obtain rfl : (⟨go18,0,none⟩ : Addr) = ad365:=(by injection e365)
        (first | simp only [add_plain] at hx365_0 | simp only [add_at] at hx365_0 | simp only [Addr.add,Nat.zero_add] at hx365_0 | skip)
        replace p365:=eq_true p365;replace q365:=eq_true q365;refine start_ (n:=22) (S:=fun w' => w'.cell? ⟨gb364,0,none⟩ = some (.int .i64 ((rd_T80 l0_1 x8_3).f0)) ∧ w'.cell? ⟨gb364,1,none⟩ = some (.int .i64 ((rd_T80 l0_1 x8_3).f1)) ∧ w'.cell? ⟨gb364,2,none⟩ = some (.int .i64 ((rd_T80 l0_1 x8_3).f2)) ∧ w'.cell? ⟨gb364,3,none⟩ = some (.int .i64 ((rd_T80 l0_1 x8_3).f3)) ∧ w'.cell? ⟨gb364,4,none⟩ = some (.int .i64 ((rd_T80 l0_1 x8_3).f4)) ∧ w'.cell? ⟨go18,(((rd_T80 l0_1 x8_3).f0)).toNat,none⟩ = some (.int .i64 (rd x5_3 ((rd_T80 l0_1 x8_3).f0)))) (ds:=[]) #[false,false,false,false,false,false,false,false,false,false,false,false,false,false,false,false,false,false,false,false,false,false] (by kernel_rfl) rfl rfl ⟨(blk_cell BK364.out 0).trans rfl,(blk_cell BK364.out 1).trans rfl,(blk_cell BK364.out 2).trans rfl,(blk_cell BK364.out 3).trans rfl,(blk_cell BK364.out 4).trans rfl,hx365_0⟩ (fun hHeld => ?_); refine with_tabW spec_l3All.tab14 spec_l3All.bits14 (fun HT_ HW_ => ?_);generalize w51.drew = w52 at HO_5 BK357 BK364 HB hx365_0 hHeld ⊢;refine pure_ (i:=0) (N:=some 43) (v:=?_) (a':=?_) #[true,false,false,false,false,false,false,false,false,false,false,false,false,false,false,false,false,false,false,false,false,false] rfl rfl (any_of HT_.out (by kernel_rfl)) (fun _ _ _ h => h) (Or.inl ⟨by rfl,?_⟩) ?_ ?_;rotate_left
        ·intro w';go_simp;with_reducible rfl
        rotate_left
        ·simp only [Act.put,U,Z,zx,i64_w,i32_w];rfl
        refine pure_ (i:=1) (N:=some 44) (v:=?_) (a':=?_) #[true,true,false,false,false,false,false,false,false,false,false,false,false,false,false,false,false,false,false,false,false,false] rfl rfl (any_of HT_.out (by kernel_rfl)) (fun _ _ _ h => h) (Or.inl ⟨by rfl,?_⟩) ?_ ?_;rotate_left
        ·intro w';go_simp;with_reducible rfl
        rotate_left
        ·simp only [Act.put,U,Z,zx,i64_w,i32_w];rfl
        refine take_ (i:=2) (N:=some 45) (v:=?_) (a':=?_) #[true,true,true,false,false,false,false,false,false,false,false,false,false,false,false,false,false,false,false,false,false,false] rfl rfl (take_ofW HT_.out HW_.out (by kernel_rfl)) (fun _ _ _ h => h) (Or.inl ⟨by rfl,?_⟩) hHeld ?_ ?_;rotate_left
        ·rintro w' ⟨s0,s1,s2,s3,s4,s5⟩;go_simp;with_reducible rfl
        rotate_left
        ·simp only [Act.put,U,Z,zx,i64_w,i32_w];rfl
        refine pure_ (i:=3) (N:=some 46) (v:=?_) (a':=?_) #[true,true,true,true,false,false,false,false,false,false,false,false,false,false,false,false,false,false,false,false,false,false] rfl rfl (any_of HT_.out (by kernel_rfl)) (fun _ _ _ h => h) (Or.inl ⟨by rfl,?_⟩) ?_ ?_;rotate_left
        ·intro w';go_simp;with_reducible rfl
        rotate_left
        ·simp only [Act.put,U,Z,zx,i64_w,i32_w];rfl
        refine take_ (i:=4) (N:=some 47) (v:=?_) (a':=?_) #[true,true,true,true,true,false,false,false,false,false,false,false,false,false,false,false,false,false,false,false,false,false] rfl rfl (take_ofW HT_.out HW_.out (by kernel_rfl)) (fun _ _ _ h => h) (Or.inl ⟨by rfl,?_⟩) hHeld ?_ ?_;rotate_left
        ·rintro w' ⟨s0,s1,s2,s3,s4,s5⟩;go_simp;with_reducible rfl
        rotate_left
        ·simp only [Act.put,U,Z,zx,i64_w,i32_w];rfl
        refine pure_ (i:=5) (N:=some 48) (v:=?_) (a':=?_) #[true,true,true,true,true,true,false,false,false,false,false,false,false,false,false,false,false,false,false,false,false,false] rfl rfl (any_of HT_.out (by kernel_rfl)) (fun _ _ _ h => h) (Or.inl ⟨by rfl,?_⟩) ?_ ?_;rotate_left
        ·intro w';go_simp;with_reducible rfl
        rotate_left
        ·simp only [Act.put,U,Z,zx,i64_w,i32_w];rfl
        refine pure_ (i:=6) (N:=some 49) (v:=?_) (a':=?_) #[true,true,true,true,true,true,true,false,false,false,false,false,false,false,false,false,false,false,false,false,false,false] rfl rfl (any_of HT_.out (by kernel_rfl)) (fun _ _ _ h => h) (Or.inl ⟨by rfl,?_⟩) ?_ ?_;rotate_left
        ·intro w';go_simp;with_reducible rfl
        rotate_left
        ·simp only [Act.put,U,Z,zx,i64_w,i32_w];rfl
        refine pure_ (i:=7) (N:=some 50) (v:=undef) (a':=?_) #[true,true,true,true,true,true,true,true,false,false,false,false,false,false,false,false,false,false,false,false,false,false] rfl rfl (any_of HT_.out (by kernel_rfl)) (fun _ _ _ h => h) (Or.inr ⟨by rfl,rfl⟩) ?_ ?_;rotate_left
        ·simp only [Act.put,U,Z,zx,i64_w,i32_w];rfl
        refine pure_ (i:=8) (N:=some 51) (v:=undef) (a':=?_) #[true,true,true,true,true,true,true,true,true,false,false,false,false,false,false,false,false,false,false,false,false,false] rfl rfl (any_of HT_.out (by kernel_rfl)) (fun _ _ _ h => h) (Or.inr ⟨by rfl,rfl⟩) ?_ ?_;rotate_left
        ·simp only [Act.put,U,Z,zx,i64_w,i32_w];rfl
        refine pure_ (i:=9) (N:=some 52) (v:=undef) (a':=?_) #[true,true,true,true,true,true,true,true,true,true,false,false,false,false,false,false,false,false,false,false,false,false] rfl rfl (any_of HT_.out (by kernel_rfl)) (fun _ _ _ h => h) (Or.inr ⟨by rfl,rfl⟩) ?_ ?_;rotate_left
        ·simp only [Act.put,U,Z,zx,i64_w,i32_w];rfl
        refine pure_ (i:=10) (N:=some 53) (v:=undef) (a':=?_) #[true,true,true,true,true,true,true,true,true,true,true,false,false,false,false,false,false,false,false,false,false,false] rfl rfl (any_of HT_.out (by kernel_rfl)) (fun _ _ _ h => h) (Or.inr ⟨by rfl,rfl⟩) ?_ ?_;rotate_left
        ·simp only [Act.put,U,Z,zx,i64_w,i32_w];rfl
        refine pure_ (i:=11) (N:=some 54) (v:=undef) (a':=?_) #[true,true,true,true,true,true,true,true,true,true,true,true,false,false,false,false,false,false,false,false,false,false] rfl rfl (any_of HT_.out (by kernel_rfl)) (fun _ _ _ h => h) (Or.inr ⟨by rfl,rfl⟩) ?_ ?_;rotate_left
        ·simp only [Act.put,U,Z,zx,i64_w,i32_w];rfl
        refine pure_ (i:=12) (N:=some 55) (v:=undef) (a':=?_) #[true,true,true,true,true,true,true,true,true,true,true,true,true,false,false,false,false,false,false,false,false,false] rfl rfl (any_of HT_.out (by kernel_rfl)) (fun _ _ _ h => h) (Or.inr ⟨by rfl,rfl⟩) ?_ ?_;rotate_left
        ·simp only [Act.put,U,Z,zx,i64_w,i32_w];rfl
        refine pure_ (i:=13) (N:=some 56) (v:=undef) (a':=?_) #[true,true,true,true,true,true,true,true,true,true,true,true,true,true,false,false,false,false,false,false,false,false] rfl rfl (any_of HT_.out (by kernel_rfl)) (fun _ _ _ h => h) (Or.inr ⟨by rfl,rfl⟩) ?_ ?_;rotate_left
        ·simp only [Act.put,U,Z,zx,i64_w,i32_w];rfl
        refine pure_ (i:=14) (N:=some 57) (v:=undef) (a':=?_) #[true,true,true,true,true,true,true,true,true,true,true,true,true,true,true,false,false,false,false,false,false,false] rfl rfl (any_of HT_.out (by kernel_rfl)) (fun _ _ _ h => h) (Or.inr ⟨by rfl,rfl⟩) ?_ ?_;rotate_left
        ·simp only [Act.put,U,Z,zx,i64_w,i32_w];rfl
        refine pure_ (i:=15) (N:=some 58) (v:=undef) (a':=?_) #[true,true,true,true,true,true,true,true,true,true,true,true,true,true,true,true,false,false,false,false,false,false] rfl rfl (any_of HT_.out (by kernel_rfl)) (fun _ _ _ h => h) (Or.inr ⟨by rfl,rfl⟩) ?_ ?_;rotate_left
        ·simp only [Act.put,U,Z,zx,i64_w,i32_w];rfl
        refine pure_ (i:=16) (N:=some 59) (v:=undef) (a':=?_) #[true,true,true,true,true,true,true,true,true,true,true,true,true,true,true,true,true,false,false,false,false,false] rfl rfl (any_of HT_.out (by kernel_rfl)) (fun _ _ _ h => h) (Or.inr ⟨by rfl,rfl⟩) ?_ ?_;rotate_left
        ·simp only [Act.put,U,Z,zx,i64_w,i32_w];rfl
        refine pure_ (i:=17) (N:=some 60) (v:=undef) (a':=?_) #[true,true,true,true,true,true,true,true,true,true,true,true,true,true,true,true,true,true,false,false,false,false] rfl rfl (any_of HT_.out (by kernel_rfl)) (fun _ _ _ h => h) (Or.inr ⟨by rfl,rfl⟩) ?_ ?_;rotate_left
        ·simp only [Act.put,U,Z,zx,i64_w,i32_w];rfl
        refine pure_ (i:=18) (N:=some 61) (v:=undef) (a':=?_) #[true,true,true,true,true,true,true,true,true,true,true,true,true,true,true,true,true,true,true,false,false,false] rfl rfl (any_of HT_.out (by kernel_rfl)) (fun _ _ _ h => h) (Or.inr ⟨by rfl,rfl⟩) ?_ ?_;rotate_left
        ·simp only [Act.put,U,Z,zx,i64_w,i32_w];rfl
        refine pure_ (i:=19) (N:=some 62) (v:=undef) (a':=?_) #[true,true,true,true,true,true,true,true,true,true,true,true,true,true,true,true,true,true,true,true,false,false] rfl rfl (any_of HT_.out (by kernel_rfl)) (fun _ _ _ h => h) (Or.inr ⟨by rfl,rfl⟩) ?_ ?_;rotate_left
        ·simp only [Act.put,U,Z,zx,i64_w,i32_w];rfl
        refine pure_ (i:=20) (N:=some 63) (v:=undef) (a':=?_) #[true,true,true,true,true,true,true,true,true,true,true,true,true,true,true,true,true,true,true,true,true,false] rfl rfl (any_of HT_.out (by kernel_rfl)) (fun _ _ _ h => h) (Or.inr ⟨by rfl,rfl⟩) ?_ ?_;rotate_left
        ·simp only [Act.put,U,Z,zx,i64_w,i32_w];rfl
        refine pure_ (i:=21) (N:=some 64) (v:=?_) (a':=?_) #[true,true,true,true,true,true,true,true,true,true,true,true,true,true,true,true,true,true,true,true,true,true] rfl rfl (any_of HT_.out (by kernel_rfl)) (fun _ _ _ h => h) (Or.inl ⟨by rfl,?_⟩) ?_ ?_;rotate_left
        ·intro w';go_simp;with_reducible rfl
        rotate_left
        ·simp only [Act.put,U,Z,zx,i64_w,i32_w];rfl
        refine done_ (done_of HT_.out (by kernel_rfl)) ?_
        try go_wp2
        (try simp only [← hl5_3])
        go_roundg k3
        case measure => have:=HK1.out; have:=HK2.out; have:=HK3.out; omega
        case rel => exact ⟨(x5_3),(wrap64 (x8_3 + 1)),(by first | rfl | (simp; done) | (simp [*]; done)),H',⟨by have:=HK1.out; have:=HK2.out; have:=HK3.out; omega⟩,⟨by (try simp only [hl5_2]); (try simp only [hl5_3]); (with_reducible repeat (first | apply Kd.R_alloc | apply Kd.R_drewN | apply Kd.R_drew)); exact HO_5.out⟩,⟨by (try simp only [hl5_2]); (try simp only [hl5_3]); (with_reducible repeat (first | refine blk_drewN ?_ _ | refine blk_drew ?_ | refine blk_alloc ?_ _)); exact BK357.out⟩,⟨by repeat (first | (with_reducible first | exact HB.out | apply below_alloc | apply pw_below_drewN | apply below_drew1 | refine below_set ?_ GE357.out | refine below_set ?_ GE364.out) | exact HB.out)⟩⟩
       rw [if_pos c28] at H;have c28b0 : decide ((rd x5_3 ((rd_T80 l0_1 x8_3).f0)) < 99999) = true:=decide_eq_true c28;clear c28
       by_cases c29 : 0 ≤ ((rd_T80 l0_1 x8_3).f1)
       case neg =>
        rw [if_neg c29] at H;exact absurd H (by simp)
       rw [if_pos c29] at H;have c29b0 : decide (0 ≤ ((rd_T80 l0_1 x8_3).f1)) = true:=decide_eq_true c29;clear c29
       by_cases c30 : ((rd_T80 l0_1 x8_3).f1) < (x5_3.length : Int)
       case neg =>
        rw [if_neg c30] at H;exact absurd H (by simp)
       rw [if_pos c30] at H;have c30b0 : decide (((rd_T80 l0_1 x8_3).f1) < (x5_3.length : Int)) = true:=decide_eq_true c30;clear c30
       by_cases c31 : (wrap64 ((rd x5_3 ((rd_T80 l0_1 x8_3).f0)) + ((rd_T80 l0_1 x8_3).f2))) < (rd x5_3 ((rd_T80 l0_1 x8_3).f1))
       case neg =>
        rw [if_neg c31] at H;have c31b0 : decide ((wrap64 ((rd x5_3 ((rd_T80 l0_1 x8_3).f0)) + ((rd_T80 l0_1 x8_3).f2))) < (rd x5_3 ((rd_T80 l0_1 x8_3).f1))) = false:=decide_eq_false c31;clear c31;have H':=zy H;clear H;have hcz41_0 : wr.cell? ⟨gb357,0,none⟩ = some (.int .i64 a0_0):=(blk_cell BK357.out 0).trans rfl;have hcz41_1 : wr.cell? ⟨gb357,1,none⟩ = some (.slice A0_1 l0_1.length c0_1):=(blk_cell BK357.out 1).trans rfl;have hfz41_0:=blk_frozen BK357.out 0;have hfz41_1:=blk_frozen BK357.out 1;have p363 : 0 ≤ (x8_3 : Int):=of_decide_eq_true (by first | (with_reducible assumption) | assumption);have q363 : x8_3 < (l0_1.length : Int):=of_decide_eq_true (by first | (with_reducible assumption) | assumption);obtain ⟨ad363,e363,hx363_0,hx363_1,hx363_2,hx363_3,hx363_4⟩:=at_T80 HR0_1.out x8_3 p363 q363;cases e363;replace hx363_0:=(HB.out.cell (World.block_lt_of_cell? w _ hx363_0)).trans hx363_0;replace hx363_1:=(HB.out.cell (World.block_lt_of_cell? w _ hx363_1)).trans hx363_1;replace hx363_2:=(HB.out.cell (World.block_lt_of_cell? w _ hx363_2)).trans hx363_2;replace hx363_3:=(HB.out.cell (World.block_lt_of_cell? w _ hx363_3)).trans hx363_3;replace hx363_4:=(HB.out.cell (World.block_lt_of_cell? w _ hx363_4)).trans hx363_4;replace p363:=eq_true p363;replace q363:=eq_true q363
        try go_wp2_with (first | ((with_reducible refine gate_dst (N:=9) rfl ?_); refine box_event ?hg (N:=9) ?hd (cs:=#[.int .i64 0,.int .i64 0,.int .i64 0,.int .i64 0,.int .i64 0]) (t:=80) ?hr ?_; (case hd => rfl); (case hg => rfl); (case hr => first | (go_simp; done) | (go_simp; rfl)); intro gb364 hg w42 hbox hb; have n0_:=zy (Kd.R_below (by (with_reducible repeat (first | apply Kd.R_alloc | apply Kd.R_drewN | apply Kd.R_drew)); exact HO_5.out) hb); have n1_:=zy (blk_below (g:=gb357) (o:=.cells #[.int .i64 a0_0,.slice (some ad363) l0_1.length c0_1] 25 (0,0)) (by (with_reducible repeat (first | refine blk_drewN ?_ _ | refine blk_drew ?_ | refine blk_alloc ?_ _)); exact BK357.out) hb); have n2_:=zy (below_step (by repeat (first | (with_reducible first | exact HB.out | apply below_alloc | apply pw_below_drewN | apply below_drew1 | refine below_set ?_ GE357.out) | exact HB.out)) hb); have n3_:=zy (hbox); have n4_:=zy ((by rw [hg]; exact (below_size (by repeat (first | (with_reducible first | exact HB.out | apply below_alloc | apply pw_below_drewN | apply below_drew1 | refine below_set ?_ GE357.out) | exact HB.out))) : w.heap.size ≤ gb364)); have n5_:=zy ((by rw [hg]; exact (below_size (by repeat (first | (with_reducible first | exact HB.out | apply below_alloc | apply pw_below_drewN | apply below_drew1 | refine below_set ?_ GE357.out) | exact HB.out))) : w.heap.size ≤ gb364)); have n6_:=zy ((by rw [hg]; exact Nat.ne_of_lt (blk_lt (g:=gb357) (o:=.cells #[.int .i64 a0_0,.slice (some ad363) l0_1.length c0_1] 25 (0,0)) (by (with_reducible repeat (first | refine blk_drewN ?_ _ | refine blk_drew ?_ | refine blk_alloc ?_ _)); exact BK357.out)) : gb357 ≠ gb364)); have n7_:=zy ((by rw [hg]; exact Nat.ne_of_gt (blk_lt (g:=gb357) (o:=.cells #[.int .i64 a0_0,.slice (some ad363) l0_1.length c0_1] 25 (0,0)) (by (with_reducible repeat (first | refine blk_drewN ?_ _ | refine blk_drew ?_ | refine blk_alloc ?_ _)); exact BK357.out)) : gb364 ≠ gb357)); clear HO_5; clear BK357; clear HB; have HO_5:=n0_; have BK357:=n1_; have HB:=n2_; have BK364:=n3_; have GW364:=n4_; have GE364:=n5_; have NB357_364:=n6_; have NB364_357:=n7_; clear n0_ n1_ n2_ n3_ n4_ n5_ n6_ n7_; clear hb hbox hg; have hnb43:=NB364_357.out; have hnc43:=NB357_364.out; have hcz44_0 : w42.cell? ⟨gb364,0,none⟩ = some (.int .i64 0):=(blk_cell BK364.out 0).trans rfl; have hcz44_1 : w42.cell? ⟨gb364,1,none⟩ = some (.int .i64 0):=(blk_cell BK364.out 1).trans rfl; have hcz44_2 : w42.cell? ⟨gb364,2,none⟩ = some (.int .i64 0):=(blk_cell BK364.out 2).trans rfl; have hcz44_3 : w42.cell? ⟨gb364,3,none⟩ = some (.int .i64 0):=(blk_cell BK364.out 3).trans rfl; have hcz44_4 : w42.cell? ⟨gb364,4,none⟩ = some (.int .i64 0):=(blk_cell BK364.out 4).trans rfl; have hfz44_0:=blk_frozen BK364.out 0; have hfz44_1:=blk_frozen BK364.out 1; have hfz44_2:=blk_frozen BK364.out 2; have hfz44_3:=blk_frozen BK364.out 3; have hfz44_4:=blk_frozen BK364.out 4))
        have n0_ : Aside0 (Kd.R (Kd.int .i64) 3 (((((w42.setCell ⟨gb364,0,none⟩ (.int .i64 ((rd_T80 l0_1 x8_3).f0))).setCell ⟨gb364,1,none⟩ (.int .i64 ((rd_T80 l0_1 x8_3).f1))).setCell ⟨gb364,2,none⟩ (.int .i64 ((rd_T80 l0_1 x8_3).f2))).setCell ⟨gb364,3,none⟩ (.int .i64 ((rd_T80 l0_1 x8_3).f3))).setCell ⟨gb364,4,none⟩ (.int .i64 ((rd_T80 l0_1 x8_3).f4))) w.heap.size (fun _ => True) (.slice (some ⟨go18,0,none⟩) x5_3.length co18) x5_3):=⟨by (with_reducible repeat (first | apply Kd.R_alloc | apply Kd.R_drewN | apply Kd.R_drew)); exact Kd.R_mono (Kd.R_far (p:=⟨gb364,4,none⟩) (Kd.R_far (p:=⟨gb364,3,none⟩) (Kd.R_far (p:=⟨gb364,2,none⟩) (Kd.R_far (p:=⟨gb364,1,none⟩) (Kd.R_far (p:=⟨gb364,0,none⟩) (Kd.R_types HO_5.out BK364.out (by decide)) (fun _ hk => hk.2) (.int .i64 ((rd_T80 l0_1 x8_3).f0))) (fun _ hk => hk.2) (.int .i64 ((rd_T80 l0_1 x8_3).f1))) (fun _ hk => hk.2) (.int .i64 ((rd_T80 l0_1 x8_3).f2))) (fun _ hk => hk.2) (.int .i64 ((rd_T80 l0_1 x8_3).f3))) (fun _ hk => hk.2) (.int .i64 ((rd_T80 l0_1 x8_3).f4))) (fun _ hk => trivial)⟩
        have n1_ : Aside0 ((((((w42.setCell ⟨gb364,0,none⟩ (.int .i64 ((rd_T80 l0_1 x8_3).f0))).setCell ⟨gb364,1,none⟩ (.int .i64 ((rd_T80 l0_1 x8_3).f1))).setCell ⟨gb364,2,none⟩ (.int .i64 ((rd_T80 l0_1 x8_3).f2))).setCell ⟨gb364,3,none⟩ (.int .i64 ((rd_T80 l0_1 x8_3).f3))).setCell ⟨gb364,4,none⟩ (.int .i64 ((rd_T80 l0_1 x8_3).f4))).heap[gb357]? = some (.cells #[.int .i64 a0_0,.slice (some ad363) l0_1.length c0_1] 25 (0,0))):=⟨by (with_reducible repeat (first | refine blk_drewN ?_ _ | refine blk_drew ?_ | refine blk_alloc ?_ _)); refine blk_far ?_ NB357_364.out _; (with_reducible repeat (first | refine blk_drewN ?_ _ | refine blk_drew ?_ | refine blk_alloc ?_ _)); refine blk_far ?_ NB357_364.out _; (with_reducible repeat (first | refine blk_drewN ?_ _ | refine blk_drew ?_ | refine blk_alloc ?_ _)); refine blk_far ?_ NB357_364.out _; (with_reducible repeat (first | refine blk_drewN ?_ _ | refine blk_drew ?_ | refine blk_alloc ?_ _)); refine blk_far ?_ NB357_364.out _; (with_reducible repeat (first | refine blk_drewN ?_ _ | refine blk_drew ?_ | refine blk_alloc ?_ _)); refine blk_far ?_ NB357_364.out _; (with_reducible repeat (first | refine blk_drewN ?_ _ | refine blk_drew ?_ | refine blk_alloc ?_ _)); exact BK357.out⟩
        have n2_ : Aside0 ((((((w42.setCell ⟨gb364,0,none⟩ (.int .i64 ((rd_T80 l0_1 x8_3).f0))).setCell ⟨gb364,1,none⟩ (.int .i64 ((rd_T80 l0_1 x8_3).f1))).setCell ⟨gb364,2,none⟩ (.int .i64 ((rd_T80 l0_1 x8_3).f2))).setCell ⟨gb364,3,none⟩ (.int .i64 ((rd_T80 l0_1 x8_3).f3))).setCell ⟨gb364,4,none⟩ (.int .i64 ((rd_T80 l0_1 x8_3).f4))).heap[gb364]? = some (.cells #[.int .i64 ((rd_T80 l0_1 x8_3).f0),.int .i64 ((rd_T80 l0_1 x8_3).f1),.int .i64 ((rd_T80 l0_1 x8_3).f2),.int .i64 ((rd_T80 l0_1 x8_3).f3),.int .i64 ((rd_T80 l0_1 x8_3).f4)] 80 (0,0))):=⟨by (with_reducible repeat (first | refine blk_drewN ?_ _ | refine blk_drew ?_ | refine blk_alloc ?_ _)); refine blk_put (cs:=#[.int .i64 ((rd_T80 l0_1 x8_3).f0),.int .i64 ((rd_T80 l0_1 x8_3).f1),.int .i64 ((rd_T80 l0_1 x8_3).f2),.int .i64 ((rd_T80 l0_1 x8_3).f3),.int .i64 0]) ?_ 4 _ rfl; (with_reducible repeat (first | refine blk_drewN ?_ _ | refine blk_drew ?_ | refine blk_alloc ?_ _)); refine blk_put (cs:=#[.int .i64 ((rd_T80 l0_1 x8_3).f0),.int .i64 ((rd_T80 l0_1 x8_3).f1),.int .i64 ((rd_T80 l0_1 x8_3).f2),.int .i64 0,.int .i64 0]) ?_ 3 _ rfl; (with_reducible repeat (first | refine blk_drewN ?_ _ | refine blk_drew ?_ | refine blk_alloc ?_ _)); refine blk_put (cs:=#[.int .i64 ((rd_T80 l0_1 x8_3).f0),.int .i64 ((rd_T80 l0_1 x8_3).f1),.int .i64 0,.int .i64 0,.int .i64 0]) ?_ 2 _ rfl; (with_reducible repeat (first | refine blk_drewN ?_ _ | refine blk_drew ?_ | refine blk_alloc ?_ _)); refine blk_put (cs:=#[.int .i64 ((rd_T80 l0_1 x8_3).f0),.int .i64 0,.int .i64 0,.int .i64 0,.int .i64 0]) ?_ 1 _ rfl; (with_reducible repeat (first | refine blk_drewN ?_ _ | refine blk_drew ?_ | refine blk_alloc ?_ _)); refine blk_put (cs:=#[.int .i64 0,.int .i64 0,.int .i64 0,.int .i64 0,.int .i64 0]) ?_ 0 _ rfl; (with_reducible repeat (first | refine blk_drewN ?_ _ | refine blk_drew ?_ | refine blk_alloc ?_ _)); exact BK364.out⟩
        have n3_ : Aside0 (Below w.heap.size w (((((w42.setCell ⟨gb364,0,none⟩ (.int .i64 ((rd_T80 l0_1 x8_3).f0))).setCell ⟨gb364,1,none⟩ (.int .i64 ((rd_T80 l0_1 x8_3).f1))).setCell ⟨gb364,2,none⟩ (.int .i64 ((rd_T80 l0_1 x8_3).f2))).setCell ⟨gb364,3,none⟩ (.int .i64 ((rd_T80 l0_1 x8_3).f3))).setCell ⟨gb364,4,none⟩ (.int .i64 ((rd_T80 l0_1 x8_3).f4)))):=⟨by repeat (first | (with_reducible first | exact HB.out | apply below_alloc | apply pw_below_drewN | apply below_drew1 | refine below_set ?_ GE357.out | refine below_set ?_ GE364.out) | exact HB.out)⟩
        (try clear HO_5)
        (try clear BK357)
        (try clear BK364)
        (try clear HB)
        generalize (((((w42.setCell ⟨gb364,0,none⟩ (.int .i64 ((rd_T80 l0_1 x8_3).f0))).setCell ⟨gb364,1,none⟩ (.int .i64 ((rd_T80 l0_1 x8_3).f1))).setCell ⟨gb364,2,none⟩ (.int .i64 ((rd_T80 l0_1 x8_3).f2))).setCell ⟨gb364,3,none⟩ (.int .i64 ((rd_T80 l0_1 x8_3).f3))).setCell ⟨gb364,4,none⟩ (.int .i64 ((rd_T80 l0_1 x8_3).f4))) = w45 at n0_ n1_ n2_ n3_ ⊢;have HO_5:=n0_;have BK357:=n1_;have BK364:=n2_;have HB:=n3_;clear n0_ n1_ n2_ n3_;have n0_:=zy (Kd.R_drew HO_5.out);have n1_:=zy (blk_drew BK357.out);have n2_:=zy (blk_drew BK364.out);have n3_:=zy (below_drew1 HB.out);clear HO_5;clear BK357;clear BK364;clear HB;have HO_5:=n0_;have BK357:=n1_;have BK364:=n2_;have HB:=n3_;clear n0_ n1_ n2_ n3_;have p365 : 0 ≤ (((rd_T80 l0_1 x8_3).f0) : Int):=of_decide_eq_true (by first | (with_reducible assumption) | assumption);have q365 : ((rd_T80 l0_1 x8_3).f0) < (x5_3.length : Int):=of_decide_eq_true (by first | (with_reducible assumption) | assumption);obtain ⟨ad365,e365,hx365_0⟩:=Kd.at_int (Kd.R_reads' HO_5.out).2.2 ((rd_T80 l0_1 x8_3).f0) p365 q365;obtain rfl : (⟨go18,0,none⟩ : Addr) = ad365:=(by injection e365)
        (first | simp only [add_plain] at hx365_0 | simp only [add_at] at hx365_0 | simp only [Addr.add,Nat.zero_add] at hx365_0 | skip)
        replace p365:=eq_true p365;replace q365:=eq_true q365;have p366 : 0 ≤ (((rd_T80 l0_1 x8_3).f0) : Int):=of_decide_eq_true (by first | (with_reducible assumption) | assumption);have q366 : ((rd_T80 l0_1 x8_3).f0) < (x5_3.length : Int):=of_decide_eq_true (by first | (with_reducible assumption) | assumption);obtain ⟨ad366,e366,hx366_0⟩:=Kd.at_int (Kd.R_reads' HO_5.out).2.2 ((rd_T80 l0_1 x8_3).f0) p366 q366;obtain rfl : (⟨go18,0,none⟩ : Addr) = ad366:=(by injection e366)
        (first | simp only [add_plain] at hx366_0 | simp only [add_at] at hx366_0 | simp only [Addr.add,Nat.zero_add] at hx366_0 | skip)
        replace p366:=eq_true p366;replace q366:=eq_true q366;have p367 : 0 ≤ (((rd_T80 l0_1 x8_3).f1) : Int):=of_decide_eq_true (by first | (with_reducible assumption) | assumption);have q367 : ((rd_T80 l0_1 x8_3).f1) < (x5_3.length : Int):=of_decide_eq_true (by first | (with_reducible assumption) | assumption);obtain ⟨ad367,e367,hx367_0⟩:=Kd.at_int (Kd.R_reads' HO_5.out).2.2 ((rd_T80 l0_1 x8_3).f1) p367 q367;obtain rfl : (⟨go18,0,none⟩ : Addr) = ad367:=(by injection e367)
        (first | simp only [add_plain] at hx367_0 | simp only [add_at] at hx367_0 | simp only [Addr.add,Nat.zero_add] at hx367_0 | skip)
        replace p367:=eq_true p367;replace q367:=eq_true q367;refine start_ (n:=22) (S:=fun w' => w'.cell? ⟨gb364,0,none⟩ = some (.int .i64 ((rd_T80 l0_1 x8_3).f0)) ∧ w'.cell? ⟨gb364,1,none⟩ = some (.int .i64 ((rd_T80 l0_1 x8_3).f1)) ∧ w'.cell? ⟨gb364,2,none⟩ = some (.int .i64 ((rd_T80 l0_1 x8_3).f2)) ∧ w'.cell? ⟨gb364,3,none⟩ = some (.int .i64 ((rd_T80 l0_1 x8_3).f3)) ∧ w'.cell? ⟨gb364,4,none⟩ = some (.int .i64 ((rd_T80 l0_1 x8_3).f4)) ∧ w'.cell? ⟨go18,(((rd_T80 l0_1 x8_3).f0)).toNat,none⟩ = some (.int .i64 (rd x5_3 ((rd_T80 l0_1 x8_3).f0))) ∧ w'.cell? ⟨go18,(((rd_T80 l0_1 x8_3).f0)).toNat,none⟩ = some (.int .i64 (rd x5_3 ((rd_T80 l0_1 x8_3).f0))) ∧ w'.cell? ⟨go18,(((rd_T80 l0_1 x8_3).f1)).toNat,none⟩ = some (.int .i64 (rd x5_3 ((rd_T80 l0_1 x8_3).f1)))) (ds:=[]) #[false,false,false,false,false,false,false,false,false,false,false,false,false,false,false,false,false,false,false,false,false,false] (by kernel_rfl) rfl rfl ⟨(blk_cell BK364.out 0).trans rfl,(blk_cell BK364.out 1).trans rfl,(blk_cell BK364.out 2).trans rfl,(blk_cell BK364.out 3).trans rfl,(blk_cell BK364.out 4).trans rfl,hx365_0,hx366_0,hx367_0⟩ (fun hHeld => ?_); refine with_tabW spec_l3All.tab14 spec_l3All.bits14 (fun HT_ HW_ => ?_);generalize w45.drew = w46 at HO_5 BK357 BK364 HB hx365_0 hx366_0 hx367_0 hHeld ⊢;refine pure_ (i:=0) (N:=some 43) (v:=?_) (a':=?_) #[true,false,false,false,false,false,false,false,false,false,false,false,false,false,false,false,false,false,false,false,false,false] rfl rfl (any_of HT_.out (by kernel_rfl)) (fun _ _ _ h => h) (Or.inl ⟨by rfl,?_⟩) ?_ ?_;rotate_left
        ·intro w';go_simp;with_reducible rfl
        rotate_left
        ·simp only [Act.put,U,Z,zx,i64_w,i32_w];rfl
        refine pure_ (i:=1) (N:=some 44) (v:=?_) (a':=?_) #[true,true,false,false,false,false,false,false,false,false,false,false,false,false,false,false,false,false,false,false,false,false] rfl rfl (any_of HT_.out (by kernel_rfl)) (fun _ _ _ h => h) (Or.inl ⟨by rfl,?_⟩) ?_ ?_;rotate_left
        ·intro w';go_simp;with_reducible rfl
        rotate_left
        ·simp only [Act.put,U,Z,zx,i64_w,i32_w];rfl
        refine take_ (i:=2) (N:=some 45) (v:=?_) (a':=?_) #[true,true,true,false,false,false,false,false,false,false,false,false,false,false,false,false,false,false,false,false,false,false] rfl rfl (take_ofW HT_.out HW_.out (by kernel_rfl)) (fun _ _ _ h => h) (Or.inl ⟨by rfl,?_⟩) hHeld ?_ ?_;rotate_left
        ·rintro w' ⟨s0,s1,s2,s3,s4,s5,s6,s7⟩;go_simp;with_reducible rfl
        rotate_left
        ·simp only [Act.put,U,Z,zx,i64_w,i32_w];rfl
        refine pure_ (i:=3) (N:=some 46) (v:=?_) (a':=?_) #[true,true,true,true,false,false,false,false,false,false,false,false,false,false,false,false,false,false,false,false,false,false] rfl rfl (any_of HT_.out (by kernel_rfl)) (fun _ _ _ h => h) (Or.inl ⟨by rfl,?_⟩) ?_ ?_;rotate_left
        ·intro w';go_simp;with_reducible rfl
        rotate_left
        ·simp only [Act.put,U,Z,zx,i64_w,i32_w];rfl
        refine take_ (i:=4) (N:=some 47) (v:=?_) (a':=?_) #[true,true,true,true,true,false,false,false,false,false,false,false,false,false,false,false,false,false,false,false,false,false] rfl rfl (take_ofW HT_.out HW_.out (by kernel_rfl)) (fun _ _ _ h => h) (Or.inl ⟨by rfl,?_⟩) hHeld ?_ ?_;rotate_left
        ·rintro w' ⟨s0,s1,s2,s3,s4,s5,s6,s7⟩;go_simp;with_reducible rfl
        rotate_left
        ·simp only [Act.put,U,Z,zx,i64_w,i32_w];rfl
        refine pure_ (i:=5) (N:=some 48) (v:=?_) (a':=?_) #[true,true,true,true,true,true,false,false,false,false,false,false,false,false,false,false,false,false,false,false,false,false] rfl rfl (any_of HT_.out (by kernel_rfl)) (fun _ _ _ h => h) (Or.inl ⟨by rfl,?_⟩) ?_ ?_;rotate_left
        ·intro w';go_simp;with_reducible rfl
        rotate_left
        ·simp only [Act.put,U,Z,zx,i64_w,i32_w];rfl
        refine pure_ (i:=6) (N:=some 49) (v:=?_) (a':=?_) #[true,true,true,true,true,true,true,false,false,false,false,false,false,false,false,false,false,false,false,false,false,false] rfl rfl (any_of HT_.out (by kernel_rfl)) (fun _ _ _ h => h) (Or.inl ⟨by rfl,?_⟩) ?_ ?_;rotate_left
        ·intro w';go_simp;with_reducible rfl
        rotate_left
        ·simp only [Act.put,U,Z,zx,i64_w,i32_w];rfl
        refine pure_ (i:=7) (N:=some 50) (v:=?_) (a':=?_) #[true,true,true,true,true,true,true,true,false,false,false,false,false,false,false,false,false,false,false,false,false,false] rfl rfl (any_of HT_.out (by kernel_rfl)) (fun _ _ _ h => h) (Or.inl ⟨by rfl,?_⟩) ?_ ?_;rotate_left
        ·intro w';go_simp;with_reducible rfl
        rotate_left
        ·simp only [Act.put,U,Z,zx,i64_w,i32_w];rfl
        refine pure_ (i:=8) (N:=some 51) (v:=?_) (a':=?_) #[true,true,true,true,true,true,true,true,true,false,false,false,false,false,false,false,false,false,false,false,false,false] rfl rfl (any_of HT_.out (by kernel_rfl)) (fun _ _ _ h => h) (Or.inl ⟨by rfl,?_⟩) ?_ ?_;rotate_left
        ·intro w';go_simp;with_reducible rfl
        rotate_left
        ·simp only [Act.put,U,Z,zx,i64_w,i32_w];rfl
        refine pure_ (i:=12) (N:=some 55) (v:=?_) (a':=?_) #[true,true,true,true,true,true,true,true,true,false,false,false,true,false,false,false,false,false,false,false,false,false] rfl rfl (any_of HT_.out (by kernel_rfl)) (fun _ _ _ h => h) (Or.inl ⟨by rfl,?_⟩) ?_ ?_;rotate_left
        ·intro w';go_simp;with_reducible rfl
        rotate_left
        ·simp only [Act.put,U,Z,zx,i64_w,i32_w];rfl
        refine pure_ (i:=15) (N:=some 58) (v:=?_) (a':=?_) #[true,true,true,true,true,true,true,true,true,false,false,false,true,false,false,true,false,false,false,false,false,false] rfl rfl (any_of HT_.out (by kernel_rfl)) (fun _ _ _ h => h) (Or.inl ⟨by rfl,?_⟩) ?_ ?_;rotate_left
        ·intro w';go_simp;with_reducible rfl
        rotate_left
        ·simp only [Act.put,U,Z,zx,i64_w,i32_w];rfl
        refine pure_ (i:=16) (N:=some 59) (v:=?_) (a':=?_) #[true,true,true,true,true,true,true,true,true,false,false,false,true,false,false,true,true,false,false,false,false,false] rfl rfl (any_of HT_.out (by kernel_rfl)) (fun _ _ _ h => h) (Or.inl ⟨by rfl,?_⟩) ?_ ?_;rotate_left
        ·intro w';go_simp;with_reducible rfl
        rotate_left
        ·simp only [Act.put,U,Z,zx,i64_w,i32_w];rfl
        refine take_ (i:=9) (N:=some 52) (v:=?_) (a':=?_) #[true,true,true,true,true,true,true,true,true,true,false,false,true,false,false,true,true,false,false,false,false,false] rfl rfl (take_ofW HT_.out HW_.out (by kernel_rfl)) (fun _ _ _ h => h) (Or.inl ⟨by rfl,?_⟩) hHeld ?_ ?_;rotate_left
        ·rintro w' ⟨s0,s1,s2,s3,s4,s5,s6,s7⟩;go_simp;with_reducible rfl
        rotate_left
        ·simp only [Act.put,U,Z,zx,i64_w,i32_w];rfl
        refine pure_ (i:=10) (N:=some 53) (v:=?_) (a':=?_) #[true,true,true,true,true,true,true,true,true,true,true,false,true,false,false,true,true,false,false,false,false,false] rfl rfl (any_of HT_.out (by kernel_rfl)) (fun _ _ _ h => h) (Or.inl ⟨by rfl,?_⟩) ?_ ?_;rotate_left
        ·intro w';go_simp;with_reducible rfl
        rotate_left
        ·simp only [Act.put,U,Z,zx,i64_w,i32_w];rfl
        refine take_ (i:=11) (N:=some 54) (v:=?_) (a':=?_) #[true,true,true,true,true,true,true,true,true,true,true,true,true,false,false,true,true,false,false,false,false,false] rfl rfl (take_ofW HT_.out HW_.out (by kernel_rfl)) (fun _ _ _ h => h) (Or.inl ⟨by rfl,?_⟩) hHeld ?_ ?_;rotate_left
        ·rintro w' ⟨s0,s1,s2,s3,s4,s5,s6,s7⟩;go_simp;with_reducible rfl
        rotate_left
        ·simp only [Act.put,U,Z,zx,i64_w,i32_w];rfl
        refine take_ (i:=13) (N:=some 56) (v:=?_) (a':=?_) #[true,true,true,true,true,true,true,true,true,true,true,true,true,true,false,true,true,false,false,false,false,false] rfl rfl (take_ofW HT_.out HW_.out (by kernel_rfl)) (fun _ _ _ h => h) (Or.inl ⟨by rfl,?_⟩) hHeld ?_ ?_;rotate_left
        ·rintro w' ⟨s0,s1,s2,s3,s4,s5,s6,s7⟩;go_simp;with_reducible rfl
        rotate_left
        ·simp only [Act.put,U,Z,zx,i64_w,i32_w];rfl
        refine pure_ (i:=14) (N:=some 57) (v:=?_) (a':=?_) #[true,true,true,true,true,true,true,true,true,true,true,true,true,true,true,true,true,false,false,false,false,false] rfl rfl (any_of HT_.out (by kernel_rfl)) (fun _ _ _ h => h) (Or.inl ⟨by rfl,?_⟩) ?_ ?_;rotate_left
        ·intro w';go_simp;with_reducible rfl
        rotate_left
        ·simp only [Act.put,U,Z,zx,i64_w,i32_w];rfl
        refine take_ (i:=17) (N:=some 60) (v:=?_) (a':=?_) #[true,true,true,true,true,true,true,true,true,true,true,true,true,true,true,true,true,true,false,false,false,false] rfl rfl (take_ofW HT_.out HW_.out (by kernel_rfl)) (fun _ _ _ h => h) (Or.inl ⟨by rfl,?_⟩) hHeld ?_ ?_;rotate_left
        ·rintro w' ⟨s0,s1,s2,s3,s4,s5,s6,s7⟩;go_simp;with_reducible rfl
        rotate_left
        ·simp only [Act.put,U,Z,zx,i64_w,i32_w];rfl
        refine pure_ (i:=18) (N:=some 61) (v:=?_) (a':=?_) #[true,true,true,true,true,true,true,true,true,true,true,true,true,true,true,true,true,true,true,false,false,false] rfl rfl (any_of HT_.out (by kernel_rfl)) (fun _ _ _ h => h) (Or.inl ⟨by rfl,?_⟩) ?_ ?_;rotate_left
        ·intro w';go_simp;with_reducible rfl
        rotate_left
        ·simp only [Act.put,U,Z,zx,i64_w,i32_w];rfl
        refine take_ (i:=19) (N:=some 62) (v:=?_) (a':=?_) #[true,true,true,true,true,true,true,true,true,true,true,true,true,true,true,true,true,true,true,true,false,false] rfl rfl (take_ofW HT_.out HW_.out (by kernel_rfl)) (fun _ _ _ h => h) (Or.inl ⟨by rfl,?_⟩) hHeld ?_ ?_;rotate_left
        ·rintro w' ⟨s0,s1,s2,s3,s4,s5,s6,s7⟩;go_simp;with_reducible rfl
        rotate_left
        ·simp only [Act.put,U,Z,zx,i64_w,i32_w];rfl
        refine pure_ (i:=20) (N:=some 63) (v:=?_) (a':=?_) #[true,true,true,true,true,true,true,true,true,true,true,true,true,true,true,true,true,true,true,true,true,false] rfl rfl (any_of HT_.out (by kernel_rfl)) (fun _ _ _ h => h) (Or.inl ⟨by rfl,?_⟩) ?_ ?_;rotate_left
        ·intro w';go_simp;with_reducible rfl
        rotate_left
        ·simp only [Act.put,U,Z,zx,i64_w,i32_w];rfl
        refine pure_ (i:=21) (N:=some 64) (v:=?_) (a':=?_) #[true,true,true,true,true,true,true,true,true,true,true,true,true,true,true,true,true,true,true,true,true,true] rfl rfl (any_of HT_.out (by kernel_rfl)) (fun _ _ _ h => h) (Or.inl ⟨by rfl,?_⟩) ?_ ?_;rotate_left
        ·intro w';go_simp;with_reducible rfl
        rotate_left
        ·simp only [Act.put,U,Z,zx,i64_w,i32_w];rfl
        refine done_ (done_of HT_.out (by kernel_rfl)) ?_
        try go_wp2
        (try simp only [← hl5_3])
        go_roundg k3
        case measure => have:=HK1.out; have:=HK2.out; have:=HK3.out; omega
        case rel => exact ⟨(x5_3),(wrap64 (x8_3 + 1)),(by first | rfl | (simp; done) | (simp [*]; done)),H',⟨by have:=HK1.out; have:=HK2.out; have:=HK3.out; omega⟩,⟨by (try simp only [hl5_2]); (try simp only [hl5_3]); (with_reducible repeat (first | apply Kd.R_alloc | apply Kd.R_drewN | apply Kd.R_drew)); exact HO_5.out⟩,⟨by (try simp only [hl5_2]); (try simp only [hl5_3]); (with_reducible repeat (first | refine blk_drewN ?_ _ | refine blk_drew ?_ | refine blk_alloc ?_ _)); exact BK357.out⟩,⟨by repeat (first | (with_reducible first | exact HB.out | apply below_alloc | apply pw_below_drewN | apply below_drew1 | refine below_set ?_ GE357.out | refine below_set ?_ GE364.out) | exact HB.out)⟩⟩
       rw [if_pos c31] at H;have c31b0 : decide ((wrap64 ((rd x5_3 ((rd_T80 l0_1 x8_3).f0)) + ((rd_T80 l0_1 x8_3).f2))) < (rd x5_3 ((rd_T80 l0_1 x8_3).f1))) = true:=decide_eq_true c31;clear c31;obtain ⟨y369,hy369⟩ : ∃ y_ : List Int,y_ = (x5_3.set (((rd_T80 l0_1 x8_3).f1) : Int).toNat (wrap64 ((rd x5_3 ((rd_T80 l0_1 x8_3).f0)) + ((rd_T80 l0_1 x8_3).f2)))):=⟨_,rfl⟩
       replace H : (spec_l3All.l2 k3 y369 x7_2 (wrap64 (x8_3 + 1)) a0_0 l0_1) = some r:=by first | (rw [hy369]; with_reducible exact H) | (have H2_:=(Option.bind_some _ _).symm.trans H; rw [hy369]; with_reducible exact H2_) | (have H2_:=(Option.bind_some _ _).symm.trans H; with_reducible exact H2_) | with_reducible exact H | (rw [hy369]; exact H) | exact H
       have Ny369:=zy hy369;clear hy369;have H':=zy H;clear H;have hcz33_0 : wr.cell? ⟨gb357,0,none⟩ = some (.int .i64 a0_0):=(blk_cell BK357.out 0).trans rfl;have hcz33_1 : wr.cell? ⟨gb357,1,none⟩ = some (.slice A0_1 l0_1.length c0_1):=(blk_cell BK357.out 1).trans rfl;have hfz33_0:=blk_frozen BK357.out 0;have hfz33_1:=blk_frozen BK357.out 1;have p363 : 0 ≤ (x8_3 : Int):=of_decide_eq_true (by first | (with_reducible assumption) | assumption);have q363 : x8_3 < (l0_1.length : Int):=of_decide_eq_true (by first | (with_reducible assumption) | assumption);obtain ⟨ad363,e363,hx363_0,hx363_1,hx363_2,hx363_3,hx363_4⟩:=at_T80 HR0_1.out x8_3 p363 q363;cases e363;replace hx363_0:=(HB.out.cell (World.block_lt_of_cell? w _ hx363_0)).trans hx363_0;replace hx363_1:=(HB.out.cell (World.block_lt_of_cell? w _ hx363_1)).trans hx363_1;replace hx363_2:=(HB.out.cell (World.block_lt_of_cell? w _ hx363_2)).trans hx363_2;replace hx363_3:=(HB.out.cell (World.block_lt_of_cell? w _ hx363_3)).trans hx363_3;replace hx363_4:=(HB.out.cell (World.block_lt_of_cell? w _ hx363_4)).trans hx363_4;replace p363:=eq_true p363;replace q363:=eq_true q363
       try go_wp2_with (first | ((with_reducible refine gate_dst (N:=9) rfl ?_); refine box_event ?hg (N:=9) ?hd (cs:=#[.int .i64 0,.int .i64 0,.int .i64 0,.int .i64 0,.int .i64 0]) (t:=80) ?hr ?_; (case hd => rfl); (case hg => rfl); (case hr => first | (go_simp; done) | (go_simp; rfl)); intro gb364 hg w34 hbox hb; have n0_:=zy (Kd.R_below (by (with_reducible repeat (first | apply Kd.R_alloc | apply Kd.R_drewN | apply Kd.R_drew)); exact HO_5.out) hb); have n1_:=zy (blk_below (g:=gb357) (o:=.cells #[.int .i64 a0_0,.slice (some ad363) l0_1.length c0_1] 25 (0,0)) (by (with_reducible repeat (first | refine blk_drewN ?_ _ | refine blk_drew ?_ | refine blk_alloc ?_ _)); exact BK357.out) hb); have n2_:=zy (below_step (by repeat (first | (with_reducible first | exact HB.out | apply below_alloc | apply pw_below_drewN | apply below_drew1 | refine below_set ?_ GE357.out) | exact HB.out)) hb); have n3_:=zy (hbox); have n4_:=zy ((by rw [hg]; exact (below_size (by repeat (first | (with_reducible first | exact HB.out | apply below_alloc | apply pw_below_drewN | apply below_drew1 | refine below_set ?_ GE357.out) | exact HB.out))) : w.heap.size ≤ gb364)); have n5_:=zy ((by rw [hg]; exact (below_size (by repeat (first | (with_reducible first | exact HB.out | apply below_alloc | apply pw_below_drewN | apply below_drew1 | refine below_set ?_ GE357.out) | exact HB.out))) : w.heap.size ≤ gb364)); have n6_:=zy ((by rw [hg]; exact Nat.ne_of_lt (blk_lt (g:=gb357) (o:=.cells #[.int .i64 a0_0,.slice (some ad363) l0_1.length c0_1] 25 (0,0)) (by (with_reducible repeat (first | refine blk_drewN ?_ _ | refine blk_drew ?_ | refine blk_alloc ?_ _)); exact BK357.out)) : gb357 ≠ gb364)); have n7_:=zy ((by rw [hg]; exact Nat.ne_of_gt (blk_lt (g:=gb357) (o:=.cells #[.int .i64 a0_0,.slice (some ad363) l0_1.length c0_1] 25 (0,0)) (by (with_reducible repeat (first | refine blk_drewN ?_ _ | refine blk_drew ?_ | refine blk_alloc ?_ _)); exact BK357.out)) : gb364 ≠ gb357)); clear HO_5; clear BK357; clear HB; have HO_5:=n0_; have BK357:=n1_; have HB:=n2_; have BK364:=n3_; have GW364:=n4_; have GE364:=n5_; have NB357_364:=n6_; have NB364_357:=n7_; clear n0_ n1_ n2_ n3_ n4_ n5_ n6_ n7_; clear hb hbox hg; have hnb35:=NB364_357.out; have hnc35:=NB357_364.out; have hcz36_0 : w34.cell? ⟨gb364,0,none⟩ = some (.int .i64 0):=(blk_cell BK364.out 0).trans rfl; have hcz36_1 : w34.cell? ⟨gb364,1,none⟩ = some (.int .i64 0):=(blk_cell BK364.out 1).trans rfl; have hcz36_2 : w34.cell? ⟨gb364,2,none⟩ = some (.int .i64 0):=(blk_cell BK364.out 2).trans rfl; have hcz36_3 : w34.cell? ⟨gb364,3,none⟩ = some (.int .i64 0):=(blk_cell BK364.out 3).trans rfl; have hcz36_4 : w34.cell? ⟨gb364,4,none⟩ = some (.int .i64 0):=(blk_cell BK364.out 4).trans rfl; have hfz36_0:=blk_frozen BK364.out 0; have hfz36_1:=blk_frozen BK364.out 1; have hfz36_2:=blk_frozen BK364.out 2; have hfz36_3:=blk_frozen BK364.out 3; have hfz36_4:=blk_frozen BK364.out 4))
       have n0_ : Aside0 (Kd.R (Kd.int .i64) 3 (((((w34.setCell ⟨gb364,0,none⟩ (.int .i64 ((rd_T80 l0_1 x8_3).f0))).setCell ⟨gb364,1,none⟩ (.int .i64 ((rd_T80 l0_1 x8_3).f1))).setCell ⟨gb364,2,none⟩ (.int .i64 ((rd_T80 l0_1 x8_3).f2))).setCell ⟨gb364,3,none⟩ (.int .i64 ((rd_T80 l0_1 x8_3).f3))).setCell ⟨gb364,4,none⟩ (.int .i64 ((rd_T80 l0_1 x8_3).f4))) w.heap.size (fun _ => True) (.slice (some ⟨go18,0,none⟩) x5_3.length co18) x5_3):=⟨by (with_reducible repeat (first | apply Kd.R_alloc | apply Kd.R_drewN | apply Kd.R_drew)); exact Kd.R_mono (Kd.R_far (p:=⟨gb364,4,none⟩) (Kd.R_far (p:=⟨gb364,3,none⟩) (Kd.R_far (p:=⟨gb364,2,none⟩) (Kd.R_far (p:=⟨gb364,1,none⟩) (Kd.R_far (p:=⟨gb364,0,none⟩) (Kd.R_types HO_5.out BK364.out (by decide)) (fun _ hk => hk.2) (.int .i64 ((rd_T80 l0_1 x8_3).f0))) (fun _ hk => hk.2) (.int .i64 ((rd_T80 l0_1 x8_3).f1))) (fun _ hk => hk.2) (.int .i64 ((rd_T80 l0_1 x8_3).f2))) (fun _ hk => hk.2) (.int .i64 ((rd_T80 l0_1 x8_3).f3))) (fun _ hk => hk.2) (.int .i64 ((rd_T80 l0_1 x8_3).f4))) (fun _ hk => trivial)⟩
       have n1_ : Aside0 ((((((w34.setCell ⟨gb364,0,none⟩ (.int .i64 ((rd_T80 l0_1 x8_3).f0))).setCell ⟨gb364,1,none⟩ (.int .i64 ((rd_T80 l0_1 x8_3).f1))).setCell ⟨gb364,2,none⟩ (.int .i64 ((rd_T80 l0_1 x8_3).f2))).setCell ⟨gb364,3,none⟩ (.int .i64 ((rd_T80 l0_1 x8_3).f3))).setCell ⟨gb364,4,none⟩ (.int .i64 ((rd_T80 l0_1 x8_3).f4))).heap[gb357]? = some (.cells #[.int .i64 a0_0,.slice (some ad363) l0_1.length c0_1] 25 (0,0))):=⟨by (with_reducible repeat (first | refine blk_drewN ?_ _ | refine blk_drew ?_ | refine blk_alloc ?_ _)); refine blk_far ?_ NB357_364.out _; (with_reducible repeat (first | refine blk_drewN ?_ _ | refine blk_drew ?_ | refine blk_alloc ?_ _)); refine blk_far ?_ NB357_364.out _; (with_reducible repeat (first | refine blk_drewN ?_ _ | refine blk_drew ?_ | refine blk_alloc ?_ _)); refine blk_far ?_ NB357_364.out _; (with_reducible repeat (first | refine blk_drewN ?_ _ | refine blk_drew ?_ | refine blk_alloc ?_ _)); refine blk_far ?_ NB357_364.out _; (with_reducible repeat (first | refine blk_drewN ?_ _ | refine blk_drew ?_ | refine blk_alloc ?_ _)); refine blk_far ?_ NB357_364.out _; (with_reducible repeat (first | refine blk_drewN ?_ _ | refine blk_drew ?_ | refine blk_alloc ?_ _)); exact BK357.out⟩
       have n2_ : Aside0 ((((((w34.setCell ⟨gb364,0,none⟩ (.int .i64 ((rd_T80 l0_1 x8_3).f0))).setCell ⟨gb364,1,none⟩ (.int .i64 ((rd_T80 l0_1 x8_3).f1))).setCell ⟨gb364,2,none⟩ (.int .i64 ((rd_T80 l0_1 x8_3).f2))).setCell ⟨gb364,3,none⟩ (.int .i64 ((rd_T80 l0_1 x8_3).f3))).setCell ⟨gb364,4,none⟩ (.int .i64 ((rd_T80 l0_1 x8_3).f4))).heap[gb364]? = some (.cells #[.int .i64 ((rd_T80 l0_1 x8_3).f0),.int .i64 ((rd_T80 l0_1 x8_3).f1),.int .i64 ((rd_T80 l0_1 x8_3).f2),.int .i64 ((rd_T80 l0_1 x8_3).f3),.int .i64 ((rd_T80 l0_1 x8_3).f4)] 80 (0,0))):=⟨by (with_reducible repeat (first | refine blk_drewN ?_ _ | refine blk_drew ?_ | refine blk_alloc ?_ _)); refine blk_put (cs:=#[.int .i64 ((rd_T80 l0_1 x8_3).f0),.int .i64 ((rd_T80 l0_1 x8_3).f1),.int .i64 ((rd_T80 l0_1 x8_3).f2),.int .i64 ((rd_T80 l0_1 x8_3).f3),.int .i64 0]) ?_ 4 _ rfl; (with_reducible repeat (first | refine blk_drewN ?_ _ | refine blk_drew ?_ | refine blk_alloc ?_ _)); refine blk_put (cs:=#[.int .i64 ((rd_T80 l0_1 x8_3).f0),.int .i64 ((rd_T80 l0_1 x8_3).f1),.int .i64 ((rd_T80 l0_1 x8_3).f2),.int .i64 0,.int .i64 0]) ?_ 3 _ rfl; (with_reducible repeat (first | refine blk_drewN ?_ _ | refine blk_drew ?_ | refine blk_alloc ?_ _)); refine blk_put (cs:=#[.int .i64 ((rd_T80 l0_1 x8_3).f0),.int .i64 ((rd_T80 l0_1 x8_3).f1),.int .i64 0,.int .i64 0,.int .i64 0]) ?_ 2 _ rfl; (with_reducible repeat (first | refine blk_drewN ?_ _ | refine blk_drew ?_ | refine blk_alloc ?_ _)); refine blk_put (cs:=#[.int .i64 ((rd_T80 l0_1 x8_3).f0),.int .i64 0,.int .i64 0,.int .i64 0,.int .i64 0]) ?_ 1 _ rfl; (with_reducible repeat (first | refine blk_drewN ?_ _ | refine blk_drew ?_ | refine blk_alloc ?_ _)); refine blk_put (cs:=#[.int .i64 0,.int .i64 0,.int .i64 0,.int .i64 0,.int .i64 0]) ?_ 0 _ rfl; (with_reducible repeat (first | refine blk_drewN ?_ _ | refine blk_drew ?_ | refine blk_alloc ?_ _)); exact BK364.out⟩
       have n3_ : Aside0 (Below w.heap.size w (((((w34.setCell ⟨gb364,0,none⟩ (.int .i64 ((rd_T80 l0_1 x8_3).f0))).setCell ⟨gb364,1,none⟩ (.int .i64 ((rd_T80 l0_1 x8_3).f1))).setCell ⟨gb364,2,none⟩ (.int .i64 ((rd_T80 l0_1 x8_3).f2))).setCell ⟨gb364,3,none⟩ (.int .i64 ((rd_T80 l0_1 x8_3).f3))).setCell ⟨gb364,4,none⟩ (.int .i64 ((rd_T80 l0_1 x8_3).f4)))):=⟨by repeat (first | (with_reducible first | exact HB.out | apply below_alloc | apply pw_below_drewN | apply below_drew1 | refine below_set ?_ GE357.out | refine below_set ?_ GE364.out) | exact HB.out)⟩
       (try clear HO_5)
       (try clear BK357)
       (try clear BK364)
       (try clear HB)
       generalize (((((w34.setCell ⟨gb364,0,none⟩ (.int .i64 ((rd_T80 l0_1 x8_3).f0))).setCell ⟨gb364,1,none⟩ (.int .i64 ((rd_T80 l0_1 x8_3).f1))).setCell ⟨gb364,2,none⟩ (.int .i64 ((rd_T80 l0_1 x8_3).f2))).setCell ⟨gb364,3,none⟩ (.int .i64 ((rd_T80 l0_1 x8_3).f3))).setCell ⟨gb364,4,none⟩ (.int .i64 ((rd_T80 l0_1 x8_3).f4))) = w37 at n0_ n1_ n2_ n3_ ⊢;have HO_5:=n0_;have BK357:=n1_;have BK364:=n2_;have HB:=n3_;clear n0_ n1_ n2_ n3_;have n0_:=zy (Kd.R_drew HO_5.out);have n1_:=zy (blk_drew BK357.out);have n2_:=zy (blk_drew BK364.out);have n3_:=zy (below_drew1 HB.out);clear HO_5;clear BK357;clear BK364;clear HB;have HO_5:=n0_;have BK357:=n1_;have BK364:=n2_;have HB:=n3_;clear n0_ n1_ n2_ n3_;have p365 : 0 ≤ (((rd_T80 l0_1 x8_3).f0) : Int):=of_decide_eq_true (by first | (with_reducible assumption) | assumption);have q365 : ((rd_T80 l0_1 x8_3).f0) < (x5_3.length : Int):=of_decide_eq_true (by first | (with_reducible assumption) | assumption);obtain ⟨ad365,e365,hx365_0⟩:=Kd.at_int (Kd.R_reads' HO_5.out).2.2 ((rd_T80 l0_1 x8_3).f0) p365 q365;obtain rfl : (⟨go18,0,none⟩ : Addr) = ad365:=(by injection e365)
       (first | simp only [add_plain] at hx365_0 | simp only [add_at] at hx365_0 | simp only [Addr.add,Nat.zero_add] at hx365_0 | skip)
       replace p365:=eq_true p365;replace q365:=eq_true q365;have p366 : 0 ≤ (((rd_T80 l0_1 x8_3).f0) : Int):=of_decide_eq_true (by first | (with_reducible assumption) | assumption);have q366 : ((rd_T80 l0_1 x8_3).f0) < (x5_3.length : Int):=of_decide_eq_true (by first | (with_reducible assumption) | assumption);obtain ⟨ad366,e366,hx366_0⟩:=Kd.at_int (Kd.R_reads' HO_5.out).2.2 ((rd_T80 l0_1 x8_3).f0) p366 q366;obtain rfl : (⟨go18,0,none⟩ : Addr) = ad366:=(by injection e366)
       (first | simp only [add_plain] at hx366_0 | simp only [add_at] at hx366_0 | simp only [Addr.add,Nat.zero_add] at hx366_0 | skip)
       replace p366:=eq_true p366;replace q366:=eq_true q366;have p367 : 0 ≤ (((rd_T80 l0_1 x8_3).f1) : Int):=of_decide_eq_true (by first | (with_reducible assumption) | assumption);have q367 : ((rd_T80 l0_1 x8_3).f1) < (x5_3.length : Int):=of_decide_eq_true (by first | (with_reducible assumption) | assumption);obtain ⟨ad367,e367,hx367_0⟩:=Kd.at_int (Kd.R_reads' HO_5.out).2.2 ((rd_T80 l0_1 x8_3).f1) p367 q367;obtain rfl : (⟨go18,0,none⟩ : Addr) = ad367:=(by injection e367)
       (first | simp only [add_plain] at hx367_0 | simp only [add_at] at hx367_0 | simp only [Addr.add,Nat.zero_add] at hx367_0 | skip)
       replace p367:=eq_true p367;replace q367:=eq_true q367;refine start_ (n:=22) (S:=fun w' => w'.cell? ⟨gb364,0,none⟩ = some (.int .i64 ((rd_T80 l0_1 x8_3).f0)) ∧ w'.cell? ⟨gb364,1,none⟩ = some (.int .i64 ((rd_T80 l0_1 x8_3).f1)) ∧ w'.cell? ⟨gb364,2,none⟩ = some (.int .i64 ((rd_T80 l0_1 x8_3).f2)) ∧ w'.cell? ⟨gb364,3,none⟩ = some (.int .i64 ((rd_T80 l0_1 x8_3).f3)) ∧ w'.cell? ⟨gb364,4,none⟩ = some (.int .i64 ((rd_T80 l0_1 x8_3).f4)) ∧ w'.cell? ⟨go18,(((rd_T80 l0_1 x8_3).f0)).toNat,none⟩ = some (.int .i64 (rd x5_3 ((rd_T80 l0_1 x8_3).f0))) ∧ w'.cell? ⟨go18,(((rd_T80 l0_1 x8_3).f0)).toNat,none⟩ = some (.int .i64 (rd x5_3 ((rd_T80 l0_1 x8_3).f0))) ∧ w'.cell? ⟨go18,(((rd_T80 l0_1 x8_3).f1)).toNat,none⟩ = some (.int .i64 (rd x5_3 ((rd_T80 l0_1 x8_3).f1)))) (ds:=[]) #[false,false,false,false,false,false,false,false,false,false,false,false,false,false,false,false,false,false,false,false,false,false] (by kernel_rfl) rfl rfl ⟨(blk_cell BK364.out 0).trans rfl,(blk_cell BK364.out 1).trans rfl,(blk_cell BK364.out 2).trans rfl,(blk_cell BK364.out 3).trans rfl,(blk_cell BK364.out 4).trans rfl,hx365_0,hx366_0,hx367_0⟩ (fun hHeld => ?_); refine with_tabW spec_l3All.tab14 spec_l3All.bits14 (fun HT_ HW_ => ?_);generalize w37.drew = w38 at HO_5 BK357 BK364 HB hx365_0 hx366_0 hx367_0 hHeld ⊢;refine pure_ (i:=0) (N:=some 43) (v:=?_) (a':=?_) #[true,false,false,false,false,false,false,false,false,false,false,false,false,false,false,false,false,false,false,false,false,false] rfl rfl (any_of HT_.out (by kernel_rfl)) (fun _ _ _ h => h) (Or.inl ⟨by rfl,?_⟩) ?_ ?_;rotate_left
       ·intro w';go_simp;with_reducible rfl
       rotate_left
       ·simp only [Act.put,U,Z,zx,i64_w,i32_w];rfl
       refine pure_ (i:=1) (N:=some 44) (v:=?_) (a':=?_) #[true,true,false,false,false,false,false,false,false,false,false,false,false,false,false,false,false,false,false,false,false,false] rfl rfl (any_of HT_.out (by kernel_rfl)) (fun _ _ _ h => h) (Or.inl ⟨by rfl,?_⟩) ?_ ?_;rotate_left
       ·intro w';go_simp;with_reducible rfl
       rotate_left
       ·simp only [Act.put,U,Z,zx,i64_w,i32_w];rfl
       refine take_ (i:=2) (N:=some 45) (v:=?_) (a':=?_) #[true,true,true,false,false,false,false,false,false,false,false,false,false,false,false,false,false,false,false,false,false,false] rfl rfl (take_ofW HT_.out HW_.out (by kernel_rfl)) (fun _ _ _ h => h) (Or.inl ⟨by rfl,?_⟩) hHeld ?_ ?_;rotate_left
       ·rintro w' ⟨s0,s1,s2,s3,s4,s5,s6,s7⟩;go_simp;with_reducible rfl
       rotate_left
       ·simp only [Act.put,U,Z,zx,i64_w,i32_w];rfl
       refine pure_ (i:=3) (N:=some 46) (v:=?_) (a':=?_) #[true,true,true,true,false,false,false,false,false,false,false,false,false,false,false,false,false,false,false,false,false,false] rfl rfl (any_of HT_.out (by kernel_rfl)) (fun _ _ _ h => h) (Or.inl ⟨by rfl,?_⟩) ?_ ?_;rotate_left
       ·intro w';go_simp;with_reducible rfl
       rotate_left
       ·simp only [Act.put,U,Z,zx,i64_w,i32_w];rfl
       refine take_ (i:=4) (N:=some 47) (v:=?_) (a':=?_) #[true,true,true,true,true,false,false,false,false,false,false,false,false,false,false,false,false,false,false,false,false,false] rfl rfl (take_ofW HT_.out HW_.out (by kernel_rfl)) (fun _ _ _ h => h) (Or.inl ⟨by rfl,?_⟩) hHeld ?_ ?_;rotate_left
       ·rintro w' ⟨s0,s1,s2,s3,s4,s5,s6,s7⟩;go_simp;with_reducible rfl
       rotate_left
       ·simp only [Act.put,U,Z,zx,i64_w,i32_w];rfl
       refine pure_ (i:=5) (N:=some 48) (v:=?_) (a':=?_) #[true,true,true,true,true,true,false,false,false,false,false,false,false,false,false,false,false,false,false,false,false,false] rfl rfl (any_of HT_.out (by kernel_rfl)) (fun _ _ _ h => h) (Or.inl ⟨by rfl,?_⟩) ?_ ?_;rotate_left
       ·intro w';go_simp;with_reducible rfl
       rotate_left
       ·simp only [Act.put,U,Z,zx,i64_w,i32_w];rfl
       refine pure_ (i:=6) (N:=some 49) (v:=?_) (a':=?_) #[true,true,true,true,true,true,true,false,false,false,false,false,false,false,false,false,false,false,false,false,false,false] rfl rfl (any_of HT_.out (by kernel_rfl)) (fun _ _ _ h => h) (Or.inl ⟨by rfl,?_⟩) ?_ ?_;rotate_left
       ·intro w';go_simp;with_reducible rfl
       rotate_left
       ·simp only [Act.put,U,Z,zx,i64_w,i32_w];rfl
       refine pure_ (i:=7) (N:=some 50) (v:=?_) (a':=?_) #[true,true,true,true,true,true,true,true,false,false,false,false,false,false,false,false,false,false,false,false,false,false] rfl rfl (any_of HT_.out (by kernel_rfl)) (fun _ _ _ h => h) (Or.inl ⟨by rfl,?_⟩) ?_ ?_;rotate_left
       ·intro w';go_simp;with_reducible rfl
       rotate_left
       ·simp only [Act.put,U,Z,zx,i64_w,i32_w];rfl
       refine pure_ (i:=8) (N:=some 51) (v:=?_) (a':=?_) #[true,true,true,true,true,true,true,true,true,false,false,false,false,false,false,false,false,false,false,false,false,false] rfl rfl (any_of HT_.out (by kernel_rfl)) (fun _ _ _ h => h) (Or.inl ⟨by rfl,?_⟩) ?_ ?_;rotate_left
       ·intro w';go_simp;with_reducible rfl
       rotate_left
       ·simp only [Act.put,U,Z,zx,i64_w,i32_w];rfl
       refine pure_ (i:=12) (N:=some 55) (v:=?_) (a':=?_) #[true,true,true,true,true,true,true,true,true,false,false,false,true,false,false,false,false,false,false,false,false,false] rfl rfl (any_of HT_.out (by kernel_rfl)) (fun _ _ _ h => h) (Or.inl ⟨by rfl,?_⟩) ?_ ?_;rotate_left
       ·intro w';go_simp;with_reducible rfl
       rotate_left
       ·simp only [Act.put,U,Z,zx,i64_w,i32_w];rfl
       refine pure_ (i:=15) (N:=some 58) (v:=?_) (a':=?_) #[true,true,true,true,true,true,true,true,true,false,false,false,true,false,false,true,false,false,false,false,false,false] rfl rfl (any_of HT_.out (by kernel_rfl)) (fun _ _ _ h => h) (Or.inl ⟨by rfl,?_⟩) ?_ ?_;rotate_left
       ·intro w';go_simp;with_reducible rfl
       rotate_left
       ·simp only [Act.put,U,Z,zx,i64_w,i32_w];rfl
       refine pure_ (i:=16) (N:=some 59) (v:=?_) (a':=?_) #[true,true,true,true,true,true,true,true,true,false,false,false,true,false,false,true,true,false,false,false,false,false] rfl rfl (any_of HT_.out (by kernel_rfl)) (fun _ _ _ h => h) (Or.inl ⟨by rfl,?_⟩) ?_ ?_;rotate_left
       ·intro w';go_simp;with_reducible rfl
       rotate_left
       ·simp only [Act.put,U,Z,zx,i64_w,i32_w];rfl
       refine take_ (i:=9) (N:=some 52) (v:=?_) (a':=?_) #[true,true,true,true,true,true,true,true,true,true,false,false,true,false,false,true,true,false,false,false,false,false] rfl rfl (take_ofW HT_.out HW_.out (by kernel_rfl)) (fun _ _ _ h => h) (Or.inl ⟨by rfl,?_⟩) hHeld ?_ ?_;rotate_left
       ·rintro w' ⟨s0,s1,s2,s3,s4,s5,s6,s7⟩;go_simp;with_reducible rfl
       rotate_left
       ·simp only [Act.put,U,Z,zx,i64_w,i32_w];rfl
       refine pure_ (i:=10) (N:=some 53) (v:=?_) (a':=?_) #[true,true,true,true,true,true,true,true,true,true,true,false,true,false,false,true,true,false,false,false,false,false] rfl rfl (any_of HT_.out (by kernel_rfl)) (fun _ _ _ h => h) (Or.inl ⟨by rfl,?_⟩) ?_ ?_;rotate_left
       ·intro w';go_simp;with_reducible rfl
       rotate_left
       ·simp only [Act.put,U,Z,zx,i64_w,i32_w];rfl
       refine take_ (i:=11) (N:=some 54) (v:=?_) (a':=?_) #[true,true,true,true,true,true,true,true,true,true,true,true,true,false,false,true,true,false,false,false,false,false] rfl rfl (take_ofW HT_.out HW_.out (by kernel_rfl)) (fun _ _ _ h => h) (Or.inl ⟨by rfl,?_⟩) hHeld ?_ ?_;rotate_left
       ·rintro w' ⟨s0,s1,s2,s3,s4,s5,s6,s7⟩;go_simp;with_reducible rfl
       rotate_left
       ·simp only [Act.put,U,Z,zx,i64_w,i32_w];rfl
       refine take_ (i:=13) (N:=some 56) (v:=?_) (a':=?_) #[true,true,true,true,true,true,true,true,true,true,true,true,true,true,false,true,true,false,false,false,false,false] rfl rfl (take_ofW HT_.out HW_.out (by kernel_rfl)) (fun _ _ _ h => h) (Or.inl ⟨by rfl,?_⟩) hHeld ?_ ?_;rotate_left
       ·rintro w' ⟨s0,s1,s2,s3,s4,s5,s6,s7⟩;go_simp;with_reducible rfl
       rotate_left
       ·simp only [Act.put,U,Z,zx,i64_w,i32_w];rfl
       refine pure_ (i:=14) (N:=some 57) (v:=?_) (a':=?_) #[true,true,true,true,true,true,true,true,true,true,true,true,true,true,true,true,true,false,false,false,false,false] rfl rfl (any_of HT_.out (by kernel_rfl)) (fun _ _ _ h => h) (Or.inl ⟨by rfl,?_⟩) ?_ ?_;rotate_left
       ·intro w';go_simp;with_reducible rfl
       rotate_left
       ·simp only [Act.put,U,Z,zx,i64_w,i32_w];rfl
       refine take_ (i:=17) (N:=some 60) (v:=?_) (a':=?_) #[true,true,true,true,true,true,true,true,true,true,true,true,true,true,true,true,true,true,false,false,false,false] rfl rfl (take_ofW HT_.out HW_.out (by kernel_rfl)) (fun _ _ _ h => h) (Or.inl ⟨by rfl,?_⟩) hHeld ?_ ?_;rotate_left
       ·rintro w' ⟨s0,s1,s2,s3,s4,s5,s6,s7⟩;go_simp;with_reducible rfl
       rotate_left
       ·simp only [Act.put,U,Z,zx,i64_w,i32_w];rfl
       refine pure_ (i:=18) (N:=some 61) (v:=?_) (a':=?_) #[true,true,true,true,true,true,true,true,true,true,true,true,true,true,true,true,true,true,true,false,false,false] rfl rfl (any_of HT_.out (by kernel_rfl)) (fun _ _ _ h => h) (Or.inl ⟨by rfl,?_⟩) ?_ ?_;rotate_left
       ·intro w';go_simp;with_reducible rfl
       rotate_left
       ·simp only [Act.put,U,Z,zx,i64_w,i32_w];rfl
       refine take_ (i:=19) (N:=some 62) (v:=?_) (a':=?_) #[true,true,true,true,true,true,true,true,true,true,true,true,true,true,true,true,true,true,true,true,false,false] rfl rfl (take_ofW HT_.out HW_.out (by kernel_rfl)) (fun _ _ _ h => h) (Or.inl ⟨by rfl,?_⟩) hHeld ?_ ?_;rotate_left
       ·rintro w' ⟨s0,s1,s2,s3,s4,s5,s6,s7⟩;go_simp;with_reducible rfl
       rotate_left
       ·simp only [Act.put,U,Z,zx,i64_w,i32_w];rfl
       refine pure_ (i:=20) (N:=some 63) (v:=?_) (a':=?_) #[true,true,true,true,true,true,true,true,true,true,true,true,true,true,true,true,true,true,true,true,true,false] rfl rfl (any_of HT_.out (by kernel_rfl)) (fun _ _ _ h => h) (Or.inl ⟨by rfl,?_⟩) ?_ ?_;rotate_left
       ·intro w';go_simp;with_reducible rfl
       rotate_left
       ·simp only [Act.put,U,Z,zx,i64_w,i32_w];rfl
       refine pure_ (i:=21) (N:=some 64) (v:=?_) (a':=?_) #[true,true,true,true,true,true,true,true,true,true,true,true,true,true,true,true,true,true,true,true,true,true] rfl rfl (any_of HT_.out (by kernel_rfl)) (fun _ _ _ h => h) (Or.inl ⟨by rfl,?_⟩) ?_ ?_;rotate_left
       ·intro w';go_simp;with_reducible rfl
       rotate_left
       ·simp only [Act.put,U,Z,zx,i64_w,i32_w];rfl
       refine done_ (done_of HT_.out (by kernel_rfl)) ?_
       try go_wp2
       have n0_:=zy (Kd.R_drew HO_5.out);have n1_:=zy (blk_drew BK357.out);have n2_:=zy (blk_drew BK364.out);have n3_:=zy (below_drew1 HB.out);clear HO_5;clear BK357;clear BK364;clear HB;have HO_5:=n0_;have BK357:=n1_;have BK364:=n2_;have HB:=n3_;clear n0_ n1_ n2_ n3_;have p368 : 0 ≤ (((rd_T80 l0_1 x8_3).f0) : Int):=of_decide_eq_true (by first | (with_reducible assumption) | assumption);have q368 : ((rd_T80 l0_1 x8_3).f0) < (x5_3.length : Int):=of_decide_eq_true (by first | (with_reducible assumption) | assumption);obtain ⟨ad368,e368,hx368_0⟩:=Kd.at_int (Kd.R_reads' HO_5.out).2.2 ((rd_T80 l0_1 x8_3).f0) p368 q368;obtain rfl : (⟨go18,0,none⟩ : Addr) = ad368:=(by injection e368)
       (first | simp only [add_plain] at hx368_0 | simp only [add_at] at hx368_0 | simp only [Addr.add,Nat.zero_add] at hx368_0 | skip)
       replace p368:=eq_true p368;replace q368:=eq_true q368;have p32 : 0 ≤ (((rd_T80 l0_1 x8_3).f1) : Int):=of_decide_eq_true (by first | (with_reducible assumption) | assumption);have q32 : (((rd_T80 l0_1 x8_3).f1) : Int) < ((x5_3.length : Int) : Int):=of_decide_eq_true (by first | (with_reducible assumption) | assumption);obtain ⟨hx32_0,hf32_0⟩:=Kd.R_celln 0 HO_5.out (((rd_T80 l0_1 x8_3).f1) : Int) p32 q32;replace p32:=eq_true p32;replace q32:=eq_true q32;have HP40:=Kd.R_putn HO_5.out (((rd_T80 l0_1 x8_3).f1) : Int) (wrap64 ((rd x5_3 ((rd_T80 l0_1 x8_3).f0)) + ((rd_T80 l0_1 x8_3).f2)));rw [← Ny369.out] at HP40;have HQ40:=zy HP40;clear HP40;refine start_ (n:=13) (S:=fun w' => w'.cell? ⟨gb364,0,none⟩ = some (.int .i64 ((rd_T80 l0_1 x8_3).f0)) ∧ w'.cell? ⟨gb364,1,none⟩ = some (.int .i64 ((rd_T80 l0_1 x8_3).f1)) ∧ w'.cell? ⟨gb364,2,none⟩ = some (.int .i64 ((rd_T80 l0_1 x8_3).f2)) ∧ w'.cell? ⟨gb364,3,none⟩ = some (.int .i64 ((rd_T80 l0_1 x8_3).f3)) ∧ w'.cell? ⟨gb364,4,none⟩ = some (.int .i64 ((rd_T80 l0_1 x8_3).f4)) ∧ w'.cell? ⟨go18,(((rd_T80 l0_1 x8_3).f0)).toNat,none⟩ = some (.int .i64 (rd x5_3 ((rd_T80 l0_1 x8_3).f0)))) (ds:=[12]) #[false,false,false,false,false,false,false,false,false,false,false,false,false] (by kernel_rfl) rfl rfl ⟨(blk_cell BK364.out 0).trans rfl,(blk_cell BK364.out 1).trans rfl,(blk_cell BK364.out 2).trans rfl,(blk_cell BK364.out 3).trans rfl,(blk_cell BK364.out 4).trans rfl,hx368_0⟩ (fun hHeld => ?_); refine with_tabW spec_l3All.tab15 spec_l3All.bits15 (fun HT_ HW_ => ?_);generalize w38.drew = w39 at HO_5 BK357 BK364 HB HQ40 hf32_0 hx32_0 hx368_0 hHeld ⊢;refine pure_ (i:=0) (N:=some 65) (v:=?_) (a':=?_) #[true,false,false,false,false,false,false,false,false,false,false,false,false] rfl rfl (any_of HT_.out (by kernel_rfl)) (fun _ _ _ h => h) (Or.inl ⟨by rfl,?_⟩) ?_ ?_;rotate_left
       ·intro w';go_simp;with_reducible rfl
       rotate_left
       ·simp only [Act.put,U,Z,zx,i64_w,i32_w];rfl
       refine pure_ (i:=1) (N:=some 66) (v:=?_) (a':=?_) #[true,true,false,false,false,false,false,false,false,false,false,false,false] rfl rfl (any_of HT_.out (by kernel_rfl)) (fun _ _ _ h => h) (Or.inl ⟨by rfl,?_⟩) ?_ ?_;rotate_left
       ·intro w';go_simp;with_reducible rfl
       rotate_left
       ·simp only [Act.put,U,Z,zx,i64_w,i32_w];rfl
       refine pure_ (i:=3) (N:=some 68) (v:=?_) (a':=?_) #[true,true,false,true,false,false,false,false,false,false,false,false,false] rfl rfl (any_of HT_.out (by kernel_rfl)) (fun _ _ _ h => h) (Or.inl ⟨by rfl,?_⟩) ?_ ?_;rotate_left
       ·intro w';go_simp;with_reducible rfl
       rotate_left
       ·simp only [Act.put,U,Z,zx,i64_w,i32_w];rfl
       refine pure_ (i:=4) (N:=some 69) (v:=?_) (a':=?_) #[true,true,false,true,true,false,false,false,false,false,false,false,false] rfl rfl (any_of HT_.out (by kernel_rfl)) (fun _ _ _ h => h) (Or.inl ⟨by rfl,?_⟩) ?_ ?_;rotate_left
       ·intro w';go_simp;with_reducible rfl
       rotate_left
       ·simp only [Act.put,U,Z,zx,i64_w,i32_w];rfl
       refine pure_ (i:=8) (N:=some 73) (v:=?_) (a':=?_) #[true,true,false,true,true,false,false,false,true,false,false,false,false] rfl rfl (any_of HT_.out (by kernel_rfl)) (fun _ _ _ h => h) (Or.inl ⟨by rfl,?_⟩) ?_ ?_;rotate_left
       ·intro w';go_simp;with_reducible rfl
       rotate_left
       ·simp only [Act.put,U,Z,zx,i64_w,i32_w];rfl
       refine take_ (i:=2) (N:=some 67) (v:=?_) (a':=?_) #[true,true,true,true,true,false,false,false,true,false,false,false,false] rfl rfl (take_ofW HT_.out HW_.out (by kernel_rfl)) (fun _ _ _ h => h) (Or.inl ⟨by rfl,?_⟩) hHeld ?_ ?_;rotate_left
       ·rintro w' ⟨s0,s1,s2,s3,s4,s5⟩;go_simp;with_reducible rfl
       rotate_left
       ·simp only [Act.put,U,Z,zx,i64_w,i32_w];rfl
       refine take_ (i:=5) (N:=some 70) (v:=?_) (a':=?_) #[true,true,true,true,true,true,false,false,true,false,false,false,false] rfl rfl (take_ofW HT_.out HW_.out (by kernel_rfl)) (fun _ _ _ h => h) (Or.inl ⟨by rfl,?_⟩) hHeld ?_ ?_;rotate_left
       ·rintro w' ⟨s0,s1,s2,s3,s4,s5⟩;go_simp;with_reducible rfl
       rotate_left
       ·simp only [Act.put,U,Z,zx,i64_w,i32_w];rfl
       refine pure_ (i:=6) (N:=some 71) (v:=?_) (a':=?_) #[true,true,true,true,true,true,true,false,true,false,false,false,false] rfl rfl (any_of HT_.out (by kernel_rfl)) (fun _ _ _ h => h) (Or.inl ⟨by rfl,?_⟩) ?_ ?_;rotate_left
       ·intro w';go_simp;with_reducible rfl
       rotate_left
       ·simp only [Act.put,U,Z,zx,i64_w,i32_w];rfl
       refine take_ (i:=7) (N:=some 72) (v:=?_) (a':=?_) #[true,true,true,true,true,true,true,true,true,false,false,false,false] rfl rfl (take_ofW HT_.out HW_.out (by kernel_rfl)) (fun _ _ _ h => h) (Or.inl ⟨by rfl,?_⟩) hHeld ?_ ?_;rotate_left
       ·rintro w' ⟨s0,s1,s2,s3,s4,s5⟩;go_simp;with_reducible rfl
       rotate_left
       ·simp only [Act.put,U,Z,zx,i64_w,i32_w];rfl
       refine take_ (i:=9) (N:=some 74) (v:=?_) (a':=?_) #[true,true,true,true,true,true,true,true,true,true,false,false,false] rfl rfl (take_ofW HT_.out HW_.out (by kernel_rfl)) (fun _ _ _ h => h) (Or.inl ⟨by rfl,?_⟩) hHeld ?_ ?_;rotate_left
       ·rintro w' ⟨s0,s1,s2,s3,s4,s5⟩;go_simp;with_reducible rfl
       rotate_left
       ·simp only [Act.put,U,Z,zx,i64_w,i32_w];rfl
       refine pure_ (i:=10) (N:=some 75) (v:=?_) (a':=?_) #[true,true,true,true,true,true,true,true,true,true,true,false,false] rfl rfl (any_of HT_.out (by kernel_rfl)) (fun _ _ _ h => h) (Or.inl ⟨by rfl,?_⟩) ?_ ?_;rotate_left
       ·intro w';go_simp;with_reducible rfl
       rotate_left
       ·simp only [Act.put,U,Z,zx,i64_w,i32_w];rfl
       refine pure_ (i:=11) (N:=some 76) (v:=?_) (a':=?_) #[true,true,true,true,true,true,true,true,true,true,true,true,false] rfl rfl (any_of HT_.out (by kernel_rfl)) (fun _ _ _ h => h) (Or.inl ⟨by rfl,?_⟩) ?_ ?_;rotate_left
       ·intro w';go_simp;with_reducible rfl
       rotate_left
       ·simp only [Act.put,U,Z,zx,i64_w,i32_w];rfl
       refine last_ (i:=12) (N:=none) #[true,true,true,true,true,true,true,true,true,true,true,true,true] rfl rfl (one_of HT_.out (by kernel_rfl)) (by decide) (fun K hK => ?_);refine skip_ (w1:=?_) (by rfl) rfl ?_ ?_;rotate_left
       ·go_simp;rfl
       refine hK.out _ _ ?_;clear hK K;refine done_ (done_of HT_.out (by kernel_rfl)) ?_
       try go_wp2
       (try simp only [← hl5_3])
       go_roundg k3
       case measure => have:=HK1.out; have:=HK2.out; have:=HK3.out; omega
       case rel => exact ⟨(y369),(wrap64 (x8_3 + 1)),(by first | rfl | (simp; done) | (simp [*]; done)),H',⟨by have:=HK1.out; have:=HK2.out; have:=HK3.out; omega⟩,⟨by (try simp only [hl5_2]); (try simp only [hl5_3]); (with_reducible repeat (first | apply Kd.R_alloc | apply Kd.R_drewN | apply Kd.R_drew)); exact HQ40.out⟩,⟨by (try simp only [hl5_2]); (try simp only [hl5_3]); (with_reducible repeat (first | refine blk_drewN ?_ _ | refine blk_drew ?_ | refine blk_alloc ?_ _)); refine blk_far ?_ (by have h_:=Kd.R_ne HO_5.out BK357.out (by decide); intro e_; exact h_ (by rw [e_]; rfl)) _; (with_reducible repeat (first | refine blk_drewN ?_ _ | refine blk_drew ?_ | refine blk_alloc ?_ _)); exact BK357.out⟩,⟨by repeat (first | (with_reducible first | exact HB.out | apply below_alloc | apply pw_below_drewN | apply below_drew1 | refine below_set ?_ GB18.out | refine below_set ?_ GE357.out | refine below_set ?_ GE364.out) | exact HB.out)⟩⟩
mutual
def spec_ManyAll.j0 : Nat → List Int → List Int → List (List Int) → Bool → Int → List (S80) → Option ((List (List Int)))
 | 0,_,_,_,_,_,_ => none
 | k + 1,x1,x2,x7,x27,x371000,x371001 => if x27 = true then (some ([] : List (List Int))) else (spec_ManyAll.l0 k x1 x2 x7 0 x371000 x371001)
def spec_ManyAll.l0 : Nat → List Int → List Int → List (List Int) → Int → Int → List (S80) → Option ((List (List Int)))
 | 0,_,_,_,_,_,_ => none
 | k + 1,x1,x2,x7,x8,x371000,x371001 => if x8 < (x1.length : Int) then (if 0 ≤ x8 then ((spec_l3All.f k x371000 x371001 (rd x1 x8)).bind fun t378 => (spec_ManyAll.l1 k x1 x2 x7 x8 t378 (([] : List Int)) 0 x371000 x371001)) else (none)) else (some x7)
def spec_ManyAll.l1 : Nat → List Int → List Int → List (List Int) → Int → List Int → List Int → Int → Int → List (S80) → Option ((List (List Int)))
 | 0,_,_,_,_,_,_,_,_,_ => none
 | k + 1,x1,x2,x7,x8,x9,x10,x11,x371000,x371001 => if x11 < (x2.length : Int) then (if 0 ≤ x11 then (if 0 ≤ (rd x2 x11) then (if (rd x2 x11) < (x9.length : Int) then (if x10.length < 17592186044416 then (spec_ManyAll.l1 k x1 x2 x7 x8 x9 (x10 ++ [rd x9 (rd x2 x11)]) (wrap64 (x11 + 1)) x371000 x371001) else (none)) else (none)) else (none)) else (none)) else (if x7.length < 5864062014805 then (spec_ManyAll.l0 k x1 x2 (x7 ++ [x10]) (wrap64 (x8 + 1)) x371000 x371001) else (none))
end
def spec_ManyAll.f (k : Nat) (a0_0 : Int) (l0_1 : List (S80)) (l1 : List Int) (l2 : List Int) : Option ((List (List Int))):=(some (([] : List (List Int)) : List (List Int))).bind fun y371 => ((spec_l1Ok.f k a0_0 l0_1).bind fun t374 => (if t374 = true then ((spec_l11Nodes.f k a0_0 l0_1 l1).bind fun t375 => (if t375 = true then ((spec_l11Nodes.f k a0_0 l0_1 l2).bind fun t376 => (spec_ManyAll.j0 k l1 l2 y371 (!t376) a0_0 l0_1)) else (spec_ManyAll.j0 k l1 l2 y371 true a0_0 l0_1))) else (spec_ManyAll.j0 k l1 l2 y371 true a0_0 l0_1)))
set_option maxHeartbeats 8000000 in
set_option maxRecDepth 100000 in
theorem spec_ManyAll.calls (k : Nat) (a0_0 : Int) (A0_1 : Option Addr) (c0_1 : Nat) (l0_1 : List (S80)) (A1 : Option Addr) (c1 : Nat) (l1 : List Int) (A2 : Option Addr) (c2 : Nat) (l2 : List Int) (r : List (List Int)) (w : World) (hr0_1 : Kd.C k80 w A0_1 l0_1.length l0_1) (hc0_1 : l0_1.length ≤ c0_1) (hr1 : Kd.C (Kd.int .i64) w A1 l1.length l1) (hc1 : l1.length ≤ c1) (hr2 : Kd.C (Kd.int .i64) w A2 l2.length l2) (hc2 : l2.length ≤ c2) (h : spec_ManyAll.f k a0_0 l0_1 l1 l2 = some r) :
  Calls Try.prog 37 #[.agg #[.int .i64 a0_0,.slice A0_1 l0_1.length c0_1],.slice A1 l1.length c1,.slice A2 l2.length c2] w fun e w' => ∃ v0_ : Value,e = .returned (v0_) ∧ Kd.S (Kd.slice 3 (Kd.int .i64)) 26 w' w.heap.size (fun _ => True) v0_ r ∧ Below w.heap.size w w':=by
 have hu25:=Try.underlying25;have HR0_1:=zy hr0_1;have HC0_1:=zy hc0_1;clear hr0_1 hc0_1;have HR1:=zy hr1;have HC1:=zy hc1;clear hr1 hc1;have HR2:=zy hr2;have HC2:=zy hc2;clear hr2 hc2;have HB:=zy (Below.refl w.heap.size w);have H : ((some (([] : List (List Int)) : List (List Int))).bind fun y371 => ((spec_l1Ok.f k a0_0 l0_1).bind fun t374 => (if t374 = true then ((spec_l11Nodes.f k a0_0 l0_1 l1).bind fun t375 => (if t375 = true then ((spec_l11Nodes.f k a0_0 l0_1 l2).bind fun t376 => (spec_ManyAll.j0 k l1 l2 y371 (!t376) a0_0 l0_1)) else (spec_ManyAll.j0 k l1 l2 y371 true a0_0 l0_1))) else (spec_ManyAll.j0 k l1 l2 y371 true a0_0 l0_1)))) = some r:=h;clear h;obtain ⟨y371,hy371⟩ : ∃ y_ : List (List Int),y_ = (([] : List (List Int))):=⟨_,rfl⟩
 replace H : ((spec_l1Ok.f k a0_0 l0_1).bind fun t374 => (if t374 = true then ((spec_l11Nodes.f k a0_0 l0_1 l1).bind fun t375 => (if t375 = true then ((spec_l11Nodes.f k a0_0 l0_1 l2).bind fun t376 => (spec_ManyAll.j0 k l1 l2 y371 (!t376) a0_0 l0_1)) else (spec_ManyAll.j0 k l1 l2 y371 true a0_0 l0_1))) else (spec_ManyAll.j0 k l1 l2 y371 true a0_0 l0_1))) = some r:=by first | (rw [hy371]; with_reducible exact H) | (have H2_:=(Option.bind_some _ _).symm.trans H; rw [hy371]; with_reducible exact H2_) | (have H2_:=(Option.bind_some _ _).symm.trans H; with_reducible exact H2_) | with_reducible exact H | (rw [hy371]; exact H) | exact H
 have Ny371:=zy hy371;clear hy371;have HC4:=zy H;clear H
 go_enter Try.func37,Try.ntmps37
 go_upto_region 2 with (first | ((with_reducible refine gate_dst (N:=3) rfl ?_); refine box_event ?hg (N:=3) ?hd (cs:=#[.int .i64 a0_0,.slice A0_1 l0_1.length c0_1]) (t:=25) ?hr ?_; (case hd => rfl); (case hg => rfl); (case hr => first | (go_simp; done) | (go_simp; rfl)); intro gb370 hg w5 hbox hb; have n0_:=zy (below_step (by repeat (first | (with_reducible first | exact HB.out | apply below_alloc | apply pw_below_drewN | apply below_drew1) | exact HB.out)) hb); have n1_:=zy (hbox); have n2_:=zy ((by rw [hg]; exact (below_size (by repeat (first | (with_reducible first | exact HB.out | apply below_alloc | apply pw_below_drewN | apply below_drew1) | exact HB.out))) : w.heap.size ≤ gb370)); have n3_:=zy ((by rw [hg]; exact (below_size (by repeat (first | (with_reducible first | exact HB.out | apply below_alloc | apply pw_below_drewN | apply below_drew1) | exact HB.out))) : w.heap.size ≤ gb370)); clear HB; have HB:=n0_; have BK370:=n1_; have GW370:=n2_; have GE370:=n3_; clear n0_ n1_ n2_ n3_; clear hb hbox hg) | ((with_reducible refine gate_dst (N:=12) rfl ?_); refine Kd.S_lit (Kd.slice 3 (Kd.int .i64)) _ 26 ?hg (N:=12) ?hd (xs:=([] : List (List Int))) (inner:=[]) (ok:=fun _ => True) (okp:=fun _ => True) ?hr ?hp (fun _ hk => hk) trivial (Below.refl _ _) (Nat.le_refl _) (by simp) ?_; (case hd => rfl); (case hg => rfl); (case hr => first | (go_simp; done) | (go_simp; rfl)); (case hp => exact (Reps.none _ _)); intro v372 w6 ho7 hb hg_ hnew_; clear hg_ hnew_; (first | rw [← Ny371.out] at ho7 | (simp only [Int.reduceToNat] at ho7; rw [← Ny371.out] at ho7)); have n0_:=zy (Kd.S_lower ho7 (below_size (by repeat (first | (with_reducible first | exact HB.out | apply below_alloc | apply pw_below_drewN | apply below_drew1 | refine below_set ?_ GE370.out) | exact HB.out)))); have n1_:=zy (blk_below (g:=gb370) (o:=.cells #[.int .i64 a0_0,.slice A0_1 l0_1.length c0_1] 25 (0,0)) (by (with_reducible repeat (first | refine blk_drewN ?_ _ | refine blk_drew ?_ | refine blk_alloc ?_ _)); exact BK370.out) hb); have n2_:=zy (below_step (by repeat (first | (with_reducible first | exact HB.out | apply below_alloc | apply pw_below_drewN | apply below_drew1 | refine below_set ?_ GE370.out) | exact HB.out)) hb); clear BK370; clear HB; have HO373:=n0_; have BK370:=n1_; have HB:=n2_; clear n0_ n1_ n2_; clear hb ho7))
 (try simp only [Act.put,U,Z,zx])
 go_cut [27] (fun v27 wc => ∃ (kq : Nat) (x27_3 : Bool),v27 = .bool x27_3 ∧ Aside0 (spec_ManyAll.j0 kq l1 l2 y371 x27_3 a0_0 l0_1 = some r) ∧ Aside0 (kq ≤ k) ∧ Aside0 (Kd.S (Kd.slice 3 (Kd.int .i64)) 26 wc w.heap.size (fun _ => True) v372 y371) ∧ Aside0 (wc.heap[gb370]? = some (.cells #[.int .i64 a0_0,(.slice A0_1 l0_1.length c0_1)] 25 (0,0))) ∧ Aside0 (Below w.heap.size w wc))
 case first =>
  have H:=HC4.out;clear HC4;replace H:=Option.bind_eq_some_iff.mp H;obtain ⟨t374,A80,H⟩:=H;replace H : (if t374 = true then ((spec_l11Nodes.f k a0_0 l0_1 l1).bind fun t375 => (if t375 = true then ((spec_l11Nodes.f k a0_0 l0_1 l2).bind fun t376 => (spec_ManyAll.j0 k l1 l2 y371 (!t376) a0_0 l0_1)) else (spec_ManyAll.j0 k l1 l2 y371 true a0_0 l0_1))) else (spec_ManyAll.j0 k l1 l2 y371 true a0_0 l0_1)) = some r:=H;have A8:=zy A80;clear A80
  by_cases c9 : t374 = true
  case neg =>
   replace c9:=Bool.eq_false_iff.mpr c9;subst c9;have H1 : (spec_ManyAll.j0 k l1 l2 y371 true a0_0 l0_1) = some r:=by rw [if_neg (show ¬ (false = true) by decide)] at H; exact H
   clear H;have H:=H1;clear H1;have H':=zy H;clear H;have hcz23_0 : w6.cell? ⟨gb370,0,none⟩ = some (.int .i64 a0_0):=(blk_cell BK370.out 0).trans rfl;have hcz23_1 : w6.cell? ⟨gb370,1,none⟩ = some (.slice A0_1 l0_1.length c0_1):=(blk_cell BK370.out 1).trans rfl;have hfz23_0:=blk_frozen BK370.out 0;have hfz23_1:=blk_frozen BK370.out 1
   go_wp2_with (first | ((with_reducible refine gate_callee (f:=58) rfl ?_); refine goesL_ (some 14) rfl rfl Try.func58 (by kernel_rfl) rfl #[.agg #[.int .i64 a0_0,.slice A0_1 l0_1.length c0_1]] rfl (by (try simp only [List.map_toArray,List.map_cons,List.map_nil]); first | done | rfl | (simp only [List.length_drop,List.length_take]; rfl)) ?_; (with_reducible refine (spec_l1Ok.calls k a0_0 _ _ l0_1 false _ ?side1 ?side2 A8.out).mono ?_); (case side1 => repeat (first | exact (Kd.C_below HR0_1.out HB.out) | (with_reducible refine Kd.C_alloc ?_ _) | (with_reducible refine Kd.C_drewN ?_ _) | (with_reducible refine Kd.C_drew ?_))); (case side2 => exact HC0_1.out); rintro e w24 ⟨rfl,hb⟩; refine ⟨_,rfl,?_⟩; have n0_:=zy (Kd.S_below (by (with_reducible repeat (first | apply Kd.S_alloc | apply Kd.S_drewN | apply Kd.S_drew)); exact HO373.out) hb); have n1_:=zy (blk_below (g:=gb370) (o:=.cells #[.int .i64 a0_0,.slice A0_1 l0_1.length c0_1] 25 (0,0)) (by (with_reducible repeat (first | refine blk_drewN ?_ _ | refine blk_drew ?_ | refine blk_alloc ?_ _)); exact BK370.out) hb); have n2_:=zy (below_step (by repeat (first | (with_reducible first | exact HB.out | apply below_alloc | apply pw_below_drewN | apply below_drew1 | refine below_set ?_ GE370.out) | exact HB.out)) hb); clear HO373; clear BK370; clear HB; have HO373:=n0_; have BK370:=n1_; have HB:=n2_; clear n0_ n1_ n2_; (try clear hb); (try clear hb2); (try clear hk); (try clear hi)))
   go_meet
   case rel => exact ⟨_,(true),(by first | rfl | (simp; done) | (simp [*]; done)),H',⟨by first | omega | exact Nat.le_refl _⟩,⟨by (with_reducible repeat (first | apply Kd.S_alloc | apply Kd.S_drewN | apply Kd.S_drew)); exact HO373.out⟩,⟨by (with_reducible repeat (first | refine blk_drewN ?_ _ | refine blk_drew ?_ | refine blk_alloc ?_ _)); exact BK370.out⟩,⟨by repeat (first | (with_reducible first | exact HB.out | apply below_alloc | apply pw_below_drewN | apply below_drew1 | refine below_set ?_ GE370.out) | exact HB.out)⟩⟩
  subst c9;have H1 : ((spec_l11Nodes.f k a0_0 l0_1 l1).bind fun t375 => (if t375 = true then ((spec_l11Nodes.f k a0_0 l0_1 l2).bind fun t376 => (spec_ManyAll.j0 k l1 l2 y371 (!t376) a0_0 l0_1)) else (spec_ManyAll.j0 k l1 l2 y371 true a0_0 l0_1))) = some r:=by rw [if_pos rfl] at H; exact H
  clear H;have H:=H1;clear H1;replace H:=Option.bind_eq_some_iff.mp H;obtain ⟨t375,A100,H⟩:=H;replace H : (if t375 = true then ((spec_l11Nodes.f k a0_0 l0_1 l2).bind fun t376 => (spec_ManyAll.j0 k l1 l2 y371 (!t376) a0_0 l0_1)) else (spec_ManyAll.j0 k l1 l2 y371 true a0_0 l0_1)) = some r:=H;have A10:=zy A100;clear A100
  by_cases c11 : t375 = true
  case neg =>
   replace c11:=Bool.eq_false_iff.mpr c11;subst c11;have H1 : (spec_ManyAll.j0 k l1 l2 y371 true a0_0 l0_1) = some r:=by rw [if_neg (show ¬ (false = true) by decide)] at H; exact H
   clear H;have H:=H1;clear H1;have H':=zy H;clear H;have hcz19_0 : w6.cell? ⟨gb370,0,none⟩ = some (.int .i64 a0_0):=(blk_cell BK370.out 0).trans rfl;have hcz19_1 : w6.cell? ⟨gb370,1,none⟩ = some (.slice A0_1 l0_1.length c0_1):=(blk_cell BK370.out 1).trans rfl;have hfz19_0:=blk_frozen BK370.out 0;have hfz19_1:=blk_frozen BK370.out 1
   go_wp2_with (first | ((with_reducible refine gate_callee (f:=58) rfl ?_); refine goesL_ (some 14) rfl rfl Try.func58 (by kernel_rfl) rfl #[.agg #[.int .i64 a0_0,.slice A0_1 l0_1.length c0_1]] rfl (by (try simp only [List.map_toArray,List.map_cons,List.map_nil]); first | done | rfl | (simp only [List.length_drop,List.length_take]; rfl)) ?_; (with_reducible refine (spec_l1Ok.calls k a0_0 _ _ l0_1 true _ ?side1 ?side2 A8.out).mono ?_); (case side1 => repeat (first | exact (Kd.C_below HR0_1.out HB.out) | (with_reducible refine Kd.C_alloc ?_ _) | (with_reducible refine Kd.C_drewN ?_ _) | (with_reducible refine Kd.C_drew ?_))); (case side2 => exact HC0_1.out); rintro e w20 ⟨rfl,hb⟩; refine ⟨_,rfl,?_⟩; have n0_:=zy (Kd.S_below (by (with_reducible repeat (first | apply Kd.S_alloc | apply Kd.S_drewN | apply Kd.S_drew)); exact HO373.out) hb); have n1_:=zy (blk_below (g:=gb370) (o:=.cells #[.int .i64 a0_0,.slice A0_1 l0_1.length c0_1] 25 (0,0)) (by (with_reducible repeat (first | refine blk_drewN ?_ _ | refine blk_drew ?_ | refine blk_alloc ?_ _)); exact BK370.out) hb); have n2_:=zy (below_step (by repeat (first | (with_reducible first | exact HB.out | apply below_alloc | apply pw_below_drewN | apply below_drew1 | refine below_set ?_ GE370.out) | exact HB.out)) hb); clear HO373; clear BK370; clear HB; have HO373:=n0_; have BK370:=n1_; have HB:=n2_; clear n0_ n1_ n2_; (try clear hb); (try clear hb2); (try clear hk); (try clear hi); have hcz21_0 : w20.cell? ⟨gb370,0,none⟩ = some (.int .i64 a0_0):=(blk_cell BK370.out 0).trans rfl; have hcz21_1 : w20.cell? ⟨gb370,1,none⟩ = some (.slice A0_1 l0_1.length c0_1):=(blk_cell BK370.out 1).trans rfl; have hfz21_0:=blk_frozen BK370.out 0; have hfz21_1:=blk_frozen BK370.out 1) | (go_at_call 62; (with_reducible refine (spec_l11Nodes.calls k a0_0 _ _ l0_1 _ _ l1 false _ ?side1 ?side2 ?side3 ?side4 A10.out).mono ?_); (case side1 => repeat (first | exact (Kd.C_below HR0_1.out HB.out) | (with_reducible refine Kd.C_alloc ?_ _) | (with_reducible refine Kd.C_drewN ?_ _) | (with_reducible refine Kd.C_drew ?_))); (case side2 => exact HC0_1.out); (case side3 => repeat (first | exact (Kd.C_below HR1.out HB.out) | (with_reducible refine Kd.C_alloc ?_ _) | (with_reducible refine Kd.C_drewN ?_ _) | (with_reducible refine Kd.C_drew ?_))); (case side4 => exact HC1.out); rintro e w22 ⟨rfl,hb⟩; have n0_:=zy (Kd.S_below (by (with_reducible repeat (first | apply Kd.S_alloc | apply Kd.S_drewN | apply Kd.S_drew)); exact HO373.out) hb); have n1_:=zy (blk_below (g:=gb370) (o:=.cells #[.int .i64 a0_0,.slice A0_1 l0_1.length c0_1] 25 (0,0)) (by (with_reducible repeat (first | refine blk_drewN ?_ _ | refine blk_drew ?_ | refine blk_alloc ?_ _)); exact BK370.out) hb); have n2_:=zy (below_step (by repeat (first | (with_reducible first | exact HB.out | apply below_alloc | apply pw_below_drewN | apply below_drew1 | refine below_set ?_ GE370.out) | exact HB.out)) hb); clear HO373; clear BK370; clear HB; have HO373:=n0_; have BK370:=n1_; have HB:=n2_; clear n0_ n1_ n2_; (try clear hb); (try clear hb2); (try clear hk); (try clear hi)))
   go_meet
   case rel => exact ⟨_,(true),(by first | rfl | (simp; done) | (simp [*]; done)),H',⟨by first | omega | exact Nat.le_refl _⟩,⟨by (with_reducible repeat (first | apply Kd.S_alloc | apply Kd.S_drewN | apply Kd.S_drew)); exact HO373.out⟩,⟨by (with_reducible repeat (first | refine blk_drewN ?_ _ | refine blk_drew ?_ | refine blk_alloc ?_ _)); exact BK370.out⟩,⟨by repeat (first | (with_reducible first | exact HB.out | apply below_alloc | apply pw_below_drewN | apply below_drew1 | refine below_set ?_ GE370.out) | exact HB.out)⟩⟩
  subst c11;have H1 : ((spec_l11Nodes.f k a0_0 l0_1 l2).bind fun t376 => (spec_ManyAll.j0 k l1 l2 y371 (!t376) a0_0 l0_1)) = some r:=by rw [if_pos rfl] at H; exact H
  clear H;have H:=H1;clear H1;replace H:=Option.bind_eq_some_iff.mp H;obtain ⟨t376,A120,H⟩:=H;replace H : (spec_ManyAll.j0 k l1 l2 y371 (!t376) a0_0 l0_1) = some r:=H;have A12:=zy A120;clear A120;have H':=zy H;clear H;have hcz13_0 : w6.cell? ⟨gb370,0,none⟩ = some (.int .i64 a0_0):=(blk_cell BK370.out 0).trans rfl;have hcz13_1 : w6.cell? ⟨gb370,1,none⟩ = some (.slice A0_1 l0_1.length c0_1):=(blk_cell BK370.out 1).trans rfl;have hfz13_0:=blk_frozen BK370.out 0;have hfz13_1:=blk_frozen BK370.out 1
  go_wp2_with (first | ((with_reducible refine gate_callee (f:=58) rfl ?_); refine goesL_ (some 14) rfl rfl Try.func58 (by kernel_rfl) rfl #[.agg #[.int .i64 a0_0,.slice A0_1 l0_1.length c0_1]] rfl (by (try simp only [List.map_toArray,List.map_cons,List.map_nil]); first | done | rfl | (simp only [List.length_drop,List.length_take]; rfl)) ?_; (with_reducible refine (spec_l1Ok.calls k a0_0 _ _ l0_1 true _ ?side1 ?side2 A8.out).mono ?_); (case side1 => repeat (first | exact (Kd.C_below HR0_1.out HB.out) | (with_reducible refine Kd.C_alloc ?_ _) | (with_reducible refine Kd.C_drewN ?_ _) | (with_reducible refine Kd.C_drew ?_))); (case side2 => exact HC0_1.out); rintro e w14 ⟨rfl,hb⟩; refine ⟨_,rfl,?_⟩; have n0_:=zy (Kd.S_below (by (with_reducible repeat (first | apply Kd.S_alloc | apply Kd.S_drewN | apply Kd.S_drew)); exact HO373.out) hb); have n1_:=zy (blk_below (g:=gb370) (o:=.cells #[.int .i64 a0_0,.slice A0_1 l0_1.length c0_1] 25 (0,0)) (by (with_reducible repeat (first | refine blk_drewN ?_ _ | refine blk_drew ?_ | refine blk_alloc ?_ _)); exact BK370.out) hb); have n2_:=zy (below_step (by repeat (first | (with_reducible first | exact HB.out | apply below_alloc | apply pw_below_drewN | apply below_drew1 | refine below_set ?_ GE370.out) | exact HB.out)) hb); clear HO373; clear BK370; clear HB; have HO373:=n0_; have BK370:=n1_; have HB:=n2_; clear n0_ n1_ n2_; (try clear hb); (try clear hb2); (try clear hk); (try clear hi); have hcz15_0 : w14.cell? ⟨gb370,0,none⟩ = some (.int .i64 a0_0):=(blk_cell BK370.out 0).trans rfl; have hcz15_1 : w14.cell? ⟨gb370,1,none⟩ = some (.slice A0_1 l0_1.length c0_1):=(blk_cell BK370.out 1).trans rfl; have hfz15_0:=blk_frozen BK370.out 0; have hfz15_1:=blk_frozen BK370.out 1) | (go_at_call 62; (with_reducible refine (spec_l11Nodes.calls k a0_0 _ _ l0_1 _ _ l1 true _ ?side1 ?side2 ?side3 ?side4 A10.out).mono ?_); (case side1 => repeat (first | exact (Kd.C_below HR0_1.out HB.out) | (with_reducible refine Kd.C_alloc ?_ _) | (with_reducible refine Kd.C_drewN ?_ _) | (with_reducible refine Kd.C_drew ?_))); (case side2 => exact HC0_1.out); (case side3 => repeat (first | exact (Kd.C_below HR1.out HB.out) | (with_reducible refine Kd.C_alloc ?_ _) | (with_reducible refine Kd.C_drewN ?_ _) | (with_reducible refine Kd.C_drew ?_))); (case side4 => exact HC1.out); rintro e w16 ⟨rfl,hb⟩; have n0_:=zy (Kd.S_below (by (with_reducible repeat (first | apply Kd.S_alloc | apply Kd.S_drewN | apply Kd.S_drew)); exact HO373.out) hb); have n1_:=zy (blk_below (g:=gb370) (o:=.cells #[.int .i64 a0_0,.slice A0_1 l0_1.length c0_1] 25 (0,0)) (by (with_reducible repeat (first | refine blk_drewN ?_ _ | refine blk_drew ?_ | refine blk_alloc ?_ _)); exact BK370.out) hb); have n2_:=zy (below_step (by repeat (first | (with_reducible first | exact HB.out | apply below_alloc | apply pw_below_drewN | apply below_drew1 | refine below_set ?_ GE370.out) | exact HB.out)) hb); clear HO373; clear BK370; clear HB; have HO373:=n0_; have BK370:=n1_; have HB:=n2_; clear n0_ n1_ n2_; (try clear hb); (try clear hb2); (try clear hk); (try clear hi); have hcz17_0 : w16.cell? ⟨gb370,0,none⟩ = some (.int .i64 a0_0):=(blk_cell BK370.out 0).trans rfl; have hcz17_1 : w16.cell? ⟨gb370,1,none⟩ = some (.slice A0_1 l0_1.length c0_1):=(blk_cell BK370.out 1).trans rfl; have hfz17_0:=blk_frozen BK370.out 0; have hfz17_1:=blk_frozen BK370.out 1) | (go_at_call 62; (with_reducible refine (spec_l11Nodes.calls k a0_0 _ _ l0_1 _ _ l2 t376 _ ?side1 ?side2 ?side3 ?side4 A12.out).mono ?_); (case side1 => repeat (first | exact (Kd.C_below HR0_1.out HB.out) | (with_reducible refine Kd.C_alloc ?_ _) | (with_reducible refine Kd.C_drewN ?_ _) | (with_reducible refine Kd.C_drew ?_))); (case side2 => exact HC0_1.out); (case side3 => repeat (first | exact (Kd.C_below HR2.out HB.out) | (with_reducible refine Kd.C_alloc ?_ _) | (with_reducible refine Kd.C_drewN ?_ _) | (with_reducible refine Kd.C_drew ?_))); (case side4 => exact HC2.out); rintro e w18 ⟨rfl,hb⟩; have n0_:=zy (Kd.S_below (by (with_reducible repeat (first | apply Kd.S_alloc | apply Kd.S_drewN | apply Kd.S_drew)); exact HO373.out) hb); have n1_:=zy (blk_below (g:=gb370) (o:=.cells #[.int .i64 a0_0,.slice A0_1 l0_1.length c0_1] 25 (0,0)) (by (with_reducible repeat (first | refine blk_drewN ?_ _ | refine blk_drew ?_ | refine blk_alloc ?_ _)); exact BK370.out) hb); have n2_:=zy (below_step (by repeat (first | (with_reducible first | exact HB.out | apply below_alloc | apply pw_below_drewN | apply below_drew1 | refine below_set ?_ GE370.out) | exact HB.out)) hb); clear HO373; clear BK370; clear HB; have HO373:=n0_; have BK370:=n1_; have HB:=n2_; clear n0_ n1_ n2_; (try clear hb); (try clear hb2); (try clear hk); (try clear hi)))
  go_meet
  case rel => exact ⟨_,(!t376),(by first | rfl | (simp; done) | (simp [*]; done)),H',⟨by first | omega | exact Nat.le_refl _⟩,⟨by (with_reducible repeat (first | apply Kd.S_alloc | apply Kd.S_drewN | apply Kd.S_drew)); exact HO373.out⟩,⟨by (with_reducible repeat (first | refine blk_drewN ?_ _ | refine blk_drew ?_ | refine blk_alloc ?_ _)); exact BK370.out⟩,⟨by repeat (first | (with_reducible first | exact HB.out | apply below_alloc | apply pw_below_drewN | apply below_drew1 | refine below_set ?_ GE370.out) | exact HB.out)⟩⟩
 case rest =>
  clear HC4
  try clear c1
  try clear c2
  try clear p2
  try clear c3
  try clear c5
  try clear c9
  try clear c11
  try clear hcz13_0
  try clear hcz13_1
  try clear hcz15_0
  try clear hcz15_1
  try clear hcz17_0
  try clear hcz17_1
  try clear hcz19_0
  try clear hcz19_1
  try clear hcz21_0
  try clear hcz21_1
  try clear hcz23_0
  try clear hcz23_1
  try clear hfz13_0
  try clear hfz13_1
  try clear hfz15_0
  try clear hfz15_1
  try clear hfz17_0
  try clear hfz17_1
  try clear hfz19_0
  try clear hfz19_1
  try clear hfz21_0
  try clear hfz21_1
  try clear hfz23_0
  try clear hfz23_1
  obtain ⟨kq,x27_3,rfl,HA,HJ3,HO_7,BK370,HB⟩:=hcut;cases kq with
  | zero => exact absurd HA.out (by simp [spec_ManyAll.j0])
  | succ kj3 =>
   have H:=HA.out;clear HA;simp only [spec_ManyAll.j0] at H
   by_cases c25 : x27_3 = true
   case pos =>
    subst c25;have H1 : (some ([] : List (List Int))) = some r:=by rw [if_pos rfl] at H; exact H
    clear H;have H:=H1;clear H1;obtain rfl:=Option.some.inj H
    go_wp2
    go_ret;exact ⟨_,by first | rfl | (simp [errW_none,errW_some] <;> rfl) | (simp [*,errW_none,errW_some] <;> rfl),by first | exact Kd.S_nil _ _ _ _ _ | exact Kd.N_nil _ _ _ _ _ | exact Kd.V_nil _ _ _ _ _ | exact Kd.Q_nil _ _ _ _ _ | exact Kd.R_nil _ _ _ _ _,by repeat (first | (with_reducible first | exact HB.out | apply below_alloc | apply pw_below_drewN | apply below_drew1 | refine below_set ?_ GE370.out) | exact HB.out)⟩
   replace c25:=Bool.eq_false_iff.mpr c25;subst c25;have H1 : (spec_ManyAll.l0 kj3 l1 l2 y371 0 a0_0 l0_1) = some r:=by rw [if_neg (show ¬ (false = true) by decide)] at H; exact H
   clear H;have H:=H1;clear H1;have H':=zy H;clear H
   go_wp2
   go_loopg [7,8] kj3 (fun kq v7 v8 w' => ∃ (x7_2 : List (List Int)) (x8_2 : Int),v8 = .int .i64 x8_2 ∧ Aside0 (spec_ManyAll.l0 kq l1 l2 x7_2 x8_2 a0_0 l0_1 = some r) ∧ Aside0 (kq ≤ kj3) ∧ Aside0 (Kd.S (Kd.slice 3 (Kd.int .i64)) 26 w' w.heap.size (fun _ => True) v7 x7_2) ∧ Aside0 (w'.heap[gb370]? = some (.cells #[.int .i64 a0_0,(.slice A0_1 l0_1.length c0_1)] 25 (0,0))) ∧ Aside0 (Below w.heap.size w w'))
   case atStart => exact ⟨(y371),(0),(by first | rfl | (simp; done) | (simp [*]; done)),H',⟨Nat.le_refl _⟩,⟨by (with_reducible repeat (first | apply Kd.S_alloc | apply Kd.S_drewN | apply Kd.S_drew)); exact HO_7.out⟩,⟨by (with_reducible repeat (first | refine blk_drewN ?_ _ | refine blk_drew ?_ | refine blk_alloc ?_ _)); exact BK370.out⟩,⟨by repeat (first | (with_reducible first | exact HB.out | apply below_alloc | apply pw_below_drewN | apply below_drew1 | refine below_set ?_ GE370.out) | exact HB.out)⟩⟩
   case round =>
    clear H'
    try clear c1
    try clear c2
    try clear p2
    try clear c3
    try clear c5
    try clear c9
    try clear c11
    try clear c25
    try clear hcz13_0
    try clear hcz13_1
    try clear hcz15_0
    try clear hcz15_1
    try clear hcz17_0
    try clear hcz17_1
    try clear hcz19_0
    try clear hcz19_1
    try clear hcz21_0
    try clear hcz21_1
    try clear hcz23_0
    try clear hcz23_1
    try clear hfz13_0
    try clear hfz13_1
    try clear hfz15_0
    try clear hfz15_1
    try clear hfz17_0
    try clear hfz17_1
    try clear hfz19_0
    try clear hfz19_1
    try clear hfz21_0
    try clear hfz21_1
    try clear hfz23_0
    try clear hfz23_1
    try clear p2
    obtain ⟨x7_2,x8_2,rfl,HA,HK2,HO_7,BK370,HB⟩:=hrel;cases gk with
    | zero => exact absurd HA.out (by simp [spec_ManyAll.l0])
    | succ k2 =>
     have H:=HA.out;clear HA;simp only [spec_ManyAll.l0] at H
     by_cases c26 : x8_2 < (l1.length : Int)
     case neg =>
      rw [if_neg c26] at H;have c26b0 : decide (x8_2 < (l1.length : Int)) = false:=decide_eq_false c26;clear c26;obtain rfl:=Option.some.inj H
      go_wp2
      go_ret;exact ⟨_,by first | rfl | (simp [errW_none,errW_some] <;> rfl) | (simp [*,errW_none,errW_some] <;> rfl),by (with_reducible repeat (first | apply Kd.S_alloc | apply Kd.S_drewN | apply Kd.S_drew)); exact HO_7.out,by repeat (first | (with_reducible first | exact HB.out | apply below_alloc | apply pw_below_drewN | apply below_drew1 | refine below_set ?_ GE370.out) | exact HB.out)⟩
     rw [if_pos c26] at H;have c26b0 : decide (x8_2 < (l1.length : Int)) = true:=decide_eq_true c26;clear c26
     by_cases c27 : 0 ≤ x8_2
     case neg =>
      rw [if_neg c27] at H;exact absurd H (by simp)
     rw [if_pos c27] at H;have c27b0 : decide (0 ≤ x8_2) = true:=decide_eq_true c27;clear c27;replace H:=Option.bind_eq_some_iff.mp H;obtain ⟨t378,A280,H⟩:=H;replace H : (spec_ManyAll.l1 k2 l1 l2 x7_2 x8_2 t378 (([] : List Int)) 0 a0_0 l0_1) = some r:=H;have A28:=zy A280;clear A280;obtain ⟨y381,hy381⟩ : ∃ y_ : List Int,y_ = (([] : List Int)):=⟨_,rfl⟩
     replace H : (spec_ManyAll.l1 k2 l1 l2 x7_2 x8_2 t378 y381 0 a0_0 l0_1) = some r:=by first | (rw [hy381]; with_reducible exact H) | (have H2_:=(Option.bind_some _ _).symm.trans H; rw [hy381]; with_reducible exact H2_) | (have H2_:=(Option.bind_some _ _).symm.trans H; with_reducible exact H2_) | with_reducible exact H | (rw [hy381]; exact H) | exact H
     have Ny381:=zy hy381;clear hy381;have H':=zy H;clear H
     try go_wp2
     have n0_:=zy (Kd.S_drew HO_7.out);have n1_:=zy (blk_drew BK370.out);have n2_:=zy (below_drew1 HB.out);clear HO_7;clear BK370;clear HB;have HO_7:=n0_;have BK370:=n1_;have HB:=n2_;clear n0_ n1_ n2_;have p377 : 0 ≤ (x8_2 : Int):=of_decide_eq_true (by first | (with_reducible assumption) | assumption);have q377 : x8_2 < (l1.length : Int):=of_decide_eq_true (by first | (with_reducible assumption) | assumption);obtain ⟨ad377,e377,hx377_0⟩:=Kd.at_int HR1.out x8_2 p377 q377;have hw377_0:=hx377_0;cases e377;replace hx377_0:=(HB.out.cell (World.block_lt_of_cell? w _ hx377_0)).trans hx377_0;replace p377:=eq_true p377;replace q377:=eq_true q377;refine start_ (n:=7) (S:=fun w' => w'.cell? ⟨gb370,0,none⟩ = some (.int .i64 a0_0) ∧ w'.cell? ⟨gb370,1,none⟩ = some (.slice A0_1 l0_1.length c0_1) ∧ w'.cell? (ad377.add (x8_2).toNat) = some (.int .i64 (rd l1 x8_2))) (ds:=[]) #[false,false,false,false,false,false,false] (by kernel_rfl) rfl rfl ⟨(blk_cell BK370.out 0).trans rfl,(blk_cell BK370.out 1).trans rfl,((HB.out.cell (World.block_lt_of_cell? w _ hw377_0)).trans hw377_0)⟩ (fun hHeld => ?_);generalize wr.drew = w29 at HO_7 BK370 HB hx377_0 hHeld ⊢;refine pure_ (i:=1) (N:=some 35) (v:=?_) (a':=?_) #[false,true,false,false,false,false,false] rfl rfl (by kernel_rfl) (fun _ _ _ h => h) (Or.inl ⟨by rfl,?_⟩) ?_ ?_;rotate_left
     ·intro w';go_simp;with_reducible rfl
     rotate_left
     ·simp only [Act.put,U,Z,zx,i64_w,i32_w];rfl
     refine pure_ (i:=2) (N:=some 36) (v:=?_) (a':=?_) #[false,true,true,false,false,false,false] rfl rfl (by kernel_rfl) (fun _ _ _ h => h) (Or.inl ⟨by rfl,?_⟩) ?_ ?_;rotate_left
     ·intro w';go_simp;with_reducible rfl
     rotate_left
     ·simp only [Act.put,U,Z,zx,i64_w,i32_w];rfl
     refine pure_ (i:=3) (N:=some 37) (v:=?_) (a':=?_) #[false,true,true,true,false,false,false] rfl rfl (by kernel_rfl) (fun _ _ _ h => h) (Or.inl ⟨by rfl,?_⟩) ?_ ?_;rotate_left
     ·intro w';go_simp;with_reducible rfl
     rotate_left
     ·simp only [Act.put,U,Z,zx,i64_w,i32_w];rfl
     refine take_ (i:=0) (N:=some 34) (v:=?_) (a':=?_) #[true,true,true,true,false,false,false] rfl rfl (by kernel_rfl) (fun _ _ _ h => h) (Or.inl ⟨by rfl,?_⟩) hHeld ?_ ?_;rotate_left
     ·rintro w' ⟨s0,s1,s2⟩;go_simp;with_reducible rfl
     rotate_left
     ·simp only [Act.put,U,Z,zx,i64_w,i32_w];rfl
     refine take_ (i:=4) (N:=some 38) (v:=?_) (a':=?_) #[true,true,true,true,true,false,false] rfl rfl (by kernel_rfl) (fun _ _ _ h => h) (Or.inl ⟨by rfl,?_⟩) hHeld ?_ ?_;rotate_left
     ·rintro w' ⟨s0,s1,s2⟩;go_simp;with_reducible rfl
     rotate_left
     ·simp only [Act.put,U,Z,zx,i64_w,i32_w];rfl
     refine one_ (i:=5) (N:=some 39) #[true,true,true,true,true,true,false] rfl rfl (by kernel_rfl) (by decide) (fun K hK => ?_);refine goes_ Try.func63 (by kernel_rfl) rfl #[.agg #[.int .i64 a0_0,.slice A0_1 l0_1.length c0_1],.int .i64 (rd l1 x8_2)] (by rfl) rfl rfl (by (try simp only [List.map_toArray,List.map_cons,List.map_nil]); first | done | rfl | (simp only [List.length_drop,List.length_take]; rfl)) ?_;with_reducible refine (spec_l3All.calls k2 a0_0 _ _ l0_1 (rd l1 x8_2) t378 _ ?side1 ?side2 A28.out).mono ?_
     (case side1 => repeat (first | exact (Kd.C_below HR0_1.out HB.out) | (with_reducible refine Kd.C_alloc ?_ _) | (with_reducible refine Kd.C_drewN ?_ _) | (with_reducible refine Kd.C_drew ?_)))
     (case side2 => exact HC0_1.out)
     rintro e w30 ⟨v379,rfl,ho0,hb⟩;refine ⟨_,rfl,?_⟩;have n0_:=zy (Kd.S_elder' (by (with_reducible repeat (first | apply Kd.S_alloc | apply Kd.S_drewN | apply Kd.S_drew)); exact HO_7.out) (Kd.R_base ho0) hb);have n1_:=zy (Kd.R_lower ho0 (below_size (by repeat (first | (with_reducible first | exact HB.out | apply below_alloc | apply pw_below_drewN | apply below_drew1 | refine below_set ?_ GE370.out) | exact HB.out))));have n2_:=zy (blk_below (g:=gb370) (o:=.cells #[.int .i64 a0_0,.slice A0_1 l0_1.length c0_1] 25 (0,0)) (by (with_reducible repeat (first | refine blk_drewN ?_ _ | refine blk_drew ?_ | refine blk_alloc ?_ _)); exact BK370.out) hb);have n3_:=zy (below_step (by repeat (first | (with_reducible first | exact HB.out | apply below_alloc | apply pw_below_drewN | apply below_drew1 | refine below_set ?_ GE370.out) | exact HB.out)) hb);clear HO_7;clear BK370;clear HB;have HO_7:=n0_;have HO380:=n1_;have BK370:=n2_;have HB:=n3_;clear n0_ n1_ n2_ n3_
     (try clear hb)
     (try clear hb2)
     (try clear hk)
     (try clear hi)
     (try clear ho0)
     refine hK.out _ _ ⟨(blk_cell BK370.out 0).trans rfl,(blk_cell BK370.out 1).trans rfl,((HB.out.cell (World.block_lt_of_cell? w _ hw377_0)).trans hw377_0)⟩ (fun hHeld => ?_);clear hK K;refine norm_ (a':=?_) ?_ ?_;rotate_left
     ·show Act.put _ (some 39) _ = _
      simp only [Act.put,U,Z,zx,i64_w,i32_w];rfl
     refine pure_ (i:=6) (N:=some 9) (v:=?_) (a':=?_) #[true,true,true,true,true,true,true] rfl rfl (by kernel_rfl) (fun _ _ _ h => h) (Or.inl ⟨by rfl,?_⟩) ?_ ?_;rotate_left
     ·intro w';go_simp;with_reducible rfl
     rotate_left
     ·simp only [Act.put,U,Z,zx,i64_w,i32_w];rfl
     refine done_ (by kernel_rfl) ?_
     try go_wp2_with (first | ((with_reducible refine gate_dst (N:=40) rfl ?_); refine Kd.R_lit (Kd.int .i64) _ 3 ?hg (N:=40) ?hd (xs:=([] : List Int)) (inner:=[]) (ok:=fun _ => True) (okp:=fun _ => True) ?hr ?hp (fun _ hk => hk) trivial (Below.refl _ _) (Nat.le_refl _) (by simp) ?_; (case hd => rfl); (case hg => rfl); (case hr => first | (go_simp; done) | (go_simp; rfl)); (case hp => exact (Reps.none _ _)); intro v382 w31 ho32 hb hg_ hnew_; clear hg_ hnew_; (first | rw [← Ny381.out] at ho32 | (simp only [Int.reduceToNat] at ho32; rw [← Ny381.out] at ho32)); have n0_:=zy (Kd.S_elder' (by (with_reducible repeat (first | apply Kd.S_alloc | apply Kd.S_drewN | apply Kd.S_drew)); exact HO_7.out) (Kd.R_base ho32) hb); have n1_:=zy (Kd.R_elder' (by (with_reducible repeat (first | apply Kd.R_alloc | apply Kd.R_drewN | apply Kd.R_drew)); exact HO380.out) (Kd.R_base ho32) hb); have n2_:=zy (Kd.R_lower (Kd.R_new' ho32 (Kd.R_lt (by (with_reducible repeat (first | apply Kd.R_alloc | apply Kd.R_drewN | apply Kd.R_drew)); exact HO380.out))) (below_size (by repeat (first | (with_reducible first | exact HB.out | apply below_alloc | apply pw_below_drewN | apply below_drew1 | refine below_set ?_ GE370.out) | exact HB.out)))); have n3_:=zy (blk_below (g:=gb370) (o:=.cells #[.int .i64 a0_0,.slice A0_1 l0_1.length c0_1] 25 (0,0)) (by (with_reducible repeat (first | refine blk_drewN ?_ _ | refine blk_drew ?_ | refine blk_alloc ?_ _)); exact BK370.out) hb); have n4_:=zy (below_step (by repeat (first | (with_reducible first | exact HB.out | apply below_alloc | apply pw_below_drewN | apply below_drew1 | refine below_set ?_ GE370.out) | exact HB.out)) hb); clear HO_7; clear HO380; clear BK370; clear HB; have HO_7:=n0_; have HO380:=n1_; have HO383:=n2_; have BK370:=n3_; have HB:=n4_; clear n0_ n1_ n2_ n3_ n4_; clear hb ho32))
     go_loopg [10,11] k2 (fun kq v10 v11 w' => ∃ (x10_3 : List Int) (x11_3 : Int),v11 = .int .i64 x11_3 ∧ Aside0 (spec_ManyAll.l1 kq l1 l2 x7_2 x8_2 t378 x10_3 x11_3 a0_0 l0_1 = some r) ∧ Aside0 (kq ≤ k2) ∧ Aside0 (Kd.S (Kd.slice 3 (Kd.int .i64)) 26 w' w.heap.size (fun k_ => some k_ ≠ (v379 : Value).ownBlock ∧ some k_ ≠ (v10 : Value).ownBlock) u7 x7_2) ∧ Aside0 (Kd.R (Kd.int .i64) 3 w' w.heap.size (fun k_ => some k_ ≠ (v10 : Value).ownBlock) v379 t378) ∧ Aside0 (Kd.R (Kd.int .i64) 3 w' w.heap.size (fun k_ => some k_ ≠ (v379 : Value).ownBlock) v10 x10_3) ∧ Aside0 (w'.heap[gb370]? = some (.cells #[.int .i64 a0_0,(.slice A0_1 l0_1.length c0_1)] 25 (0,0))) ∧ Aside0 (Below w.heap.size w w'))
     case atStart => exact ⟨(y381),(0),(by first | rfl | (simp; done) | (simp [*]; done)),H',⟨Nat.le_refl _⟩,⟨by (with_reducible repeat (first | apply Kd.S_alloc | apply Kd.S_drewN | apply Kd.S_drew)); exact Kd.S_mono HO_7.out (fun _ hk => ⟨hk.1.2,hk.2⟩)⟩,⟨by (with_reducible repeat (first | apply Kd.R_alloc | apply Kd.R_drewN | apply Kd.R_drew)); exact Kd.R_mono HO380.out (fun _ hk => hk.2)⟩,⟨by (with_reducible repeat (first | apply Kd.R_alloc | apply Kd.R_drewN | apply Kd.R_drew)); exact Kd.R_mono HO383.out (fun _ hk => hk.2)⟩,⟨by (with_reducible repeat (first | refine blk_drewN ?_ _ | refine blk_drew ?_ | refine blk_alloc ?_ _)); exact BK370.out⟩,⟨by repeat (first | (with_reducible first | exact HB.out | apply below_alloc | apply pw_below_drewN | apply below_drew1 | refine below_set ?_ GE370.out) | exact HB.out)⟩⟩
     case round =>
      clear H'
      try clear c1
      try clear c2
      try clear p2
      try clear c3
      try clear p3
      try clear q3
      try clear hx3
      try clear c5
      try clear c6
      try clear c9
      try clear c11
      try clear c25
      try clear c26
      try clear c26b0
      try clear c27
      try clear c27b0
      try clear hcz13_0
      try clear hcz13_1
      try clear hcz15_0
      try clear hcz15_1
      try clear hcz17_0
      try clear hcz17_1
      try clear hcz19_0
      try clear hcz19_1
      try clear hcz21_0
      try clear hcz21_1
      try clear hcz23_0
      try clear hcz23_1
      try clear hfz13_0
      try clear hfz13_1
      try clear hfz15_0
      try clear hfz15_1
      try clear hfz17_0
      try clear hfz17_1
      try clear hfz19_0
      try clear hfz19_1
      try clear hfz21_0
      try clear hfz21_1
      try clear hfz23_0
      try clear hfz23_1
      try clear hx377_0
      try clear p2
      try clear p377
      try clear q377
      obtain ⟨x10_3,x11_3,rfl,HA,HK3,HO_7,HO_9,HO_10,BK370,HB⟩:=hrel;cases gk with
      | zero => exact absurd HA.out (by simp [spec_ManyAll.l1])
      | succ k3 =>
       have H:=HA.out;clear HA;simp only [spec_ManyAll.l1] at H
       by_cases c33 : x11_3 < (l2.length : Int)
       case neg =>
        rw [if_neg c33] at H;have c33b0 : decide (x11_3 < (l2.length : Int)) = false:=decide_eq_false c33;clear c33
        by_cases c40 : x7_2.length < 5864062014805
        case neg =>
         rw [if_neg c40] at H;exact absurd H (by simp)
        rw [if_pos c40] at H;have LMc40:=zy c40;clear c40;obtain ⟨y389,hy389⟩ : ∃ y_ : List (List Int),y_ = (x7_2 ++ [x10_3]):=⟨_,rfl⟩
        replace H : (spec_ManyAll.l0 k3 l1 l2 y389 (wrap64 (x8_2 + 1)) a0_0 l0_1) = some r:=by first | (rw [hy389]; with_reducible exact H) | (have H2_:=(Option.bind_some _ _).symm.trans H; rw [hy389]; with_reducible exact H2_) | (have H2_:=(Option.bind_some _ _).symm.trans H; with_reducible exact H2_) | with_reducible exact H | (rw [hy389]; exact H) | exact H
        have Ny389:=zy hy389;clear hy389;have H':=zy H;clear H;obtain ⟨Ao42,co42,eo42⟩:=Kd.R_slice HO_10.out;subst eo42
        go_wp2_with (first | ((with_reducible refine gate_builtin (b:=.append) (xs:=#[.tmp 57,.tmp 59]) rfl ?_); at_builtin; refine Kd.S_append (Kd.slice 3 (Kd.int .i64)) (w0:=w) w.heap.size rfl (.tmp 57) (.tmp 59) 56 26 (.slice none 0 0) 24 rfl Try.underlying56 info26 rfl (by decide) (by omega) u7 x7_2 x10_3 [.slice Ao42 x10_3.length co42] (fun k_ => some k_ ≠ (v379 : Value).ownBlock) (fun k_ => some k_ = (.slice Ao42 x10_3.length co42 : Value).ownBlock) rfl rfl ?aP (fun k_ hk_ => ((Kd.R_mono (ok':=fun k_ => ((fun k_ => some k_ ≠ (v379 : Value).ownBlock)) k_ ∧ some k_ ≠ (u7 : Value).ownBlock) (Kd.R_apart' (HO_10.out) (Kd.S_typed HO_7.out) (by decide)) (fun k_ hk => ⟨hk.1,hk.2⟩))).1 k_ hk_.symm) ?aF ?aO ?aB ?aS ?aL ?_; (case aP => exact Kd.M_row (Kd.R_mono (Kd.R_tight rfl (Kd.R_mono (ok':=fun k_ => ((fun k_ => some k_ ≠ (v379 : Value).ownBlock)) k_ ∧ some k_ ≠ (u7 : Value).ownBlock) (Kd.R_apart' (HO_10.out) (Kd.S_typed HO_7.out) (by decide)) (fun k_ hk => ⟨hk.1,hk.2⟩))) (fun _ h_ => h_))); (case aB => exact (by repeat (first | (with_reducible first | exact HB.out | apply below_alloc | apply pw_below_drewN | apply below_drew1 | refine below_set ?_ GE370.out) | exact HB.out))); (case aF => exact (fun k_ hk => Kd.fresh' (Kd.R_lt (by (with_reducible repeat (first | apply Kd.R_alloc | apply Kd.R_drewN | apply Kd.R_drew)); exact HO_9.out)) k_ hk)); (case aO => exact (by (with_reducible repeat (first | apply Kd.S_alloc | apply Kd.S_drewN | apply Kd.S_drew)); exact Kd.S_mono HO_7.out (fun k_ hk => ⟨hk.1,fun e_ => hk.2 e_⟩))); (case aS => exact (below_size (by repeat (first | (with_reducible first | exact HB.out | apply below_alloc | apply pw_below_drewN | apply below_drew1 | refine below_set ?_ GE370.out) | exact HB.out)))); (case aL => have:=LMc40.out; omega); intro v390 w41 ho hb hg hat; rw [← Ny389.out] at ho; have n0_:=zy (Kd.R_over' (by (with_reducible repeat (first | apply Kd.R_alloc | apply Kd.R_drewN | apply Kd.R_drew)); exact HO_9.out) (Kd.S_typed (by (with_reducible repeat (first | apply Kd.S_alloc | apply Kd.S_drewN | apply Kd.S_drew)); exact HO_7.out)) (by decide) hg); have n1_:=zy (blk_grown (g:=gb370) (o:=.cells #[.int .i64 a0_0,.slice A0_1 l0_1.length c0_1] 25 (0,0)) (by (with_reducible repeat (first | refine blk_drewN ?_ _ | refine blk_drew ?_ | refine blk_alloc ?_ _)); exact BK370.out) hg (Kd.S_ne HO_7.out BK370.out (by decide))); have n2_:=zy (hb); have n3_:=zy (ho); clear HO_9; clear BK370; clear HB; clear HO_7; clear HO_10; have HO_9:=n0_; have BK370:=n1_; have HB:=n2_; have HO391:=n3_; clear n0_ n1_ n2_ n3_; clear ho hb hg hat))
        go_roundg k3
        case measure => have:=HJ3.out; have:=HK2.out; have:=HK3.out; omega
        case rel => exact ⟨(y389),(wrap64 (x8_2 + 1)),(by first | rfl | (simp; done) | (simp [*]; done)),H',⟨by have:=HJ3.out; have:=HK2.out; have:=HK3.out; omega⟩,⟨by (with_reducible repeat (first | apply Kd.S_alloc | apply Kd.S_drewN | apply Kd.S_drew)); exact Kd.S_mono HO391.out (fun _ hk => trivial)⟩,⟨by (with_reducible repeat (first | refine blk_drewN ?_ _ | refine blk_drew ?_ | refine blk_alloc ?_ _)); exact BK370.out⟩,⟨by repeat (first | (with_reducible first | exact HB.out | apply below_alloc | apply pw_below_drewN | apply below_drew1 | refine below_set ?_ GE370.out) | exact HB.out)⟩⟩
       rw [if_pos c33] at H;have c33b0 : decide (x11_3 < (l2.length : Int)) = true:=decide_eq_true c33;clear c33
       by_cases c34 : 0 ≤ x11_3
       case neg =>
        rw [if_neg c34] at H;exact absurd H (by simp)
       rw [if_pos c34] at H;have c34b0 : decide (0 ≤ x11_3) = true:=decide_eq_true c34;clear c34
       by_cases c35 : 0 ≤ (rd l2 x11_3)
       case neg =>
        rw [if_neg c35] at H;exact absurd H (by simp)
       rw [if_pos c35] at H;have c35b0 : decide (0 ≤ (rd l2 x11_3)) = true:=decide_eq_true c35;clear c35
       by_cases c36 : (rd l2 x11_3) < (t378.length : Int)
       case neg =>
        rw [if_neg c36] at H;exact absurd H (by simp)
       rw [if_pos c36] at H;have c36b0 : decide ((rd l2 x11_3) < (t378.length : Int)) = true:=decide_eq_true c36;clear c36
       by_cases c37 : x10_3.length < 17592186044416
       case neg =>
        rw [if_neg c37] at H;exact absurd H (by simp)
       rw [if_pos c37] at H;have LMc37:=zy c37;clear c37;obtain ⟨y386,hy386⟩ : ∃ y_ : List Int,y_ = (x10_3 ++ [rd t378 (rd l2 x11_3)]):=⟨_,rfl⟩
       replace H : (spec_ManyAll.l1 k3 l1 l2 x7_2 x8_2 t378 y386 (wrap64 (x11_3 + 1)) a0_0 l0_1) = some r:=by first | (rw [hy386]; with_reducible exact H) | (have H2_:=(Option.bind_some _ _).symm.trans H; rw [hy386]; with_reducible exact H2_) | (have H2_:=(Option.bind_some _ _).symm.trans H; with_reducible exact H2_) | with_reducible exact H | (rw [hy386]; exact H) | exact H
       have Ny386:=zy hy386;clear hy386;have H':=zy H;clear H;have p384 : 0 ≤ (x11_3 : Int):=of_decide_eq_true (by first | (with_reducible assumption) | assumption);have q384 : x11_3 < (l2.length : Int):=of_decide_eq_true (by first | (with_reducible assumption) | assumption);obtain ⟨ad384,e384,hx384_0⟩:=Kd.at_int HR2.out x11_3 p384 q384;cases e384;replace hx384_0:=(HB.out.cell (World.block_lt_of_cell? w _ hx384_0)).trans hx384_0;replace p384:=eq_true p384;replace q384:=eq_true q384;obtain ⟨Ao38,co38,eo38⟩:=Kd.R_slice HO_9.out;subst eo38;have p385 : 0 ≤ ((rd l2 x11_3) : Int):=of_decide_eq_true (by first | (with_reducible assumption) | assumption);have q385 : (rd l2 x11_3) < (t378.length : Int):=of_decide_eq_true (by first | (with_reducible assumption) | assumption);obtain ⟨ad385,e385,hx385_0⟩:=Kd.at_int (Kd.R_reads' HO_9.out).2.2 (rd l2 x11_3) p385 q385;cases e385;replace p385:=eq_true p385;replace q385:=eq_true q385
       go_wp2_with (first | ((with_reducible refine gate_builtin (b:=.append) (xs:=#[.tmp 47,.tmp 55]) rfl ?_); at_builtin; refine Kd.R_append (Kd.int .i64) (w0:=w) w.heap.size rfl (.tmp 47) (.tmp 55) 26 3 (.int .i64 0) 8 rfl Try.underlying26 info3 rfl (by decide) (by omega) u10 x10_3 (rd t378 (rd l2 x11_3)) [.int .i64 (rd t378 (rd l2 x11_3))] (fun k_ => some k_ ≠ (.slice (some ad385) t378.length co38 : Value).ownBlock) (fun _ => False) rfl rfl ?aP (fun _ hk => hk.elim) ?aF ?aO ?aB ?aS ?aL ?_; (case aP => exact rfl); (case aB => exact (by repeat (first | (with_reducible first | exact HB.out | apply below_alloc | apply pw_below_drewN | apply below_drew1 | refine below_set ?_ GE370.out) | exact HB.out))); (case aF => exact (fun k_ hk => Kd.fresh' (Kd.R_lt (by (with_reducible repeat (first | apply Kd.R_alloc | apply Kd.R_drewN | apply Kd.R_drew)); exact HO_9.out)) k_ hk)); (case aO => exact (by (with_reducible repeat (first | apply Kd.R_alloc | apply Kd.R_drewN | apply Kd.R_drew)); exact HO_10.out)); (case aS => exact (below_size (by repeat (first | (with_reducible first | exact HB.out | apply below_alloc | apply pw_below_drewN | apply below_drew1 | refine below_set ?_ GE370.out) | exact HB.out)))); (case aL => have:=LMc37.out; omega); intro v387 w39 ho hb hg hat; rw [← Ny386.out] at ho; have n0_:=zy (Kd.S_after (ok:=(fun k_ => some k_ ≠ (.slice (some ad385) t378.length co38 : Value).ownBlock)) (by (with_reducible repeat (first | apply Kd.S_alloc | apply Kd.S_drewN | apply Kd.S_drew)); exact HO_7.out) hg hat); have n1_:=zy (Kd.R_after (ok:=(fun _ => True)) (by (with_reducible repeat (first | apply Kd.R_alloc | apply Kd.R_drewN | apply Kd.R_drew)); exact Kd.R_mono HO_9.out (fun _ hk => ⟨trivial,hk⟩)) hg hat); have n2_:=zy (blk_grown (g:=gb370) (o:=.cells #[.int .i64 a0_0,.slice A0_1 l0_1.length c0_1] 25 (0,0)) (by (with_reducible repeat (first | refine blk_drewN ?_ _ | refine blk_drew ?_ | refine blk_alloc ?_ _)); exact BK370.out) hg (Kd.R_ne HO_10.out BK370.out (by decide))); have n3_:=zy (hb); have n4_:=zy (ho); clear HO_7; clear HO_9; clear BK370; clear HB; clear HO_10; have HO_7:=n0_; have HO_9:=n1_; have BK370:=n2_; have HB:=n3_; have HO388:=n4_; clear n0_ n1_ n2_ n3_ n4_; clear ho hb hg hat))
       go_roundg k3
       case measure => have:=HJ3.out; have:=HK2.out; have:=HK3.out; omega
       case rel => exact ⟨(y386),(wrap64 (x11_3 + 1)),(by first | rfl | (simp; done) | (simp [*]; done)),H',⟨by have:=HJ3.out; have:=HK2.out; have:=HK3.out; omega⟩,⟨by (with_reducible repeat (first | apply Kd.S_alloc | apply Kd.S_drewN | apply Kd.S_drew)); exact HO_7.out⟩,⟨by (with_reducible repeat (first | apply Kd.R_alloc | apply Kd.R_drewN | apply Kd.R_drew)); exact Kd.R_mono HO_9.out (fun _ hk => hk.2)⟩,⟨by (with_reducible repeat (first | apply Kd.R_alloc | apply Kd.R_drewN | apply Kd.R_drew)); exact HO388.out⟩,⟨by (with_reducible repeat (first | refine blk_drewN ?_ _ | refine blk_drew ?_ | refine blk_alloc ?_ _)); exact BK370.out⟩,⟨by repeat (first | (with_reducible first | exact HB.out | apply below_alloc | apply pw_below_drewN | apply below_drew1 | refine below_set ?_ GE370.out) | exact HB.out)⟩⟩
def spec_JobBest.f (k : Nat) (a0_0 : Int) (l0_1 : List (S80)) (l1 : List Int) (l2 : List Int) : Option (List Int × Int):=(spec_l27Ok.f k a0_0 l0_1 l1 l2).bind fun t393 => (if t393 = true then ((spec_ManyAll.f k a0_0 l0_1 l1 l2).bind fun t394 => ((spec_l27Try.f k t394 ([] : List Int) ([] : List Int) 99999).bind fun bt397 => (some (bt397.1,bt397.2)))) else (some (([] : List Int),(-1))))
set_option maxHeartbeats 8000000 in
set_option maxRecDepth 100000 in
theorem spec_JobBest.calls (k : Nat) (a0_0 : Int) (A0_1 : Option Addr) (c0_1 : Nat) (l0_1 : List (S80)) (A1 : Option Addr) (c1 : Nat) (l1 : List Int) (A2 : Option Addr) (c2 : Nat) (l2 : List Int) (r1 : List Int) (r2 : Int) (w : World) (hr0_1 : Kd.C k80 w A0_1 l0_1.length l0_1) (hc0_1 : l0_1.length ≤ c0_1) (hr1 : Kd.C (Kd.int .i64) w A1 l1.length l1) (hc1 : l1.length ≤ c1) (hr2 : Kd.C (Kd.int .i64) w A2 l2.length l2) (hc2 : l2.length ≤ c2) (h : spec_JobBest.f k a0_0 l0_1 l1 l2 = some (r1,r2)) :
  Calls Try.prog 10 #[.agg #[.int .i64 a0_0,.slice A0_1 l0_1.length c0_1],.slice A1 l1.length c1,.slice A2 l2.length c2] w fun e w' => ∃ v0_ : Value,e = .returned (.tuple #[v0_,.int .i64 r2]) ∧ Kd.V (Kd.int .i64) 3 w' w.heap.size (fun k_ => (w.heap.size ≤ k_)) v0_ r1 ∧ Below w.heap.size w w':=by
 have hu25:=Try.underlying25;have HR0_1:=zy hr0_1;have HC0_1:=zy hc0_1;clear hr0_1 hc0_1;have HR1:=zy hr1;have HC1:=zy hc1;clear hr1 hc1;have HR2:=zy hr2;have HC2:=zy hc2;clear hr2 hc2;have HB:=zy (Below.refl w.heap.size w);have H : ((spec_l27Ok.f k a0_0 l0_1 l1 l2).bind fun t393 => (if t393 = true then ((spec_ManyAll.f k a0_0 l0_1 l1 l2).bind fun t394 => ((spec_l27Try.f k t394 ([] : List Int) ([] : List Int) 99999).bind fun bt397 => (some (bt397.1,bt397.2)))) else (some (([] : List Int),(-1))))) = some (r1,r2):=h;clear h;replace H:=Option.bind_eq_some_iff.mp H;obtain ⟨t393,A40,H⟩:=H;replace H : (if t393 = true then ((spec_ManyAll.f k a0_0 l0_1 l1 l2).bind fun t394 => ((spec_l27Try.f k t394 ([] : List Int) ([] : List Int) 99999).bind fun bt397 => (some (bt397.1,bt397.2)))) else (some (([] : List Int),(-1)))) = some (r1,r2):=H;have A4:=zy A40;clear A40
 by_cases c5 : t393 = true
 case neg =>
  replace c5:=Bool.eq_false_iff.mpr c5;subst c5;have H1 : (some (([] : List Int),(-1))) = some (r1,r2):=by rw [if_neg (show ¬ (false = true) by decide)] at H; exact H
  clear H;have H:=H1;clear H1;simp only [Option.some.injEq,Prod.mk.injEq] at H;obtain ⟨rfl,rfl⟩:=H
  go_enter Try.func10,Try.ntmps10
  go_wp2_with (first | ((with_reducible refine gate_dst (N:=3) rfl ?_); refine box_event ?hg (N:=3) ?hd (cs:=#[.int .i64 a0_0,.slice A0_1 l0_1.length c0_1]) (t:=25) ?hr ?_; (case hd => rfl); (case hg => rfl); (case hr => first | (go_simp; done) | (go_simp; rfl)); intro gb392 hg w15 hbox hb; have n0_:=zy (below_step (by repeat (first | (with_reducible first | exact HB.out | apply below_alloc | apply pw_below_drewN | apply below_drew1) | exact HB.out)) hb); have n1_:=zy (hbox); have n2_:=zy ((by rw [hg]; exact (below_size (by repeat (first | (with_reducible first | exact HB.out | apply below_alloc | apply pw_below_drewN | apply below_drew1) | exact HB.out))) : w.heap.size ≤ gb392)); have n3_:=zy ((by rw [hg]; exact (below_size (by repeat (first | (with_reducible first | exact HB.out | apply below_alloc | apply pw_below_drewN | apply below_drew1) | exact HB.out))) : w.heap.size ≤ gb392)); clear HB; have HB:=n0_; have BK392:=n1_; have GW392:=n2_; have GE392:=n3_; clear n0_ n1_ n2_ n3_; clear hb hbox hg; have hcz16_0 : w15.cell? ⟨gb392,0,none⟩ = some (.int .i64 a0_0):=(blk_cell BK392.out 0).trans rfl; have hcz16_1 : w15.cell? ⟨gb392,1,none⟩ = some (.slice A0_1 l0_1.length c0_1):=(blk_cell BK392.out 1).trans rfl; have hfz16_0:=blk_frozen BK392.out 0; have hfz16_1:=blk_frozen BK392.out 1) | ((with_reducible refine gate_callee (f:=35) rfl ?_); refine goesL_ (some 11) rfl rfl Try.func35 (by kernel_rfl) rfl #[.agg #[.int .i64 a0_0,.slice A0_1 l0_1.length c0_1],.slice A1 l1.length c1,.slice A2 l2.length c2] rfl (by (try simp only [List.map_toArray,List.map_cons,List.map_nil]); first | done | rfl | (simp only [List.length_drop,List.length_take]; rfl)) ?_; (with_reducible refine (spec_l27Ok.calls k a0_0 _ _ l0_1 _ _ l1 _ _ l2 false _ ?side1 ?side2 ?side3 ?side4 ?side5 ?side6 A4.out).mono ?_); (case side1 => repeat (first | exact (Kd.C_below HR0_1.out HB.out) | (with_reducible refine Kd.C_alloc ?_ _) | (with_reducible refine Kd.C_drewN ?_ _) | (with_reducible refine Kd.C_drew ?_))); (case side2 => exact HC0_1.out); (case side3 => repeat (first | exact (Kd.C_below HR1.out HB.out) | (with_reducible refine Kd.C_alloc ?_ _) | (with_reducible refine Kd.C_drewN ?_ _) | (with_reducible refine Kd.C_drew ?_))); (case side4 => exact HC1.out); (case side5 => repeat (first | exact (Kd.C_below HR2.out HB.out) | (with_reducible refine Kd.C_alloc ?_ _) | (with_reducible refine Kd.C_drewN ?_ _) | (with_reducible refine Kd.C_drew ?_))); (case side6 => exact HC2.out); rintro e w17 ⟨rfl,hb⟩; refine ⟨_,rfl,?_⟩; have n0_:=zy (blk_below (g:=gb392) (o:=.cells #[.int .i64 a0_0,.slice A0_1 l0_1.length c0_1] 25 (0,0)) (by (with_reducible repeat (first | refine blk_drewN ?_ _ | refine blk_drew ?_ | refine blk_alloc ?_ _)); exact BK392.out) hb); have n1_:=zy (below_step (by repeat (first | (with_reducible first | exact HB.out | apply below_alloc | apply pw_below_drewN | apply below_drew1 | refine below_set ?_ GE392.out) | exact HB.out)) hb); clear BK392; clear HB; have BK392:=n0_; have HB:=n1_; clear n0_ n1_; (try clear hb); (try clear hb2); (try clear hk); (try clear hi)))
  go_ret2;exact ⟨_,by first | rfl | (simp [errW_none,errW_some] <;> rfl) | (simp [*,errW_none,errW_some] <;> rfl),Kd.R_V (by first | exact Kd.R_nil _ _ _ w.heap.size _ | exact Kd.N_nil _ _ _ _ _ | exact Kd.V_nil _ _ _ _ _ | exact Kd.Q_nil _ _ _ _ _ | exact Kd.S_nil _ _ _ _ _),by repeat (first | (with_reducible first | exact HB.out | apply below_alloc | apply pw_below_drewN | apply below_drew1 | refine below_set ?_ GE392.out) | exact HB.out)⟩
 subst c5;have H1 : ((spec_ManyAll.f k a0_0 l0_1 l1 l2).bind fun t394 => ((spec_l27Try.f k t394 ([] : List Int) ([] : List Int) 99999).bind fun bt397 => (some (bt397.1,bt397.2)))) = some (r1,r2):=by rw [if_pos rfl] at H; exact H
 clear H;have H:=H1;clear H1;replace H:=Option.bind_eq_some_iff.mp H;obtain ⟨t394,A60,H⟩:=H;replace H : ((spec_l27Try.f k t394 ([] : List Int) ([] : List Int) 99999).bind fun bt397 => (some (bt397.1,bt397.2))) = some (r1,r2):=H;have A6:=zy A60;clear A60;replace H:=Option.bind_eq_some_iff.mp H;obtain ⟨⟨t397,t400⟩,A70,H⟩:=H;replace H : (some (t397,t400)) = some (r1,r2):=H;have A7:=zy A70;clear A70;simp only [Option.some.injEq,Prod.mk.injEq] at H;obtain ⟨rfl,rfl⟩:=H
 go_enter Try.func10,Try.ntmps10
 go_wp2_with (first | ((with_reducible refine gate_dst (N:=3) rfl ?_); refine box_event ?hg (N:=3) ?hd (cs:=#[.int .i64 a0_0,.slice A0_1 l0_1.length c0_1]) (t:=25) ?hr ?_; (case hd => rfl); (case hg => rfl); (case hr => first | (go_simp; done) | (go_simp; rfl)); intro gb392 hg w8 hbox hb; have n0_:=zy (below_step (by repeat (first | (with_reducible first | exact HB.out | apply below_alloc | apply pw_below_drewN | apply below_drew1) | exact HB.out)) hb); have n1_:=zy (hbox); have n2_:=zy ((by rw [hg]; exact (below_size (by repeat (first | (with_reducible first | exact HB.out | apply below_alloc | apply pw_below_drewN | apply below_drew1) | exact HB.out))) : w.heap.size ≤ gb392)); have n3_:=zy ((by rw [hg]; exact (below_size (by repeat (first | (with_reducible first | exact HB.out | apply below_alloc | apply pw_below_drewN | apply below_drew1) | exact HB.out))) : w.heap.size ≤ gb392)); clear HB; have HB:=n0_; have BK392:=n1_; have GW392:=n2_; have GE392:=n3_; clear n0_ n1_ n2_ n3_; clear hb hbox hg; have hcz9_0 : w8.cell? ⟨gb392,0,none⟩ = some (.int .i64 a0_0):=(blk_cell BK392.out 0).trans rfl; have hcz9_1 : w8.cell? ⟨gb392,1,none⟩ = some (.slice A0_1 l0_1.length c0_1):=(blk_cell BK392.out 1).trans rfl; have hfz9_0:=blk_frozen BK392.out 0; have hfz9_1:=blk_frozen BK392.out 1) | ((with_reducible refine gate_callee (f:=35) rfl ?_); refine goesL_ (some 11) rfl rfl Try.func35 (by kernel_rfl) rfl #[.agg #[.int .i64 a0_0,.slice A0_1 l0_1.length c0_1],.slice A1 l1.length c1,.slice A2 l2.length c2] rfl (by (try simp only [List.map_toArray,List.map_cons,List.map_nil]); first | done | rfl | (simp only [List.length_drop,List.length_take]; rfl)) ?_; (with_reducible refine (spec_l27Ok.calls k a0_0 _ _ l0_1 _ _ l1 _ _ l2 true _ ?side1 ?side2 ?side3 ?side4 ?side5 ?side6 A4.out).mono ?_); (case side1 => repeat (first | exact (Kd.C_below HR0_1.out HB.out) | (with_reducible refine Kd.C_alloc ?_ _) | (with_reducible refine Kd.C_drewN ?_ _) | (with_reducible refine Kd.C_drew ?_))); (case side2 => exact HC0_1.out); (case side3 => repeat (first | exact (Kd.C_below HR1.out HB.out) | (with_reducible refine Kd.C_alloc ?_ _) | (with_reducible refine Kd.C_drewN ?_ _) | (with_reducible refine Kd.C_drew ?_))); (case side4 => exact HC1.out); (case side5 => repeat (first | exact (Kd.C_below HR2.out HB.out) | (with_reducible refine Kd.C_alloc ?_ _) | (with_reducible refine Kd.C_drewN ?_ _) | (with_reducible refine Kd.C_drew ?_))); (case side6 => exact HC2.out); rintro e w10 ⟨rfl,hb⟩; refine ⟨_,rfl,?_⟩; have n0_:=zy (blk_below (g:=gb392) (o:=.cells #[.int .i64 a0_0,.slice A0_1 l0_1.length c0_1] 25 (0,0)) (by (with_reducible repeat (first | refine blk_drewN ?_ _ | refine blk_drew ?_ | refine blk_alloc ?_ _)); exact BK392.out) hb); have n1_:=zy (below_step (by repeat (first | (with_reducible first | exact HB.out | apply below_alloc | apply pw_below_drewN | apply below_drew1 | refine below_set ?_ GE392.out) | exact HB.out)) hb); clear BK392; clear HB; have BK392:=n0_; have HB:=n1_; clear n0_ n1_; (try clear hb); (try clear hb2); (try clear hk); (try clear hi); have hcz11_0 : w10.cell? ⟨gb392,0,none⟩ = some (.int .i64 a0_0):=(blk_cell BK392.out 0).trans rfl; have hcz11_1 : w10.cell? ⟨gb392,1,none⟩ = some (.slice A0_1 l0_1.length c0_1):=(blk_cell BK392.out 1).trans rfl; have hfz11_0:=blk_frozen BK392.out 0; have hfz11_1:=blk_frozen BK392.out 1) | ((with_reducible refine gate_callee (f:=37) rfl ?_); refine goesL_ (some 16) rfl rfl Try.func37 (by kernel_rfl) rfl #[.agg #[.int .i64 a0_0,.slice A0_1 l0_1.length c0_1],.slice A1 l1.length c1,.slice A2 l2.length c2] rfl (by (try simp only [List.map_toArray,List.map_cons,List.map_nil]); first | done | rfl | (simp only [List.length_drop,List.length_take]; rfl)) ?_; (with_reducible refine (spec_ManyAll.calls k a0_0 _ _ l0_1 _ _ l1 _ _ l2 t394 _ ?side1 ?side2 ?side3 ?side4 ?side5 ?side6 A6.out).mono ?_); (case side1 => repeat (first | exact (Kd.C_below HR0_1.out HB.out) | (with_reducible refine Kd.C_alloc ?_ _) | (with_reducible refine Kd.C_drewN ?_ _) | (with_reducible refine Kd.C_drew ?_))); (case side2 => exact HC0_1.out); (case side3 => repeat (first | exact (Kd.C_below HR1.out HB.out) | (with_reducible refine Kd.C_alloc ?_ _) | (with_reducible refine Kd.C_drewN ?_ _) | (with_reducible refine Kd.C_drew ?_))); (case side4 => exact HC1.out); (case side5 => repeat (first | exact (Kd.C_below HR2.out HB.out) | (with_reducible refine Kd.C_alloc ?_ _) | (with_reducible refine Kd.C_drewN ?_ _) | (with_reducible refine Kd.C_drew ?_))); (case side6 => exact HC2.out); rintro e w12 ⟨v395,rfl,ho0,hb⟩; refine ⟨_,rfl,?_⟩; have n0_:=zy (Kd.S_lower (Kd.S_newM (M:=fun k_ => (w.heap.size ≤ k_)) ho0 (below_size (by repeat (first | (with_reducible first | exact HB.out | apply below_alloc | apply pw_below_drewN | apply below_drew1 | refine below_set ?_ GE392.out) | exact HB.out))) (fun k_ h_ => h_)) (below_size (by repeat (first | (with_reducible first | exact HB.out | apply below_alloc | apply pw_below_drewN | apply below_drew1 | refine below_set ?_ GE392.out) | exact HB.out)))); have n1_:=zy (blk_below (g:=gb392) (o:=.cells #[.int .i64 a0_0,.slice A0_1 l0_1.length c0_1] 25 (0,0)) (by (with_reducible repeat (first | refine blk_drewN ?_ _ | refine blk_drew ?_ | refine blk_alloc ?_ _)); exact BK392.out) hb); have n2_:=zy (below_step (by repeat (first | (with_reducible first | exact HB.out | apply below_alloc | apply pw_below_drewN | apply below_drew1 | refine below_set ?_ GE392.out) | exact HB.out)) hb); clear BK392; clear HB; have HO396:=n0_; have BK392:=n1_; have HB:=n2_; clear n0_ n1_ n2_; (try clear hb); (try clear hb2); (try clear hk); (try clear hi); (try clear ho0); obtain ⟨Ao13,co13,eo13⟩:=Kd.S_slice HO396.out; subst eo13) | ((with_reducible refine gate_callee (f:=36) rfl ?_); refine goesL_ (some 17) rfl rfl Try.func36 (by kernel_rfl) rfl #[.slice Ao13 t394.length co13,.slice none 0 0,.slice none 0 0,.int .i64 99999] rfl (by (try simp only [List.map_toArray,List.map_cons,List.map_nil]); first | done | rfl | (simp only [List.length_drop,List.length_take]; rfl)) ?_; (refine (spec_l27Try.calls k _ _ t394 _ _ ([] : List Int) (fun k_ => False) _ _ ([] : List Int) 99999 t397 t400 _ ?side1 ?side2 ?side3 ?side4 ?side5 A7.out).mono ?_); (case side1 => repeat (first | exact (Kd.S_reads' HO396.out).2.2 | (with_reducible refine Kd.C_alloc ?_ _) | (with_reducible refine Kd.C_drewN ?_ _) | (with_reducible refine Kd.C_drew ?_))); (case side2 => exact (Kd.S_reads' HO396.out).2.1); (case side3 => exact Kd.C_nil _ _); (case side4 => exact Nat.le_refl _); (case side5 => exact Kd.V_nil _ _ _ _ _); rintro e w14 ⟨v398,rfl,ho0,hb⟩; refine ⟨_,rfl,?_⟩; have n0_:=zy (Kd.S_below (by (with_reducible repeat (first | apply Kd.S_alloc | apply Kd.S_drewN | apply Kd.S_drew)); exact HO396.out) hb); have n1_:=zy (Kd.V_lower (Kd.V_mono (ok':=fun k_ => (w.heap.size ≤ k_) ∧ some k_ ≠ (.slice Ao13 t394.length co13 : Value).ownBlock ∧ k_ ≠ gb392) ho0 (fun k_ hk_ => ⟨Or.elim hk_ (fun hs_ => (hs_).elim) (fun hn_ => (Nat.le_trans (below_size (by repeat (first | (with_reducible first | exact HB.out | apply below_alloc | apply pw_below_drewN | apply below_drew1 | refine below_set ?_ GE392.out) | exact HB.out))) hn_)),Or.elim hk_ (fun hs_ => (hs_).elim) (fun hn_ => (Kd.fresh' (Kd.S_lt (by (with_reducible repeat (first | apply Kd.S_alloc | apply Kd.S_drewN | apply Kd.S_drew)); exact HO396.out)) k_ hn_)),Or.elim hk_ (fun hs_ => (hs_).elim) (fun hn_ => (Kd.freshB (g:=gb392) (o:=.cells #[.int .i64 a0_0,.slice A0_1 l0_1.length c0_1] 25 (0,0)) (by (with_reducible repeat (first | refine blk_drewN ?_ _ | refine blk_drew ?_ | refine blk_alloc ?_ _)); exact BK392.out) k_ hn_))⟩)) (below_size (by repeat (first | (with_reducible first | exact HB.out | apply below_alloc | apply pw_below_drewN | apply below_drew1 | refine below_set ?_ GE392.out) | exact HB.out)))); have n2_:=zy (blk_below (g:=gb392) (o:=.cells #[.int .i64 a0_0,.slice A0_1 l0_1.length c0_1] 25 (0,0)) (by (with_reducible repeat (first | refine blk_drewN ?_ _ | refine blk_drew ?_ | refine blk_alloc ?_ _)); exact BK392.out) hb); have n3_:=zy (below_step (by repeat (first | (with_reducible first | exact HB.out | apply below_alloc | apply pw_below_drewN | apply below_drew1 | refine below_set ?_ GE392.out) | exact HB.out)) hb); clear HO396; clear BK392; clear HB; have HO396:=n0_; have HO399:=n1_; have BK392:=n2_; have HB:=n3_; clear n0_ n1_ n2_ n3_; (try clear hb); (try clear hb2); (try clear hk); (try clear hi); (try clear ho0)))
 go_ret2;exact ⟨_,by first | rfl | (simp [errW_none,errW_some] <;> rfl) | (simp [*,errW_none,errW_some] <;> rfl),by (with_reducible repeat (first | apply Kd.V_alloc | apply Kd.V_drewN | apply Kd.V_drew)); exact Kd.V_mono HO399.out (fun _ hk => hk.1),by repeat (first | (with_reducible first | exact HB.out | apply below_alloc | apply pw_below_drewN | apply below_drew1 | refine below_set ?_ GE392.out) | exact HB.out)⟩
def laws_wkInts.l0 : Nat → List Int → List Int → Int → Option (Bool)
 | 0,_,_,_ => none
 | k + 1,x0,x1,x5 => if x5 < (x0.length : Int) then (if 0 ≤ x5 then (if x5 < (x1.length : Int) then (if (rd x0 x5) = (rd x1 x5) then (laws_wkInts.l0 k x0 x1 (wrap64 (x5 + 1))) else (some false)) else (none)) else (none)) else (some true)
def laws_wkInts.f (k : Nat) (l0 : List Int) (l1 : List Int) : Option (Bool):=if (l0.length : Int) = (l1.length : Int) then (laws_wkInts.l0 k l0 l1 0) else (some false)
set_option maxHeartbeats 8000000 in
set_option maxRecDepth 100000 in
theorem laws_wkInts.calls (k : Nat) (A0 : Option Addr) (c0 : Nat) (l0 : List Int) (A1 : Option Addr) (c1 : Nat) (l1 : List Int) (r : Bool) (w : World) (hr0 : Kd.C (Kd.int .i64) w A0 l0.length l0) (hc0 : l0.length ≤ c0) (hr1 : Kd.C (Kd.int .i64) w A1 l1.length l1) (hc1 : l1.length ≤ c1) (h : laws_wkInts.f k l0 l1 = some r) :
  Calls Try.prog 11 #[.slice A0 l0.length c0,.slice A1 l1.length c1] w fun e w' => e = .returned (.bool r) ∧ Drawn0 w w':=by
 have HR0:=zy hr0;have HC0:=zy hc0;clear hr0 hc0;have HR1:=zy hr1;have HC1:=zy hc1;clear hr1 hc1;have H : (if (l0.length : Int) = (l1.length : Int) then (laws_wkInts.l0 k l0 l1 0) else (some false)) = some r:=h;clear h
 by_cases c3 : (l0.length : Int) = (l1.length : Int)
 case neg =>
  rw [if_neg c3] at H;have c3b0 : ((l0.length : Int) == (l1.length : Int)) = false:=beq_eq_false_iff_ne.mpr c3;have c3b1 : ((l0.length : Int) != (l1.length : Int)) = true:=bne_iff_ne.mpr c3;have c3b2 : (l0.length == l1.length) = false:=by first | simpa using c3 | (simp at c3 ⊢; omega)
  obtain rfl:=Option.some.inj H
  go_enter Try.func11,Try.ntmps11
  go_wp2
  repeat (go_quiet (fail); try go_wp2)
  go_ret;exact ⟨by first | rfl | (simp; done) | (simp [*]; done),by repeat (first | exact Drawn0.refl _ | apply Drawn0.step)⟩
 rw [if_pos c3] at H;have c3b0 : ((l0.length : Int) == (l1.length : Int)) = true:=beq_iff_eq.mpr c3;have c3b1 : ((l0.length : Int) != (l1.length : Int)) = false:=bne_eq_false_iff_eq.mpr c3;have c3b2 : (l0.length == l1.length) = true:=by first | simpa using c3 | (simp at c3 ⊢; omega)
 clear c3;have H':=zy H;clear H
 go_enter Try.func11,Try.ntmps11
 go_wp2
 repeat (go_quiet (fail); try go_wp2)
 go_loopg [5] k (fun kq v5 w' => ∃ (x5_1 : Int),v5 = .int .i64 x5_1 ∧ Aside0 (laws_wkInts.l0 kq l0 l1 x5_1 = some r) ∧ Aside0 (kq ≤ k) ∧ Drawn0 w w')
 case atStart => exact ⟨(0),(by first | rfl | (simp; done) | (simp [*]; done)),H',⟨Nat.le_refl _⟩,by repeat (first | exact Drawn0.refl _ | apply Drawn0.step)⟩
 case round =>
  clear H'
  try clear c1
  try clear p2
  try clear c3
  try clear c3b0
  try clear c3b1
  try clear c3b2
  obtain ⟨x5_1,rfl,HA,HK1,⟨m1,rfl⟩⟩:=hrel;cases gk with
  | zero => exact absurd HA.out (by simp [laws_wkInts.l0])
  | succ k1 =>
   have H:=HA.out;clear HA;simp only [laws_wkInts.l0] at H
   by_cases c4 : x5_1 < (l0.length : Int)
   case neg =>
    rw [if_neg c4] at H;have c4b0 : decide (x5_1 < (l0.length : Int)) = false:=decide_eq_false c4;clear c4;obtain rfl:=Option.some.inj H
    go_wp2
    repeat (go_quiet (fail); try go_wp2)
    go_ret;exact ⟨by first | rfl | (simp; done) | (simp [*]; done),by repeat (first | exact Drawn0.refl _ | apply Drawn0.step)⟩
   rw [if_pos c4] at H;have c4b0 : decide (x5_1 < (l0.length : Int)) = true:=decide_eq_true c4;clear c4
   by_cases c5 : 0 ≤ x5_1
   case neg =>
    rw [if_neg c5] at H;exact absurd H (by simp)
   rw [if_pos c5] at H;have c5b0 : decide (0 ≤ x5_1) = true:=decide_eq_true c5;clear c5
   by_cases c6 : x5_1 < (l1.length : Int)
   case neg =>
    rw [if_neg c6] at H;exact absurd H (by simp)
   rw [if_pos c6] at H;have c6b0 : decide (x5_1 < (l1.length : Int)) = true:=decide_eq_true c6;clear c6
   by_cases c7 : (rd l0 x5_1) = (rd l1 x5_1)
   case neg =>
    rw [if_neg c7] at H;have c7b0 : ((rd l0 x5_1) == (rd l1 x5_1)) = false:=beq_eq_false_iff_ne.mpr c7;have c7b1 : ((rd l0 x5_1) != (rd l1 x5_1)) = true:=bne_iff_ne.mpr c7;obtain rfl:=Option.some.inj H;have p401 : 0 ≤ (x5_1 : Int):=of_decide_eq_true (by first | (with_reducible assumption) | assumption);have q401 : x5_1 < (l0.length : Int):=of_decide_eq_true (by first | (with_reducible assumption) | assumption);obtain ⟨ad401,e401,hx401_0⟩:=Kd.at_int HR0.out x5_1 p401 q401;cases e401;replace p401:=eq_true p401;replace q401:=eq_true q401;have p402 : 0 ≤ (x5_1 : Int):=of_decide_eq_true (by first | (with_reducible assumption) | assumption);have q402 : x5_1 < (l1.length : Int):=of_decide_eq_true (by first | (with_reducible assumption) | assumption);obtain ⟨ad402,e402,hx402_0⟩:=Kd.at_int HR1.out x5_1 p402 q402;cases e402;replace p402:=eq_true p402;replace q402:=eq_true q402
    go_wp2
    repeat (go_quiet (fail); try go_wp2)
    go_ret;exact ⟨by first | rfl | (simp; done) | (simp [*]; done),by repeat (first | exact Drawn0.refl _ | apply Drawn0.step)⟩
   rw [if_pos c7] at H;have c7b0 : ((rd l0 x5_1) == (rd l1 x5_1)) = true:=beq_iff_eq.mpr c7;have c7b1 : ((rd l0 x5_1) != (rd l1 x5_1)) = false:=bne_eq_false_iff_eq.mpr c7;clear c7;have H':=zy H;clear H;have p401 : 0 ≤ (x5_1 : Int):=of_decide_eq_true (by first | (with_reducible assumption) | assumption);have q401 : x5_1 < (l0.length : Int):=of_decide_eq_true (by first | (with_reducible assumption) | assumption);obtain ⟨ad401,e401,hx401_0⟩:=Kd.at_int HR0.out x5_1 p401 q401;cases e401;replace p401:=eq_true p401;replace q401:=eq_true q401;have p402 : 0 ≤ (x5_1 : Int):=of_decide_eq_true (by first | (with_reducible assumption) | assumption);have q402 : x5_1 < (l1.length : Int):=of_decide_eq_true (by first | (with_reducible assumption) | assumption);obtain ⟨ad402,e402,hx402_0⟩:=Kd.at_int HR1.out x5_1 p402 q402;cases e402;replace p402:=eq_true p402;replace q402:=eq_true q402
   go_wp2
   repeat (go_quiet (fail); try go_wp2)
   go_roundg k1
   case measure => have:=HK1.out; omega
   case rel => exact ⟨(wrap64 (x5_1 + 1)),(by first | rfl | (simp; done) | (simp [*]; done)),H',⟨by have:=HK1.out; omega⟩,by repeat (first | exact Drawn0.refl _ | apply Drawn0.step)⟩
def impl_NetBack.f (k : Nat) (a0_0 : Int) (l0_1 : List (S80)) : Option (Int × (List (S80))):=(impl_NetOk.f a0_0 l0_1).bind fun t405 => (if t405 = true then ((impl_Net_back.f k a0_0 l0_1).bind fun bt406 => (some (bt406.1,bt406.2))) else (some (0,([] : List (S80)))))
set_option maxHeartbeats 8000000 in
set_option maxRecDepth 100000 in
theorem impl_NetBack.calls (k : Nat) (a0_0 : Int) (A0_1 : Option Addr) (c0_1 : Nat) (l0_1 : List (S80)) (r1 : Int) (r2 : List (S80)) (w : World) (hr0_1 : Kd.C k80 w A0_1 l0_1.length l0_1) (hc0_1 : l0_1.length ≤ c0_1) (h : impl_NetBack.f k a0_0 l0_1 = some (r1,r2)) :
  Calls Try.prog 12 #[.agg #[.int .i64 a0_0,.slice A0_1 l0_1.length c0_1]] w fun e w' => ∃ v1_ : Value,e = .returned (.agg #[.int .i64 r1,v1_]) ∧ Kd.R k80 80 w' w.heap.size (fun _ => True) v1_ r2 ∧ Below w.heap.size w w':=by
 have hu25:=Try.underlying25;have HR0_1:=zy hr0_1;have HC0_1:=zy hc0_1;clear hr0_1 hc0_1;have HB:=zy (Below.refl w.heap.size w);have H : ((impl_NetOk.f a0_0 l0_1).bind fun t405 => (if t405 = true then ((impl_Net_back.f k a0_0 l0_1).bind fun bt406 => (some (bt406.1,bt406.2))) else (some (0,([] : List (S80)))))) = some (r1,r2):=h;clear h;replace H:=Option.bind_eq_some_iff.mp H;obtain ⟨t405,A20,H⟩:=H;replace H : (if t405 = true then ((impl_Net_back.f k a0_0 l0_1).bind fun bt406 => (some (bt406.1,bt406.2))) else (some (0,([] : List (S80))))) = some (r1,r2):=H;have A2:=zy A20;clear A20
 by_cases c3 : t405 = true
 case neg =>
  replace c3:=Bool.eq_false_iff.mpr c3;subst c3;have H1 : (some (0,([] : List (S80)))) = some (r1,r2):=by rw [if_neg (show ¬ (false = true) by decide)] at H; exact H
  clear H;have H:=H1;clear H1;simp only [Option.some.injEq,Prod.mk.injEq] at H;obtain ⟨rfl,rfl⟩:=H
  go_enter Try.func12,Try.ntmps12
  go_wp2_with (first | ((with_reducible refine gate_dst (N:=1) rfl ?_); refine box_event ?hg (N:=1) ?hd (cs:=#[.int .i64 a0_0,.slice A0_1 l0_1.length c0_1]) (t:=25) ?hr ?_; (case hd => rfl); (case hg => rfl); (case hr => first | (go_simp; done) | (go_simp; rfl)); intro gb403 hg w14 hbox hb; have n0_:=zy (below_step (by repeat (first | (with_reducible first | exact HB.out | apply below_alloc | apply pw_below_drewN | apply below_drew1) | exact HB.out)) hb); have n1_:=zy (hbox); have n2_:=zy ((by rw [hg]; exact (below_size (by repeat (first | (with_reducible first | exact HB.out | apply below_alloc | apply pw_below_drewN | apply below_drew1) | exact HB.out))) : w.heap.size ≤ gb403)); have n3_:=zy ((by rw [hg]; exact (below_size (by repeat (first | (with_reducible first | exact HB.out | apply below_alloc | apply pw_below_drewN | apply below_drew1) | exact HB.out))) : w.heap.size ≤ gb403)); clear HB; have HB:=n0_; have BK403:=n1_; have GW403:=n2_; have GE403:=n3_; clear n0_ n1_ n2_ n3_; clear hb hbox hg) | ((with_reducible refine gate_dst (N:=2) rfl ?_); refine box_event ?hg (N:=2) ?hd (cs:=#[.int .i64 0,.slice none 0 0]) (t:=25) ?hr ?_; (case hd => rfl); (case hg => rfl); (case hr => first | (go_simp; done) | (go_simp; rfl)); intro gb404 hg w15 hbox hb; have n0_:=zy (blk_below (g:=gb403) (o:=.cells #[.int .i64 a0_0,.slice A0_1 l0_1.length c0_1] 25 (0,0)) (by (with_reducible repeat (first | refine blk_drewN ?_ _ | refine blk_drew ?_ | refine blk_alloc ?_ _)); exact BK403.out) hb); have n1_:=zy (below_step (by repeat (first | (with_reducible first | exact HB.out | apply below_alloc | apply pw_below_drewN | apply below_drew1 | refine below_set ?_ GE403.out) | exact HB.out)) hb); have n2_:=zy (hbox); have n3_:=zy ((by rw [hg]; exact (below_size (by repeat (first | (with_reducible first | exact HB.out | apply below_alloc | apply pw_below_drewN | apply below_drew1 | refine below_set ?_ GE403.out) | exact HB.out))) : w.heap.size ≤ gb404)); have n4_:=zy ((by rw [hg]; exact (below_size (by repeat (first | (with_reducible first | exact HB.out | apply below_alloc | apply pw_below_drewN | apply below_drew1 | refine below_set ?_ GE403.out) | exact HB.out))) : w.heap.size ≤ gb404)); have n5_:=zy ((by rw [hg]; exact Nat.ne_of_lt (blk_lt (g:=gb403) (o:=.cells #[.int .i64 a0_0,.slice A0_1 l0_1.length c0_1] 25 (0,0)) (by (with_reducible repeat (first | refine blk_drewN ?_ _ | refine blk_drew ?_ | refine blk_alloc ?_ _)); exact BK403.out)) : gb403 ≠ gb404)); have n6_:=zy ((by rw [hg]; exact Nat.ne_of_gt (blk_lt (g:=gb403) (o:=.cells #[.int .i64 a0_0,.slice A0_1 l0_1.length c0_1] 25 (0,0)) (by (with_reducible repeat (first | refine blk_drewN ?_ _ | refine blk_drew ?_ | refine blk_alloc ?_ _)); exact BK403.out)) : gb404 ≠ gb403)); clear BK403; clear HB; have BK403:=n0_; have HB:=n1_; have BK404:=n2_; have GW404:=n3_; have GE404:=n4_; have NB403_404:=n5_; have NB404_403:=n6_; clear n0_ n1_ n2_ n3_ n4_ n5_ n6_; clear hb hbox hg; have hnb16:=NB403_404.out; have hnc16:=NB404_403.out; have hcz17_0 : w15.cell? ⟨gb403,0,none⟩ = some (.int .i64 a0_0):=(blk_cell BK403.out 0).trans rfl; have hcz17_1 : w15.cell? ⟨gb403,1,none⟩ = some (.slice A0_1 l0_1.length c0_1):=(blk_cell BK403.out 1).trans rfl; have hfz17_0:=blk_frozen BK403.out 0; have hfz17_1:=blk_frozen BK403.out 1) | ((with_reducible refine gate_callee (f:=38) rfl ?_); refine goesL_ (some 4) rfl rfl Try.func38 (by kernel_rfl) rfl #[.agg #[.int .i64 a0_0,.slice A0_1 l0_1.length c0_1]] rfl (by (try simp only [List.map_toArray,List.map_cons,List.map_nil]); first | done | rfl | (simp only [List.length_drop,List.length_take]; rfl)) ?_; (with_reducible refine (impl_NetOk.calls a0_0 _ _ l0_1 false _ ?side1 ?side2 A2.out).mono ?_); (case side1 => repeat (first | exact (Kd.C_below HR0_1.out HB.out) | (with_reducible refine Kd.C_alloc ?_ _) | (with_reducible refine Kd.C_drewN ?_ _) | (with_reducible refine Kd.C_drew ?_))); (case side2 => exact HC0_1.out); rintro e w18 ⟨rfl,hb⟩; refine ⟨_,rfl,?_⟩; have n0_:=zy (blk_below (g:=gb403) (o:=.cells #[.int .i64 a0_0,.slice A0_1 l0_1.length c0_1] 25 (0,0)) (by (with_reducible repeat (first | refine blk_drewN ?_ _ | refine blk_drew ?_ | refine blk_alloc ?_ _)); exact BK403.out) hb); have n1_:=zy (blk_below (g:=gb404) (o:=.cells #[.int .i64 0,.slice none 0 0] 25 (0,0)) (by (with_reducible repeat (first | refine blk_drewN ?_ _ | refine blk_drew ?_ | refine blk_alloc ?_ _)); exact BK404.out) hb); have n2_:=zy (below_step (by repeat (first | (with_reducible first | exact HB.out | apply below_alloc | apply pw_below_drewN | apply below_drew1 | refine below_set ?_ GE403.out | refine below_set ?_ GE404.out) | exact HB.out)) hb); clear BK403; clear BK404; clear HB; have BK403:=n0_; have BK404:=n1_; have HB:=n2_; clear n0_ n1_ n2_; (try clear hb); (try clear hb2); (try clear hk); (try clear hi); have hcz19_0 : w18.cell? ⟨gb404,0,none⟩ = some (.int .i64 0):=(blk_cell BK404.out 0).trans rfl; have hcz19_1 : w18.cell? ⟨gb404,1,none⟩ = some (.slice none 0 0):=(blk_cell BK404.out 1).trans rfl; have hfz19_0:=blk_frozen BK404.out 0; have hfz19_1:=blk_frozen BK404.out 1))
  refine bodyPost_ret (results_cell_row rfl _ _ gb404 25 #[.int .i64 0,.slice none 0 0] (0,0) _ rfl (by (with_reducible repeat (first | refine blk_drewN ?_ _ | refine blk_drew ?_ | refine blk_alloc ?_ _)); refine blk_put (cs:=#[.int .i64 0,.slice none 0 0]) ?_ 1 _ rfl; (with_reducible repeat (first | refine blk_drewN ?_ _ | refine blk_drew ?_ | refine blk_alloc ?_ _)); refine blk_put (cs:=#[.int .i64 0,.slice none 0 0]) ?_ 0 _ rfl; (with_reducible repeat (first | refine blk_drewN ?_ _ | refine blk_drew ?_ | refine blk_alloc ?_ _)); exact BK404.out) Try.underlying25 rfl (by kernel_rfl)) rfl ?_;exact ⟨_,by first | rfl | (simp [errW_none,errW_some] <;> rfl) | (simp [*,errW_none,errW_some] <;> rfl),by first | exact Kd.R_nil _ _ _ _ _ | exact Kd.N_nil _ _ _ _ _ | exact Kd.V_nil _ _ _ _ _ | exact Kd.Q_nil _ _ _ _ _ | exact Kd.S_nil _ _ _ _ _,by repeat (first | (with_reducible first | exact HB.out | apply below_alloc | apply pw_below_drewN | apply below_drew1 | refine below_set ?_ GE403.out | refine below_set ?_ GE404.out) | exact HB.out)⟩
 subst c3;have H1 : ((impl_Net_back.f k a0_0 l0_1).bind fun bt406 => (some (bt406.1,bt406.2))) = some (r1,r2):=by rw [if_pos rfl] at H; exact H
 clear H;have H:=H1;clear H1;replace H:=Option.bind_eq_some_iff.mp H;obtain ⟨⟨t406,t407⟩,A40,H⟩:=H;replace H : (some (t406,t407)) = some (r1,r2):=H;have A4:=zy A40;clear A40;simp only [Option.some.injEq,Prod.mk.injEq] at H;obtain ⟨rfl,rfl⟩:=H
 go_enter Try.func12,Try.ntmps12
 go_wp2_with (first | ((with_reducible refine gate_dst (N:=1) rfl ?_); refine box_event ?hg (N:=1) ?hd (cs:=#[.int .i64 a0_0,.slice A0_1 l0_1.length c0_1]) (t:=25) ?hr ?_; (case hd => rfl); (case hg => rfl); (case hr => first | (go_simp; done) | (go_simp; rfl)); intro gb403 hg w5 hbox hb; have n0_:=zy (below_step (by repeat (first | (with_reducible first | exact HB.out | apply below_alloc | apply pw_below_drewN | apply below_drew1) | exact HB.out)) hb); have n1_:=zy (hbox); have n2_:=zy ((by rw [hg]; exact (below_size (by repeat (first | (with_reducible first | exact HB.out | apply below_alloc | apply pw_below_drewN | apply below_drew1) | exact HB.out))) : w.heap.size ≤ gb403)); have n3_:=zy ((by rw [hg]; exact (below_size (by repeat (first | (with_reducible first | exact HB.out | apply below_alloc | apply pw_below_drewN | apply below_drew1) | exact HB.out))) : w.heap.size ≤ gb403)); clear HB; have HB:=n0_; have BK403:=n1_; have GW403:=n2_; have GE403:=n3_; clear n0_ n1_ n2_ n3_; clear hb hbox hg) | ((with_reducible refine gate_dst (N:=2) rfl ?_); refine box_event ?hg (N:=2) ?hd (cs:=#[.int .i64 0,.slice none 0 0]) (t:=25) ?hr ?_; (case hd => rfl); (case hg => rfl); (case hr => first | (go_simp; done) | (go_simp; rfl)); intro gb404 hg w6 hbox hb; have n0_:=zy (blk_below (g:=gb403) (o:=.cells #[.int .i64 a0_0,.slice A0_1 l0_1.length c0_1] 25 (0,0)) (by (with_reducible repeat (first | refine blk_drewN ?_ _ | refine blk_drew ?_ | refine blk_alloc ?_ _)); exact BK403.out) hb); have n1_:=zy (below_step (by repeat (first | (with_reducible first | exact HB.out | apply below_alloc | apply pw_below_drewN | apply below_drew1 | refine below_set ?_ GE403.out) | exact HB.out)) hb); have n2_:=zy (hbox); have n3_:=zy ((by rw [hg]; exact (below_size (by repeat (first | (with_reducible first | exact HB.out | apply below_alloc | apply pw_below_drewN | apply below_drew1 | refine below_set ?_ GE403.out) | exact HB.out))) : w.heap.size ≤ gb404)); have n4_:=zy ((by rw [hg]; exact (below_size (by repeat (first | (with_reducible first | exact HB.out | apply below_alloc | apply pw_below_drewN | apply below_drew1 | refine below_set ?_ GE403.out) | exact HB.out))) : w.heap.size ≤ gb404)); have n5_:=zy ((by rw [hg]; exact Nat.ne_of_lt (blk_lt (g:=gb403) (o:=.cells #[.int .i64 a0_0,.slice A0_1 l0_1.length c0_1] 25 (0,0)) (by (with_reducible repeat (first | refine blk_drewN ?_ _ | refine blk_drew ?_ | refine blk_alloc ?_ _)); exact BK403.out)) : gb403 ≠ gb404)); have n6_:=zy ((by rw [hg]; exact Nat.ne_of_gt (blk_lt (g:=gb403) (o:=.cells #[.int .i64 a0_0,.slice A0_1 l0_1.length c0_1] 25 (0,0)) (by (with_reducible repeat (first | refine blk_drewN ?_ _ | refine blk_drew ?_ | refine blk_alloc ?_ _)); exact BK403.out)) : gb404 ≠ gb403)); clear BK403; clear HB; have BK403:=n0_; have HB:=n1_; have BK404:=n2_; have GW404:=n3_; have GE404:=n4_; have NB403_404:=n5_; have NB404_403:=n6_; clear n0_ n1_ n2_ n3_ n4_ n5_ n6_; clear hb hbox hg; have hnb7:=NB403_404.out; have hnc7:=NB404_403.out; have hcz8_0 : w6.cell? ⟨gb403,0,none⟩ = some (.int .i64 a0_0):=(blk_cell BK403.out 0).trans rfl; have hcz8_1 : w6.cell? ⟨gb403,1,none⟩ = some (.slice A0_1 l0_1.length c0_1):=(blk_cell BK403.out 1).trans rfl; have hfz8_0:=blk_frozen BK403.out 0; have hfz8_1:=blk_frozen BK403.out 1) | ((with_reducible refine gate_callee (f:=38) rfl ?_); refine goesL_ (some 4) rfl rfl Try.func38 (by kernel_rfl) rfl #[.agg #[.int .i64 a0_0,.slice A0_1 l0_1.length c0_1]] rfl (by (try simp only [List.map_toArray,List.map_cons,List.map_nil]); first | done | rfl | (simp only [List.length_drop,List.length_take]; rfl)) ?_; (with_reducible refine (impl_NetOk.calls a0_0 _ _ l0_1 true _ ?side1 ?side2 A2.out).mono ?_); (case side1 => repeat (first | exact (Kd.C_below HR0_1.out HB.out) | (with_reducible refine Kd.C_alloc ?_ _) | (with_reducible refine Kd.C_drewN ?_ _) | (with_reducible refine Kd.C_drew ?_))); (case side2 => exact HC0_1.out); rintro e w9 ⟨rfl,hb⟩; refine ⟨_,rfl,?_⟩; have n0_:=zy (blk_below (g:=gb403) (o:=.cells #[.int .i64 a0_0,.slice A0_1 l0_1.length c0_1] 25 (0,0)) (by (with_reducible repeat (first | refine blk_drewN ?_ _ | refine blk_drew ?_ | refine blk_alloc ?_ _)); exact BK403.out) hb); have n1_:=zy (blk_below (g:=gb404) (o:=.cells #[.int .i64 0,.slice none 0 0] 25 (0,0)) (by (with_reducible repeat (first | refine blk_drewN ?_ _ | refine blk_drew ?_ | refine blk_alloc ?_ _)); exact BK404.out) hb); have n2_:=zy (below_step (by repeat (first | (with_reducible first | exact HB.out | apply below_alloc | apply pw_below_drewN | apply below_drew1 | refine below_set ?_ GE403.out | refine below_set ?_ GE404.out) | exact HB.out)) hb); clear BK403; clear BK404; clear HB; have BK403:=n0_; have BK404:=n1_; have HB:=n2_; clear n0_ n1_ n2_; (try clear hb); (try clear hb2); (try clear hk); (try clear hi); have hcz10_0 : w9.cell? ⟨gb403,0,none⟩ = some (.int .i64 a0_0):=(blk_cell BK403.out 0).trans rfl; have hcz10_1 : w9.cell? ⟨gb403,1,none⟩ = some (.slice A0_1 l0_1.length c0_1):=(blk_cell BK403.out 1).trans rfl; have hfz10_0:=blk_frozen BK403.out 0; have hfz10_1:=blk_frozen BK403.out 1) | ((with_reducible refine gate_callee (f:=39) rfl ?_); refine goesL_ (some 8) rfl rfl Try.func39 (by kernel_rfl) rfl #[.agg #[.int .i64 a0_0,.slice A0_1 l0_1.length c0_1]] rfl (by (try simp only [List.map_toArray,List.map_cons,List.map_nil]); first | done | rfl | (simp only [List.length_drop,List.length_take]; rfl)) ?_; (with_reducible refine (impl_Net_back.calls k a0_0 _ _ l0_1 t406 t407 _ ?side1 ?side2 A4.out).mono ?_); (case side1 => repeat (first | exact (Kd.C_below HR0_1.out HB.out) | (with_reducible refine Kd.C_alloc ?_ _) | (with_reducible refine Kd.C_drewN ?_ _) | (with_reducible refine Kd.C_drew ?_))); (case side2 => exact HC0_1.out); rintro e w11 ⟨v408,rfl,ho0,hb⟩; refine ⟨_,rfl,?_⟩; have n0_:=zy (Kd.R_lower ho0 (below_size (by repeat (first | (with_reducible first | exact HB.out | apply below_alloc | apply pw_below_drewN | apply below_drew1 | refine below_set ?_ GE403.out | refine below_set ?_ GE404.out) | exact HB.out)))); have n1_:=zy (blk_below (g:=gb403) (o:=.cells #[.int .i64 a0_0,.slice A0_1 l0_1.length c0_1] 25 (0,0)) (by (with_reducible repeat (first | refine blk_drewN ?_ _ | refine blk_drew ?_ | refine blk_alloc ?_ _)); exact BK403.out) hb); have n2_:=zy (blk_below (g:=gb404) (o:=.cells #[.int .i64 0,.slice none 0 0] 25 (0,0)) (by (with_reducible repeat (first | refine blk_drewN ?_ _ | refine blk_drew ?_ | refine blk_alloc ?_ _)); exact BK404.out) hb); have n3_:=zy (below_step (by repeat (first | (with_reducible first | exact HB.out | apply below_alloc | apply pw_below_drewN | apply below_drew1 | refine below_set ?_ GE403.out | refine below_set ?_ GE404.out) | exact HB.out)) hb); clear BK403; clear BK404; clear HB; have HO409:=n0_; have BK403:=n1_; have BK404:=n2_; have HB:=n3_; clear n0_ n1_ n2_ n3_; (try clear hb); (try clear hb2); (try clear hk); (try clear hi); (try clear ho0); have hcz12_0 : w11.cell? ⟨gb404,0,none⟩ = some (.int .i64 0):=(blk_cell BK404.out 0).trans rfl; have hcz12_1 : w11.cell? ⟨gb404,1,none⟩ = some (.slice none 0 0):=(blk_cell BK404.out 1).trans rfl; have hfz12_0:=blk_frozen BK404.out 0; have hfz12_1:=blk_frozen BK404.out 1; obtain ⟨Ao13,co13,eo13⟩:=Kd.R_slice HO409.out; subst eo13))
 refine bodyPost_ret (results_cell_row rfl _ _ gb404 25 #[.int .i64 t406,.slice Ao13 t407.length co13] (0,0) _ rfl (by (with_reducible repeat (first | refine blk_drewN ?_ _ | refine blk_drew ?_ | refine blk_alloc ?_ _)); refine blk_put (cs:=#[.int .i64 t406,.slice none 0 0]) ?_ 1 _ rfl; (with_reducible repeat (first | refine blk_drewN ?_ _ | refine blk_drew ?_ | refine blk_alloc ?_ _)); refine blk_put (cs:=#[.int .i64 0,.slice none 0 0]) ?_ 0 _ rfl; (with_reducible repeat (first | refine blk_drewN ?_ _ | refine blk_drew ?_ | refine blk_alloc ?_ _)); exact BK404.out) Try.underlying25 rfl (by kernel_rfl)) rfl ?_;exact ⟨_,by first | rfl | (simp [errW_none,errW_some] <;> rfl) | (simp [*,errW_none,errW_some] <;> rfl),by (with_reducible repeat (first | apply Kd.R_alloc | apply Kd.R_drewN | apply Kd.R_drew)); exact Kd.R_mono (Kd.R_far (p:=⟨gb404,1,none⟩) (Kd.R_far (p:=⟨gb404,0,none⟩) (Kd.R_types HO409.out BK404.out (by decide)) (fun _ hk => hk.2) (.int .i64 t406)) (fun _ hk => hk.2) (.slice Ao13 t407.length co13)) (fun _ hk => trivial),by repeat (first | (with_reducible first | exact HB.out | apply below_alloc | apply pw_below_drewN | apply below_drew1 | refine below_set ?_ GE403.out | refine below_set ?_ GE404.out) | exact HB.out)⟩
def laws_FnJobAt.j0 : Nat → List Int → List Int → List Int → Int → List Int → Int → Bool → Int → List (S80) → Option (Bool)
 | 0,_,_,_,_,_,_,_,_,_ => none
 | k + 1,x4,x5,x6,x7,x8,x9,x49,x421000,x421001 => if x49 = true then (if x7 = x9 then ((laws_wkInts.f k x6 x8).bind fun t430 => (some t430)) else (some false)) else ((impl_JobBest.f k x421000 x421001 x4 x4).bind fun bt431 => ((impl_NetBack.f k x421000 x421001).bind fun bt435 => ((impl_JobBest.f k bt435.1 bt435.2 x5 x4).bind fun bt439 => (if bt431.2 = 0 then (some (bt439.2 == x7)) else (some false)))))
def laws_FnJobAt.f (k : Nat) (l0 : List Int) : Option (Bool):=if (l0.length : Int) > 1048576 then (some true) else ((spec_DrawJobBest.f k l0).bind fun bt410 => ((impl_JobBest.f k bt410.1 bt410.2.1 bt410.2.2.1 bt410.2.2.2).bind fun bt421 => ((spec_JobBest.f k bt410.1 bt410.2.1 bt410.2.2.1 bt410.2.2.2).bind fun bt425 => (if bt421.2 = bt425.2 then ((laws_wkInts.f k bt421.1 bt425.1).bind fun t429 => (if t429 = true then (laws_FnJobAt.j0 k bt410.2.2.1 bt410.2.2.2 bt421.1 bt421.2 bt425.1 bt425.2 (decide (bt421.2 < 0)) bt410.1 bt410.2.1) else (laws_FnJobAt.j0 k bt410.2.2.1 bt410.2.2.2 bt421.1 bt421.2 bt425.1 bt425.2 true bt410.1 bt410.2.1))) else (laws_FnJobAt.j0 k bt410.2.2.1 bt410.2.2.2 bt421.1 bt421.2 bt425.1 bt425.2 true bt410.1 bt410.2.1)))))
set_option maxHeartbeats 8000000 in
set_option maxRecDepth 100000 in
theorem laws_FnJobAt.calls (k : Nat) (A0 : Option Addr) (c0 : Nat) (l0 : List Int) (r : Bool) (w : World) (hr0 : Kd.C (Kd.int .u8) w A0 l0.length l0) (hc0 : l0.length ≤ c0) (h : laws_FnJobAt.f k l0 = some r) :
  Calls Try.prog 3 #[.slice A0 l0.length c0] w fun e w' => e = .returned (.bool r) ∧ Below w.heap.size w w':=by
 have hu25:=Try.underlying25;have HR0:=zy hr0;have HC0:=zy hc0;clear hr0 hc0;have HB:=zy (Below.refl w.heap.size w);have H : (if (l0.length : Int) > 1048576 then (some true) else ((spec_DrawJobBest.f k l0).bind fun bt410 => ((impl_JobBest.f k bt410.1 bt410.2.1 bt410.2.2.1 bt410.2.2.2).bind fun bt421 => ((spec_JobBest.f k bt410.1 bt410.2.1 bt410.2.2.1 bt410.2.2.2).bind fun bt425 => (if bt421.2 = bt425.2 then ((laws_wkInts.f k bt421.1 bt425.1).bind fun t429 => (if t429 = true then (laws_FnJobAt.j0 k bt410.2.2.1 bt410.2.2.2 bt421.1 bt421.2 bt425.1 bt425.2 (decide (bt421.2 < 0)) bt410.1 bt410.2.1) else (laws_FnJobAt.j0 k bt410.2.2.1 bt410.2.2.2 bt421.1 bt421.2 bt425.1 bt425.2 true bt410.1 bt410.2.1))) else (laws_FnJobAt.j0 k bt410.2.2.1 bt410.2.2.2 bt421.1 bt421.2 bt425.1 bt425.2 true bt410.1 bt410.2.1)))))) = some r:=h;clear h
 by_cases c2 : (l0.length : Int) > 1048576
 case pos =>
  rw [if_pos c2] at H;have c2b0 : decide (1048576 < (l0.length : Int)) = true:=decide_eq_true c2;have c2b1 : decide (1048576 < l0.length) = true:=decide_eq_true (by omega);clear c2;obtain rfl:=Option.some.inj H
  go_enter Try.func3,Try.ntmps3
  go_wp2
  go_ret;exact ⟨by first | rfl | (simp [errW_none,errW_some] <;> rfl) | (simp [*,errW_none,errW_some] <;> rfl),by repeat (first | (with_reducible first | exact HB.out | apply below_alloc | apply pw_below_drewN | apply below_drew1) | exact HB.out)⟩
 rw [if_neg c2] at H;have c2b0 : decide (1048576 < (l0.length : Int)) = false:=decide_eq_false c2;have c2b1 : decide (1048576 < l0.length) = false:=decide_eq_false (by omega);clear c2;replace H:=Option.bind_eq_some_iff.mp H;obtain ⟨⟨t410,t411,t414,t417⟩,A30,H⟩:=H;replace H : ((impl_JobBest.f k t410 t411 t414 t417).bind fun bt421 => ((spec_JobBest.f k t410 t411 t414 t417).bind fun bt425 => (if bt421.2 = bt425.2 then ((laws_wkInts.f k bt421.1 bt425.1).bind fun t429 => (if t429 = true then (laws_FnJobAt.j0 k t414 t417 bt421.1 bt421.2 bt425.1 bt425.2 (decide (bt421.2 < 0)) t410 t411) else (laws_FnJobAt.j0 k t414 t417 bt421.1 bt421.2 bt425.1 bt425.2 true t410 t411))) else (laws_FnJobAt.j0 k t414 t417 bt421.1 bt421.2 bt425.1 bt425.2 true t410 t411)))) = some r:=H;have A3:=zy A30;clear A30;replace H:=Option.bind_eq_some_iff.mp H;obtain ⟨⟨t421,t424⟩,A40,H⟩:=H;replace H : ((spec_JobBest.f k t410 t411 t414 t417).bind fun bt425 => (if t424 = bt425.2 then ((laws_wkInts.f k t421 bt425.1).bind fun t429 => (if t429 = true then (laws_FnJobAt.j0 k t414 t417 t421 t424 bt425.1 bt425.2 (decide (t424 < 0)) t410 t411) else (laws_FnJobAt.j0 k t414 t417 t421 t424 bt425.1 bt425.2 true t410 t411))) else (laws_FnJobAt.j0 k t414 t417 t421 t424 bt425.1 bt425.2 true t410 t411))) = some r:=H;have A4:=zy A40;clear A40;replace H:=Option.bind_eq_some_iff.mp H;obtain ⟨⟨t425,t428⟩,A50,H⟩:=H;replace H : (if t424 = t428 then ((laws_wkInts.f k t421 t425).bind fun t429 => (if t429 = true then (laws_FnJobAt.j0 k t414 t417 t421 t424 t425 t428 (decide (t424 < 0)) t410 t411) else (laws_FnJobAt.j0 k t414 t417 t421 t424 t425 t428 true t410 t411))) else (laws_FnJobAt.j0 k t414 t417 t421 t424 t425 t428 true t410 t411)) = some r:=H;have A5:=zy A50;clear A50;have HC6:=zy H;clear H
 go_enter Try.func3,Try.ntmps3
 go_upto_region 6 with (first | ((with_reducible refine gate_callee (f:=8) rfl ?_); refine goesL_ (some 19) rfl rfl Try.func8 (by kernel_rfl) rfl #[.slice A0 l0.length c0] rfl (by (try simp only [List.map_toArray,List.map_cons,List.map_nil]); first | done | rfl | (simp only [List.length_drop,List.length_take]; rfl)) ?_; (with_reducible refine (spec_DrawJobBest.calls k _ _ l0 t410 t411 t414 t417 _ ?side1 ?side2 A3.out).mono ?_); (case side1 => repeat (first | exact HR0.out | (with_reducible refine Kd.C_alloc ?_ _) | (with_reducible refine Kd.C_drewN ?_ _) | (with_reducible refine Kd.C_drew ?_))); (case side2 => exact HC0.out); rintro e w7 ⟨v412,v415,v418,rfl,ho0,ho1,ho2,hb⟩; refine ⟨_,rfl,?_⟩; have n0_:=zy (Kd.R_lower ho0 (below_size (by repeat (first | (with_reducible first | exact HB.out | apply below_alloc | apply pw_below_drewN | apply below_drew1) | exact HB.out)))); have n1_:=zy (Kd.R_lower ho1 (below_size (by repeat (first | (with_reducible first | exact HB.out | apply below_alloc | apply pw_below_drewN | apply below_drew1) | exact HB.out)))); have n2_:=zy (Kd.R_lower ho2 (below_size (by repeat (first | (with_reducible first | exact HB.out | apply below_alloc | apply pw_below_drewN | apply below_drew1) | exact HB.out)))); have n3_:=zy (below_step (by repeat (first | (with_reducible first | exact HB.out | apply below_alloc | apply pw_below_drewN | apply below_drew1) | exact HB.out)) hb); clear HB; have HO413:=n0_; have HO416:=n1_; have HO419:=n2_; have HB:=n3_; clear n0_ n1_ n2_ n3_; (try clear hb); (try clear hb2); (try clear hk); (try clear hi); (try clear ho0); (try clear ho1); (try clear ho2)) | ((with_reducible refine gate_dst (N:=3) rfl ?_); refine box_event ?hg (N:=3) ?hd (cs:=#[.int .i64 0,.slice none 0 0]) (t:=25) ?hr ?_; (case hd => rfl); (case hg => rfl); (case hr => first | (go_simp; done) | (go_simp; rfl)); intro gb420 hg w8 hbox hb; have n0_:=zy (Kd.R_below (by (with_reducible repeat (first | apply Kd.R_alloc | apply Kd.R_drewN | apply Kd.R_drew)); exact HO413.out) hb); have n1_:=zy (Kd.R_below (by (with_reducible repeat (first | apply Kd.R_alloc | apply Kd.R_drewN | apply Kd.R_drew)); exact HO416.out) hb); have n2_:=zy (Kd.R_below (by (with_reducible repeat (first | apply Kd.R_alloc | apply Kd.R_drewN | apply Kd.R_drew)); exact HO419.out) hb); have n3_:=zy (below_step (by repeat (first | (with_reducible first | exact HB.out | apply below_alloc | apply pw_below_drewN | apply below_drew1) | exact HB.out)) hb); have n4_:=zy (hbox); have n5_:=zy ((by rw [hg]; exact (below_size (by repeat (first | (with_reducible first | exact HB.out | apply below_alloc | apply pw_below_drewN | apply below_drew1) | exact HB.out))) : w.heap.size ≤ gb420)); have n6_:=zy ((by rw [hg]; exact (below_size (by repeat (first | (with_reducible first | exact HB.out | apply below_alloc | apply pw_below_drewN | apply below_drew1) | exact HB.out))) : w.heap.size ≤ gb420)); clear HO413; clear HO416; clear HO419; clear HB; have HO413:=n0_; have HO416:=n1_; have HO419:=n2_; have HB:=n3_; have BK420:=n4_; have GW420:=n5_; have GE420:=n6_; clear n0_ n1_ n2_ n3_ n4_ n5_ n6_; clear hb hbox hg; have hcz9_0 : w8.cell? ⟨gb420,0,none⟩ = some (.int .i64 0):=(blk_cell BK420.out 0).trans rfl; have hcz9_1 : w8.cell? ⟨gb420,1,none⟩ = some (.slice none 0 0):=(blk_cell BK420.out 1).trans rfl; have hfz9_0:=blk_frozen BK420.out 0; have hfz9_1:=blk_frozen BK420.out 1; obtain ⟨Ao10,co10,eo10⟩:=Kd.R_slice HO413.out; subst eo10; obtain ⟨Ao11,co11,eo11⟩:=Kd.R_slice HO416.out; subst eo11; obtain ⟨Ao12,co12,eo12⟩:=Kd.R_slice HO419.out; subst eo12) | ((with_reducible refine gate_callee (f:=9) rfl ?_); refine goesL_ (some 27) rfl rfl Try.func9 (by kernel_rfl) rfl #[.agg #[.int .i64 t410,.slice Ao10 t411.length co10],.slice Ao11 t414.length co11,.slice Ao12 t417.length co12] rfl (by (try simp only [List.map_toArray,List.map_cons,List.map_nil]); first | done | rfl | (simp only [List.length_drop,List.length_take]; rfl)) ?_; (with_reducible refine (impl_JobBest.calls k t410 _ _ t411 _ _ t414 _ _ t417 t421 t424 _ ?side1 ?side2 ?side3 ?side4 ?side5 ?side6 A4.out).mono ?_); (case side1 => refine (Kd.R_reads' (e:=80) (base:=w.heap.size) (ok:=fun k_ => True) (n:=t411.length) (c:=co10) ?_).2.2; exact (by (with_reducible repeat (first | apply Kd.R_alloc | apply Kd.R_drewN | apply Kd.R_drew)); exact (Kd.R_mono (Kd.R_far (p:=⟨gb420,1,none⟩) (Kd.R_far (p:=⟨gb420,0,none⟩) (Kd.R_types HO413.out BK420.out (by decide)) (fun _ hk => hk.2) (.int .i64 t410)) (fun _ hk => hk.2) (.slice Ao10 t411.length co10)) (fun _ h_ => h_.1)))); (case side2 => exact (Kd.R_reads' HO413.out).2.1); (case side3 => refine (Kd.R_reads' (e:=3) (base:=w.heap.size) (ok:=fun k_ => some k_ ≠ (.slice Ao12 t417.length co12 : Value).ownBlock) (n:=t414.length) (c:=co11) ?_).2.2; exact (by (with_reducible repeat (first | apply Kd.R_alloc | apply Kd.R_drewN | apply Kd.R_drew)); exact (Kd.R_mono (Kd.R_far (p:=⟨gb420,1,none⟩) (Kd.R_far (p:=⟨gb420,0,none⟩) (Kd.R_types HO416.out BK420.out (by decide)) (fun _ hk => hk.2) (.int .i64 t410)) (fun _ hk => hk.2) (.slice Ao10 t411.length co10)) (fun _ h_ => h_.1)))); (case side4 => exact (Kd.R_reads' HO416.out).2.1); (case side5 => refine (Kd.R_reads' (e:=3) (base:=w.heap.size) (ok:=fun k_ => some k_ ≠ (.slice Ao11 t414.length co11 : Value).ownBlock) (n:=t417.length) (c:=co12) ?_).2.2; exact (by (with_reducible repeat (first | apply Kd.R_alloc | apply Kd.R_drewN | apply Kd.R_drew)); exact (Kd.R_mono (Kd.R_far (p:=⟨gb420,1,none⟩) (Kd.R_far (p:=⟨gb420,0,none⟩) (Kd.R_types HO419.out BK420.out (by decide)) (fun _ hk => hk.2) (.int .i64 t410)) (fun _ hk => hk.2) (.slice Ao10 t411.length co10)) (fun _ h_ => h_.1)))); (case side6 => exact (Kd.R_reads' HO419.out).2.1); rintro e w13 ⟨v422,rfl,ho0,hb⟩; refine ⟨_,rfl,?_⟩; have n0_:=zy (Kd.R_below (by (with_reducible repeat (first | apply Kd.R_alloc | apply Kd.R_drewN | apply Kd.R_drew)); exact (Kd.R_mono (Kd.R_far (p:=⟨gb420,1,none⟩) (Kd.R_far (p:=⟨gb420,0,none⟩) (Kd.R_types HO413.out BK420.out (by decide)) (fun _ hk => hk.2) (.int .i64 t410)) (fun _ hk => hk.2) (.slice Ao10 t411.length co10)) (fun _ h_ => h_.1))) hb); have n1_:=zy (Kd.R_elder' (by (with_reducible repeat (first | apply Kd.R_alloc | apply Kd.R_drewN | apply Kd.R_drew)); exact (Kd.R_mono (Kd.R_far (p:=⟨gb420,1,none⟩) (Kd.R_far (p:=⟨gb420,0,none⟩) (Kd.R_types HO416.out BK420.out (by decide)) (fun _ hk => hk.2) (.int .i64 t410)) (fun _ hk => hk.2) (.slice Ao10 t411.length co10)) (fun _ h_ => h_.1))) (Kd.R_base ho0) hb); have n2_:=zy (Kd.R_elder' (by (with_reducible repeat (first | apply Kd.R_alloc | apply Kd.R_drewN | apply Kd.R_drew)); exact (Kd.R_mono (Kd.R_far (p:=⟨gb420,1,none⟩) (Kd.R_far (p:=⟨gb420,0,none⟩) (Kd.R_types HO419.out BK420.out (by decide)) (fun _ hk => hk.2) (.int .i64 t410)) (fun _ hk => hk.2) (.slice Ao10 t411.length co10)) (fun _ h_ => h_.1))) (Kd.R_base ho0) hb); have n3_:=zy (Kd.R_lower (Kd.R_new' (Kd.R_new' ho0 (Kd.R_lt (by (with_reducible repeat (first | apply Kd.R_alloc | apply Kd.R_drewN | apply Kd.R_drew)); exact (Kd.R_mono (Kd.R_far (p:=⟨gb420,1,none⟩) (Kd.R_far (p:=⟨gb420,0,none⟩) (Kd.R_types HO416.out BK420.out (by decide)) (fun _ hk => hk.2) (.int .i64 t410)) (fun _ hk => hk.2) (.slice Ao10 t411.length co10)) (fun _ h_ => h_.1))))) (Kd.R_lt (by (with_reducible repeat (first | apply Kd.R_alloc | apply Kd.R_drewN | apply Kd.R_drew)); exact (Kd.R_mono (Kd.R_far (p:=⟨gb420,1,none⟩) (Kd.R_far (p:=⟨gb420,0,none⟩) (Kd.R_types HO419.out BK420.out (by decide)) (fun _ hk => hk.2) (.int .i64 t410)) (fun _ hk => hk.2) (.slice Ao10 t411.length co10)) (fun _ h_ => h_.1))))) (below_size (by repeat (first | (with_reducible first | exact HB.out | apply below_alloc | apply pw_below_drewN | apply below_drew1 | refine below_set ?_ GE420.out) | exact HB.out)))); have n4_:=zy (blk_below (g:=gb420) (o:=.cells #[.int .i64 t410,.slice Ao10 t411.length co10] 25 (0,0)) (by (with_reducible repeat (first | refine blk_drewN ?_ _ | refine blk_drew ?_ | refine blk_alloc ?_ _)); refine blk_put (cs:=#[.int .i64 t410,.slice none 0 0]) ?_ 1 _ rfl; (with_reducible repeat (first | refine blk_drewN ?_ _ | refine blk_drew ?_ | refine blk_alloc ?_ _)); refine blk_put (cs:=#[.int .i64 0,.slice none 0 0]) ?_ 0 _ rfl; (with_reducible repeat (first | refine blk_drewN ?_ _ | refine blk_drew ?_ | refine blk_alloc ?_ _)); exact BK420.out) hb); have n5_:=zy (below_step (by repeat (first | (with_reducible first | exact HB.out | apply below_alloc | apply pw_below_drewN | apply below_drew1 | refine below_set ?_ GE420.out) | exact HB.out)) hb); clear HO413; clear HO416; clear HO419; clear BK420; clear HB; have HO413:=n0_; have HO416:=n1_; have HO419:=n2_; have HO423:=n3_; have BK420:=n4_; have HB:=n5_; clear n0_ n1_ n2_ n3_ n4_ n5_; (try clear hb); (try clear hb2); (try clear hk); (try clear hi); (try clear ho0); have hcz14_0 : w13.cell? ⟨gb420,0,none⟩ = some (.int .i64 t410):=(blk_cell BK420.out 0).trans rfl; have hcz14_1 : w13.cell? ⟨gb420,1,none⟩ = some (.slice Ao10 t411.length co10):=(blk_cell BK420.out 1).trans rfl; have hfz14_0:=blk_frozen BK420.out 0; have hfz14_1:=blk_frozen BK420.out 1) | ((with_reducible refine gate_callee (f:=10) rfl ?_); refine goesL_ (some 34) rfl rfl Try.func10 (by kernel_rfl) rfl #[.agg #[.int .i64 t410,.slice Ao10 t411.length co10],.slice Ao11 t414.length co11,.slice Ao12 t417.length co12] rfl (by (try simp only [List.map_toArray,List.map_cons,List.map_nil]); first | done | rfl | (simp only [List.length_drop,List.length_take]; rfl)) ?_; (with_reducible refine (spec_JobBest.calls k t410 _ _ t411 _ _ t414 _ _ t417 t425 t428 _ ?side1 ?side2 ?side3 ?side4 ?side5 ?side6 A5.out).mono ?_); (case side1 => repeat (first | exact (Kd.R_reads' HO413.out).2.2 | (with_reducible refine Kd.C_alloc ?_ _) | (with_reducible refine Kd.C_drewN ?_ _) | (with_reducible refine Kd.C_drew ?_))); (case side2 => exact (Kd.R_reads' HO413.out).2.1); (case side3 => repeat (first | exact (Kd.R_reads' HO416.out).2.2 | (with_reducible refine Kd.C_alloc ?_ _) | (with_reducible refine Kd.C_drewN ?_ _) | (with_reducible refine Kd.C_drew ?_))); (case side4 => exact (Kd.R_reads' HO416.out).2.1); (case side5 => repeat (first | exact (Kd.R_reads' HO419.out).2.2 | (with_reducible refine Kd.C_alloc ?_ _) | (with_reducible refine Kd.C_drewN ?_ _) | (with_reducible refine Kd.C_drew ?_))); (case side6 => exact (Kd.R_reads' HO419.out).2.1); rintro e w15 ⟨v426,rfl,ho0,hb⟩; refine ⟨_,rfl,?_⟩; have n0_:=zy (Kd.R_below (by (with_reducible repeat (first | apply Kd.R_alloc | apply Kd.R_drewN | apply Kd.R_drew)); exact HO413.out) hb); have n1_:=zy (Kd.R_below (by (with_reducible repeat (first | apply Kd.R_alloc | apply Kd.R_drewN | apply Kd.R_drew)); exact HO416.out) hb); have n2_:=zy (Kd.R_below (by (with_reducible repeat (first | apply Kd.R_alloc | apply Kd.R_drewN | apply Kd.R_drew)); exact HO419.out) hb); have n3_:=zy (Kd.R_below (by (with_reducible repeat (first | apply Kd.R_alloc | apply Kd.R_drewN | apply Kd.R_drew)); exact HO423.out) hb); have n4_:=zy (Kd.V_lower (Kd.V_mono (ok':=fun k_ => some k_ ≠ (.slice Ao10 t411.length co10 : Value).ownBlock ∧ some k_ ≠ (.slice Ao11 t414.length co11 : Value).ownBlock ∧ some k_ ≠ (.slice Ao12 t417.length co12 : Value).ownBlock ∧ some k_ ≠ (v422 : Value).ownBlock ∧ k_ ≠ gb420) ho0 (fun k_ hk_ => ⟨(Kd.fresh' (Kd.R_lt (by (with_reducible repeat (first | apply Kd.R_alloc | apply Kd.R_drewN | apply Kd.R_drew)); exact HO413.out)) k_ hk_),(Kd.fresh' (Kd.R_lt (by (with_reducible repeat (first | apply Kd.R_alloc | apply Kd.R_drewN | apply Kd.R_drew)); exact HO416.out)) k_ hk_),(Kd.fresh' (Kd.R_lt (by (with_reducible repeat (first | apply Kd.R_alloc | apply Kd.R_drewN | apply Kd.R_drew)); exact HO419.out)) k_ hk_),(Kd.fresh' (Kd.R_lt (by (with_reducible repeat (first | apply Kd.R_alloc | apply Kd.R_drewN | apply Kd.R_drew)); exact HO423.out)) k_ hk_),(Kd.freshB (g:=gb420) (o:=.cells #[.int .i64 t410,.slice Ao10 t411.length co10] 25 (0,0)) (by (with_reducible repeat (first | refine blk_drewN ?_ _ | refine blk_drew ?_ | refine blk_alloc ?_ _)); exact BK420.out) k_ hk_)⟩)) (below_size (by repeat (first | (with_reducible first | exact HB.out | apply below_alloc | apply pw_below_drewN | apply below_drew1 | refine below_set ?_ GE420.out) | exact HB.out)))); have n5_:=zy (blk_below (g:=gb420) (o:=.cells #[.int .i64 t410,.slice Ao10 t411.length co10] 25 (0,0)) (by (with_reducible repeat (first | refine blk_drewN ?_ _ | refine blk_drew ?_ | refine blk_alloc ?_ _)); exact BK420.out) hb); have n6_:=zy (below_step (by repeat (first | (with_reducible first | exact HB.out | apply below_alloc | apply pw_below_drewN | apply below_drew1 | refine below_set ?_ GE420.out) | exact HB.out)) hb); clear HO413; clear HO416; clear HO419; clear HO423; clear BK420; clear HB; have HO413:=n0_; have HO416:=n1_; have HO419:=n2_; have HO423:=n3_; have HO427:=n4_; have BK420:=n5_; have HB:=n6_; clear n0_ n1_ n2_ n3_ n4_ n5_ n6_; (try clear hb); (try clear hb2); (try clear hk); (try clear hi); (try clear ho0)))
 (try simp only [Act.put,U,Z,zx])
 go_cut [49] (fun v49 wc => ∃ (kq : Nat) (x49_5 : Bool),v49 = .bool x49_5 ∧ Aside0 (laws_FnJobAt.j0 kq t414 t417 t421 t424 t425 t428 x49_5 t410 t411 = some r) ∧ Aside0 (kq ≤ k) ∧ Aside0 (Kd.R (Kd.int .i64) 3 wc w.heap.size (fun k_ => some k_ ≠ ((.slice Ao12 t417.length co12) : Value).ownBlock ∧ some k_ ≠ (v422 : Value).ownBlock) (.slice Ao11 t414.length co11) t414) ∧ Aside0 (Kd.R (Kd.int .i64) 3 wc w.heap.size (fun k_ => some k_ ≠ ((.slice Ao11 t414.length co11) : Value).ownBlock ∧ some k_ ≠ (v422 : Value).ownBlock) (.slice Ao12 t417.length co12) t417) ∧ Aside0 (Kd.R (Kd.int .i64) 3 wc w.heap.size (fun k_ => some k_ ≠ ((.slice Ao11 t414.length co11) : Value).ownBlock ∧ some k_ ≠ ((.slice Ao12 t417.length co12) : Value).ownBlock) v422 t421) ∧ Aside0 (Kd.V (Kd.int .i64) 3 wc w.heap.size (fun k_ => some k_ ≠ ((.slice Ao11 t414.length co11) : Value).ownBlock ∧ some k_ ≠ ((.slice Ao12 t417.length co12) : Value).ownBlock ∧ some k_ ≠ (v422 : Value).ownBlock ∧ some k_ ≠ ((.slice Ao10 t411.length co10) : Value).ownBlock ∧ k_ ≠ gb420) v426 t425) ∧ Aside0 (Kd.R k80 80 wc w.heap.size (fun _ => True) (.slice Ao10 t411.length co10) t411) ∧ Aside0 (wc.heap[gb420]? = some (.cells #[.int .i64 t410,(.slice Ao10 t411.length co10)] 25 (0,0))) ∧ Aside0 (Below w.heap.size w wc))
 case first =>
  have H:=HC6.out;clear HC6
  by_cases c16 : t424 = t428
  case neg =>
   rw [if_neg c16] at H;have c16b0 : (t424 == t428) = false:=beq_eq_false_iff_ne.mpr c16;have c16b1 : (t424 != t428) = true:=bne_iff_ne.mpr c16
   (first | rw [c16b0] | (simp only [i64_w,i32_w]; rw [c16b0]) | skip)
   have H':=zy H;clear H
   go_wp2
   go_meet
   case rel => exact ⟨_,(true),(by first | rfl | (simp; done) | (simp [*]; done)),H',⟨by first | omega | exact Nat.le_refl _⟩,⟨by (with_reducible repeat (first | apply Kd.R_alloc | apply Kd.R_drewN | apply Kd.R_drew)); exact HO416.out⟩,⟨by (with_reducible repeat (first | apply Kd.R_alloc | apply Kd.R_drewN | apply Kd.R_drew)); exact HO419.out⟩,⟨by (with_reducible repeat (first | apply Kd.R_alloc | apply Kd.R_drewN | apply Kd.R_drew)); exact Kd.R_mono HO423.out (fun _ hk => ⟨hk.1.2,hk.2⟩)⟩,⟨by (with_reducible repeat (first | apply Kd.V_alloc | apply Kd.V_drewN | apply Kd.V_drew)); exact Kd.V_mono HO427.out (fun _ hk => ⟨hk.2.1,⟨hk.2.2.1,⟨hk.2.2.2.1,⟨hk.1,hk.2.2.2.2⟩⟩⟩⟩)⟩,⟨by (with_reducible repeat (first | apply Kd.R_alloc | apply Kd.R_drewN | apply Kd.R_drew)); exact HO413.out⟩,⟨by (with_reducible repeat (first | refine blk_drewN ?_ _ | refine blk_drew ?_ | refine blk_alloc ?_ _)); exact BK420.out⟩,⟨by repeat (first | (with_reducible first | exact HB.out | apply below_alloc | apply pw_below_drewN | apply below_drew1 | refine below_set ?_ GE420.out) | exact HB.out)⟩⟩
  rw [if_pos c16] at H;have c16b0 : (t424 == t428) = true:=beq_iff_eq.mpr c16;have c16b1 : (t424 != t428) = false:=bne_eq_false_iff_eq.mpr c16;clear c16
  (first | rw [c16b0] | (simp only [i64_w,i32_w]; rw [c16b0]) | skip)
  replace H:=Option.bind_eq_some_iff.mp H;obtain ⟨t429,A170,H⟩:=H;replace H : (if t429 = true then (laws_FnJobAt.j0 k t414 t417 t421 t424 t425 t428 (decide (t424 < 0)) t410 t411) else (laws_FnJobAt.j0 k t414 t417 t421 t424 t425 t428 true t410 t411)) = some r:=H;have A17:=zy A170;clear A170
  by_cases c18 : t429 = true
  case pos =>
   subst c18;have H1 : (laws_FnJobAt.j0 k t414 t417 t421 t424 t425 t428 (decide (t424 < 0)) t410 t411) = some r:=by rw [if_pos rfl] at H; exact H
   clear H;have H:=H1;clear H1;have H':=zy H;clear H;obtain ⟨Ao19,co19,eo19⟩:=Kd.R_slice HO423.out;subst eo19;obtain ⟨Ao20,co20,eo20⟩:=Kd.V_slice HO427.out;subst eo20
   go_wp2_with (first | (go_at_call 11; (with_reducible refine (laws_wkInts.calls k _ _ t421 _ _ t425 true _ ?side1 ?side2 ?side3 ?side4 A17.out).mono ?_); (case side1 => repeat (first | exact (Kd.R_reads' HO423.out).2.2 | (with_reducible refine Kd.C_alloc ?_ _) | (with_reducible refine Kd.C_drewN ?_ _) | (with_reducible refine Kd.C_drew ?_))); (case side2 => exact (Kd.R_reads' HO423.out).2.1); (case side3 => repeat (first | exact (Kd.V_reads' HO427.out).2.2 | (with_reducible refine Kd.C_alloc ?_ _) | (with_reducible refine Kd.C_drewN ?_ _) | (with_reducible refine Kd.C_drew ?_))); (case side4 => exact (Kd.V_reads' HO427.out).2.1); rintro e w' ⟨rfl,⟨nd,rfl⟩⟩))
   go_meet
   case rel => exact ⟨_,(decide (t424 < 0)),(by first | rfl | (simp; done) | (simp [*]; done)),H',⟨by first | omega | exact Nat.le_refl _⟩,⟨by (with_reducible repeat (first | apply Kd.R_alloc | apply Kd.R_drewN | apply Kd.R_drew)); exact HO416.out⟩,⟨by (with_reducible repeat (first | apply Kd.R_alloc | apply Kd.R_drewN | apply Kd.R_drew)); exact HO419.out⟩,⟨by (with_reducible repeat (first | apply Kd.R_alloc | apply Kd.R_drewN | apply Kd.R_drew)); exact Kd.R_mono HO423.out (fun _ hk => ⟨hk.1.2,hk.2⟩)⟩,⟨by (with_reducible repeat (first | apply Kd.V_alloc | apply Kd.V_drewN | apply Kd.V_drew)); exact Kd.V_mono HO427.out (fun _ hk => ⟨hk.2.1,⟨hk.2.2.1,⟨hk.2.2.2.1,⟨hk.1,hk.2.2.2.2⟩⟩⟩⟩)⟩,⟨by (with_reducible repeat (first | apply Kd.R_alloc | apply Kd.R_drewN | apply Kd.R_drew)); exact HO413.out⟩,⟨by (with_reducible repeat (first | refine blk_drewN ?_ _ | refine blk_drew ?_ | refine blk_alloc ?_ _)); exact BK420.out⟩,⟨by repeat (first | (with_reducible first | exact HB.out | apply below_alloc | apply pw_below_drewN | apply below_drew1 | refine below_set ?_ GE420.out) | exact HB.out)⟩⟩
  replace c18:=Bool.eq_false_iff.mpr c18;subst c18;have H1 : (laws_FnJobAt.j0 k t414 t417 t421 t424 t425 t428 true t410 t411) = some r:=by rw [if_neg (show ¬ (false = true) by decide)] at H; exact H
  clear H;have H:=H1;clear H1;have H':=zy H;clear H;obtain ⟨Ao21,co21,eo21⟩:=Kd.R_slice HO423.out;subst eo21;obtain ⟨Ao22,co22,eo22⟩:=Kd.V_slice HO427.out;subst eo22
  go_wp2_with (first | (go_at_call 11; (with_reducible refine (laws_wkInts.calls k _ _ t421 _ _ t425 false _ ?side1 ?side2 ?side3 ?side4 A17.out).mono ?_); (case side1 => repeat (first | exact (Kd.R_reads' HO423.out).2.2 | (with_reducible refine Kd.C_alloc ?_ _) | (with_reducible refine Kd.C_drewN ?_ _) | (with_reducible refine Kd.C_drew ?_))); (case side2 => exact (Kd.R_reads' HO423.out).2.1); (case side3 => repeat (first | exact (Kd.V_reads' HO427.out).2.2 | (with_reducible refine Kd.C_alloc ?_ _) | (with_reducible refine Kd.C_drewN ?_ _) | (with_reducible refine Kd.C_drew ?_))); (case side4 => exact (Kd.V_reads' HO427.out).2.1); rintro e w' ⟨rfl,⟨nd,rfl⟩⟩))
  go_meet
  case rel => exact ⟨_,(true),(by first | rfl | (simp; done) | (simp [*]; done)),H',⟨by first | omega | exact Nat.le_refl _⟩,⟨by (with_reducible repeat (first | apply Kd.R_alloc | apply Kd.R_drewN | apply Kd.R_drew)); exact HO416.out⟩,⟨by (with_reducible repeat (first | apply Kd.R_alloc | apply Kd.R_drewN | apply Kd.R_drew)); exact HO419.out⟩,⟨by (with_reducible repeat (first | apply Kd.R_alloc | apply Kd.R_drewN | apply Kd.R_drew)); exact Kd.R_mono HO423.out (fun _ hk => ⟨hk.1.2,hk.2⟩)⟩,⟨by (with_reducible repeat (first | apply Kd.V_alloc | apply Kd.V_drewN | apply Kd.V_drew)); exact Kd.V_mono HO427.out (fun _ hk => ⟨hk.2.1,⟨hk.2.2.1,⟨hk.2.2.2.1,⟨hk.1,hk.2.2.2.2⟩⟩⟩⟩)⟩,⟨by (with_reducible repeat (first | apply Kd.R_alloc | apply Kd.R_drewN | apply Kd.R_drew)); exact HO413.out⟩,⟨by (with_reducible repeat (first | refine blk_drewN ?_ _ | refine blk_drew ?_ | refine blk_alloc ?_ _)); exact BK420.out⟩,⟨by repeat (first | (with_reducible first | exact HB.out | apply below_alloc | apply pw_below_drewN | apply below_drew1 | refine below_set ?_ GE420.out) | exact HB.out)⟩⟩
 case rest =>
  clear HC6
  try clear c1
  try clear c2
  try clear c2b0
  try clear c2b1
  try clear p2
  try clear c3
  try clear c8
  try clear c9
  try clear c10
  try clear c16
  try clear c16b0
  try clear c16b1
  try clear c18
  try clear hcz14_0
  try clear hcz14_1
  try clear hcz9_0
  try clear hcz9_1
  try clear hfz14_0
  try clear hfz14_1
  try clear hfz9_0
  try clear hfz9_1
  obtain ⟨kq,x49_5,rfl,HA,HJ5,HO_4,HO_5,HO_6,HO_8,HO_421001,BK420,HB⟩:=hcut;cases kq with
  | zero => exact absurd HA.out (by simp [laws_FnJobAt.j0])
  | succ kj5 =>
   have H:=HA.out;clear HA;simp only [laws_FnJobAt.j0] at H
   by_cases c23 : x49_5 = true
   case pos =>
    subst c23;have H1 : (if t424 = t428 then ((laws_wkInts.f kj5 t421 t425).bind fun t430 => (some t430)) else (some false)) = some r:=by rw [if_pos rfl] at H; exact H
    clear H;have H:=H1;clear H1
    by_cases c24 : t424 = t428
    case neg =>
     rw [if_neg c24] at H;have c24b0 : (t424 == t428) = false:=beq_eq_false_iff_ne.mpr c24;have c24b1 : (t424 != t428) = true:=bne_iff_ne.mpr c24;obtain rfl:=Option.some.inj H
     go_wp2
     go_ret;exact ⟨by first | rfl | (simp [errW_none,errW_some] <;> rfl) | (simp [*,errW_none,errW_some] <;> rfl),by repeat (first | (with_reducible first | exact HB.out | apply below_alloc | apply pw_below_drewN | apply below_drew1 | refine below_set ?_ GE420.out) | exact HB.out)⟩
    rw [if_pos c24] at H;have c24b0 : (t424 == t428) = true:=beq_iff_eq.mpr c24;have c24b1 : (t424 != t428) = false:=bne_eq_false_iff_eq.mpr c24;clear c24;replace H:=Option.bind_eq_some_iff.mp H;obtain ⟨t430,A250,H⟩:=H;replace H : (some t430) = some r:=H;have A25:=zy A250;clear A250;obtain rfl:=Option.some.inj H;obtain ⟨Ao26,co26,eo26⟩:=Kd.R_slice HO_6.out;subst eo26;obtain ⟨Ao27,co27,eo27⟩:=Kd.V_slice HO_8.out;subst eo27
    go_wp2_with (first | (go_at_call 11; (with_reducible refine (laws_wkInts.calls kj5 _ _ t421 _ _ t425 t430 _ ?side1 ?side2 ?side3 ?side4 A25.out).mono ?_); (case side1 => repeat (first | exact (Kd.R_reads' HO_6.out).2.2 | (with_reducible refine Kd.C_alloc ?_ _) | (with_reducible refine Kd.C_drewN ?_ _) | (with_reducible refine Kd.C_drew ?_))); (case side2 => exact (Kd.R_reads' HO_6.out).2.1); (case side3 => repeat (first | exact (Kd.V_reads' HO_8.out).2.2 | (with_reducible refine Kd.C_alloc ?_ _) | (with_reducible refine Kd.C_drewN ?_ _) | (with_reducible refine Kd.C_drew ?_))); (case side4 => exact (Kd.V_reads' HO_8.out).2.1); rintro e w' ⟨rfl,⟨nd,rfl⟩⟩))
    go_ret;exact ⟨by first | rfl | (simp [errW_none,errW_some] <;> rfl) | (simp [*,errW_none,errW_some] <;> rfl),by repeat (first | (with_reducible first | exact HB.out | apply below_alloc | apply pw_below_drewN | apply below_drew1 | refine below_set ?_ GE420.out) | exact HB.out)⟩
   replace c23:=Bool.eq_false_iff.mpr c23;subst c23;have H1 : ((impl_JobBest.f kj5 t410 t411 t414 t414).bind fun bt431 => ((impl_NetBack.f kj5 t410 t411).bind fun bt435 => ((impl_JobBest.f kj5 bt435.1 bt435.2 t417 t414).bind fun bt439 => (if bt431.2 = 0 then (some (bt439.2 == t424)) else (some false))))) = some r:=by rw [if_neg (show ¬ (false = true) by decide)] at H; exact H
   clear H;have H:=H1;clear H1;replace H:=Option.bind_eq_some_iff.mp H;obtain ⟨⟨t431,t434⟩,A280,H⟩:=H;replace H : ((impl_NetBack.f kj5 t410 t411).bind fun bt435 => ((impl_JobBest.f kj5 bt435.1 bt435.2 t417 t414).bind fun bt439 => (if t434 = 0 then (some (bt439.2 == t424)) else (some false)))) = some r:=H;have A28:=zy A280;clear A280;replace H:=Option.bind_eq_some_iff.mp H;obtain ⟨⟨t435,t436⟩,A290,H⟩:=H;replace H : ((impl_JobBest.f kj5 t435 t436 t417 t414).bind fun bt439 => (if t434 = 0 then (some (bt439.2 == t424)) else (some false))) = some r:=H;have A29:=zy A290;clear A290;replace H:=Option.bind_eq_some_iff.mp H;obtain ⟨⟨t439,t442⟩,A300,H⟩:=H;replace H : (if t434 = 0 then (some (t442 == t424)) else (some false)) = some r:=H;have A30:=zy A300;clear A300
   by_cases c31 : t434 = 0
   case neg =>
    rw [if_neg c31] at H;have c31b0 : (t434 == 0) = false:=beq_eq_false_iff_ne.mpr c31;have c31b1 : (t434 != 0) = true:=bne_iff_ne.mpr c31;obtain rfl:=Option.some.inj H;have hcz38_0 : wc.cell? ⟨gb420,0,none⟩ = some (.int .i64 t410):=(blk_cell BK420.out 0).trans rfl;have hcz38_1 : wc.cell? ⟨gb420,1,none⟩ = some (.slice Ao10 t411.length co10):=(blk_cell BK420.out 1).trans rfl;have hfz38_0:=blk_frozen BK420.out 0;have hfz38_1:=blk_frozen BK420.out 1
    go_wp2_with (first | ((with_reducible refine gate_callee (f:=9) rfl ?_); refine goesL_ (some 62) rfl rfl Try.func9 (by kernel_rfl) rfl #[.agg #[.int .i64 t410,.slice Ao10 t411.length co10],.slice Ao11 t414.length co11,.slice Ao11 t414.length co11] rfl (by (try simp only [List.map_toArray,List.map_cons,List.map_nil]); first | done | rfl | (simp only [List.length_drop,List.length_take]; rfl)) ?_; (with_reducible refine (impl_JobBest.calls kj5 t410 _ _ t411 _ _ t414 _ _ t414 t431 t434 _ ?side1 ?side2 ?side3 ?side4 ?side5 ?side6 A28.out).mono ?_); (case side1 => repeat (first | exact (Kd.R_reads' HO_421001.out).2.2 | (with_reducible refine Kd.C_alloc ?_ _) | (with_reducible refine Kd.C_drewN ?_ _) | (with_reducible refine Kd.C_drew ?_))); (case side2 => exact (Kd.R_reads' HO_421001.out).2.1); (case side3 => repeat (first | exact (Kd.R_reads' HO_4.out).2.2 | (with_reducible refine Kd.C_alloc ?_ _) | (with_reducible refine Kd.C_drewN ?_ _) | (with_reducible refine Kd.C_drew ?_))); (case side4 => exact (Kd.R_reads' HO_4.out).2.1); (case side5 => repeat (first | exact (Kd.R_reads' HO_4.out).2.2 | (with_reducible refine Kd.C_alloc ?_ _) | (with_reducible refine Kd.C_drewN ?_ _) | (with_reducible refine Kd.C_drew ?_))); (case side6 => exact (Kd.R_reads' HO_4.out).2.1); rintro e w39 ⟨v432,rfl,ho0,hb⟩; refine ⟨_,rfl,?_⟩; have n0_:=zy (Kd.R_elder' (by (with_reducible repeat (first | apply Kd.R_alloc | apply Kd.R_drewN | apply Kd.R_drew)); exact HO_4.out) (Kd.R_base ho0) hb); have n1_:=zy (Kd.R_elder' (by (with_reducible repeat (first | apply Kd.R_alloc | apply Kd.R_drewN | apply Kd.R_drew)); exact HO_5.out) (Kd.R_base ho0) hb); have n2_:=zy (Kd.R_elder' (by (with_reducible repeat (first | apply Kd.R_alloc | apply Kd.R_drewN | apply Kd.R_drew)); exact HO_6.out) (Kd.R_base ho0) hb); have n3_:=zy (Kd.V_elder' (by (with_reducible repeat (first | apply Kd.V_alloc | apply Kd.V_drewN | apply Kd.V_drew)); exact HO_8.out) (Kd.R_base ho0) hb); have n4_:=zy (Kd.R_below (by (with_reducible repeat (first | apply Kd.R_alloc | apply Kd.R_drewN | apply Kd.R_drew)); exact HO_421001.out) hb); have n5_:=zy (Kd.R_lower (Kd.R_new' (Kd.R_new' (Kd.R_new' ho0 (Kd.R_lt (by (with_reducible repeat (first | apply Kd.R_alloc | apply Kd.R_drewN | apply Kd.R_drew)); exact HO_4.out))) (Kd.R_lt (by (with_reducible repeat (first | apply Kd.R_alloc | apply Kd.R_drewN | apply Kd.R_drew)); exact HO_5.out))) (Kd.R_lt (by (with_reducible repeat (first | apply Kd.R_alloc | apply Kd.R_drewN | apply Kd.R_drew)); exact HO_6.out))) (below_size (by repeat (first | (with_reducible first | exact HB.out | apply below_alloc | apply pw_below_drewN | apply below_drew1 | refine below_set ?_ GE420.out) | exact HB.out)))); have n6_:=zy (blk_below (g:=gb420) (o:=.cells #[.int .i64 t410,.slice Ao10 t411.length co10] 25 (0,0)) (by (with_reducible repeat (first | refine blk_drewN ?_ _ | refine blk_drew ?_ | refine blk_alloc ?_ _)); exact BK420.out) hb); have n7_:=zy (below_step (by repeat (first | (with_reducible first | exact HB.out | apply below_alloc | apply pw_below_drewN | apply below_drew1 | refine below_set ?_ GE420.out) | exact HB.out)) hb); clear HO_4; clear HO_5; clear HO_6; clear HO_8; clear HO_421001; clear BK420; clear HB; have HO_4:=n0_; have HO_5:=n1_; have HO_6:=n2_; have HO_8:=n3_; have HO_421001:=n4_; have HO433:=n5_; have BK420:=n6_; have HB:=n7_; clear n0_ n1_ n2_ n3_ n4_ n5_ n6_ n7_; (try clear hb); (try clear hb2); (try clear hk); (try clear hi); (try clear ho0); have hcz40_0 : w39.cell? ⟨gb420,0,none⟩ = some (.int .i64 t410):=(blk_cell BK420.out 0).trans rfl; have hcz40_1 : w39.cell? ⟨gb420,1,none⟩ = some (.slice Ao10 t411.length co10):=(blk_cell BK420.out 1).trans rfl; have hfz40_0:=blk_frozen BK420.out 0; have hfz40_1:=blk_frozen BK420.out 1) | ((with_reducible refine gate_callee (f:=12) rfl ?_); refine goesL_ (some 67) rfl rfl Try.func12 (by kernel_rfl) rfl #[.agg #[.int .i64 t410,.slice Ao10 t411.length co10]] rfl (by (try simp only [List.map_toArray,List.map_cons,List.map_nil]); first | done | rfl | (simp only [List.length_drop,List.length_take]; rfl)) ?_; (with_reducible refine (impl_NetBack.calls kj5 t410 _ _ t411 t435 t436 _ ?side1 ?side2 A29.out).mono ?_); (case side1 => repeat (first | exact (Kd.R_reads' HO_421001.out).2.2 | (with_reducible refine Kd.C_alloc ?_ _) | (with_reducible refine Kd.C_drewN ?_ _) | (with_reducible refine Kd.C_drew ?_))); (case side2 => exact (Kd.R_reads' HO_421001.out).2.1); rintro e w41 ⟨v437,rfl,ho0,hb⟩; refine ⟨_,rfl,?_⟩; have n0_:=zy (Kd.R_below (by (with_reducible repeat (first | apply Kd.R_alloc | apply Kd.R_drewN | apply Kd.R_drew)); exact HO_4.out) hb); have n1_:=zy (Kd.R_below (by (with_reducible repeat (first | apply Kd.R_alloc | apply Kd.R_drewN | apply Kd.R_drew)); exact HO_5.out) hb); have n2_:=zy (Kd.R_below (by (with_reducible repeat (first | apply Kd.R_alloc | apply Kd.R_drewN | apply Kd.R_drew)); exact HO_6.out) hb); have n3_:=zy (Kd.V_elder' (by (with_reducible repeat (first | apply Kd.V_alloc | apply Kd.V_drewN | apply Kd.V_drew)); exact HO_8.out) (Kd.R_base ho0) hb); have n4_:=zy (Kd.R_elder' (by (with_reducible repeat (first | apply Kd.R_alloc | apply Kd.R_drewN | apply Kd.R_drew)); exact HO_421001.out) (Kd.R_base ho0) hb); have n5_:=zy (Kd.R_below (by (with_reducible repeat (first | apply Kd.R_alloc | apply Kd.R_drewN | apply Kd.R_drew)); exact HO433.out) hb); have n6_:=zy (Kd.R_lower (Kd.R_new' ho0 (Kd.R_lt (by (with_reducible repeat (first | apply Kd.R_alloc | apply Kd.R_drewN | apply Kd.R_drew)); exact HO_421001.out))) (below_size (by repeat (first | (with_reducible first | exact HB.out | apply below_alloc | apply pw_below_drewN | apply below_drew1 | refine below_set ?_ GE420.out) | exact HB.out)))); have n7_:=zy (blk_below (g:=gb420) (o:=.cells #[.int .i64 t410,.slice Ao10 t411.length co10] 25 (0,0)) (by (with_reducible repeat (first | refine blk_drewN ?_ _ | refine blk_drew ?_ | refine blk_alloc ?_ _)); exact BK420.out) hb); have n8_:=zy (below_step (by repeat (first | (with_reducible first | exact HB.out | apply below_alloc | apply pw_below_drewN | apply below_drew1 | refine below_set ?_ GE420.out) | exact HB.out)) hb); clear HO_4; clear HO_5; clear HO_6; clear HO_8; clear HO_421001; clear HO433; clear BK420; clear HB; have HO_4:=n0_; have HO_5:=n1_; have HO_6:=n2_; have HO_8:=n3_; have HO_421001:=n4_; have HO433:=n5_; have HO438:=n6_; have BK420:=n7_; have HB:=n8_; clear n0_ n1_ n2_ n3_ n4_ n5_ n6_ n7_ n8_; (try clear hb); (try clear hb2); (try clear hk); (try clear hi); (try clear ho0); obtain ⟨Ao42,co42,eo42⟩:=Kd.R_slice HO438.out; subst eo42) | ((with_reducible refine gate_callee (f:=9) rfl ?_); refine goesL_ (some 70) rfl rfl Try.func9 (by kernel_rfl) rfl #[.agg #[.int .i64 t435,.slice Ao42 t436.length co42],.slice Ao12 t417.length co12,.slice Ao11 t414.length co11] rfl (by (try simp only [List.map_toArray,List.map_cons,List.map_nil]); first | done | rfl | (simp only [List.length_drop,List.length_take]; rfl)) ?_; (with_reducible refine (impl_JobBest.calls kj5 t435 _ _ t436 _ _ t417 _ _ t414 t439 t442 _ ?side1 ?side2 ?side3 ?side4 ?side5 ?side6 A30.out).mono ?_); (case side1 => repeat (first | exact (Kd.R_reads' HO438.out).2.2 | (with_reducible refine Kd.C_alloc ?_ _) | (with_reducible refine Kd.C_drewN ?_ _) | (with_reducible refine Kd.C_drew ?_))); (case side2 => exact (Kd.R_reads' HO438.out).2.1); (case side3 => repeat (first | exact (Kd.R_reads' HO_5.out).2.2 | (with_reducible refine Kd.C_alloc ?_ _) | (with_reducible refine Kd.C_drewN ?_ _) | (with_reducible refine Kd.C_drew ?_))); (case side4 => exact (Kd.R_reads' HO_5.out).2.1); (case side5 => repeat (first | exact (Kd.R_reads' HO_4.out).2.2 | (with_reducible refine Kd.C_alloc ?_ _) | (with_reducible refine Kd.C_drewN ?_ _) | (with_reducible refine Kd.C_drew ?_))); (case side6 => exact (Kd.R_reads' HO_4.out).2.1); rintro e w43 ⟨v440,rfl,ho0,hb⟩; refine ⟨_,rfl,?_⟩; have n0_:=zy (Kd.R_elder' (by (with_reducible repeat (first | apply Kd.R_alloc | apply Kd.R_drewN | apply Kd.R_drew)); exact HO_4.out) (Kd.R_base ho0) hb); have n1_:=zy (Kd.R_elder' (by (with_reducible repeat (first | apply Kd.R_alloc | apply Kd.R_drewN | apply Kd.R_drew)); exact HO_5.out) (Kd.R_base ho0) hb); have n2_:=zy (Kd.R_elder' (by (with_reducible repeat (first | apply Kd.R_alloc | apply Kd.R_drewN | apply Kd.R_drew)); exact HO_6.out) (Kd.R_base ho0) hb); have n3_:=zy (Kd.V_elder' (by (with_reducible repeat (first | apply Kd.V_alloc | apply Kd.V_drewN | apply Kd.V_drew)); exact HO_8.out) (Kd.R_base ho0) hb); have n4_:=zy (Kd.R_below (by (with_reducible repeat (first | apply Kd.R_alloc | apply Kd.R_drewN | apply Kd.R_drew)); exact HO_421001.out) hb); have n5_:=zy (Kd.R_elder' (by (with_reducible repeat (first | apply Kd.R_alloc | apply Kd.R_drewN | apply Kd.R_drew)); exact HO433.out) (Kd.R_base ho0) hb); have n6_:=zy (Kd.R_below (by (with_reducible repeat (first | apply Kd.R_alloc | apply Kd.R_drewN | apply Kd.R_drew)); exact HO438.out) hb); have n7_:=zy (Kd.R_lower (Kd.R_new' (Kd.R_new' (Kd.R_new' (Kd.R_new' ho0 (Kd.R_lt (by (with_reducible repeat (first | apply Kd.R_alloc | apply Kd.R_drewN | apply Kd.R_drew)); exact HO_4.out))) (Kd.R_lt (by (with_reducible repeat (first | apply Kd.R_alloc | apply Kd.R_drewN | apply Kd.R_drew)); exact HO_5.out))) (Kd.R_lt (by (with_reducible repeat (first | apply Kd.R_alloc | apply Kd.R_drewN | apply Kd.R_drew)); exact HO_6.out))) (Kd.R_lt (by (with_reducible repeat (first | apply Kd.R_alloc | apply Kd.R_drewN | apply Kd.R_drew)); exact HO433.out))) (below_size (by repeat (first | (with_reducible first | exact HB.out | apply below_alloc | apply pw_below_drewN | apply below_drew1 | refine below_set ?_ GE420.out) | exact HB.out)))); have n8_:=zy (blk_below (g:=gb420) (o:=.cells #[.int .i64 t410,.slice Ao10 t411.length co10] 25 (0,0)) (by (with_reducible repeat (first | refine blk_drewN ?_ _ | refine blk_drew ?_ | refine blk_alloc ?_ _)); exact BK420.out) hb); have n9_:=zy (below_step (by repeat (first | (with_reducible first | exact HB.out | apply below_alloc | apply pw_below_drewN | apply below_drew1 | refine below_set ?_ GE420.out) | exact HB.out)) hb); clear HO_4; clear HO_5; clear HO_6; clear HO_8; clear HO_421001; clear HO433; clear HO438; clear BK420; clear HB; have HO_4:=n0_; have HO_5:=n1_; have HO_6:=n2_; have HO_8:=n3_; have HO_421001:=n4_; have HO433:=n5_; have HO438:=n6_; have HO441:=n7_; have BK420:=n8_; have HB:=n9_; clear n0_ n1_ n2_ n3_ n4_ n5_ n6_ n7_ n8_ n9_; (try clear hb); (try clear hb2); (try clear hk); (try clear hi); (try clear ho0)))
    go_ret;exact ⟨by first | rfl | (simp [errW_none,errW_some] <;> rfl) | (simp [*,errW_none,errW_some] <;> rfl),by repeat (first | (with_reducible first | exact HB.out | apply below_alloc | apply pw_below_drewN | apply below_drew1 | refine below_set ?_ GE420.out) | exact HB.out)⟩
   rw [if_pos c31] at H;have c31b0 : (t434 == 0) = true:=beq_iff_eq.mpr c31;have c31b1 : (t434 != 0) = false:=bne_eq_false_iff_eq.mpr c31;clear c31;obtain rfl:=Option.some.inj H;have hcz32_0 : wc.cell? ⟨gb420,0,none⟩ = some (.int .i64 t410):=(blk_cell BK420.out 0).trans rfl;have hcz32_1 : wc.cell? ⟨gb420,1,none⟩ = some (.slice Ao10 t411.length co10):=(blk_cell BK420.out 1).trans rfl;have hfz32_0:=blk_frozen BK420.out 0;have hfz32_1:=blk_frozen BK420.out 1
   go_wp2_with (first | ((with_reducible refine gate_callee (f:=9) rfl ?_); refine goesL_ (some 62) rfl rfl Try.func9 (by kernel_rfl) rfl #[.agg #[.int .i64 t410,.slice Ao10 t411.length co10],.slice Ao11 t414.length co11,.slice Ao11 t414.length co11] rfl (by (try simp only [List.map_toArray,List.map_cons,List.map_nil]); first | done | rfl | (simp only [List.length_drop,List.length_take]; rfl)) ?_; (with_reducible refine (impl_JobBest.calls kj5 t410 _ _ t411 _ _ t414 _ _ t414 t431 t434 _ ?side1 ?side2 ?side3 ?side4 ?side5 ?side6 A28.out).mono ?_); (case side1 => repeat (first | exact (Kd.R_reads' HO_421001.out).2.2 | (with_reducible refine Kd.C_alloc ?_ _) | (with_reducible refine Kd.C_drewN ?_ _) | (with_reducible refine Kd.C_drew ?_))); (case side2 => exact (Kd.R_reads' HO_421001.out).2.1); (case side3 => repeat (first | exact (Kd.R_reads' HO_4.out).2.2 | (with_reducible refine Kd.C_alloc ?_ _) | (with_reducible refine Kd.C_drewN ?_ _) | (with_reducible refine Kd.C_drew ?_))); (case side4 => exact (Kd.R_reads' HO_4.out).2.1); (case side5 => repeat (first | exact (Kd.R_reads' HO_4.out).2.2 | (with_reducible refine Kd.C_alloc ?_ _) | (with_reducible refine Kd.C_drewN ?_ _) | (with_reducible refine Kd.C_drew ?_))); (case side6 => exact (Kd.R_reads' HO_4.out).2.1); rintro e w33 ⟨v432,rfl,ho0,hb⟩; refine ⟨_,rfl,?_⟩; have n0_:=zy (Kd.R_elder' (by (with_reducible repeat (first | apply Kd.R_alloc | apply Kd.R_drewN | apply Kd.R_drew)); exact HO_4.out) (Kd.R_base ho0) hb); have n1_:=zy (Kd.R_elder' (by (with_reducible repeat (first | apply Kd.R_alloc | apply Kd.R_drewN | apply Kd.R_drew)); exact HO_5.out) (Kd.R_base ho0) hb); have n2_:=zy (Kd.R_elder' (by (with_reducible repeat (first | apply Kd.R_alloc | apply Kd.R_drewN | apply Kd.R_drew)); exact HO_6.out) (Kd.R_base ho0) hb); have n3_:=zy (Kd.V_elder' (by (with_reducible repeat (first | apply Kd.V_alloc | apply Kd.V_drewN | apply Kd.V_drew)); exact HO_8.out) (Kd.R_base ho0) hb); have n4_:=zy (Kd.R_below (by (with_reducible repeat (first | apply Kd.R_alloc | apply Kd.R_drewN | apply Kd.R_drew)); exact HO_421001.out) hb); have n5_:=zy (Kd.R_lower (Kd.R_new' (Kd.R_new' (Kd.R_new' ho0 (Kd.R_lt (by (with_reducible repeat (first | apply Kd.R_alloc | apply Kd.R_drewN | apply Kd.R_drew)); exact HO_4.out))) (Kd.R_lt (by (with_reducible repeat (first | apply Kd.R_alloc | apply Kd.R_drewN | apply Kd.R_drew)); exact HO_5.out))) (Kd.R_lt (by (with_reducible repeat (first | apply Kd.R_alloc | apply Kd.R_drewN | apply Kd.R_drew)); exact HO_6.out))) (below_size (by repeat (first | (with_reducible first | exact HB.out | apply below_alloc | apply pw_below_drewN | apply below_drew1 | refine below_set ?_ GE420.out) | exact HB.out)))); have n6_:=zy (blk_below (g:=gb420) (o:=.cells #[.int .i64 t410,.slice Ao10 t411.length co10] 25 (0,0)) (by (with_reducible repeat (first | refine blk_drewN ?_ _ | refine blk_drew ?_ | refine blk_alloc ?_ _)); exact BK420.out) hb); have n7_:=zy (below_step (by repeat (first | (with_reducible first | exact HB.out | apply below_alloc | apply pw_below_drewN | apply below_drew1 | refine below_set ?_ GE420.out) | exact HB.out)) hb); clear HO_4; clear HO_5; clear HO_6; clear HO_8; clear HO_421001; clear BK420; clear HB; have HO_4:=n0_; have HO_5:=n1_; have HO_6:=n2_; have HO_8:=n3_; have HO_421001:=n4_; have HO433:=n5_; have BK420:=n6_; have HB:=n7_; clear n0_ n1_ n2_ n3_ n4_ n5_ n6_ n7_; (try clear hb); (try clear hb2); (try clear hk); (try clear hi); (try clear ho0); have hcz34_0 : w33.cell? ⟨gb420,0,none⟩ = some (.int .i64 t410):=(blk_cell BK420.out 0).trans rfl; have hcz34_1 : w33.cell? ⟨gb420,1,none⟩ = some (.slice Ao10 t411.length co10):=(blk_cell BK420.out 1).trans rfl; have hfz34_0:=blk_frozen BK420.out 0; have hfz34_1:=blk_frozen BK420.out 1) | ((with_reducible refine gate_callee (f:=12) rfl ?_); refine goesL_ (some 67) rfl rfl Try.func12 (by kernel_rfl) rfl #[.agg #[.int .i64 t410,.slice Ao10 t411.length co10]] rfl (by (try simp only [List.map_toArray,List.map_cons,List.map_nil]); first | done | rfl | (simp only [List.length_drop,List.length_take]; rfl)) ?_; (with_reducible refine (impl_NetBack.calls kj5 t410 _ _ t411 t435 t436 _ ?side1 ?side2 A29.out).mono ?_); (case side1 => repeat (first | exact (Kd.R_reads' HO_421001.out).2.2 | (with_reducible refine Kd.C_alloc ?_ _) | (with_reducible refine Kd.C_drewN ?_ _) | (with_reducible refine Kd.C_drew ?_))); (case side2 => exact (Kd.R_reads' HO_421001.out).2.1); rintro e w35 ⟨v437,rfl,ho0,hb⟩; refine ⟨_,rfl,?_⟩; have n0_:=zy (Kd.R_below (by (with_reducible repeat (first | apply Kd.R_alloc | apply Kd.R_drewN | apply Kd.R_drew)); exact HO_4.out) hb); have n1_:=zy (Kd.R_below (by (with_reducible repeat (first | apply Kd.R_alloc | apply Kd.R_drewN | apply Kd.R_drew)); exact HO_5.out) hb); have n2_:=zy (Kd.R_below (by (with_reducible repeat (first | apply Kd.R_alloc | apply Kd.R_drewN | apply Kd.R_drew)); exact HO_6.out) hb); have n3_:=zy (Kd.V_elder' (by (with_reducible repeat (first | apply Kd.V_alloc | apply Kd.V_drewN | apply Kd.V_drew)); exact HO_8.out) (Kd.R_base ho0) hb); have n4_:=zy (Kd.R_elder' (by (with_reducible repeat (first | apply Kd.R_alloc | apply Kd.R_drewN | apply Kd.R_drew)); exact HO_421001.out) (Kd.R_base ho0) hb); have n5_:=zy (Kd.R_below (by (with_reducible repeat (first | apply Kd.R_alloc | apply Kd.R_drewN | apply Kd.R_drew)); exact HO433.out) hb); have n6_:=zy (Kd.R_lower (Kd.R_new' ho0 (Kd.R_lt (by (with_reducible repeat (first | apply Kd.R_alloc | apply Kd.R_drewN | apply Kd.R_drew)); exact HO_421001.out))) (below_size (by repeat (first | (with_reducible first | exact HB.out | apply below_alloc | apply pw_below_drewN | apply below_drew1 | refine below_set ?_ GE420.out) | exact HB.out)))); have n7_:=zy (blk_below (g:=gb420) (o:=.cells #[.int .i64 t410,.slice Ao10 t411.length co10] 25 (0,0)) (by (with_reducible repeat (first | refine blk_drewN ?_ _ | refine blk_drew ?_ | refine blk_alloc ?_ _)); exact BK420.out) hb); have n8_:=zy (below_step (by repeat (first | (with_reducible first | exact HB.out | apply below_alloc | apply pw_below_drewN | apply below_drew1 | refine below_set ?_ GE420.out) | exact HB.out)) hb); clear HO_4; clear HO_5; clear HO_6; clear HO_8; clear HO_421001; clear HO433; clear BK420; clear HB; have HO_4:=n0_; have HO_5:=n1_; have HO_6:=n2_; have HO_8:=n3_; have HO_421001:=n4_; have HO433:=n5_; have HO438:=n6_; have BK420:=n7_; have HB:=n8_; clear n0_ n1_ n2_ n3_ n4_ n5_ n6_ n7_ n8_; (try clear hb); (try clear hb2); (try clear hk); (try clear hi); (try clear ho0); obtain ⟨Ao36,co36,eo36⟩:=Kd.R_slice HO438.out; subst eo36) | ((with_reducible refine gate_callee (f:=9) rfl ?_); refine goesL_ (some 70) rfl rfl Try.func9 (by kernel_rfl) rfl #[.agg #[.int .i64 t435,.slice Ao36 t436.length co36],.slice Ao12 t417.length co12,.slice Ao11 t414.length co11] rfl (by (try simp only [List.map_toArray,List.map_cons,List.map_nil]); first | done | rfl | (simp only [List.length_drop,List.length_take]; rfl)) ?_; (with_reducible refine (impl_JobBest.calls kj5 t435 _ _ t436 _ _ t417 _ _ t414 t439 t442 _ ?side1 ?side2 ?side3 ?side4 ?side5 ?side6 A30.out).mono ?_); (case side1 => repeat (first | exact (Kd.R_reads' HO438.out).2.2 | (with_reducible refine Kd.C_alloc ?_ _) | (with_reducible refine Kd.C_drewN ?_ _) | (with_reducible refine Kd.C_drew ?_))); (case side2 => exact (Kd.R_reads' HO438.out).2.1); (case side3 => repeat (first | exact (Kd.R_reads' HO_5.out).2.2 | (with_reducible refine Kd.C_alloc ?_ _) | (with_reducible refine Kd.C_drewN ?_ _) | (with_reducible refine Kd.C_drew ?_))); (case side4 => exact (Kd.R_reads' HO_5.out).2.1); (case side5 => repeat (first | exact (Kd.R_reads' HO_4.out).2.2 | (with_reducible refine Kd.C_alloc ?_ _) | (with_reducible refine Kd.C_drewN ?_ _) | (with_reducible refine Kd.C_drew ?_))); (case side6 => exact (Kd.R_reads' HO_4.out).2.1); rintro e w37 ⟨v440,rfl,ho0,hb⟩; refine ⟨_,rfl,?_⟩; have n0_:=zy (Kd.R_elder' (by (with_reducible repeat (first | apply Kd.R_alloc | apply Kd.R_drewN | apply Kd.R_drew)); exact HO_4.out) (Kd.R_base ho0) hb); have n1_:=zy (Kd.R_elder' (by (with_reducible repeat (first | apply Kd.R_alloc | apply Kd.R_drewN | apply Kd.R_drew)); exact HO_5.out) (Kd.R_base ho0) hb); have n2_:=zy (Kd.R_elder' (by (with_reducible repeat (first | apply Kd.R_alloc | apply Kd.R_drewN | apply Kd.R_drew)); exact HO_6.out) (Kd.R_base ho0) hb); have n3_:=zy (Kd.V_elder' (by (with_reducible repeat (first | apply Kd.V_alloc | apply Kd.V_drewN | apply Kd.V_drew)); exact HO_8.out) (Kd.R_base ho0) hb); have n4_:=zy (Kd.R_below (by (with_reducible repeat (first | apply Kd.R_alloc | apply Kd.R_drewN | apply Kd.R_drew)); exact HO_421001.out) hb); have n5_:=zy (Kd.R_elder' (by (with_reducible repeat (first | apply Kd.R_alloc | apply Kd.R_drewN | apply Kd.R_drew)); exact HO433.out) (Kd.R_base ho0) hb); have n6_:=zy (Kd.R_below (by (with_reducible repeat (first | apply Kd.R_alloc | apply Kd.R_drewN | apply Kd.R_drew)); exact HO438.out) hb); have n7_:=zy (Kd.R_lower (Kd.R_new' (Kd.R_new' (Kd.R_new' (Kd.R_new' ho0 (Kd.R_lt (by (with_reducible repeat (first | apply Kd.R_alloc | apply Kd.R_drewN | apply Kd.R_drew)); exact HO_4.out))) (Kd.R_lt (by (with_reducible repeat (first | apply Kd.R_alloc | apply Kd.R_drewN | apply Kd.R_drew)); exact HO_5.out))) (Kd.R_lt (by (with_reducible repeat (first | apply Kd.R_alloc | apply Kd.R_drewN | apply Kd.R_drew)); exact HO_6.out))) (Kd.R_lt (by (with_reducible repeat (first | apply Kd.R_alloc | apply Kd.R_drewN | apply Kd.R_drew)); exact HO433.out))) (below_size (by repeat (first | (with_reducible first | exact HB.out | apply below_alloc | apply pw_below_drewN | apply below_drew1 | refine below_set ?_ GE420.out) | exact HB.out)))); have n8_:=zy (blk_below (g:=gb420) (o:=.cells #[.int .i64 t410,.slice Ao10 t411.length co10] 25 (0,0)) (by (with_reducible repeat (first | refine blk_drewN ?_ _ | refine blk_drew ?_ | refine blk_alloc ?_ _)); exact BK420.out) hb); have n9_:=zy (below_step (by repeat (first | (with_reducible first | exact HB.out | apply below_alloc | apply pw_below_drewN | apply below_drew1 | refine below_set ?_ GE420.out) | exact HB.out)) hb); clear HO_4; clear HO_5; clear HO_6; clear HO_8; clear HO_421001; clear HO433; clear HO438; clear BK420; clear HB; have HO_4:=n0_; have HO_5:=n1_; have HO_6:=n2_; have HO_8:=n3_; have HO_421001:=n4_; have HO433:=n5_; have HO438:=n6_; have HO441:=n7_; have BK420:=n8_; have HB:=n9_; clear n0_ n1_ n2_ n3_ n4_ n5_ n6_ n7_ n8_ n9_; (try clear hb); (try clear hb2); (try clear hk); (try clear hi); (try clear ho0)))
   go_ret;exact ⟨by first | rfl | (simp [errW_none,errW_some] <;> rfl) | (simp [*,errW_none,errW_some] <;> rfl),by repeat (first | (with_reducible first | exact HB.out | apply below_alloc | apply pw_below_drewN | apply below_drew1 | refine below_set ?_ GE420.out) | exact HB.out)⟩
end Go.Proofs.Ytmioaahiflfcdaa.Pr
end
section
set_option linter.unusedVariables false
namespace Go.Proofs.YtmioaahiflfcdaaW.PrintWords
open Go.RowKit Go.ChangeShapes Go.WideShapes
def Opens (P : Program) {α : Type} (d : Kd α) (t : TypeId) (wf : α → Prop) : Prop :=
 ∀ {H : Type} {enc : TypeId × Value → H} {w : World} {sp : Nat → Bool} {held : Bool} {fuel : Nat} {cs : List Value} {x : DataW H × List MemPlace},DataW.trod enc P w 0 sp held fuel t cs = some x → ∃ a,d.K w a cs ∧ wf a
section
variable {P : Program} {α β : Type}
theorem opens_int {t : TypeId} {k : IntKind} (ht : P.underlying t = some (.int k)) : Opens P (Kd.int k) t (fun n => (Lit.int k n).wf = true):=by
 intro H enc w sp held fuel cs x h;obtain ⟨n,rfl,_,hw⟩:=DataW.trod_int ht h;exact ⟨n,rfl,hw⟩
theorem addr_add_add (a : Addr) (i j : Nat) : (a.add i).add j = a.add (i + j):=by
 unfold Addr.add
 by_cases hi : i = 0 <;> by_cases hj : j = 0 <;> simp [hi,hj,Nat.add_assoc]
theorem opens_slice [Inhabited α] {d : Kd α} {t e : TypeId} {wf : α → Prop} (ht : P.underlying t = some (.slice e)) (hc : P.cellsOf e = d.sz) (he : Opens P d e wf) : Opens P (Kd.slice e d) t (fun l => l.length ≤ maxLen ∧ ∀ x ∈ l,wf x):=by
 intro H enc w sp held fuel cs x h
 rcases Deep.open_slice ht h with ⟨rfl,_⟩ | ⟨a,len,cap,m,n,D,Pl,rfl,_,hl,hm,hmm,_,hel⟩
 ·exact ⟨[],⟨none,0,rfl,Nat.le_refl _,Kd.C_nil d w⟩,by simp,by simp⟩
 ·have hlm : len ≤ m:=by rw [hmm]; split <;> omega
  have hx : ∀ i,i < len → ∃ y : α,(∃ c,c.length = d.sz ∧ d.K w y c ∧ ∀ j u,c[j]? = some u → w.cell? (a.add (i * d.sz + j)) = some u) ∧ wf y:=by
   intro i hi;obtain ⟨cs',hcs,htr⟩:=hel i (by omega);obtain ⟨y,hk,hw⟩:=he htr;obtain ⟨_,hlen,hcell⟩:=World.cells?_some hcs;refine ⟨y,⟨cs',d.K_len hk,hk,fun j u hu => ?_⟩,hw⟩;have hj : j < P.cellsOf e:=by
    have:=(List.getElem?_eq_some_iff.1 hu).1;omega
   have:=hcell j hj;rw [addr_add_add,hc,hu] at this;exact this
  obtain ⟨f,hf⟩:=Deep.choose_lt hx;refine ⟨(List.range len).map f,⟨some a,cap,by simp,by simpa using hl,by simp,by simp only [maxLen] at hm; simp; omega,fun _ => ⟨a,rfl,fun j p hj => ?_⟩⟩,by simp; omega,fun y hy => ?_⟩
  ·obtain ⟨hj1,hj2⟩:=List.getElem?_eq_some_iff.1 hj;simp at hj1 hj2;subst hj2;exact (hf j hj1).1
  ·simp only [List.mem_map,List.mem_range] at hy;obtain ⟨i,hi,rfl⟩:=hy;exact (hf i hi).2
end
end Go.Proofs.YtmioaahiflfcdaaW.PrintWords
end
section
namespace Go.Proofs.Ytmioaahiflfcdaa.Pr
open Go.RowKit Go.Proofs.YtmioaahiflfcdaaW.PrintWords Go.Proofs.YtmioaahiflfcdaaW.PrintLast Go.Proofs.YtmioaahiflfcdaaW.PrintMore
open List renaming setIfInBounds_toArray → U,set_cons_zero → Z,set_cons_succ → zx
open Go.Proofs.YtmioaahiflfcdaaW.PrintWords.Aside0 renaming mk → zy
def laws_FnJobAt.Asked : Prop:=∀ (l0 : List Int),(l0.length ≤ maxLen ∧ ∀ x_ ∈ l0,(Lit.int .u8 x_).wf = true) → ∃ k,laws_FnJobAt.f k l0 = some true
end Go.Proofs.Ytmioaahiflfcdaa.Pr
end
section
set_option linter.unusedSectionVars false
namespace Go.Proofs.Ytmioaahiflfcdaa.Fl
def sm (F : Nat → Int) : Nat → Int
 | 0 => 0
 | n + 1 => sm F n + F n
theorem sm_congr {F H : Nat → Int} {n : Nat} (h : ∀ i,i < n → F i = H i) : sm F n = sm H n:=by
 induction n with
 | zero => rfl
 | succ n ih => simp only [sm]; rw [ih (fun i hi => h i (by omega)),h n (by omega)]
theorem sm_add (F H : Nat → Int) (n : Nat) : sm (fun i => F i + H i) n = sm F n + sm H n:=by
 induction n with
 | zero => rfl
 | succ n ih => simp only [sm]; rw [ih]; omega
theorem sm_zero (n : Nat) : sm (fun _ => 0) n = 0:=by
 induction n with
 | zero => rfl
 | succ n ih => simp only [sm]; rw [ih]; rfl
theorem sm_swap (F : Nat → Nat → Int) (n m : Nat) : sm (fun v => sm (F v) m) n = sm (fun i => sm (fun v => F v i) n) m:=by
 induction n with
 | zero => simp only [sm]; rw [sm_zero]
 | succ n ih => simp only [sm]; rw [ih,sm_add]
theorem sm_one (n a : Nat) (x : Int) (h : a < n) : sm (fun v => if v = a then x else 0) n = x:=by
 induction n with
 | zero => omega
 | succ n ih =>
  simp only [sm]
  by_cases e : a = n
  case neg =>
   rw [ih (by omega),if_neg (by omega)];omega
  subst e;rw [if_pos rfl,sm_congr (H:=fun _ => 0) (fun i hi => by rw [if_neg (by omega)]),sm_zero];omega
section
variable {n m : Nat} {fr tw : Nat → Nat} {f : Nat → Int} (hf : ∀ i,i < m → fr i < n) (ht : ∀ i,i < m → tw i < n)
def net (m : Nat) (fr tw : Nat → Nat) (f : Nat → Int) (v : Nat) : Int:=sm (fun i => (if fr i = v then f i else 0) - (if tw i = v then f i else 0)) m
include hf ht
end
section
variable {n m : Nat} {fr tw : Nat → Nat} {f cap : Nat → Int} (hf : ∀ i,i < m → fr i < n) (ht : ∀ i,i < m → tw i < n) (h0 : ∀ i,i < m → 0 ≤ f i ∧ f i ≤ cap i) {s t : Nat} (hs : s < n) (hz : ∀ v,v < n → v ≠ s → v ≠ t → net m fr tw f v = 0)
include hf ht h0 hs hz
end
end Go.Proofs.Ytmioaahiflfcdaa.Fl
end
section
set_option linter.unusedSectionVars false
namespace Go.Proofs.Ytmioaahiflfcdaa.Pm
def perms (n : Nat) : Nat → List Nat → List (List Nat)
 | 0,b => [b]
 | f + 1,b => ((List.range n).filter fun i => !b.contains i).flatMap fun i => perms n f (b ++ [i])
theorem perms_len {n f : Nat} {b p : List Nat} (h : p ∈ perms n f b) : p.length = b.length + f:=by
 induction f generalizing b with
 | zero => simp [perms] at h; simp [h]
 | succ f ih =>
  simp only [perms,List.mem_flatMap] at h;obtain ⟨i,_,h2⟩:=h;have:=ih h2;simp at this;omega
theorem perms_ok {n f : Nat} {b p : List Nat} (hb : b.Nodup) (hl : ∀ x ∈ b,x < n) (h : p ∈ perms n f b) : p.Nodup ∧ ∀ x ∈ p,x < n:=by
 induction f generalizing b with
 | zero => simp [perms] at h; subst h; exact ⟨hb,hl⟩
 | succ f ih =>
  simp only [perms,List.mem_flatMap,List.mem_filter,List.mem_range] at h;obtain ⟨i,⟨h1,h3⟩,h2⟩:=h;refine ih ?_ ?_ h2
  ·rw [List.nodup_append];refine ⟨hb,by simp,fun a ha c hc => ?_⟩;rintro rfl;obtain rfl : a = i:=by simpa using hc
   simp [ha] at h3
  ·intro x hx
   rcases List.mem_append.1 hx with h | h
   ·exact hl x h
   ·obtain rfl : x = i:=by simpa using h
    exact h1
theorem perms_all {n f : Nat} {b q : List Nat} (hn : (b ++ q).Nodup) (hl : ∀ x ∈ q,x < n) (hf : q.length = f) : b ++ q ∈ perms n f b:=by
 induction f generalizing b q with
 | zero =>
  obtain rfl : q = []:=List.length_eq_zero_iff.1 hf;simp [perms]
 | succ f ih =>
  cases q with
  | nil => simp at hf
  | cons i q =>
   simp only [perms,List.mem_flatMap,List.mem_filter,List.mem_range];refine ⟨i,⟨hl i (by simp),?_⟩,?_⟩
   ·have : i ∉ b:=fun hb => (List.nodup_append.1 hn).2.2 i hb i (by simp) rfl
    simp [this]
   ·have:=ih (b:=b ++ [i]) (q:=q) (by simpa using hn) (fun x hx => hl x (by simp [hx])) (by simpa using hf)
    simpa using this
def pick (cost : List Nat → Int) : List (List Nat) → List Nat × Int → List Nat × Int
 | [],s => s
 | p :: l,s => pick cost l (if cost p < s.2 then (p,cost p) else s)
theorem pick_append (cost : List Nat → Int) (l l' : List (List Nat)) : ∀ s,pick cost (l ++ l') s = pick cost l' (pick cost l s):=by
 induction l with
 | nil => intro s; rfl
 | cons p l ih => intro s; exact ih _
theorem pick_le (cost : List Nat → Int) : ∀ (l : List (List Nat)) (s : List Nat × Int),(pick cost l s).2 ≤ s.2 ∧ ∀ p ∈ l,(pick cost l s).2 ≤ cost p:=by
 intro l
 induction l with
 | nil => intro s; exact ⟨Int.le_refl _,by simp⟩
 | cons q l ih =>
  intro s;obtain ⟨h1,h2⟩:=ih (if cost q < s.2 then (q,cost q) else s);have h3 : (if cost q < s.2 then (q,cost q) else s).2 ≤ s.2 ∧ (if cost q < s.2 then (q,cost q) else s).2 ≤ cost q:=by
   split
   ·exact ⟨by dsimp only; omega,by dsimp only; omega⟩
   ·exact ⟨by omega,by omega⟩
  simp only [pick];refine ⟨by omega,fun p hp => ?_⟩
  rcases List.mem_cons.1 hp with rfl | hp
  ·omega
  ·exact h2 p hp
theorem pick_from (cost : List Nat → Int) : ∀ (l : List (List Nat)) (s : List Nat × Int),pick cost l s = s ∨ ∃ p ∈ l,pick cost l s = (p,cost p) ∧ cost p < s.2:=by
 intro l
 induction l with
 | nil => intro s; exact .inl rfl
 | cons q l ih =>
  intro s;simp only [pick]
  by_cases c : cost q < s.2
  case neg =>
   rw [if_neg c]
   rcases ih s with h | ⟨p,h1,h2,h3⟩
   ·exact .inl h
   ·exact .inr ⟨p,by simp [h1],h2,h3⟩
  rw [if_pos c]
  rcases ih (q,cost q) with h | ⟨p,h1,h2,h3⟩
  ·exact .inr ⟨q,by simp,h,c⟩
  ·exact .inr ⟨p,by simp [h1],h2,by dsimp only at h3; omega⟩
end Go.Proofs.Ytmioaahiflfcdaa.Pm
namespace Go.Proofs.Ytmioaahiflfcdaa.Pm
open Go.Proofs.Ytmioaahiflfcdaa.Fl
def at_ (p : List Nat) (i : Nat) : Nat:=p.getD i 0
structure IsPerm (n : Nat) (p : List Nat) : Prop where
 len : p.length = n
 nd : p.Nodup
 lt : ∀ x ∈ p,x < n
theorem perm_mem_all {n : Nat} {p : List Nat} (h : IsPerm n p) : ∀ k,k < n → k ∈ p:=by
 intro k hk
 apply Classical.byContradiction
 intro hc;have : ∀ (n : Nat) (l : List Nat),l.Nodup → (∀ x ∈ l,x < n) → l.length ≤ n:=by
  intro n
  induction n with
  | zero =>
   intro l _ h;cases l with
   | nil => simp
   | cons a l => exact absurd (h a (by simp)) (by omega)
  | succ n ih =>
   intro l hn h;have h1:=ih (l.erase n) (hn.erase n) (fun x hx => by
    have h2:=h x (List.mem_of_mem_erase hx);have h3 : x ≠ n:=by
     rintro rfl;exact (List.Nodup.not_mem_erase hn) hx
    omega)
   have h4 : l.length ≤ (l.erase n).length + 1:=by
    rw [List.length_erase]
    split <;> omega
   omega
 have h1:=this n (k :: p) (List.nodup_cons.2 ⟨hc,h.nd⟩) (fun x hx => by
  rcases List.mem_cons.1 hx with rfl | hx
  ·exact hk
  ·exact h.lt x hx)
 have:=h.len;simp at h1;omega
theorem at_lt {n : Nat} {p : List Nat} (h : IsPerm n p) {i : Nat} (hi : i < n) : at_ p i < n:=by
 have h1 : i < p.length:=by rw [h.len]; exact hi
 have : at_ p i = p[i]:=by simp [at_,h1]
 rw [this];exact h.lt _ (List.getElem_mem h1)
theorem at_inj {n : Nat} {p : List Nat} (h : IsPerm n p) {i j : Nat} (hi : i < n) (hj : j < n) (e : at_ p i = at_ p j) : i = j:=by
 have h1 : i < p.length:=by rw [h.len]; exact hi
 have h2 : j < p.length:=by rw [h.len]; exact hj
 have e1 : at_ p i = p[i]:=by simp [at_,h1]
 have e2 : at_ p j = p[j]:=by simp [at_,h2]
 rw [e1,e2] at e;exact (List.getElem?_inj h1 h.nd).1 (by rw [List.getElem?_eq_getElem h1,List.getElem?_eq_getElem h2,e])
def inv (n : Nat) (p : List Nat) : List Nat:=(List.range n).map fun k => p.idxOf k
theorem inv_at {n : Nat} {p : List Nat} (h : IsPerm n p) {k : Nat} (hk : k < n) : at_ (inv n p) k < n ∧ at_ p (at_ (inv n p) k) = k:=by
 have hm:=perm_mem_all h k hk;have h1:=List.idxOf_lt_length_of_mem hm;have e : at_ (inv n p) k = p.idxOf k:=by simp [at_,inv,hk]
 rw [e];refine ⟨by rw [← h.len]; exact h1,?_⟩;simp only [at_,List.getD_eq_getElem?_getD,List.getElem?_eq_getElem h1,Option.getD_some];exact List.getElem_idxOf h1
theorem inv_iff {n : Nat} {p : List Nat} (h : IsPerm n p) {i k : Nat} (hi : i < n) (hk : k < n) : at_ p i = k ↔ at_ (inv n p) k = i:=by
 obtain ⟨h1,h2⟩:=inv_at h hk;constructor
 ·intro e;exact at_inj h h1 hi (h2.trans e.symm)
 ·rintro rfl;exact h2
theorem inv_perm {n : Nat} {p : List Nat} (h : IsPerm n p) : IsPerm n (inv n p):=by
 refine ⟨by simp [inv],?_,?_⟩
 ·unfold inv
  rw [List.nodup_iff_pairwise_ne,List.pairwise_map];refine List.Pairwise.imp_of_mem ?_ List.nodup_range;intro a b ha hb hne e;have ha:=List.mem_range.1 ha;have hb:=List.mem_range.1 hb;have e1 : at_ (inv n p) a = at_ (inv n p) b:=by simp [at_,inv,ha,hb,e]
  have h1:=(inv_at h ha).2;have h2:=(inv_at h hb).2;rw [e1,h2] at h1;exact hne h1.symm
 ·intro x hx;simp only [inv,List.mem_map,List.mem_range] at hx;obtain ⟨k,hk,rfl⟩:=hx;rw [← h.len];exact List.idxOf_lt_length_of_mem (perm_mem_all h k hk)
noncomputable def costOf (n : Nat) (D : Nat → Nat → Int) (p : List Nat) : Int:=@ite _ (∃ i,i < n ∧ D i (at_ p i) = 99999) (Classical.propDecidable _) 99999 (sm (fun i => D i (at_ p i)) n)
theorem costOf_inv {n : Nat} {D : Nat → Nat → Int} {p : List Nat} (h : IsPerm n p) : costOf n (fun k i => D i k) (inv n p) = costOf n D p:=by
 have hs : sm (fun k => D (at_ (inv n p) k) k) n = sm (fun i => D i (at_ p i)) n:=by
  have e1 : sm (fun k => D (at_ (inv n p) k) k) n = sm (fun k => sm (fun i => if at_ p i = k then D i k else 0) n) n:=by
   apply sm_congr
   intro k hk;obtain ⟨h1,h2⟩:=inv_at h hk;rw [← sm_one n (at_ (inv n p) k) (D (at_ (inv n p) k) k) h1]
   apply sm_congr
   intro i hi
   by_cases c : i = at_ (inv n p) k
   case pos => rw [if_pos c,if_pos (by rw [c]; exact h2),c]
   rw [if_neg c,if_neg (fun e => c ((inv_iff h hi hk).1 e).symm)]
  have e2 : sm (fun i => D i (at_ p i)) n = sm (fun i => sm (fun k => if at_ p i = k then D i k else 0) n) n:=by
   apply sm_congr
   intro i hi;rw [← sm_one n (at_ p i) (D i (at_ p i)) (at_lt h hi)]
   apply sm_congr
   intro k _
   by_cases c : k = at_ p i
   case pos => rw [if_pos c,if_pos c.symm,c]
   rw [if_neg c,if_neg (fun e => c e.symm)]
  rw [e1,e2,sm_swap]
 have hx : (∃ k,k < n ∧ (fun k i => D i k) k (at_ (inv n p) k) = 99999) ↔ ∃ i,i < n ∧ D i (at_ p i) = 99999:=by
  constructor
  ·rintro ⟨k,hk,e⟩;obtain ⟨h1,h2⟩:=inv_at h hk;exact ⟨_,h1,by rw [h2]; exact e⟩
  ·rintro ⟨i,hi,e⟩;have hk:=at_lt h hi;have:=(inv_iff h hi hk).1 rfl;exact ⟨at_ p i,hk,by dsimp only; rw [this]; exact e⟩
 unfold costOf
 by_cases c : ∃ i,i < n ∧ D i (at_ p i) = 99999
 case pos => rw [if_pos c,if_pos (hx.2 c)]
 rw [if_neg c,if_neg (fun h => c (hx.1 h))];exact hs
end Go.Proofs.Ytmioaahiflfcdaa.Pm
end
section
set_option linter.unusedVariables false
namespace Go.Proofs.YtmioaahiflfcdaaW.PrintWords
open Go.RowKit
section
variable {α β : Type}
theorem Ev.pos {c : Prop} [Decidable c] {t e : Nat → Option α} {r : α} (h : c) (k : Ev t r) : Ev (fun n => if c then t n else e n) r:=by
 simp only [if_pos h]; exact k
theorem Ev.neg {c : Prop} [Decidable c] {t e : Nat → Option α} {r : α} (h : ¬ c) (k : Ev e r) : Ev (fun n => if c then t n else e n) r:=by
 simp only [if_neg h]; exact k
theorem Ev.bind0 {g : Option α} {f : Nat → α → Option β} {a : α} {r : β} (h : g = some a) (k : Ev (fun n => f n a) r) : Ev (fun n => g.bind (f n)) r:=by
 subst h; exact k
theorem Ev.is {a r : α} (h : a = r) : Ev (fun _ => some a) r:=by subst h; exact Ev.now _
theorem Ev.cast {g : Nat → Option α} {a r : α} (k : Ev g a) (h : a = r) : Ev g r:=h ▸ k
theorem Ev.go {g f : Nat → Option α} {r : α} (k : Ev f r) (h : ∀ k,g (k + 1) = f k) : Ev g r:=Ev.step h k
end
theorem w64 {n : Int} (h : -9223372036854775808 ≤ n) (h' : n ≤ 9223372036854775807) : wrap64 n = n:=by unfold wrap64; omega
theorem rd_nat {l : List Int} {i : Nat} (h : i < l.length) : rd l (i : Int) = l[i]:=by simp [rd,h]
end Go.Proofs.YtmioaahiflfcdaaW.PrintWords
end
section
set_option linter.unusedSimpArgs false
set_option linter.unusedVariables false
namespace Go.Proofs.Ytmioaahiflfcdaa.Pure
open Go.RowKit Go.Proofs.Ytmioaahiflfcdaa.Pr Go.Proofs.YtmioaahiflfcdaaW.PrintWords Go.Proofs.YtmioaahiflfcdaaW.PrintLast Go.Proofs.YtmioaahiflfcdaaW.PrintMore
def inB (x a b : Int) : Bool:=decide (a ≤ x) && decide (x ≤ b)
theorem inB_iff {x a b : Int} : inB x a b = true ↔ a ≤ x ∧ x ≤ b:=by simp [inB]
theorem in1 (x a b : Int) : spec_l1In.f x a b = some (inB x a b):=by
 unfold spec_l1In.f inB
 by_cases h : x ≥ a
 case pos => rw [if_pos h]; simp [show a ≤ x from h]
 rw [if_neg h]; simp [show ¬ a ≤ x from h]
theorem within1 (x a b : Int) : impl_within.f x a b = some (inB x a b):=by
 unfold impl_within.f inB
 by_cases h : x ≥ a
 case pos => rw [if_pos h]; simp [show a ≤ x from h]
 rw [if_neg h]; simp [show ¬ a ≤ x from h]
theorem up1 {i n : Nat} (h : i < n) (hn : n ≤ maxLen) : wrap64 ((i : Int) + 1) = ((i + 1 : Nat) : Int):=by
 simp only [maxLen] at hn;rw [w64 (by omega) (by omega)]; omega
theorem rdn {l : List Int} {i : Nat} (h : i < l.length) : rd l (i : Int) = l[i]:=rd_nat h
def nth (l : List Int) (i : Nat) : Int:=l.getD i 0
theorem rdg {l : List Int} (i : Nat) : rd l (i : Int) = nth l i:=by simp [rd,nth]
theorem nth_get {l : List Int} {i : Nat} (h : i < l.length) : nth l i = l[i]:=by simp [nth,h]
theorem getD_mem {l : List Int} {i : Nat} (h : i < l.length) : nth l i ∈ l:=by
 rw [nth_get h];exact List.getElem_mem h
theorem drop_cons {α : Type} {l : List α} {i : Nat} (h : i < l.length) : l.drop i = l[i] :: l.drop (i + 1):=List.drop_eq_getElem_cons h
def Pv {α : Type} (g : Nat → Option α) (P : α → Prop) : Prop:=∃ r,Ev g r ∧ P r
section
variable {α β : Type} {P : α → Prop}
theorem Pv.of {g : Nat → Option α} {r : α} (h : Ev g r) (hp : P r) : Pv g P:=⟨r,h,hp⟩
theorem Pv.now {a : α} (h : P a) : Pv (fun _ => some a) P:=⟨a,Ev.now a,h⟩
theorem Pv.pos {c : Prop} [Decidable c] {t e : Nat → Option α} (h : c) (k : Pv t P) : Pv (fun n => if c then t n else e n) P:=by
 obtain ⟨r,k,hp⟩:=k;exact ⟨r,Ev.pos h k,hp⟩
theorem Pv.neg {c : Prop} [Decidable c] {t e : Nat → Option α} (h : ¬ c) (k : Pv e P) : Pv (fun n => if c then t n else e n) P:=by
 obtain ⟨r,k,hp⟩:=k;exact ⟨r,Ev.neg h k,hp⟩
theorem Pv.ite {c : Prop} [Decidable c] {t e : Nat → Option α} (h : c → Pv t P) (k : ¬ c → Pv e P) : Pv (fun n => if c then t n else e n) P:=by
 by_cases hc : c
 case neg => exact Pv.neg hc (k hc)
 exact Pv.pos hc (h hc)
theorem Pv.bind {g : Nat → Option β} {f : Nat → β → Option α} {R : β → Prop} (h : Pv g R) (k : ∀ b,R b → Pv (fun n => f n b) P) : Pv (fun n => (g n).bind (f n)) P:=by
 obtain ⟨b,h,hb⟩:=h;obtain ⟨r,k,hp⟩:=k b hb;exact ⟨r,Ev.bind h k,hp⟩
theorem Pv.bind0 {g : Option β} {f : Nat → β → Option α} {b : β} (h : g = some b) (k : Pv (fun n => f n b) P) : Pv (fun n => g.bind (f n)) P:=by
 obtain ⟨r,k,hp⟩:=k;exact ⟨r,Ev.bind0 h k,hp⟩
theorem Pv.go {g f : Nat → Option α} (k : Pv f P) (h : ∀ k,g (k + 1) = f k) : Pv g P:=by
 obtain ⟨r,k,hp⟩:=k;exact ⟨r,Ev.go k h,hp⟩
theorem Pv.mono {g : Nat → Option α} {R : α → Prop} (h : Pv g R) (k : ∀ a,R a → P a) : Pv g P:=by
 obtain ⟨r,h,hr⟩:=h;exact ⟨r,h,k r hr⟩
end
theorem Pv.rounds {g : Nat → Option Bool} (h : Pv g (· = true)) : ∃ k,g k = some true:=by
 obtain ⟨r,h,rfl⟩:=h;exact Ev.rounds h
end Go.Proofs.Ytmioaahiflfcdaa.Pure
end
section
set_option linter.unusedSimpArgs false
set_option linter.unusedVariables false
namespace Go.Proofs.Ytmioaahiflfcdaa.Pure
open Go.RowKit Go.Proofs.Ytmioaahiflfcdaa.Pr Go.Proofs.YtmioaahiflfcdaaW.PrintWords Go.Proofs.YtmioaahiflfcdaaW.PrintLast Go.Proofs.YtmioaahiflfcdaaW.PrintMore
section
variable {t e : Nat → Option Bool} {r : Bool}
theorem Ev.and {b : Bool} (k : Ev t r) : Ev (fun n => if b = true then t n else some false) (b && r):=by
 cases b with
 | false => exact Ev.neg (by simp) (Ev.now _)
 | true => exact Ev.pos rfl k
theorem Ev.nand {c : Prop} [Decidable c] (k : Ev t r) : Ev (fun n => if c then some false else t n) (!decide c && r):=by
 by_cases h : c
 case pos => exact Ev.pos h (Ev.is (by simp [h]))
 exact Ev.neg h (k.cast (by simp [h]))
end
abbrev Arc:=S80
def arc (l : List Arc) (i : Nat) : Arc:=rd_T80 l (i : Int)
theorem rda (l : List Arc) (i : Nat) : rd_T80 l (i : Int) = arc l i:=rfl
theorem arc_get {l : List Arc} {i : Nat} (h : i < l.length) : arc l i = l[i]:=by simp [arc,rd_T80,h]
theorem arc_mem {l : List Arc} {i : Nat} (h : i < l.length) : arc l i ∈ l:=by
 rw [arc_get h];exact List.getElem_mem h
attribute [irreducible] arc
def okArcW (n : Int) (a : Arc) : Bool:=inB a.f0 0 (wrap64 (n - 1)) && (inB a.f1 0 (wrap64 (n - 1)) && (!decide (a.f0 = a.f1) && (inB a.f2 0 99 && (inB a.f3 0 99 && inB a.f4 0 9))))
theorem l1Ok_l (n : Int) (l : List Arc) (hm : l.length ≤ maxLen) : ∀ (m i : Nat),l.length - i = m → i ≤ l.length → Ev (fun k => spec_l1Ok.l0 k (i : Int) n l) ((l.drop i).all (okArcW n) && (inB n 1 8 && decide ((l.length : Int) ≤ 16))):=by
 intro m
 induction m with
 | zero =>
  intro i hd hi;refine Ev.go ?_ (fun k => by rw [spec_l1Ok.l0]);refine Ev.neg (by omega) (Ev.bind0 (in1 _ _ _) ?_);rw [List.drop_of_length_le (by omega)];exact (Ev.and (Ev.now _)).cast (by simp)
 | succ m ih =>
  intro i hd hi;have hlt : i < l.length:=by omega
  refine Ev.go ?_ (fun k => by rw [spec_l1Ok.l0]);rw [drop_cons hlt,← arc_get hlt,List.all_cons,rda,up1 hlt hm];refine Ev.pos (by omega) (Ev.pos (by omega) ?_);refine Ev.cast (Ev.bind0 (in1 _ _ _) (Ev.and (Ev.bind0 (in1 _ _ _) (Ev.and (Ev.nand (Ev.bind0 (in1 _ _ _) (Ev.and (Ev.bind0 (in1 _ _ _) (Ev.and (Ev.bind0 (in1 _ _ _) (Ev.and (ih (i + 1) (by omega) (by omega))))))))))))) ?_;simp only [okArcW,Bool.and_assoc]
theorem okArcW_okArc {n : Int} (h : 1 ≤ n) (h8 : n ≤ 8) (a : Arc) : okArcW n a = okArc n a:=by
 unfold okArcW okArc inB okN okC
 rw [w64 (by omega) (by omega)];have e : (a.f4 ≤ 9) ↔ (a.f4 ≤ 10 - 1):=by omega
 have e2 : (a.f0 == a.f1) = decide (a.f0 = a.f1):=by
  by_cases c : a.f0 = a.f1 <;> simp [c]
 rw [e2];simp only [Bool.and_assoc,e]
theorem l1Ok_ev (n : Int) (l : List Arc) (hm : l.length ≤ maxLen) : Ev (fun k => spec_l1Ok.f k n l) (netOkB n l):=by
 unfold spec_l1Ok.f
 refine (l1Ok_l n l hm _ 0 rfl (by omega)).cast ?_
 unfold netOkB
 rw [List.drop_zero]
 by_cases h : 1 ≤ n ∧ n ≤ 8
 case pos =>
  have e : l.all (okArcW n) = l.all (okArc n):=by
   congr 1
   funext a
   exact okArcW_okArc h.1 h.2 a
  rw [e,show inB n 1 8 = true from inB_iff.2 h];simp [h.1,h.2,Bool.and_comm]
 have e : inB n 1 8 = false:=by
  cases c : inB n 1 8 with
  | false => rfl
  | true => exact absurd (inB_iff.1 c) h
 rw [e];have e2 : (decide (1 ≤ n) && decide (n ≤ 8)) = false:=e;simp only [e2,Bool.false_and,Bool.and_false]
structure NetGood (n : Int) (l : List Arc) : Prop where
 n1 : 1 ≤ n
 n8 : n ≤ 8
 len : l.length ≤ 16
 ok : ∀ i,i < l.length → (0 ≤ (arc l i).f0 ∧ (arc l i).f0 < n) ∧ (0 ≤ (arc l i).f1 ∧ (arc l i).f1 < n) ∧ (arc l i).f0 ≠ (arc l i).f1 ∧ (0 ≤ (arc l i).f2 ∧ (arc l i).f2 ≤ 99) ∧ (0 ≤ (arc l i).f3 ∧ (arc l i).f3 ≤ 99) ∧ (0 ≤ (arc l i).f4 ∧ (arc l i).f4 ≤ 9)
theorem okArc_iff (n : Int) (a : Arc) : okArc n a = true ↔ (0 ≤ a.f0 ∧ a.f0 < n) ∧ (0 ≤ a.f1 ∧ a.f1 < n) ∧ a.f0 ≠ a.f1 ∧ (0 ≤ a.f2 ∧ a.f2 ≤ 99) ∧ (0 ≤ a.f3 ∧ a.f3 ≤ 99) ∧ (0 ≤ a.f4 ∧ a.f4 ≤ 9):=by
 simp only [okArc,okN,okC,Bool.and_eq_true,decide_eq_true_eq,Bool.not_eq_true',beq_eq_false_iff_ne];constructor
 ·rintro ⟨⟨⟨⟨⟨⟨a1,a2⟩,a3,a4⟩,a5⟩,a6⟩,a7⟩,a8,a9⟩;exact ⟨⟨a1,by omega⟩,⟨a3,by omega⟩,a5,a6,a7,a8,by omega⟩
 ·rintro ⟨⟨a1,a2⟩,⟨a3,a4⟩,a5,a6,a7,a8,a9⟩;exact ⟨⟨⟨⟨⟨⟨a1,by omega⟩,a3,by omega⟩,a5⟩,a6⟩,a7⟩,a8,by omega⟩
theorem netOkB_iff (n : Int) (l : List Arc) : netOkB n l = true ↔ NetGood n l:=by
 simp only [netOkB,Bool.and_eq_true,decide_eq_true_eq,List.all_eq_true];constructor
 ·rintro ⟨⟨⟨h1,h2⟩,h3⟩,h4⟩;exact ⟨h1,h2,by omega,fun i hi => (okArc_iff n _).1 (h4 _ (arc_mem hi))⟩
 ·rintro ⟨h1,h2,h3,h4⟩;refine ⟨⟨⟨h1,h2⟩,by omega⟩,fun a ha => ?_⟩;obtain ⟨i,hi,rfl⟩:=List.getElem_of_mem ha;rw [← arc_get hi];exact (okArc_iff n _).2 (h4 i hi)
theorem hasOf {n : Int} {l : List Arc} (h : NetGood n l) (v : List Int) : impl_Net_has.f n l v = some (v.all (okN n)):=by
 have:=h.n1;have:=h.n8
 unfold impl_Net_has.f
 rw [if_pos (by omega),if_pos (by omega)]
theorem nodesIn_eq (n : Int) (l : List Arc) (v : List Int) : impl_nodesIn.f n l v = some (netOkB n l && v.all (okN n)):=by
 unfold impl_nodesIn.f
 rw [show impl_NetOk.f n l = some (netOkB n l) from rfl,Option.bind_some];cases h : netOkB n l with
 | false => rfl
 | true => rw [if_pos rfl,hasOf ((netOkB_iff n l).1 h),Option.bind_some,Bool.true_and]
end Go.Proofs.Ytmioaahiflfcdaa.Pure
end
section
set_option linter.unusedSimpArgs false
set_option linter.unusedVariables false
namespace Go.Proofs.Ytmioaahiflfcdaa.Pure
open Go.RowKit Go.Proofs.Ytmioaahiflfcdaa.Pr Go.Proofs.YtmioaahiflfcdaaW.PrintWords Go.Proofs.YtmioaahiflfcdaaW.PrintLast Go.Proofs.YtmioaahiflfcdaaW.PrintMore
def flip (a : Arc) : Arc:=⟨a.f1,a.f0,a.f2,a.f3,a.f4⟩
def back (l : List Arc) : List Arc:=l.map flip
theorem back_len (l : List Arc) : (back l).length = l.length:=by simp [back]
theorem back_arc {l : List Arc} {i : Nat} (h : i < l.length) : arc (back l) i = flip (arc l i):=by
 rw [arc_get (by rw [back_len]; exact h),arc_get h];simp [back]
theorem back_good {n : Int} {l : List Arc} (h : NetGood n l) : NetGood n (back l):=by
 refine ⟨h.n1,h.n8,by rw [back_len]; exact h.len,fun i hi => ?_⟩;rw [back_len] at hi;obtain ⟨a1,a2,a3,a4⟩:=h.ok i hi;rw [back_arc hi];exact ⟨a2,a1,fun e => a3 e.symm,a4⟩
theorem implBack_l (n : Int) (l : List Arc) (hm : l.length ≤ 1000) : ∀ (m i : Nat),l.length - i = m → i ≤ l.length → Ev (fun k => impl_Net_back.l0 k l (l.length : Int) (i : Int) n ((back l).take i)) (n,back l):=by
 intro m
 induction m with
 | zero =>
  intro i hd hi;refine Ev.go ?_ (fun k => by rw [impl_Net_back.l0]);refine Ev.neg (by omega) (Ev.is ?_);rw [List.take_of_length_le (by rw [back_len]; omega)]
 | succ m ih =>
  intro i hd hi;have hlt : i < l.length:=by omega
  refine Ev.go ?_ (fun k => by rw [impl_Net_back.l0]);have ih:=ih (i + 1) (by omega) (by omega);have hlt2 : i < (back l).length:=by rw [back_len]; exact hlt
  rw [List.take_succ_eq_append_getElem hlt2,← arc_get hlt2,back_arc hlt] at ih;rw [up1 hlt (by simp only [maxLen]; omega),rda];exact Ev.pos (by omega) (Ev.pos (by omega) (Ev.pos (by omega) (Ev.pos (by simp; omega) ih)))
theorem implBack_ev (n : Int) (l : List Arc) (hm : l.length ≤ 1000) : Ev (fun k => impl_Net_back.f k n l) (n,back l):=by
 unfold impl_Net_back.f
 exact Ev.pos (by omega) (Ev.pos (by omega) (by simpa using implBack_l n l hm _ 0 rfl (Nat.zero_le _)))
def lst (n : Nat) (F : Nat → Int) : List Int:=(List.range n).map F
theorem lst_len (n : Nat) (F : Nat → Int) : (lst n F).length = n:=by simp [lst]
theorem lst_nth {n v : Nat} (F : Nat → Int) (h : v < n) : nth (lst n F) v = F v:=by
 simp [nth,lst,h]
theorem lst_rd {n v : Nat} (F : Nat → Int) (h : v < n) : rd (lst n F) (v : Int) = F v:=by rw [rdg,lst_nth F h]
theorem lst_congr {n : Nat} {F G : Nat → Int} (h : ∀ v,v < n → F v = G v) : lst n F = lst n G:=by
 unfold lst
 exact List.map_congr_left (fun v hv => h v (List.mem_range.1 hv))
theorem lst_snoc (n : Nat) (F : Nat → Int) : lst n F ++ [F n] = lst (n + 1) F:=by
 simp [lst,List.range_succ]
def upd (F : Nat → Int) (a : Nat) (x : Int) : Nat → Int:=fun v => if v = a then x else F v
theorem lst_set {n a : Nat} (F : Nat → Int) (x : Int) : (lst n F).set a x = lst n (upd F a x):=by
 apply List.ext_getElem (by simp [lst])
 intro i h1 h2;have hi : i < n:=by simpa [lst] using h2
 simp only [List.getElem_set]
 by_cases e : a = i
 case pos => subst e; simp [lst,upd]
 simp [lst,upd,e,show ¬ i = a from fun h => e h.symm]
inductive Conn (E : Nat → Nat → Prop) : Nat → Nat → Prop
 | refl (v : Nat) : Conn E v v
 | tail {u v w : Nat} : Conn E u v → (E v w ∨ E w v) → Conn E u w
end Go.Proofs.Ytmioaahiflfcdaa.Pure
end
