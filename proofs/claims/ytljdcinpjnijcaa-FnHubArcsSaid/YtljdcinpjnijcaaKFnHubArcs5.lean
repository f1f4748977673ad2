/- For the statement FnHubArcs of this seat: it is proved here, with no further conditions (part 6 of its texts: words, walks of the functions, the plain law, the row). -/
import Derived.Test.YtljdcinpjnijcaaKFnHubArcs4
section
namespace Go.Proofs.Ytljdcinpjnijcaa.Pr
open Go.RowKit Go.Proofs.YtljdcinpjnijcaaW.PrintWords Go.Proofs.YtljdcinpjnijcaaW.PrintLast Go.Proofs.YtljdcinpjnijcaaW.PrintMore
attribute [local go_sem] max2_int min2_int max_two min_two max_three min_three max_four min_four
set_option linter.unusedVariables false
set_option linter.unusedSimpArgs false
open List renaming setIfInBounds_toArray → U,set_cons_zero → V,set_cons_succ → Z
open Go.Proofs.YtljdcinpjnijcaaW.PrintWords.Aside0 renaming mk → zx
mutual
def spec_l3All.l0 : Nat → Int → List Int → Int → Int → List (S34) → Option (List Int)
 | 0,_,_,_,_,_ => none
 | k + 1,x1,x5,x6,q0,p8 => if x6 < q0 then (if 0 ≤ x6 then (if x6 < (x5.length : Int) then (spec_l3All.l0 k x1 (x5.set (x6 : Int).toNat 99999) (wrap64 (x6 + 1)) q0 p8) else (none)) else (none)) else (if 0 ≤ x1 then (if x1 < (x5.length : Int) then (spec_l3All.l1 k (x5.set (x1 : Int).toNat 0) 0 q0 p8) else (none)) else (none))
def spec_l3All.l1 : Nat → List Int → Int → Int → List (S34) → Option (List Int)
 | 0,_,_,_,_ => none
 | k + 1,x5,x7,q0,p8 => if x7 < q0 then (spec_l3All.l2 k x5 x7 0 q0 p8) else (some x5)
def spec_l3All.l2 : Nat → List Int → Int → Int → Int → List (S34) → Option (List Int)
 | 0,_,_,_,_,_ => none
 | k + 1,x5,x7,x8,q0,p8 => if x8 < (p8.length : Int) then (if 0 ≤ x8 then (if 0 ≤ ((rd_T34 p8 x8).f0) then (if ((rd_T34 p8 x8).f0) < (x5.length : Int) then (if (rd x5 ((rd_T34 p8 x8).f0)) < 99999 then (if 0 ≤ ((rd_T34 p8 x8).f1) then (if ((rd_T34 p8 x8).f1) < (x5.length : Int) then (if (wrap64 ((rd x5 ((rd_T34 p8 x8).f0)) + ((rd_T34 p8 x8).f2))) < (rd x5 ((rd_T34 p8 x8).f1)) then (spec_l3All.l2 k (x5.set (((rd_T34 p8 x8).f1) : Int).toNat (wrap64 ((rd x5 ((rd_T34 p8 x8).f0)) + ((rd_T34 p8 x8).f2)))) x7 (wrap64 (x8 + 1)) q0 p8) else (spec_l3All.l2 k x5 x7 (wrap64 (x8 + 1)) q0 p8)) else (none)) else (none)) else (spec_l3All.l2 k x5 x7 (wrap64 (x8 + 1)) q0 p8)) else (none)) else (none)) else (none)) else (spec_l3All.l1 k x5 (wrap64 (x7 + 1)) q0 p8)
end
def spec_l3All.f (k : Nat) (a0_0 : Int) (l0_1 : List (S34)) (a1 : Int) : Option (List Int):=if 0 ≤ a0_0 then (if (a0_0 : Int).toNat ≤ 35184372088832 then (spec_l3All.l0 k a1 (List.replicate (a0_0 : Int).toNat 0) 0 a0_0 l0_1) else (none)) else (none)
def spec_l3All.T14 : Bool × List (List Nat × List Nat):=(true,[([],[]),([],[]),([1],[1]),([0,2],[0,2]),([3],[3]),([4],[4]),([5],[5]),([6],[6]),([6],[6]),([8,6],[6,8]),([7,9,6],[6,7,9]),([10,6],[6,10]),([6],[6]),([12,6],[6,12]),([11,13,6],[6,11,13]),([6],[6]),([6],[6]),([16,6],[6,16]),([15,17,6],[6,15,17]),([18,6],[6,18]),([14,19,6],[6,14,19]),([6,20],[6,20])])
def spec_l3All.B14 : List Nat:=[0,0,2,7,15,31,63,127,127,383,1023,2047,127,4223,16383,127,127,65663,229503,491647,1048575,2097151]
theorem spec_l3All.tab14 : rtab .any (opsOf Try.f55 14) = spec_l3All.T14:=by kernel_rfl
theorem spec_l3All.bits14 : waitsOk spec_l3All.T14.2 spec_l3All.B14 = true:=by kernel_rfl
def spec_l3All.T15 : Bool × List (List Nat × List Nat):=(true,[([],[]),([],[]),([1],[1]),([],[]),([],[]),([4],[4]),([3,5],[3,5]),([6],[6]),([],[]),([8],[8]),([7,9],[7,9]),([0,2,0,1,2,3,4,5,6,7,8,9,10],[0,2]),([11,10,0,1,2,3,4,5,6,7,8,9,10],[10,11])])
def spec_l3All.B15 : List Nat:=[0,0,2,0,0,16,56,120,0,256,1016,2047,4095]
theorem spec_l3All.tab15 : rtab .any (opsOf Try.f55 15) = spec_l3All.T15:=by kernel_rfl
theorem spec_l3All.bits15 : waitsOk spec_l3All.T15.2 spec_l3All.B15 = true:=by kernel_rfl
set_option maxHeartbeats 8000000 in
set_option maxRecDepth 100000 in
theorem spec_l3All.calls (k : Nat) (a0_0 : Int) (A0_1 : Option Addr) (c0_1 : Nat) (l0_1 : List (S34)) (a1 : Int) (r : List Int) (w : World) (hr0_1 : Kd.C k34 w A0_1 l0_1.length l0_1) (hc0_1 : l0_1.length ≤ c0_1) (h : spec_l3All.f k a0_0 l0_1 a1 = some r) :
  Calls Try.prog 55 #[.agg #[.int .i64 a0_0,.slice A0_1 l0_1.length c0_1],.int .i64 a1] w fun e w' => ∃ v0_ : Value,e = .returned (v0_) ∧ Kd.R (Kd.int .i64) 3 w' w.heap.size (fun _ => True) v0_ r ∧ Below w.heap.size w w':=by
 have hu25:=Try.underlying25;have hu34:=Try.underlying34;have t5:=zx hr0_1;have HC0_1:=zx hc0_1;clear hr0_1 hc0_1;have HB:=zx (Below.refl w.heap.size w);have H : (if 0 ≤ a0_0 then (if (a0_0 : Int).toNat ≤ 35184372088832 then (spec_l3All.l0 k a1 (List.replicate (a0_0 : Int).toNat 0) 0 a0_0 l0_1) else (none)) else (none)) = some r:=h;clear h
 by_cases c3 : 0 ≤ a0_0
 case neg =>
  rw [if_neg c3] at H;exact absurd H (by simp)
 rw [if_pos c3] at H;have c3b0:=eq_true c3;have c3b1 : decide (0 ≤ a0_0) = true:=decide_eq_true c3;clear c3
 by_cases c4 : (a0_0 : Int).toNat ≤ 35184372088832
 case neg =>
  rw [if_neg c4] at H;exact absurd H (by simp)
 rw [if_pos c4] at H;have c4b0:=eq_true c4;have c4b1 : decide ((a0_0 : Int).toNat ≤ 35184372088832) = true:=decide_eq_true c4;clear c4;obtain ⟨y272,hy272⟩ : ∃ y_ : List Int,y_ = (List.replicate (a0_0 : Int).toNat 0):=⟨_,rfl⟩
 replace H : (spec_l3All.l0 k a1 y272 0 a0_0 l0_1) = some r:=by first | (rw [hy272]; with_reducible exact H) | (have H2_:=(Option.bind_some _ _).symm.trans H; rw [hy272]; with_reducible exact H2_) | (have H2_:=(Option.bind_some _ _).symm.trans H; with_reducible exact H2_) | with_reducible exact H | (rw [hy272]; exact H) | exact H
 have Ny272:=zx hy272;clear hy272;have H':=zx H;clear H
 go_enter Try.func55,Try.ntmps55
 go_wp2_with (first | ((with_reducible refine gate_dst (N:=2) rfl ?_); refine box_event ?hg (N:=2) ?hd (cs:=#[.int .i64 a0_0,.slice A0_1 l0_1.length c0_1]) (t:=25) ?hr ?_; (case hd => rfl); (case hg => rfl); (case hr => first | (go_simp; done) | (go_simp; rfl)); intro p7 hg w5 hbox hb; have n0_:=zx (below_step HB.out hb); have n1_:=zx (hbox); have n2_:=zx ((by rw [hg]; exact (below_size HB.out) : w.heap.size ≤ p7)); have n3_:=zx ((by rw [hg]; exact (below_size HB.out) : w.heap.size ≤ p7)); clear HB; have HB:=n0_; have p3:=n1_; have GW271:=n2_; have r1:=n3_; clear n0_ n1_ n2_ n3_; clear hb hbox hg; have r5 : w5.cell? ⟨p7,0,none⟩ = some (.int .i64 a0_0):=(blk_cell p3.out 0).trans rfl; have r6 : w5.cell? ⟨p7,1,none⟩ = some (.slice A0_1 l0_1.length c0_1):=(blk_cell p3.out 1).trans rfl; have r7:=blk_frozen p3.out 0; have r8:=blk_frozen p3.out 1) | ((with_reducible refine gate_dst (N:=12) rfl ?_); refine Kd.R_make (Kd.int .i64) _ 3 rfl (N:=12) rfl 29 _ _ rfl a0_0 (by first | rfl | (go_simp; done) | (go_simp; rfl)) (by first | rfl | (go_simp; done) | (go_simp; rfl)) Try.underlying29 (.int .i64 0) 8 info3 rfl (by decide) (by omega) 0 (ok:=fun _ => True) (okp:=fun _ => True) rfl (fun _ hk => hk) trivial (of_decide_eq_true (by first | (with_reducible assumption) | assumption)) (Nat.le_trans (Nat.mul_le_mul_right _ (of_decide_eq_true (by first | (with_reducible assumption) | assumption) : a0_0.toNat ≤ 35184372088832)) (by omega)) (Below.refl _ _) (Nat.le_refl _) ?_; intro v273 w7 ho8 hb hg_ hnew_; clear hg_ hnew_; (first | rw [← Ny272.out] at ho8 | (simp only [Int.reduceToNat] at ho8; rw [← Ny272.out] at ho8)); have n0_:=zx (Kd.R_lower ho8 (below_size HB.out)); have n1_:=zx (blk_below (g:=p7) (o:=.cells #[.int .i64 a0_0,.slice A0_1 l0_1.length c0_1] 25 (0,0)) p3.out hb); have n2_:=zx (below_step HB.out hb); clear p3; clear HB; have HO274:=n0_; have p3:=n1_; have HB:=n2_; clear n0_ n1_ n2_; clear hb ho8))
 go_loopg [6] k (fun kq v6 w' => ∃ (x5_1 : List Int) (x6_1 : Int),v6 = .int .i64 x6_1 ∧ Aside0 (spec_l3All.l0 kq a1 x5_1 x6_1 a0_0 l0_1 = some r) ∧ Aside0 (kq ≤ k) ∧ Aside0 (Kd.R (Kd.int .i64) 3 w' w.heap.size (fun _ => True) v273 x5_1) ∧ Aside0 (w'.heap[p7]? = some (.cells #[.int .i64 a0_0,(.slice A0_1 l0_1.length c0_1)] 25 (0,0))) ∧ Aside0 (Below w.heap.size w w'))
 case atStart => exact ⟨(y272),(0),(by first | rfl | (simp; done) | (simp [*]; done)),H',⟨Nat.le_refl _⟩,⟨by exact HO274.out⟩,⟨by exact p3.out⟩,⟨by repeat (first | (with_reducible first | exact HB.out | apply below_alloc | apply pw_below_drewN | apply below_drew1 | refine below_set ?_ r1.out) | exact HB.out)⟩⟩
 case round =>
  clear H'
  try clear p2
  try clear c3
  try clear c3b0
  try clear c3b1
  try clear c4
  try clear c4b0
  try clear c4b1
  try clear c5
  try clear r5
  try clear r6
  try clear r7
  try clear r8
  obtain ⟨x5_1,x6_1,rfl,HA,HK1,HO_5,p3,HB⟩:=hrel;cases gk with
  | zero => exact absurd HA.out (by simp [spec_l3All.l0])
  | succ k1 =>
   have H:=HA.out;clear HA;simp only [spec_l3All.l0] at H
   by_cases c9 : x6_1 < a0_0
   case pos =>
    rw [if_pos c9] at H;have c9b0 : decide (x6_1 < a0_0) = true:=decide_eq_true c9;clear c9
    by_cases c10 : 0 ≤ x6_1
    case neg =>
     rw [if_neg c10] at H;exact absurd H (by simp)
    rw [if_pos c10] at H;have c10b0 : decide (0 ≤ x6_1) = true:=decide_eq_true c10;clear c10
    by_cases c11 : x6_1 < (x5_1.length : Int)
    case neg =>
     rw [if_neg c11] at H;exact absurd H (by simp)
    rw [if_pos c11] at H;have c11b0 : decide (x6_1 < (x5_1.length : Int)) = true:=decide_eq_true c11;clear c11;obtain ⟨y275,hy275⟩ : ∃ y_ : List Int,y_ = (x5_1.set (x6_1 : Int).toNat 99999):=⟨_,rfl⟩
    replace H : (spec_l3All.l0 k1 a1 y275 (wrap64 (x6_1 + 1)) a0_0 l0_1) = some r:=by first | (rw [hy275]; with_reducible exact H) | (have H2_:=(Option.bind_some _ _).symm.trans H; rw [hy275]; with_reducible exact H2_) | (have H2_:=(Option.bind_some _ _).symm.trans H; with_reducible exact H2_) | with_reducible exact H | (rw [hy275]; exact H) | exact H
    have Ny275:=zx hy275;clear hy275;have H':=zx H;clear H;have r9 : wr.cell? ⟨p7,0,none⟩ = some (.int .i64 a0_0):=(blk_cell p3.out 0).trans rfl;have s8 : wr.cell? ⟨p7,1,none⟩ = some (.slice A0_1 l0_1.length c0_1):=(blk_cell p3.out 1).trans rfl;have s9:=blk_frozen p3.out 0;have t0:=blk_frozen p3.out 1;have p12 : 0 ≤ (x6_1 : Int):=of_decide_eq_true (by first | (with_reducible assumption) | assumption);have q12 : (x6_1 : Int) < ((x5_1.length : Int) : Int):=of_decide_eq_true (by first | (with_reducible assumption) | assumption);obtain ⟨go12,co12,eo12,gb12,gl12,cl12,HG12⟩:=Kd.R_form HO_5.out (by omega)
    (first | cases eo12 | (injection eo12 with ea_ en_ ec_; (first | subst ea_ | (injection ea_ with ea_; subst ea_)); subst ec_; clear en_))
    have GB12:=zx gb12;have GG12:=zx HG12;clear gb12 gl12 HG12;obtain ⟨t6,hf12_0⟩:=Kd.R_celln 0 HO_5.out (x6_1 : Int) p12 q12;replace p12:=eq_true p12;replace q12:=eq_true q12;have HP14:=Kd.R_putg HO_5.out (x6_1 : Int) 99999
    go_wp2_with (first | ((with_reducible refine gate_store (t:=3) (p:=21) rfl ?_); refine store_event (t:=3) (p:=21) (v:=?vo_w15) (w1:=(wr.setCell ⟨go12,(x6_1 : Int).toNat,none⟩ (.int .i64 99999))) ?hg ?ho ?hn ?hr ?_; (case ho => rfl); (case hg => rfl); (case hn => rfl); (case hr => first | (go_simp; done) | (go_simp; rfl)); intro w15 hw; have hg : wr.grownBy w15 (some go12):=(by rw [hw]; exact HP14.2); have hp_ : Kd.R (Kd.int .i64) 3 w15 w.heap.size (fun _ => True) (.slice (some ⟨go12,0,none⟩) x5_1.length co12) y275:=(by rw [hw,Ny275.out]; exact HP14.1); clear HP14; have n0_:=zx (hp_); have n1_:=zx (blk_grown (g:=p7) (o:=.cells #[.int .i64 a0_0,.slice A0_1 l0_1.length c0_1] 25 (0,0)) p3.out hg (Kd.R_ne HO_5.out p3.out (by decide))); have n2_:=zx ((by rw [hw]; exact below_set (HB.out) GB12.out : Below w.heap.size w w15)); clear HO_5; clear p3; clear HB; have HO_5:=n0_; have p3:=n1_; have HB:=n2_; clear n0_ n1_ n2_; clear hg hw hp_))
    go_roundg k1
    case measure => have:=HK1.out; omega
    case rel => exact ⟨(y275),(wrap64 (x6_1 + 1)),(by first | rfl | (simp; done) | (simp [*]; done)),H',⟨by have:=HK1.out; omega⟩,⟨by exact HO_5.out⟩,⟨by exact p3.out⟩,⟨by repeat (first | (with_reducible first | exact HB.out | apply below_alloc | apply pw_below_drewN | apply below_drew1 | refine below_set ?_ r1.out) | exact HB.out)⟩⟩
   rw [if_neg c9] at H;have c9b0 : decide (x6_1 < a0_0) = false:=decide_eq_false c9;clear c9
   by_cases c16 : 0 ≤ a1
   case neg =>
    rw [if_neg c16] at H;exact absurd H (by simp)
   rw [if_pos c16] at H;have c16b0 : decide (0 ≤ a1) = true:=decide_eq_true c16;clear c16
   by_cases c17 : a1 < (x5_1.length : Int)
   case neg =>
    rw [if_neg c17] at H;exact absurd H (by simp)
   rw [if_pos c17] at H;have c17b0 : decide (a1 < (x5_1.length : Int)) = true:=decide_eq_true c17;clear c17;obtain ⟨y276,hy276⟩ : ∃ y_ : List Int,y_ = (x5_1.set (a1 : Int).toNat 0):=⟨_,rfl⟩
   replace H : (spec_l3All.l1 k1 y276 0 a0_0 l0_1) = some r:=by first | (rw [hy276]; with_reducible exact H) | (have H2_:=(Option.bind_some _ _).symm.trans H; rw [hy276]; with_reducible exact H2_) | (have H2_:=(Option.bind_some _ _).symm.trans H; with_reducible exact H2_) | with_reducible exact H | (rw [hy276]; exact H) | exact H
   have Ny276:=zx hy276;clear hy276;have H':=zx H;clear H;have t1 : wr.cell? ⟨p7,0,none⟩ = some (.int .i64 a0_0):=(blk_cell p3.out 0).trans rfl;have t2 : wr.cell? ⟨p7,1,none⟩ = some (.slice A0_1 l0_1.length c0_1):=(blk_cell p3.out 1).trans rfl;have t3:=blk_frozen p3.out 0;have t4:=blk_frozen p3.out 1;have p18 : 0 ≤ (a1 : Int):=of_decide_eq_true (by first | (with_reducible assumption) | assumption);have q18 : (a1 : Int) < ((x5_1.length : Int) : Int):=of_decide_eq_true (by first | (with_reducible assumption) | assumption);obtain ⟨go18,co18,eo18,gb18,gl18,cl18,HG18⟩:=Kd.R_form HO_5.out (by omega)
   (first | cases eo18 | (injection eo18 with ea_ en_ ec_; (first | subst ea_ | (injection ea_ with ea_; subst ea_)); subst ec_; clear en_))
   have GB18:=zx gb18;have GG18:=zx HG18;clear gb18 gl18 HG18;obtain ⟨t7,hf18_0⟩:=Kd.R_celln 0 HO_5.out (a1 : Int) p18 q18;replace p18:=eq_true p18;replace q18:=eq_true q18;have HP20:=Kd.R_putg HO_5.out (a1 : Int) 0
   go_wp2_with (first | ((with_reducible refine gate_store (t:=3) (p:=24) rfl ?_); refine store_event (t:=3) (p:=24) (v:=?vo_w21) (w1:=(wr.setCell ⟨go18,(a1 : Int).toNat,none⟩ (.int .i64 0))) ?hg ?ho ?hn ?hr ?_; (case ho => rfl); (case hg => rfl); (case hn => rfl); (case hr => first | (go_simp; done) | (go_simp; rfl)); intro w21 hw; have hg : wr.grownBy w21 (some go18):=(by rw [hw]; exact HP20.2); have hp_ : Kd.R (Kd.int .i64) 3 w21 w.heap.size (fun _ => True) (.slice (some ⟨go18,0,none⟩) x5_1.length co18) y276:=(by rw [hw,Ny276.out]; exact HP20.1); clear HP20; have n0_:=zx (hp_); have n1_:=zx (blk_grown (g:=p7) (o:=.cells #[.int .i64 a0_0,.slice A0_1 l0_1.length c0_1] 25 (0,0)) p3.out hg (Kd.R_ne HO_5.out p3.out (by decide))); have n2_:=zx ((by rw [hw]; exact below_set (HB.out) GB18.out : Below w.heap.size w w21)); clear HO_5; clear p3; clear HB; have HO_5:=n0_; have p3:=n1_; have HB:=n2_; clear n0_ n1_ n2_; clear hg hw hp_))
   go_loopg [7] k1 (fun kq v7 w' => ∃ (x5_2 : List Int) (x7_2 : Int),v7 = .int .i64 x7_2 ∧ Aside0 (spec_l3All.l1 kq x5_2 x7_2 a0_0 l0_1 = some r) ∧ Aside0 (kq ≤ k1) ∧ Aside0 (Kd.R (Kd.int .i64) 3 w' w.heap.size (fun _ => True) (.slice (some ⟨go18,0,none⟩) x5_1.length co18) x5_2) ∧ Aside0 (w'.heap[p7]? = some (.cells #[.int .i64 a0_0,(.slice A0_1 l0_1.length c0_1)] 25 (0,0))) ∧ Aside0 (Below w.heap.size w w'))
   case atStart => exact ⟨(y276),(0),(by first | rfl | (simp; done) | (simp [*]; done)),H',⟨Nat.le_refl _⟩,⟨by exact HO_5.out⟩,⟨by exact p3.out⟩,⟨by repeat (first | (with_reducible first | exact HB.out | apply below_alloc | apply pw_below_drewN | apply below_drew1 | refine below_set ?_ r1.out) | exact HB.out)⟩⟩
   case round =>
    clear H'
    try clear c1
    try clear p1
    try clear q1
    try clear hx1
    try clear p2
    try clear c3
    try clear c3b0
    try clear c3b1
    try clear c4
    try clear c4b0
    try clear c4b1
    try clear c5
    try clear p6
    try clear c9
    try clear c9b0
    try clear c10
    try clear c10b0
    try clear c11
    try clear c11b0
    try clear p12
    try clear q12
    try clear hx12
    try clear hf12
    try clear c16
    try clear c16b0
    try clear c17
    try clear c17b0
    try clear p18
    try clear q18
    try clear hx18
    try clear hf18
    try clear r9
    try clear s8
    try clear t1
    try clear t2
    try clear r5
    try clear r6
    try clear s9
    try clear t0
    try clear t3
    try clear t4
    try clear r7
    try clear r8
    try clear t6
    try clear t7
    try clear p12
    try clear p18
    try clear p2
    try clear q12
    try clear q18
    obtain ⟨x5_2,x7_2,rfl,HA,HK2,HO_5,p3,HB⟩:=hrel;have hl5_2:=(Kd.R_reads' HO_5.out).1;rw [hl5_2] at HO_5
    (try simp only [hl5_2])
    (try simp only [hl5_2] at p3)
    cases gk with
    | zero => exact absurd HA.out (by simp [spec_l3All.l1])
    | succ k2 =>
     have H:=HA.out;clear HA;simp only [spec_l3All.l1] at H
     by_cases c22 : x7_2 < a0_0
     case neg =>
      rw [if_neg c22] at H;have c22b0 : decide (x7_2 < a0_0) = false:=decide_eq_false c22;clear c22;obtain rfl:=Option.some.inj H;have hcz54_0 : wr.cell? ⟨p7,0,none⟩ = some (.int .i64 a0_0):=(blk_cell p3.out 0).trans rfl;have hcz54_1 : wr.cell? ⟨p7,1,none⟩ = some (.slice A0_1 l0_1.length c0_1):=(blk_cell p3.out 1).trans rfl;have hfz54_0:=blk_frozen p3.out 0;have hfz54_1:=blk_frozen p3.out 1
      go_wp2
      go_ret;exact ⟨_,by first | rfl | (simp [errW_none,errW_some] <;> rfl) | (simp [*,errW_none,errW_some] <;> rfl),by exact HO_5.out,by repeat (first | (with_reducible first | exact HB.out | apply below_alloc | apply pw_below_drewN | apply below_drew1 | refine below_set ?_ r1.out) | exact HB.out)⟩
     rw [if_pos c22] at H;have c22b0 : decide (x7_2 < a0_0) = true:=decide_eq_true c22;clear c22;have H':=zx H;clear H;have u0 : wr.cell? ⟨p7,0,none⟩ = some (.int .i64 a0_0):=(blk_cell p3.out 0).trans rfl;have u1 : wr.cell? ⟨p7,1,none⟩ = some (.slice A0_1 l0_1.length c0_1):=(blk_cell p3.out 1).trans rfl;have u2:=blk_frozen p3.out 0;have u3:=blk_frozen p3.out 1
     go_wp2
     go_loopg [8] k2 (fun kq v8 w' => ∃ (x5_3 : List Int) (x8_3 : Int),v8 = .int .i64 x8_3 ∧ Aside0 (spec_l3All.l2 kq x5_3 x7_2 x8_3 a0_0 l0_1 = some r) ∧ Aside0 (kq ≤ k2) ∧ Aside0 (Kd.R (Kd.int .i64) 3 w' w.heap.size (fun _ => True) (.slice (some ⟨go18,0,none⟩) x5_2.length co18) x5_3) ∧ Aside0 (w'.heap[p7]? = some (.cells #[.int .i64 a0_0,(.slice A0_1 l0_1.length c0_1)] 25 (0,0))) ∧ Aside0 (Below w.heap.size w w'))
     case atStart => exact ⟨(x5_2),(0),(by first | rfl | (simp; done) | (simp [*]; done)),H',⟨Nat.le_refl _⟩,⟨by (try simp only [hl5_2]); exact HO_5.out⟩,⟨by (try simp only [hl5_2]); exact p3.out⟩,⟨by repeat (first | (with_reducible first | exact HB.out | apply below_alloc | apply pw_below_drewN | apply below_drew1 | refine below_set ?_ r1.out) | exact HB.out)⟩⟩
     case round =>
      clear H'
      try clear c1
      try clear p1
      try clear q1
      try clear hx1
      try clear c2
      try clear p2
      try clear c3
      try clear c3b0
      try clear c3b1
      try clear c4
      try clear c4b0
      try clear c4b1
      try clear c5
      try clear p6
      try clear c9
      try clear c9b0
      try clear c10
      try clear c10b0
      try clear c11
      try clear c11b0
      try clear p12
      try clear q12
      try clear hx12
      try clear hf12
      try clear c16
      try clear c16b0
      try clear c17
      try clear c17b0
      try clear p18
      try clear q18
      try clear hx18
      try clear hf18
      try clear c22
      try clear c22b0
      try clear r9
      try clear s8
      try clear t1
      try clear t2
      try clear u0
      try clear u1
      try clear r5
      try clear r6
      try clear s9
      try clear t0
      try clear t3
      try clear t4
      try clear u2
      try clear u3
      try clear r7
      try clear r8
      try clear t6
      try clear t7
      try clear p1
      try clear p12
      try clear p18
      try clear p2
      try clear p6
      try clear q1
      try clear q12
      try clear q18
      obtain ⟨x5_3,x8_3,rfl,HA,HK3,HO_5,p3,HB⟩:=hrel;have hl5_3:=(Kd.R_reads' HO_5.out).1;rw [hl5_3] at HO_5
      (try simp only [hl5_3])
      (try simp only [hl5_3] at p3)
      cases gk with
      | zero => exact absurd HA.out (by simp [spec_l3All.l2])
      | succ k3 =>
       have H:=HA.out;clear HA;simp only [spec_l3All.l2] at H
       by_cases c24 : x8_3 < (l0_1.length : Int)
       case neg =>
        rw [if_neg c24] at H;have c24b0 : decide (x8_3 < (l0_1.length : Int)) = false:=decide_eq_false c24;clear c24;have H':=zx H;clear H;have hcz53_0 : wr.cell? ⟨p7,0,none⟩ = some (.int .i64 a0_0):=(blk_cell p3.out 0).trans rfl;have hcz53_1 : wr.cell? ⟨p7,1,none⟩ = some (.slice A0_1 l0_1.length c0_1):=(blk_cell p3.out 1).trans rfl;have hfz53_0:=blk_frozen p3.out 0;have hfz53_1:=blk_frozen p3.out 1
        go_wp2
        (try simp only [← hl5_2,← hl5_3])
        go_roundg k3
        case measure => have:=HK1.out; have:=HK2.out; have:=HK3.out; omega
        case rel => exact ⟨(x5_3),(wrap64 (x7_2 + 1)),(by first | rfl | (simp; done) | (simp [*]; done)),H',⟨by have:=HK1.out; have:=HK2.out; have:=HK3.out; omega⟩,⟨by (try simp only [hl5_2]); (try simp only [hl5_3]); exact HO_5.out⟩,⟨by (try simp only [hl5_2]); (try simp only [hl5_3]); exact p3.out⟩,⟨by repeat (first | (with_reducible first | exact HB.out | apply below_alloc | apply pw_below_drewN | apply below_drew1 | refine below_set ?_ r1.out) | exact HB.out)⟩⟩
       rw [if_pos c24] at H;have c24b0 : decide (x8_3 < (l0_1.length : Int)) = true:=decide_eq_true c24;clear c24
       by_cases c25 : 0 ≤ x8_3
       case neg =>
        rw [if_neg c25] at H;exact absurd H (by simp)
       rw [if_pos c25] at H;have c25b0 : decide (0 ≤ x8_3) = true:=decide_eq_true c25;clear c25
       by_cases c26 : 0 ≤ ((rd_T34 l0_1 x8_3).f0)
       case neg =>
        rw [if_neg c26] at H;exact absurd H (by simp)
       rw [if_pos c26] at H;have c26b0 : decide (0 ≤ ((rd_T34 l0_1 x8_3).f0)) = true:=decide_eq_true c26;clear c26
       by_cases c27 : ((rd_T34 l0_1 x8_3).f0) < (x5_3.length : Int)
       case neg =>
        rw [if_neg c27] at H;exact absurd H (by simp)
       rw [if_pos c27] at H;have c27b0 : decide (((rd_T34 l0_1 x8_3).f0) < (x5_3.length : Int)) = true:=decide_eq_true c27;clear c27
       by_cases c28 : (rd x5_3 ((rd_T34 l0_1 x8_3).f0)) < 99999
       case neg =>
        rw [if_neg c28] at H;have c28b0 : decide ((rd x5_3 ((rd_T34 l0_1 x8_3).f0)) < 99999) = false:=decide_eq_false c28;clear c28;have H':=zx H;clear H;have hcz47_0 : wr.cell? ⟨p7,0,none⟩ = some (.int .i64 a0_0):=(blk_cell p3.out 0).trans rfl;have hcz47_1 : wr.cell? ⟨p7,1,none⟩ = some (.slice A0_1 l0_1.length c0_1):=(blk_cell p3.out 1).trans rfl;have hfz47_0:=blk_frozen p3.out 0;have hfz47_1:=blk_frozen p3.out 1;have p277 : 0 ≤ (x8_3 : Int):=of_decide_eq_true (by first | (with_reducible assumption) | assumption);have q277 : x8_3 < (l0_1.length : Int):=of_decide_eq_true (by first | (with_reducible assumption) | assumption);obtain ⟨q9,e277,q2,q3,q4,q5,q6⟩:=at_T34 t5.out x8_3 p277 q277;cases e277;replace q2:=(HB.out.cell (World.block_lt_of_cell? w _ q2)).trans q2;replace q3:=(HB.out.cell (World.block_lt_of_cell? w _ q3)).trans q3;replace q4:=(HB.out.cell (World.block_lt_of_cell? w _ q4)).trans q4;replace q5:=(HB.out.cell (World.block_lt_of_cell? w _ q5)).trans q5;replace q6:=(HB.out.cell (World.block_lt_of_cell? w _ q6)).trans q6;replace p277:=eq_true p277;replace q277:=eq_true q277
        try go_wp2_with (first | ((with_reducible refine gate_dst (N:=9) rfl ?_); refine box_event ?hg (N:=9) ?hd (cs:=#[.int .i64 0,.int .i64 0,.int .i64 0,.int .i64 0,.int .i64 0]) (t:=34) ?hr ?_; (case hd => rfl); (case hg => rfl); (case hr => first | (go_simp; done) | (go_simp; rfl)); intro p0 hg w48 hbox hb; have n0_:=zx (Kd.R_below HO_5.out hb); have n1_:=zx (blk_below (g:=p7) (o:=.cells #[.int .i64 a0_0,.slice (some q9) l0_1.length c0_1] 25 (0,0)) p3.out hb); have n2_:=zx (below_step HB.out hb); have n3_:=zx (hbox); have n4_:=zx ((by rw [hg]; exact (below_size HB.out) : w.heap.size ≤ p0)); have n5_:=zx ((by rw [hg]; exact (below_size HB.out) : w.heap.size ≤ p0)); have n6_:=zx ((by rw [hg]; exact Nat.ne_of_lt (blk_lt (g:=p7) (o:=.cells #[.int .i64 a0_0,.slice (some q9) l0_1.length c0_1] 25 (0,0)) p3.out) : p7 ≠ p0)); have n7_:=zx ((by rw [hg]; exact Nat.ne_of_gt (blk_lt (g:=p7) (o:=.cells #[.int .i64 a0_0,.slice (some q9) l0_1.length c0_1] 25 (0,0)) p3.out) : p0 ≠ p7)); clear HO_5; clear p3; clear HB; have HO_5:=n0_; have p3:=n1_; have HB:=n2_; have p4:=n3_; have GW278:=n4_; have r3:=n5_; have p5:=n6_; have r0:=n7_; clear n0_ n1_ n2_ n3_ n4_ n5_ n6_ n7_; clear hb hbox hg; have hnb49:=r0.out; have hnc49:=p5.out; have hcz50_0 : w48.cell? ⟨p0,0,none⟩ = some (.int .i64 0):=(blk_cell p4.out 0).trans rfl; have hcz50_1 : w48.cell? ⟨p0,1,none⟩ = some (.int .i64 0):=(blk_cell p4.out 1).trans rfl; have hcz50_2 : w48.cell? ⟨p0,2,none⟩ = some (.int .i64 0):=(blk_cell p4.out 2).trans rfl; have hcz50_3 : w48.cell? ⟨p0,3,none⟩ = some (.int .i64 0):=(blk_cell p4.out 3).trans rfl; have hcz50_4 : w48.cell? ⟨p0,4,none⟩ = some (.int .i64 0):=(blk_cell p4.out 4).trans rfl; have hfz50_0:=blk_frozen p4.out 0; have hfz50_1:=blk_frozen p4.out 1; have hfz50_2:=blk_frozen p4.out 2; have hfz50_3:=blk_frozen p4.out 3; have hfz50_4:=blk_frozen p4.out 4))
        have n0_ : Aside0 (Kd.R (Kd.int .i64) 3 (((((w48.setCell ⟨p0,0,none⟩ (.int .i64 ((rd_T34 l0_1 x8_3).f0))).setCell ⟨p0,1,none⟩ (.int .i64 ((rd_T34 l0_1 x8_3).f1))).setCell ⟨p0,2,none⟩ (.int .i64 ((rd_T34 l0_1 x8_3).f2))).setCell ⟨p0,3,none⟩ (.int .i64 ((rd_T34 l0_1 x8_3).f3))).setCell ⟨p0,4,none⟩ (.int .i64 ((rd_T34 l0_1 x8_3).f4))) w.heap.size (fun _ => True) (.slice (some ⟨go18,0,none⟩) x5_3.length co18) x5_3):=⟨by exact Kd.R_mono (Kd.R_far (p:=⟨p0,4,none⟩) (Kd.R_far (p:=⟨p0,3,none⟩) (Kd.R_far (p:=⟨p0,2,none⟩) (Kd.R_far (p:=⟨p0,1,none⟩) (Kd.R_far (p:=⟨p0,0,none⟩) (Kd.R_types HO_5.out p4.out (by decide)) (fun _ hk => hk.2) (.int .i64 ((rd_T34 l0_1 x8_3).f0))) (fun _ hk => hk.2) (.int .i64 ((rd_T34 l0_1 x8_3).f1))) (fun _ hk => hk.2) (.int .i64 ((rd_T34 l0_1 x8_3).f2))) (fun _ hk => hk.2) (.int .i64 ((rd_T34 l0_1 x8_3).f3))) (fun _ hk => hk.2) (.int .i64 ((rd_T34 l0_1 x8_3).f4))) (fun _ hk => trivial)⟩
        have n1_ : Aside0 ((((((w48.setCell ⟨p0,0,none⟩ (.int .i64 ((rd_T34 l0_1 x8_3).f0))).setCell ⟨p0,1,none⟩ (.int .i64 ((rd_T34 l0_1 x8_3).f1))).setCell ⟨p0,2,none⟩ (.int .i64 ((rd_T34 l0_1 x8_3).f2))).setCell ⟨p0,3,none⟩ (.int .i64 ((rd_T34 l0_1 x8_3).f3))).setCell ⟨p0,4,none⟩ (.int .i64 ((rd_T34 l0_1 x8_3).f4))).heap[p7]? = some (.cells #[.int .i64 a0_0,.slice (some q9) l0_1.length c0_1] 25 (0,0))):=⟨by refine blk_far ?_ p5.out _; refine blk_far ?_ p5.out _; refine blk_far ?_ p5.out _; refine blk_far ?_ p5.out _; refine blk_far ?_ p5.out _; exact p3.out⟩
        have n2_ : Aside0 ((((((w48.setCell ⟨p0,0,none⟩ (.int .i64 ((rd_T34 l0_1 x8_3).f0))).setCell ⟨p0,1,none⟩ (.int .i64 ((rd_T34 l0_1 x8_3).f1))).setCell ⟨p0,2,none⟩ (.int .i64 ((rd_T34 l0_1 x8_3).f2))).setCell ⟨p0,3,none⟩ (.int .i64 ((rd_T34 l0_1 x8_3).f3))).setCell ⟨p0,4,none⟩ (.int .i64 ((rd_T34 l0_1 x8_3).f4))).heap[p0]? = some (.cells #[.int .i64 ((rd_T34 l0_1 x8_3).f0),.int .i64 ((rd_T34 l0_1 x8_3).f1),.int .i64 ((rd_T34 l0_1 x8_3).f2),.int .i64 ((rd_T34 l0_1 x8_3).f3),.int .i64 ((rd_T34 l0_1 x8_3).f4)] 34 (0,0))):=⟨by refine blk_put (cs:=#[.int .i64 ((rd_T34 l0_1 x8_3).f0),.int .i64 ((rd_T34 l0_1 x8_3).f1),.int .i64 ((rd_T34 l0_1 x8_3).f2),.int .i64 ((rd_T34 l0_1 x8_3).f3),.int .i64 0]) ?_ 4 _ rfl; refine blk_put (cs:=#[.int .i64 ((rd_T34 l0_1 x8_3).f0),.int .i64 ((rd_T34 l0_1 x8_3).f1),.int .i64 ((rd_T34 l0_1 x8_3).f2),.int .i64 0,.int .i64 0]) ?_ 3 _ rfl; refine blk_put (cs:=#[.int .i64 ((rd_T34 l0_1 x8_3).f0),.int .i64 ((rd_T34 l0_1 x8_3).f1),.int .i64 0,.int .i64 0,.int .i64 0]) ?_ 2 _ rfl; refine blk_put (cs:=#[.int .i64 ((rd_T34 l0_1 x8_3).f0),.int .i64 0,.int .i64 0,.int .i64 0,.int .i64 0]) ?_ 1 _ rfl; refine blk_put (cs:=#[.int .i64 0,.int .i64 0,.int .i64 0,.int .i64 0,.int .i64 0]) ?_ 0 _ rfl; exact p4.out⟩
        have n3_ : Aside0 (Below w.heap.size w (((((w48.setCell ⟨p0,0,none⟩ (.int .i64 ((rd_T34 l0_1 x8_3).f0))).setCell ⟨p0,1,none⟩ (.int .i64 ((rd_T34 l0_1 x8_3).f1))).setCell ⟨p0,2,none⟩ (.int .i64 ((rd_T34 l0_1 x8_3).f2))).setCell ⟨p0,3,none⟩ (.int .i64 ((rd_T34 l0_1 x8_3).f3))).setCell ⟨p0,4,none⟩ (.int .i64 ((rd_T34 l0_1 x8_3).f4)))):=⟨by repeat (first | (with_reducible first | exact HB.out | apply below_alloc | apply pw_below_drewN | apply below_drew1 | refine below_set ?_ r1.out | refine below_set ?_ r3.out) | exact HB.out)⟩
        (try clear HO_5)
        (try clear p3)
        (try clear p4)
        (try clear HB)
        generalize (((((w48.setCell ⟨p0,0,none⟩ (.int .i64 ((rd_T34 l0_1 x8_3).f0))).setCell ⟨p0,1,none⟩ (.int .i64 ((rd_T34 l0_1 x8_3).f1))).setCell ⟨p0,2,none⟩ (.int .i64 ((rd_T34 l0_1 x8_3).f2))).setCell ⟨p0,3,none⟩ (.int .i64 ((rd_T34 l0_1 x8_3).f3))).setCell ⟨p0,4,none⟩ (.int .i64 ((rd_T34 l0_1 x8_3).f4))) = w51 at n0_ n1_ n2_ n3_ ⊢;have HO_5:=n0_;have p3:=n1_;have p4:=n2_;have HB:=n3_;clear n0_ n1_ n2_ n3_;have n0_:=zx (Kd.R_drew HO_5.out);have n1_:=zx (blk_drew p3.out);have n2_:=zx (blk_drew p4.out);have n3_:=zx (below_drew1 HB.out);clear HO_5;clear p3;clear p4;clear HB;have HO_5:=n0_;have p3:=n1_;have p4:=n2_;have HB:=n3_;clear n0_ n1_ n2_ n3_;have p279 : 0 ≤ (((rd_T34 l0_1 x8_3).f0) : Int):=of_decide_eq_true (by first | (with_reducible assumption) | assumption);have q279 : ((rd_T34 l0_1 x8_3).f0) < (x5_3.length : Int):=of_decide_eq_true (by first | (with_reducible assumption) | assumption);obtain ⟨r4,e279,p9⟩:=Kd.at_int (Kd.R_reads' HO_5.out).2.2 ((rd_T34 l0_1 x8_3).f0) p279 q279;obtain rfl : (⟨go18,0,none⟩ : Addr) = r4:=(by injection e279)
        (first | simp only [add_plain] at p9 | simp only [add_at] at p9 | simp only [Addr.add,Nat.zero_add] at p9 | skip)
        replace p279:=eq_true p279;replace q279:=eq_true q279;refine start_ (n:=22) (S:=fun w' => w'.cell? ⟨p0,0,none⟩ = some (.int .i64 ((rd_T34 l0_1 x8_3).f0)) ∧ w'.cell? ⟨p0,1,none⟩ = some (.int .i64 ((rd_T34 l0_1 x8_3).f1)) ∧ w'.cell? ⟨p0,2,none⟩ = some (.int .i64 ((rd_T34 l0_1 x8_3).f2)) ∧ w'.cell? ⟨p0,3,none⟩ = some (.int .i64 ((rd_T34 l0_1 x8_3).f3)) ∧ w'.cell? ⟨p0,4,none⟩ = some (.int .i64 ((rd_T34 l0_1 x8_3).f4)) ∧ w'.cell? ⟨go18,(((rd_T34 l0_1 x8_3).f0)).toNat,none⟩ = some (.int .i64 (rd x5_3 ((rd_T34 l0_1 x8_3).f0)))) (ds:=[]) #[J,J,J,J,J,J,J,J,J,J,J,J,J,J,J,J,J,J,J,J,J,J] (by kernel_rfl) rfl rfl ⟨(blk_cell p4.out 0).trans rfl,(blk_cell p4.out 1).trans rfl,(blk_cell p4.out 2).trans rfl,(blk_cell p4.out 3).trans rfl,(blk_cell p4.out 4).trans rfl,p9⟩ (fun hHeld => ?_); refine with_tabW spec_l3All.tab14 spec_l3All.bits14 (fun HT_ HW_ => ?_);generalize w51.drew = w52 at HO_5 p3 p4 HB p9 hHeld ⊢;refine pure_ (i:=0) (N:=some 43) (v:=?_) (a':=?_) #[Y,J,J,J,J,J,J,J,J,J,J,J,J,J,J,J,J,J,J,J,J,J] rfl rfl (any_of HT_.out (by kernel_rfl)) (fun _ _ _ h => h) (Or.inl ⟨by rfl,?_⟩) ?_ ?_;rotate_left
        ·intro w';go_simp;with_reducible rfl
        rotate_left
        ·simp only [Act.put,U,V,Z,i64_w,i32_w];rfl
        refine pure_ (i:=1) (N:=some 44) (v:=?_) (a':=?_) #[Y,Y,J,J,J,J,J,J,J,J,J,J,J,J,J,J,J,J,J,J,J,J] rfl rfl (any_of HT_.out (by kernel_rfl)) (fun _ _ _ h => h) (Or.inl ⟨by rfl,?_⟩) ?_ ?_;rotate_left
        ·intro w';go_simp;with_reducible rfl
        rotate_left
        ·simp only [Act.put,U,V,Z,i64_w,i32_w];rfl
        refine take_ (i:=2) (N:=some 45) (v:=?_) (a':=?_) #[Y,Y,Y,J,J,J,J,J,J,J,J,J,J,J,J,J,J,J,J,J,J,J] rfl rfl (take_ofW HT_.out HW_.out (by kernel_rfl)) (fun _ _ _ h => h) (Or.inl ⟨by rfl,?_⟩) hHeld ?_ ?_;rotate_left
        ·rintro w' ⟨s0,s1,s2,s3,s4,s5⟩;go_simp;with_reducible rfl
        rotate_left
        ·simp only [Act.put,U,V,Z,i64_w,i32_w];rfl
        refine pure_ (i:=3) (N:=some 46) (v:=?_) (a':=?_) #[Y,Y,Y,Y,J,J,J,J,J,J,J,J,J,J,J,J,J,J,J,J,J,J] rfl rfl (any_of HT_.out (by kernel_rfl)) (fun _ _ _ h => h) (Or.inl ⟨by rfl,?_⟩) ?_ ?_;rotate_left
        ·intro w';go_simp;with_reducible rfl
        rotate_left
        ·simp only [Act.put,U,V,Z,i64_w,i32_w];rfl
        refine take_ (i:=4) (N:=some 47) (v:=?_) (a':=?_) #[Y,Y,Y,Y,Y,J,J,J,J,J,J,J,J,J,J,J,J,J,J,J,J,J] rfl rfl (take_ofW HT_.out HW_.out (by kernel_rfl)) (fun _ _ _ h => h) (Or.inl ⟨by rfl,?_⟩) hHeld ?_ ?_;rotate_left
        ·rintro w' ⟨s0,s1,s2,s3,s4,s5⟩;go_simp;with_reducible rfl
        rotate_left
        ·simp only [Act.put,U,V,Z,i64_w,i32_w];rfl
        refine pure_ (i:=5) (N:=some 48) (v:=?_) (a':=?_) #[Y,Y,Y,Y,Y,Y,J,J,J,J,J,J,J,J,J,J,J,J,J,J,J,J] rfl rfl (any_of HT_.out (by kernel_rfl)) (fun _ _ _ h => h) (Or.inl ⟨by rfl,?_⟩) ?_ ?_;rotate_left
        ·intro w';go_simp;with_reducible rfl
        rotate_left
        ·simp only [Act.put,U,V,Z,i64_w,i32_w];rfl
        refine pure_ (i:=6) (N:=some 49) (v:=?_) (a':=?_) #[Y,Y,Y,Y,Y,Y,Y,J,J,J,J,J,J,J,J,J,J,J,J,J,J,J] rfl rfl (any_of HT_.out (by kernel_rfl)) (fun _ _ _ h => h) (Or.inl ⟨by rfl,?_⟩) ?_ ?_;rotate_left
        ·intro w';go_simp;with_reducible rfl
        rotate_left
        ·simp only [Act.put,U,V,Z,i64_w,i32_w];rfl
        refine pure_ (i:=7) (N:=some 50) (v:=undef) (a':=?_) #[Y,Y,Y,Y,Y,Y,Y,Y,J,J,J,J,J,J,J,J,J,J,J,J,J,J] rfl rfl (any_of HT_.out (by kernel_rfl)) (fun _ _ _ h => h) (Or.inr ⟨by rfl,rfl⟩) ?_ ?_;rotate_left
        ·simp only [Act.put,U,V,Z,i64_w,i32_w];rfl
        refine pure_ (i:=8) (N:=some 51) (v:=undef) (a':=?_) #[Y,Y,Y,Y,Y,Y,Y,Y,Y,J,J,J,J,J,J,J,J,J,J,J,J,J] rfl rfl (any_of HT_.out (by kernel_rfl)) (fun _ _ _ h => h) (Or.inr ⟨by rfl,rfl⟩) ?_ ?_;rotate_left
        ·simp only [Act.put,U,V,Z,i64_w,i32_w];rfl
        refine pure_ (i:=9) (N:=some 52) (v:=undef) (a':=?_) #[Y,Y,Y,Y,Y,Y,Y,Y,Y,Y,J,J,J,J,J,J,J,J,J,J,J,J] rfl rfl (any_of HT_.out (by kernel_rfl)) (fun _ _ _ h => h) (Or.inr ⟨by rfl,rfl⟩) ?_ ?_;rotate_left
        ·simp only [Act.put,U,V,Z,i64_w,i32_w];rfl
        refine pure_ (i:=10) (N:=some 53) (v:=undef) (a':=?_) #[Y,Y,Y,Y,Y,Y,Y,Y,Y,Y,Y,J,J,J,J,J,J,J,J,J,J,J] rfl rfl (any_of HT_.out (by kernel_rfl)) (fun _ _ _ h => h) (Or.inr ⟨by rfl,rfl⟩) ?_ ?_;rotate_left
        ·simp only [Act.put,U,V,Z,i64_w,i32_w];rfl
        refine pure_ (i:=11) (N:=some 54) (v:=undef) (a':=?_) #[Y,Y,Y,Y,Y,Y,Y,Y,Y,Y,Y,Y,J,J,J,J,J,J,J,J,J,J] rfl rfl (any_of HT_.out (by kernel_rfl)) (fun _ _ _ h => h) (Or.inr ⟨by rfl,rfl⟩) ?_ ?_;rotate_left
        ·simp only [Act.put,U,V,Z,i64_w,i32_w];rfl
        refine pure_ (i:=12) (N:=some 55) (v:=undef) (a':=?_) #[Y,Y,Y,Y,Y,Y,Y,Y,Y,Y,Y,Y,Y,J,J,J,J,J,J,J,J,J] rfl rfl (any_of HT_.out (by kernel_rfl)) (fun _ _ _ h => h) (Or.inr ⟨by rfl,rfl⟩) ?_ ?_;rotate_left
        ·simp only [Act.put,U,V,Z,i64_w,i32_w];rfl
        refine pure_ (i:=13) (N:=some 56) (v:=undef) (a':=?_) #[Y,Y,Y,Y,Y,Y,Y,Y,Y,Y,Y,Y,Y,Y,J,J,J,J,J,J,J,J] rfl rfl (any_of HT_.out (by kernel_rfl)) (fun _ _ _ h => h) (Or.inr ⟨by rfl,rfl⟩) ?_ ?_;rotate_left
        ·simp only [Act.put,U,V,Z,i64_w,i32_w];rfl
        refine pure_ (i:=14) (N:=some 57) (v:=undef) (a':=?_) #[Y,Y,Y,Y,Y,Y,Y,Y,Y,Y,Y,Y,Y,Y,Y,J,J,J,J,J,J,J] rfl rfl (any_of HT_.out (by kernel_rfl)) (fun _ _ _ h => h) (Or.inr ⟨by rfl,rfl⟩) ?_ ?_;rotate_left
        ·simp only [Act.put,U,V,Z,i64_w,i32_w];rfl
        refine pure_ (i:=15) (N:=some 58) (v:=undef) (a':=?_) #[Y,Y,Y,Y,Y,Y,Y,Y,Y,Y,Y,Y,Y,Y,Y,Y,J,J,J,J,J,J] rfl rfl (any_of HT_.out (by kernel_rfl)) (fun _ _ _ h => h) (Or.inr ⟨by rfl,rfl⟩) ?_ ?_;rotate_left
        ·simp only [Act.put,U,V,Z,i64_w,i32_w];rfl
        refine pure_ (i:=16) (N:=some 59) (v:=undef) (a':=?_) #[Y,Y,Y,Y,Y,Y,Y,Y,Y,Y,Y,Y,Y,Y,Y,Y,Y,J,J,J,J,J] rfl rfl (any_of HT_.out (by kernel_rfl)) (fun _ _ _ h => h) (Or.inr ⟨by rfl,rfl⟩) ?_ ?_;rotate_left
        ·simp only [Act.put,U,V,Z,i64_w,i32_w];rfl
        refine pure_ (i:=17) (N:=some 60) (v:=undef) (a':=?_) #[Y,Y,Y,Y,Y,Y,Y,Y,Y,Y,Y,Y,Y,Y,Y,Y,Y,Y,J,J,J,J] rfl rfl (any_of HT_.out (by kernel_rfl)) (fun _ _ _ h => h) (Or.inr ⟨by rfl,rfl⟩) ?_ ?_;rotate_left
        ·simp only [Act.put,U,V,Z,i64_w,i32_w];rfl
        refine pure_ (i:=18) (N:=some 61) (v:=undef) (a':=?_) #[Y,Y,Y,Y,Y,Y,Y,Y,Y,Y,Y,Y,Y,Y,Y,Y,Y,Y,Y,J,J,J] rfl rfl (any_of HT_.out (by kernel_rfl)) (fun _ _ _ h => h) (Or.inr ⟨by rfl,rfl⟩) ?_ ?_;rotate_left
        ·simp only [Act.put,U,V,Z,i64_w,i32_w];rfl
        refine pure_ (i:=19) (N:=some 62) (v:=undef) (a':=?_) #[Y,Y,Y,Y,Y,Y,Y,Y,Y,Y,Y,Y,Y,Y,Y,Y,Y,Y,Y,Y,J,J] rfl rfl (any_of HT_.out (by kernel_rfl)) (fun _ _ _ h => h) (Or.inr ⟨by rfl,rfl⟩) ?_ ?_;rotate_left
        ·simp only [Act.put,U,V,Z,i64_w,i32_w];rfl
        refine pure_ (i:=20) (N:=some 63) (v:=undef) (a':=?_) #[Y,Y,Y,Y,Y,Y,Y,Y,Y,Y,Y,Y,Y,Y,Y,Y,Y,Y,Y,Y,Y,J] rfl rfl (any_of HT_.out (by kernel_rfl)) (fun _ _ _ h => h) (Or.inr ⟨by rfl,rfl⟩) ?_ ?_;rotate_left
        ·simp only [Act.put,U,V,Z,i64_w,i32_w];rfl
        refine pure_ (i:=21) (N:=some 64) (v:=?_) (a':=?_) #[Y,Y,Y,Y,Y,Y,Y,Y,Y,Y,Y,Y,Y,Y,Y,Y,Y,Y,Y,Y,Y,Y] rfl rfl (any_of HT_.out (by kernel_rfl)) (fun _ _ _ h => h) (Or.inl ⟨by rfl,?_⟩) ?_ ?_;rotate_left
        ·intro w';go_simp;with_reducible rfl
        rotate_left
        ·simp only [Act.put,U,V,Z,i64_w,i32_w];rfl
        refine done_ (done_of HT_.out (by kernel_rfl)) ?_
        try go_wp2
        (try simp only [← hl5_3])
        go_roundg k3
        case measure => have:=HK1.out; have:=HK2.out; have:=HK3.out; omega
        case rel => exact ⟨(x5_3),(wrap64 (x8_3 + 1)),(by first | rfl | (simp; done) | (simp [*]; done)),H',⟨by have:=HK1.out; have:=HK2.out; have:=HK3.out; omega⟩,⟨by (try simp only [hl5_2]); (try simp only [hl5_3]); exact HO_5.out⟩,⟨by (try simp only [hl5_2]); (try simp only [hl5_3]); exact p3.out⟩,⟨by repeat (first | (with_reducible first | exact HB.out | apply below_alloc | apply pw_below_drewN | apply below_drew1 | refine below_set ?_ r1.out | refine below_set ?_ r3.out) | exact HB.out)⟩⟩
       rw [if_pos c28] at H;have c28b0 : decide ((rd x5_3 ((rd_T34 l0_1 x8_3).f0)) < 99999) = true:=decide_eq_true c28;clear c28
       by_cases c29 : 0 ≤ ((rd_T34 l0_1 x8_3).f1)
       case neg =>
        rw [if_neg c29] at H;exact absurd H (by simp)
       rw [if_pos c29] at H;have c29b0 : decide (0 ≤ ((rd_T34 l0_1 x8_3).f1)) = true:=decide_eq_true c29;clear c29
       by_cases c30 : ((rd_T34 l0_1 x8_3).f1) < (x5_3.length : Int)
       case neg =>
        rw [if_neg c30] at H;exact absurd H (by simp)
       rw [if_pos c30] at H;have c30b0 : decide (((rd_T34 l0_1 x8_3).f1) < (x5_3.length : Int)) = true:=decide_eq_true c30;clear c30
       by_cases c31 : (wrap64 ((rd x5_3 ((rd_T34 l0_1 x8_3).f0)) + ((rd_T34 l0_1 x8_3).f2))) < (rd x5_3 ((rd_T34 l0_1 x8_3).f1))
       case neg =>
        rw [if_neg c31] at H;have c31b0 : decide ((wrap64 ((rd x5_3 ((rd_T34 l0_1 x8_3).f0)) + ((rd_T34 l0_1 x8_3).f2))) < (rd x5_3 ((rd_T34 l0_1 x8_3).f1))) = false:=decide_eq_false c31;clear c31;have H':=zx H;clear H;have hcz41_0 : wr.cell? ⟨p7,0,none⟩ = some (.int .i64 a0_0):=(blk_cell p3.out 0).trans rfl;have hcz41_1 : wr.cell? ⟨p7,1,none⟩ = some (.slice A0_1 l0_1.length c0_1):=(blk_cell p3.out 1).trans rfl;have hfz41_0:=blk_frozen p3.out 0;have hfz41_1:=blk_frozen p3.out 1;have p277 : 0 ≤ (x8_3 : Int):=of_decide_eq_true (by first | (with_reducible assumption) | assumption);have q277 : x8_3 < (l0_1.length : Int):=of_decide_eq_true (by first | (with_reducible assumption) | assumption);obtain ⟨q9,e277,q2,q3,q4,q5,q6⟩:=at_T34 t5.out x8_3 p277 q277;cases e277;replace q2:=(HB.out.cell (World.block_lt_of_cell? w _ q2)).trans q2;replace q3:=(HB.out.cell (World.block_lt_of_cell? w _ q3)).trans q3;replace q4:=(HB.out.cell (World.block_lt_of_cell? w _ q4)).trans q4;replace q5:=(HB.out.cell (World.block_lt_of_cell? w _ q5)).trans q5;replace q6:=(HB.out.cell (World.block_lt_of_cell? w _ q6)).trans q6;replace p277:=eq_true p277;replace q277:=eq_true q277
        try go_wp2_with (first | ((with_reducible refine gate_dst (N:=9) rfl ?_); refine box_event ?hg (N:=9) ?hd (cs:=#[.int .i64 0,.int .i64 0,.int .i64 0,.int .i64 0,.int .i64 0]) (t:=34) ?hr ?_; (case hd => rfl); (case hg => rfl); (case hr => first | (go_simp; done) | (go_simp; rfl)); intro p0 hg w42 hbox hb; have n0_:=zx (Kd.R_below HO_5.out hb); have n1_:=zx (blk_below (g:=p7) (o:=.cells #[.int .i64 a0_0,.slice (some q9) l0_1.length c0_1] 25 (0,0)) p3.out hb); have n2_:=zx (below_step HB.out hb); have n3_:=zx (hbox); have n4_:=zx ((by rw [hg]; exact (below_size HB.out) : w.heap.size ≤ p0)); have n5_:=zx ((by rw [hg]; exact (below_size HB.out) : w.heap.size ≤ p0)); have n6_:=zx ((by rw [hg]; exact Nat.ne_of_lt (blk_lt (g:=p7) (o:=.cells #[.int .i64 a0_0,.slice (some q9) l0_1.length c0_1] 25 (0,0)) p3.out) : p7 ≠ p0)); have n7_:=zx ((by rw [hg]; exact Nat.ne_of_gt (blk_lt (g:=p7) (o:=.cells #[.int .i64 a0_0,.slice (some q9) l0_1.length c0_1] 25 (0,0)) p3.out) : p0 ≠ p7)); clear HO_5; clear p3; clear HB; have HO_5:=n0_; have p3:=n1_; have HB:=n2_; have p4:=n3_; have GW278:=n4_; have r3:=n5_; have p5:=n6_; have r0:=n7_; clear n0_ n1_ n2_ n3_ n4_ n5_ n6_ n7_; clear hb hbox hg; have hnb43:=r0.out; have hnc43:=p5.out; have hcz44_0 : w42.cell? ⟨p0,0,none⟩ = some (.int .i64 0):=(blk_cell p4.out 0).trans rfl; have hcz44_1 : w42.cell? ⟨p0,1,none⟩ = some (.int .i64 0):=(blk_cell p4.out 1).trans rfl; have hcz44_2 : w42.cell? ⟨p0,2,none⟩ = some (.int .i64 0):=(blk_cell p4.out 2).trans rfl; have hcz44_3 : w42.cell? ⟨p0,3,none⟩ = some (.int .i64 0):=(blk_cell p4.out 3).trans rfl; have hcz44_4 : w42.cell? ⟨p0,4,none⟩ = some (.int .i64 0):=(blk_cell p4.out 4).trans rfl; have hfz44_0:=blk_frozen p4.out 0; have hfz44_1:=blk_frozen p4.out 1; have hfz44_2:=blk_frozen p4.out 2; have hfz44_3:=blk_frozen p4.out 3; have hfz44_4:=blk_frozen p4.out 4))
        have n0_ : Aside0 (Kd.R (Kd.int .i64) 3 (((((w42.setCell ⟨p0,0,none⟩ (.int .i64 ((rd_T34 l0_1 x8_3).f0))).setCell ⟨p0,1,none⟩ (.int .i64 ((rd_T34 l0_1 x8_3).f1))).setCell ⟨p0,2,none⟩ (.int .i64 ((rd_T34 l0_1 x8_3).f2))).setCell ⟨p0,3,none⟩ (.int .i64 ((rd_T34 l0_1 x8_3).f3))).setCell ⟨p0,4,none⟩ (.int .i64 ((rd_T34 l0_1 x8_3).f4))) w.heap.size (fun _ => True) (.slice (some ⟨go18,0,none⟩) x5_3.length co18) x5_3):=⟨by exact Kd.R_mono (Kd.R_far (p:=⟨p0,4,none⟩) (Kd.R_far (p:=⟨p0,3,none⟩) (Kd.R_far (p:=⟨p0,2,none⟩) (Kd.R_far (p:=⟨p0,1,none⟩) (Kd.R_far (p:=⟨p0,0,none⟩) (Kd.R_types HO_5.out p4.out (by decide)) (fun _ hk => hk.2) (.int .i64 ((rd_T34 l0_1 x8_3).f0))) (fun _ hk => hk.2) (.int .i64 ((rd_T34 l0_1 x8_3).f1))) (fun _ hk => hk.2) (.int .i64 ((rd_T34 l0_1 x8_3).f2))) (fun _ hk => hk.2) (.int .i64 ((rd_T34 l0_1 x8_3).f3))) (fun _ hk => hk.2) (.int .i64 ((rd_T34 l0_1 x8_3).f4))) (fun _ hk => trivial)⟩
        have n1_ : Aside0 ((((((w42.setCell ⟨p0,0,none⟩ (.int .i64 ((rd_T34 l0_1 x8_3).f0))).setCell ⟨p0,1,none⟩ (.int .i64 ((rd_T34 l0_1 x8_3).f1))).setCell ⟨p0,2,none⟩ (.int .i64 ((rd_T34 l0_1 x8_3).f2))).setCell ⟨p0,3,none⟩ (.int .i64 ((rd_T34 l0_1 x8_3).f3))).setCell ⟨p0,4,none⟩ (.int .i64 ((rd_T34 l0_1 x8_3).f4))).heap[p7]? = some (.cells #[.int .i64 a0_0,.slice (some q9) l0_1.length c0_1] 25 (0,0))):=⟨by refine blk_far ?_ p5.out _; refine blk_far ?_ p5.out _; refine blk_far ?_ p5.out _; refine blk_far ?_ p5.out _; refine blk_far ?_ p5.out _; exact p3.out⟩
        have n2_ : Aside0 ((((((w42.setCell ⟨p0,0,none⟩ (.int .i64 ((rd_T34 l0_1 x8_3).f0))).setCell ⟨p0,1,none⟩ (.int .i64 ((rd_T34 l0_1 x8_3).f1))).setCell ⟨p0,2,none⟩ (.int .i64 ((rd_T34 l0_1 x8_3).f2))).setCell ⟨p0,3,none⟩ (.int .i64 ((rd_T34 l0_1 x8_3).f3))).setCell ⟨p0,4,none⟩ (.int .i64 ((rd_T34 l0_1 x8_3).f4))).heap[p0]? = some (.cells #[.int .i64 ((rd_T34 l0_1 x8_3).f0),.int .i64 ((rd_T34 l0_1 x8_3).f1),.int .i64 ((rd_T34 l0_1 x8_3).f2),.int .i64 ((rd_T34 l0_1 x8_3).f3),.int .i64 ((rd_T34 l0_1 x8_3).f4)] 34 (0,0))):=⟨by refine blk_put (cs:=#[.int .i64 ((rd_T34 l0_1 x8_3).f0),.int .i64 ((rd_T34 l0_1 x8_3).f1),.int .i64 ((rd_T34 l0_1 x8_3).f2),.int .i64 ((rd_T34 l0_1 x8_3).f3),.int .i64 0]) ?_ 4 _ rfl; refine blk_put (cs:=#[.int .i64 ((rd_T34 l0_1 x8_3).f0),.int .i64 ((rd_T34 l0_1 x8_3).f1),.int .i64 ((rd_T34 l0_1 x8_3).f2),.int .i64 0,.int .i64 0]) ?_ 3 _ rfl; refine blk_put (cs:=#[.int .i64 ((rd_T34 l0_1 x8_3).f0),.int .i64 ((rd_T34 l0_1 x8_3).f1),.int .i64 0,.int .i64 0,.int .i64 0]) ?_ 2 _ rfl; refine blk_put (cs:=#[.int .i64 ((rd_T34 l0_1 x8_3).f0),.int .i64 0,.int .i64 0,.int .i64 0,.int .i64 0]) ?_ 1 _ rfl; refine blk_put (cs:=#[.int .i64 0,.int .i64 0,.int .i64 0,.int .i64 0,.int .i64 0]) ?_ 0 _ rfl; exact p4.out⟩
        have n3_ : Aside0 (Below w.heap.size w (((((w42.setCell ⟨p0,0,none⟩ (.int .i64 ((rd_T34 l0_1 x8_3).f0))).setCell ⟨p0,1,none⟩ (.int .i64 ((rd_T34 l0_1 x8_3).f1))).setCell ⟨p0,2,none⟩ (.int .i64 ((rd_T34 l0_1 x8_3).f2))).setCell ⟨p0,3,none⟩ (.int .i64 ((rd_T34 l0_1 x8_3).f3))).setCell ⟨p0,4,none⟩ (.int .i64 ((rd_T34 l0_1 x8_3).f4)))):=⟨by repeat (first | (with_reducible first | exact HB.out | apply below_alloc | apply pw_below_drewN | apply below_drew1 | refine below_set ?_ r1.out | refine below_set ?_ r3.out) | exact HB.out)⟩
        (try clear HO_5)
        (try clear p3)
        (try clear p4)
        (try clear HB)
        generalize (((((w42.setCell ⟨p0,0,none⟩ (.int .i64 ((rd_T34 l0_1 x8_3).f0))).setCell ⟨p0,1,none⟩ (.int .i64 ((rd_T34 l0_1 x8_3).f1))).setCell ⟨p0,2,none⟩ (.int .i64 ((rd_T34 l0_1 x8_3).f2))).setCell ⟨p0,3,none⟩ (.int .i64 ((rd_T34 l0_1 x8_3).f3))).setCell ⟨p0,4,none⟩ (.int .i64 ((rd_T34 l0_1 x8_3).f4))) = w45 at n0_ n1_ n2_ n3_ ⊢;have HO_5:=n0_;have p3:=n1_;have p4:=n2_;have HB:=n3_;clear n0_ n1_ n2_ n3_;have n0_:=zx (Kd.R_drew HO_5.out);have n1_:=zx (blk_drew p3.out);have n2_:=zx (blk_drew p4.out);have n3_:=zx (below_drew1 HB.out);clear HO_5;clear p3;clear p4;clear HB;have HO_5:=n0_;have p3:=n1_;have p4:=n2_;have HB:=n3_;clear n0_ n1_ n2_ n3_;have p279 : 0 ≤ (((rd_T34 l0_1 x8_3).f0) : Int):=of_decide_eq_true (by first | (with_reducible assumption) | assumption);have q279 : ((rd_T34 l0_1 x8_3).f0) < (x5_3.length : Int):=of_decide_eq_true (by first | (with_reducible assumption) | assumption);obtain ⟨r4,e279,p9⟩:=Kd.at_int (Kd.R_reads' HO_5.out).2.2 ((rd_T34 l0_1 x8_3).f0) p279 q279;obtain rfl : (⟨go18,0,none⟩ : Addr) = r4:=(by injection e279)
        (first | simp only [add_plain] at p9 | simp only [add_at] at p9 | simp only [Addr.add,Nat.zero_add] at p9 | skip)
        replace p279:=eq_true p279;replace q279:=eq_true q279;have p280 : 0 ≤ (((rd_T34 l0_1 x8_3).f0) : Int):=of_decide_eq_true (by first | (with_reducible assumption) | assumption);have q280 : ((rd_T34 l0_1 x8_3).f0) < (x5_3.length : Int):=of_decide_eq_true (by first | (with_reducible assumption) | assumption);obtain ⟨t8,e280,q7⟩:=Kd.at_int (Kd.R_reads' HO_5.out).2.2 ((rd_T34 l0_1 x8_3).f0) p280 q280;obtain rfl : (⟨go18,0,none⟩ : Addr) = t8:=(by injection e280)
        (first | simp only [add_plain] at q7 | simp only [add_at] at q7 | simp only [Addr.add,Nat.zero_add] at q7 | skip)
        replace p280:=eq_true p280;replace q280:=eq_true q280;have p281 : 0 ≤ (((rd_T34 l0_1 x8_3).f1) : Int):=of_decide_eq_true (by first | (with_reducible assumption) | assumption);have q281 : ((rd_T34 l0_1 x8_3).f1) < (x5_3.length : Int):=of_decide_eq_true (by first | (with_reducible assumption) | assumption);obtain ⟨t9,e281,q8⟩:=Kd.at_int (Kd.R_reads' HO_5.out).2.2 ((rd_T34 l0_1 x8_3).f1) p281 q281;obtain rfl : (⟨go18,0,none⟩ : Addr) = t9:=(by injection e281)
        (first | simp only [add_plain] at q8 | simp only [add_at] at q8 | simp only [Addr.add,Nat.zero_add] at q8 | skip)
        replace p281:=eq_true p281;replace q281:=eq_true q281;refine start_ (n:=22) (S:=fun w' => w'.cell? ⟨p0,0,none⟩ = some (.int .i64 ((rd_T34 l0_1 x8_3).f0)) ∧ w'.cell? ⟨p0,1,none⟩ = some (.int .i64 ((rd_T34 l0_1 x8_3).f1)) ∧ w'.cell? ⟨p0,2,none⟩ = some (.int .i64 ((rd_T34 l0_1 x8_3).f2)) ∧ w'.cell? ⟨p0,3,none⟩ = some (.int .i64 ((rd_T34 l0_1 x8_3).f3)) ∧ w'.cell? ⟨p0,4,none⟩ = some (.int .i64 ((rd_T34 l0_1 x8_3).f4)) ∧ w'.cell? ⟨go18,(((rd_T34 l0_1 x8_3).f0)).toNat,none⟩ = some (.int .i64 (rd x5_3 ((rd_T34 l0_1 x8_3).f0))) ∧ w'.cell? ⟨go18,(((rd_T34 l0_1 x8_3).f0)).toNat,none⟩ = some (.int .i64 (rd x5_3 ((rd_T34 l0_1 x8_3).f0))) ∧ w'.cell? ⟨go18,(((rd_T34 l0_1 x8_3).f1)).toNat,none⟩ = some (.int .i64 (rd x5_3 ((rd_T34 l0_1 x8_3).f1)))) (ds:=[]) #[J,J,J,J,J,J,J,J,J,J,J,J,J,J,J,J,J,J,J,J,J,J] (by kernel_rfl) rfl rfl ⟨(blk_cell p4.out 0).trans rfl,(blk_cell p4.out 1).trans rfl,(blk_cell p4.out 2).trans rfl,(blk_cell p4.out 3).trans rfl,(blk_cell p4.out 4).trans rfl,p9,q7,q8⟩ (fun hHeld => ?_); refine with_tabW spec_l3All.tab14 spec_l3All.bits14 (fun HT_ HW_ => ?_);generalize w45.drew = w46 at HO_5 p3 p4 HB p9 q7 q8 hHeld ⊢;refine pure_ (i:=0) (N:=some 43) (v:=?_) (a':=?_) #[Y,J,J,J,J,J,J,J,J,J,J,J,J,J,J,J,J,J,J,J,J,J] rfl rfl (any_of HT_.out (by kernel_rfl)) (fun _ _ _ h => h) (Or.inl ⟨by rfl,?_⟩) ?_ ?_;rotate_left
        ·intro w';go_simp;with_reducible rfl
        rotate_left
        ·simp only [Act.put,U,V,Z,i64_w,i32_w];rfl
        refine pure_ (i:=1) (N:=some 44) (v:=?_) (a':=?_) #[Y,Y,J,J,J,J,J,J,J,J,J,J,J,J,J,J,J,J,J,J,J,J] rfl rfl (any_of HT_.out (by kernel_rfl)) (fun _ _ _ h => h) (Or.inl ⟨by rfl,?_⟩) ?_ ?_;rotate_left
        ·intro w';go_simp;with_reducible rfl
        rotate_left
        ·simp only [Act.put,U,V,Z,i64_w,i32_w];rfl
        refine take_ (i:=2) (N:=some 45) (v:=?_) (a':=?_) #[Y,Y,Y,J,J,J,J,J,J,J,J,J,J,J,J,J,J,J,J,J,J,J] rfl rfl (take_ofW HT_.out HW_.out (by kernel_rfl)) (fun _ _ _ h => h) (Or.inl ⟨by rfl,?_⟩) hHeld ?_ ?_;rotate_left
        ·rintro w' ⟨s0,s1,s2,s3,s4,s5,s6,s7⟩;go_simp;with_reducible rfl
        rotate_left
        ·simp only [Act.put,U,V,Z,i64_w,i32_w];rfl
        refine pure_ (i:=3) (N:=some 46) (v:=?_) (a':=?_) #[Y,Y,Y,Y,J,J,J,J,J,J,J,J,J,J,J,J,J,J,J,J,J,J] rfl rfl (any_of HT_.out (by kernel_rfl)) (fun _ _ _ h => h) (Or.inl ⟨by rfl,?_⟩) ?_ ?_;rotate_left
        ·intro w';go_simp;with_reducible rfl
        rotate_left
        ·simp only [Act.put,U,V,Z,i64_w,i32_w];rfl
        refine take_ (i:=4) (N:=some 47) (v:=?_) (a':=?_) #[Y,Y,Y,Y,Y,J,J,J,J,J,J,J,J,J,J,J,J,J,J,J,J,J] rfl rfl (take_ofW HT_.out HW_.out (by kernel_rfl)) (fun _ _ _ h => h) (Or.inl ⟨by rfl,?_⟩) hHeld ?_ ?_;rotate_left
        ·rintro w' ⟨s0,s1,s2,s3,s4,s5,s6,s7⟩;go_simp;with_reducible rfl
        rotate_left
        ·simp only [Act.put,U,V,Z,i64_w,i32_w];rfl
        refine pure_ (i:=5) (N:=some 48) (v:=?_) (a':=?_) #[Y,Y,Y,Y,Y,Y,J,J,J,J,J,J,J,J,J,J,J,J,J,J,J,J] rfl rfl (any_of HT_.out (by kernel_rfl)) (fun _ _ _ h => h) (Or.inl ⟨by rfl,?_⟩) ?_ ?_;rotate_left
        ·intro w';go_simp;with_reducible rfl
        rotate_left
        ·simp only [Act.put,U,V,Z,i64_w,i32_w];rfl
        refine pure_ (i:=6) (N:=some 49) (v:=?_) (a':=?_) #[Y,Y,Y,Y,Y,Y,Y,J,J,J,J,J,J,J,J,J,J,J,J,J,J,J] rfl rfl (any_of HT_.out (by kernel_rfl)) (fun _ _ _ h => h) (Or.inl ⟨by rfl,?_⟩) ?_ ?_;rotate_left
        ·intro w';go_simp;with_reducible rfl
        rotate_left
        ·simp only [Act.put,U,V,Z,i64_w,i32_w];rfl
        refine pure_ (i:=7) (N:=some 50) (v:=?_) (a':=?_) #[Y,Y,Y,Y,Y,Y,Y,Y,J,J,J,J,J,J,J,J,J,J,J,J,J,J] rfl rfl (any_of HT_.out (by kernel_rfl)) (fun _ _ _ h => h) (Or.inl ⟨by rfl,?_⟩) ?_ ?_;rotate_left
        ·intro w';go_simp;with_reducible rfl
        rotate_left
        ·simp only [Act.put,U,V,Z,i64_w,i32_w];rfl
        refine pure_ (i:=8) (N:=some 51) (v:=?_) (a':=?_) #[Y,Y,Y,Y,Y,Y,Y,Y,Y,J,J,J,J,J,J,J,J,J,J,J,J,J] rfl rfl (any_of HT_.out (by kernel_rfl)) (fun _ _ _ h => h) (Or.inl ⟨by rfl,?_⟩) ?_ ?_;rotate_left
        ·intro w';go_simp;with_reducible rfl
        rotate_left
        ·simp only [Act.put,U,V,Z,i64_w,i32_w];rfl
        refine pure_ (i:=12) (N:=some 55) (v:=?_) (a':=?_) #[Y,Y,Y,Y,Y,Y,Y,Y,Y,J,J,J,Y,J,J,J,J,J,J,J,J,J] rfl rfl (any_of HT_.out (by kernel_rfl)) (fun _ _ _ h => h) (Or.inl ⟨by rfl,?_⟩) ?_ ?_;rotate_left
        ·intro w';go_simp;with_reducible rfl
        rotate_left
        ·simp only [Act.put,U,V,Z,i64_w,i32_w];rfl
        refine pure_ (i:=15) (N:=some 58) (v:=?_) (a':=?_) #[Y,Y,Y,Y,Y,Y,Y,Y,Y,J,J,J,Y,J,J,Y,J,J,J,J,J,J] rfl rfl (any_of HT_.out (by kernel_rfl)) (fun _ _ _ h => h) (Or.inl ⟨by rfl,?_⟩) ?_ ?_;rotate_left
        ·intro w';go_simp;with_reducible rfl
        rotate_left
        ·simp only [Act.put,U,V,Z,i64_w,i32_w];rfl
        refine pure_ (i:=16) (N:=some 59) (v:=?_) (a':=?_) #[Y,Y,Y,Y,Y,Y,Y,Y,Y,J,J,J,Y,J,J,Y,Y,J,J,J,J,J] rfl rfl (any_of HT_.out (by kernel_rfl)) (fun _ _ _ h => h) (Or.inl ⟨by rfl,?_⟩) ?_ ?_;rotate_left
        ·intro w';go_simp;with_reducible rfl
        rotate_left
        ·simp only [Act.put,U,V,Z,i64_w,i32_w];rfl
        refine take_ (i:=9) (N:=some 52) (v:=?_) (a':=?_) #[Y,Y,Y,Y,Y,Y,Y,Y,Y,Y,J,J,Y,J,J,Y,Y,J,J,J,J,J] rfl rfl (take_ofW HT_.out HW_.out (by kernel_rfl)) (fun _ _ _ h => h) (Or.inl ⟨by rfl,?_⟩) hHeld ?_ ?_;rotate_left
        ·rintro w' ⟨s0,s1,s2,s3,s4,s5,s6,s7⟩;go_simp;with_reducible rfl
        rotate_left
        ·simp only [Act.put,U,V,Z,i64_w,i32_w];rfl
        refine pure_ (i:=10) (N:=some 53) (v:=?_) (a':=?_) #[Y,Y,Y,Y,Y,Y,Y,Y,Y,Y,Y,J,Y,J,J,Y,Y,J,J,J,J,J] rfl rfl (any_of HT_.out (by kernel_rfl)) (fun _ _ _ h => h) (Or.inl ⟨by rfl,?_⟩) ?_ ?_;rotate_left
        ·intro w';go_simp;with_reducible rfl
        rotate_left
        ·simp only [Act.put,U,V,Z,i64_w,i32_w];rfl
        refine take_ (i:=11) (N:=some 54) (v:=?_) (a':=?_) #[Y,Y,Y,Y,Y,Y,Y,Y,Y,Y,Y,Y,Y,J,J,Y,Y,J,J,J,J,J] rfl rfl (take_ofW HT_.out HW_.out (by kernel_rfl)) (fun _ _ _ h => h) (Or.inl ⟨by rfl,?_⟩) hHeld ?_ ?_;rotate_left
        ·rintro w' ⟨s0,s1,s2,s3,s4,s5,s6,s7⟩;go_simp;with_reducible rfl
        rotate_left
        ·simp only [Act.put,U,V,Z,i64_w,i32_w];rfl
        refine take_ (i:=13) (N:=some 56) (v:=?_) (a':=?_) #[Y,Y,Y,Y,Y,Y,Y,Y,Y,Y,Y,Y,Y,Y,J,Y,Y,J,J,J,J,J] rfl rfl (take_ofW HT_.out HW_.out (by kernel_rfl)) (fun _ _ _ h => h) (Or.inl ⟨by rfl,?_⟩) hHeld ?_ ?_;rotate_left
        ·rintro w' ⟨s0,s1,s2,s3,s4,s5,s6,s7⟩;go_simp;with_reducible rfl
        rotate_left
        ·simp only [Act.put,U,V,Z,i64_w,i32_w];rfl
        refine pure_ (i:=14) (N:=some 57) (v:=?_) (a':=?_) #[Y,Y,Y,Y,Y,Y,Y,Y,Y,Y,Y,Y,Y,Y,Y,Y,Y,J,J,J,J,J] rfl rfl (any_of HT_.out (by kernel_rfl)) (fun _ _ _ h => h) (Or.inl ⟨by rfl,?_⟩) ?_ ?_;rotate_left
        ·intro w';go_simp;with_reducible rfl
        rotate_left
        ·simp only [Act.put,U,V,Z,i64_w,i32_w];rfl
        refine take_ (i:=17) (N:=some 60) (v:=?_) (a':=?_) #[Y,Y,Y,Y,Y,Y,Y,Y,Y,Y,Y,Y,Y,Y,Y,Y,Y,Y,J,J,J,J] rfl rfl (take_ofW HT_.out HW_.out (by kernel_rfl)) (fun _ _ _ h => h) (Or.inl ⟨by rfl,?_⟩) hHeld ?_ ?_;rotate_left
        ·rintro w' ⟨s0,s1,s2,s3,s4,s5,s6,s7⟩;go_simp;with_reducible rfl
        rotate_left
        ·simp only [Act.put,U,V,Z,i64_w,i32_w];rfl
        refine pure_ (i:=18) (N:=some 61) (v:=?_) (a':=?_) #[Y,Y,Y,Y,Y,Y,Y,Y,Y,Y,Y,Y,Y,Y,Y,Y,Y,Y,Y,J,J,J] rfl rfl (any_of HT_.out (by kernel_rfl)) (fun _ _ _ h => h) (Or.inl ⟨by rfl,?_⟩) ?_ ?_;rotate_left
        ·intro w';go_simp;with_reducible rfl
        rotate_left
        ·simp only [Act.put,U,V,Z,i64_w,i32_w];rfl
        refine take_ (i:=19) (N:=some 62) (v:=?_) (a':=?_) #[Y,Y,Y,Y,Y,Y,Y,Y,Y,Y,Y,Y,Y,Y,Y,Y,Y,Y,Y,Y,J,J] rfl rfl (take_ofW HT_.out HW_.out (by kernel_rfl)) (fun _ _ _ h => h) (Or.inl ⟨by rfl,?_⟩) hHeld ?_ ?_;rotate_left
        ·rintro w' ⟨s0,s1,s2,s3,s4,s5,s6,s7⟩;go_simp;with_reducible rfl
        rotate_left
        ·simp only [Act.put,U,V,Z,i64_w,i32_w];rfl
        refine pure_ (i:=20) (N:=some 63) (v:=?_) (a':=?_) #[Y,Y,Y,Y,Y,Y,Y,Y,Y,Y,Y,Y,Y,Y,Y,Y,Y,Y,Y,Y,Y,J] rfl rfl (any_of HT_.out (by kernel_rfl)) (fun _ _ _ h => h) (Or.inl ⟨by rfl,?_⟩) ?_ ?_;rotate_left
        ·intro w';go_simp;with_reducible rfl
        rotate_left
        ·simp only [Act.put,U,V,Z,i64_w,i32_w];rfl
        refine pure_ (i:=21) (N:=some 64) (v:=?_) (a':=?_) #[Y,Y,Y,Y,Y,Y,Y,Y,Y,Y,Y,Y,Y,Y,Y,Y,Y,Y,Y,Y,Y,Y] rfl rfl (any_of HT_.out (by kernel_rfl)) (fun _ _ _ h => h) (Or.inl ⟨by rfl,?_⟩) ?_ ?_;rotate_left
        ·intro w';go_simp;with_reducible rfl
        rotate_left
        ·simp only [Act.put,U,V,Z,i64_w,i32_w];rfl
        refine done_ (done_of HT_.out (by kernel_rfl)) ?_
        try go_wp2
        (try simp only [← hl5_3])
        go_roundg k3
        case measure => have:=HK1.out; have:=HK2.out; have:=HK3.out; omega
        case rel => exact ⟨(x5_3),(wrap64 (x8_3 + 1)),(by first | rfl | (simp; done) | (simp [*]; done)),H',⟨by have:=HK1.out; have:=HK2.out; have:=HK3.out; omega⟩,⟨by (try simp only [hl5_2]); (try simp only [hl5_3]); exact HO_5.out⟩,⟨by (try simp only [hl5_2]); (try simp only [hl5_3]); exact p3.out⟩,⟨by repeat (first | (with_reducible first | exact HB.out | apply below_alloc | apply pw_below_drewN | apply below_drew1 | refine below_set ?_ r1.out | refine below_set ?_ r3.out) | exact HB.out)⟩⟩
       rw [if_pos c31] at H;have c31b0 : decide ((wrap64 ((rd x5_3 ((rd_T34 l0_1 x8_3).f0)) + ((rd_T34 l0_1 x8_3).f2))) < (rd x5_3 ((rd_T34 l0_1 x8_3).f1))) = true:=decide_eq_true c31;clear c31;obtain ⟨y283,hy283⟩ : ∃ y_ : List Int,y_ = (x5_3.set (((rd_T34 l0_1 x8_3).f1) : Int).toNat (wrap64 ((rd x5_3 ((rd_T34 l0_1 x8_3).f0)) + ((rd_T34 l0_1 x8_3).f2)))):=⟨_,rfl⟩
       replace H : (spec_l3All.l2 k3 y283 x7_2 (wrap64 (x8_3 + 1)) a0_0 l0_1) = some r:=by first | (rw [hy283]; with_reducible exact H) | (have H2_:=(Option.bind_some _ _).symm.trans H; rw [hy283]; with_reducible exact H2_) | (have H2_:=(Option.bind_some _ _).symm.trans H; with_reducible exact H2_) | with_reducible exact H | (rw [hy283]; exact H) | exact H
       have Ny283:=zx hy283;clear hy283;have H':=zx H;clear H;have hcz33_0 : wr.cell? ⟨p7,0,none⟩ = some (.int .i64 a0_0):=(blk_cell p3.out 0).trans rfl;have hcz33_1 : wr.cell? ⟨p7,1,none⟩ = some (.slice A0_1 l0_1.length c0_1):=(blk_cell p3.out 1).trans rfl;have hfz33_0:=blk_frozen p3.out 0;have hfz33_1:=blk_frozen p3.out 1;have p277 : 0 ≤ (x8_3 : Int):=of_decide_eq_true (by first | (with_reducible assumption) | assumption);have q277 : x8_3 < (l0_1.length : Int):=of_decide_eq_true (by first | (with_reducible assumption) | assumption);obtain ⟨q9,e277,q2,q3,q4,q5,q6⟩:=at_T34 t5.out x8_3 p277 q277;cases e277;replace q2:=(HB.out.cell (World.block_lt_of_cell? w _ q2)).trans q2;replace q3:=(HB.out.cell (World.block_lt_of_cell? w _ q3)).trans q3;replace q4:=(HB.out.cell (World.block_lt_of_cell? w _ q4)).trans q4;replace q5:=(HB.out.cell (World.block_lt_of_cell? w _ q5)).trans q5;replace q6:=(HB.out.cell (World.block_lt_of_cell? w _ q6)).trans q6;replace p277:=eq_true p277;replace q277:=eq_true q277
       try go_wp2_with (first | ((with_reducible refine gate_dst (N:=9) rfl ?_); refine box_event ?hg (N:=9) ?hd (cs:=#[.int .i64 0,.int .i64 0,.int .i64 0,.int .i64 0,.int .i64 0]) (t:=34) ?hr ?_; (case hd => rfl); (case hg => rfl); (case hr => first | (go_simp; done) | (go_simp; rfl)); intro p0 hg w34 hbox hb; have n0_:=zx (Kd.R_below HO_5.out hb); have n1_:=zx (blk_below (g:=p7) (o:=.cells #[.int .i64 a0_0,.slice (some q9) l0_1.length c0_1] 25 (0,0)) p3.out hb); have n2_:=zx (below_step HB.out hb); have n3_:=zx (hbox); have n4_:=zx ((by rw [hg]; exact (below_size HB.out) : w.heap.size ≤ p0)); have n5_:=zx ((by rw [hg]; exact (below_size HB.out) : w.heap.size ≤ p0)); have n6_:=zx ((by rw [hg]; exact Nat.ne_of_lt (blk_lt (g:=p7) (o:=.cells #[.int .i64 a0_0,.slice (some q9) l0_1.length c0_1] 25 (0,0)) p3.out) : p7 ≠ p0)); have n7_:=zx ((by rw [hg]; exact Nat.ne_of_gt (blk_lt (g:=p7) (o:=.cells #[.int .i64 a0_0,.slice (some q9) l0_1.length c0_1] 25 (0,0)) p3.out) : p0 ≠ p7)); clear HO_5; clear p3; clear HB; have HO_5:=n0_; have p3:=n1_; have HB:=n2_; have p4:=n3_; have GW278:=n4_; have r3:=n5_; have p5:=n6_; have r0:=n7_; clear n0_ n1_ n2_ n3_ n4_ n5_ n6_ n7_; clear hb hbox hg; have hnb35:=r0.out; have hnc35:=p5.out; have hcz36_0 : w34.cell? ⟨p0,0,none⟩ = some (.int .i64 0):=(blk_cell p4.out 0).trans rfl; have hcz36_1 : w34.cell? ⟨p0,1,none⟩ = some (.int .i64 0):=(blk_cell p4.out 1).trans rfl; have hcz36_2 : w34.cell? ⟨p0,2,none⟩ = some (.int .i64 0):=(blk_cell p4.out 2).trans rfl; have hcz36_3 : w34.cell? ⟨p0,3,none⟩ = some (.int .i64 0):=(blk_cell p4.out 3).trans rfl; have hcz36_4 : w34.cell? ⟨p0,4,none⟩ = some (.int .i64 0):=(blk_cell p4.out 4).trans rfl; have hfz36_0:=blk_frozen p4.out 0; have hfz36_1:=blk_frozen p4.out 1; have hfz36_2:=blk_frozen p4.out 2; have hfz36_3:=blk_frozen p4.out 3; have hfz36_4:=blk_frozen p4.out 4))
       have n0_ : Aside0 (Kd.R (Kd.int .i64) 3 (((((w34.setCell ⟨p0,0,none⟩ (.int .i64 ((rd_T34 l0_1 x8_3).f0))).setCell ⟨p0,1,none⟩ (.int .i64 ((rd_T34 l0_1 x8_3).f1))).setCell ⟨p0,2,none⟩ (.int .i64 ((rd_T34 l0_1 x8_3).f2))).setCell ⟨p0,3,none⟩ (.int .i64 ((rd_T34 l0_1 x8_3).f3))).setCell ⟨p0,4,none⟩ (.int .i64 ((rd_T34 l0_1 x8_3).f4))) w.heap.size (fun _ => True) (.slice (some ⟨go18,0,none⟩) x5_3.length co18) x5_3):=⟨by exact Kd.R_mono (Kd.R_far (p:=⟨p0,4,none⟩) (Kd.R_far (p:=⟨p0,3,none⟩) (Kd.R_far (p:=⟨p0,2,none⟩) (Kd.R_far (p:=⟨p0,1,none⟩) (Kd.R_far (p:=⟨p0,0,none⟩) (Kd.R_types HO_5.out p4.out (by decide)) (fun _ hk => hk.2) (.int .i64 ((rd_T34 l0_1 x8_3).f0))) (fun _ hk => hk.2) (.int .i64 ((rd_T34 l0_1 x8_3).f1))) (fun _ hk => hk.2) (.int .i64 ((rd_T34 l0_1 x8_3).f2))) (fun _ hk => hk.2) (.int .i64 ((rd_T34 l0_1 x8_3).f3))) (fun _ hk => hk.2) (.int .i64 ((rd_T34 l0_1 x8_3).f4))) (fun _ hk => trivial)⟩
       have n1_ : Aside0 ((((((w34.setCell ⟨p0,0,none⟩ (.int .i64 ((rd_T34 l0_1 x8_3).f0))).setCell ⟨p0,1,none⟩ (.int .i64 ((rd_T34 l0_1 x8_3).f1))).setCell ⟨p0,2,none⟩ (.int .i64 ((rd_T34 l0_1 x8_3).f2))).setCell ⟨p0,3,none⟩ (.int .i64 ((rd_T34 l0_1 x8_3).f3))).setCell ⟨p0,4,none⟩ (.int .i64 ((rd_T34 l0_1 x8_3).f4))).heap[p7]? = some (.cells #[.int .i64 a0_0,.slice (some q9) l0_1.length c0_1] 25 (0,0))):=⟨by refine blk_far ?_ p5.out _; refine blk_far ?_ p5.out _; refine blk_far ?_ p5.out _; refine blk_far ?_ p5.out _; refine blk_far ?_ p5.out _; exact p3.out⟩
       have n2_ : Aside0 ((((((w34.setCell ⟨p0,0,none⟩ (.int .i64 ((rd_T34 l0_1 x8_3).f0))).setCell ⟨p0,1,none⟩ (.int .i64 ((rd_T34 l0_1 x8_3).f1))).setCell ⟨p0,2,none⟩ (.int .i64 ((rd_T34 l0_1 x8_3).f2))).setCell ⟨p0,3,none⟩ (.int .i64 ((rd_T34 l0_1 x8_3).f3))).setCell ⟨p0,4,none⟩ (.int .i64 ((rd_T34 l0_1 x8_3).f4))).heap[p0]? = some (.cells #[.int .i64 ((rd_T34 l0_1 x8_3).f0),.int .i64 ((rd_T34 l0_1 x8_3).f1),.int .i64 ((rd_T34 l0_1 x8_3).f2),.int .i64 ((rd_T34 l0_1 x8_3).f3),.int .i64 ((rd_T34 l0_1 x8_3).f4)] 34 (0,0))):=⟨by refine blk_put (cs:=#[.int .i64 ((rd_T34 l0_1 x8_3).f0),.int .i64 ((rd_T34 l0_1 x8_3).f1),.int .i64 ((rd_T34 l0_1 x8_3).f2),.int .i64 ((rd_T34 l0_1 x8_3).f3),.int .i64 0]) ?_ 4 _ rfl; refine blk_put (cs:=#[.int .i64 ((rd_T34 l0_1 x8_3).f0),.int .i64 ((rd_T34 l0_1 x8_3).f1),.int .i64 ((rd_T34 l0_1 x8_3).f2),.int .i64 0,.int .i64 0]) ?_ 3 _ rfl; refine blk_put (cs:=#[.int .i64 ((rd_T34 l0_1 x8_3).f0),.int .i64 ((rd_T34 l0_1 x8_3).f1),.int .i64 0,.int .i64 0,.int .i64 0]) ?_ 2 _ rfl; refine blk_put (cs:=#[.int .i64 ((rd_T34 l0_1 x8_3).f0),.int .i64 0,.int .i64 0,.int .i64 0,.int .i64 0]) ?_ 1 _ rfl; refine blk_put (cs:=#[.int .i64 0,.int .i64 0,.int .i64 0,.int .i64 0,.int .i64 0]) ?_ 0 _ rfl; exact p4.out⟩
       have n3_ : Aside0 (Below w.heap.size w (((((w34.setCell ⟨p0,0,none⟩ (.int .i64 ((rd_T34 l0_1 x8_3).f0))).setCell ⟨p0,1,none⟩ (.int .i64 ((rd_T34 l0_1 x8_3).f1))).setCell ⟨p0,2,none⟩ (.int .i64 ((rd_T34 l0_1 x8_3).f2))).setCell ⟨p0,3,none⟩ (.int .i64 ((rd_T34 l0_1 x8_3).f3))).setCell ⟨p0,4,none⟩ (.int .i64 ((rd_T34 l0_1 x8_3).f4)))):=⟨by repeat (first | (with_reducible first | exact HB.out | apply below_alloc | apply pw_below_drewN | apply below_drew1 | refine below_set ?_ r1.out | refine below_set ?_ r3.out) | exact HB.out)⟩
       (try clear HO_5)
       (try clear p3)
       (try clear p4)
       (try clear HB)
       generalize (((((w34.setCell ⟨p0,0,none⟩ (.int .i64 ((rd_T34 l0_1 x8_3).f0))).setCell ⟨p0,1,none⟩ (.int .i64 ((rd_T34 l0_1 x8_3).f1))).setCell ⟨p0,2,none⟩ (.int .i64 ((rd_T34 l0_1 x8_3).f2))).setCell ⟨p0,3,none⟩ (.int .i64 ((rd_T34 l0_1 x8_3).f3))).setCell ⟨p0,4,none⟩ (.int .i64 ((rd_T34 l0_1 x8_3).f4))) = w37 at n0_ n1_ n2_ n3_ ⊢;have HO_5:=n0_;have p3:=n1_;have p4:=n2_;have HB:=n3_;clear n0_ n1_ n2_ n3_;have n0_:=zx (Kd.R_drew HO_5.out);have n1_:=zx (blk_drew p3.out);have n2_:=zx (blk_drew p4.out);have n3_:=zx (below_drew1 HB.out);clear HO_5;clear p3;clear p4;clear HB;have HO_5:=n0_;have p3:=n1_;have p4:=n2_;have HB:=n3_;clear n0_ n1_ n2_ n3_;have p279 : 0 ≤ (((rd_T34 l0_1 x8_3).f0) : Int):=of_decide_eq_true (by first | (with_reducible assumption) | assumption);have q279 : ((rd_T34 l0_1 x8_3).f0) < (x5_3.length : Int):=of_decide_eq_true (by first | (with_reducible assumption) | assumption);obtain ⟨r4,e279,p9⟩:=Kd.at_int (Kd.R_reads' HO_5.out).2.2 ((rd_T34 l0_1 x8_3).f0) p279 q279;obtain rfl : (⟨go18,0,none⟩ : Addr) = r4:=(by injection e279)
       (first | simp only [add_plain] at p9 | simp only [add_at] at p9 | simp only [Addr.add,Nat.zero_add] at p9 | skip)
       replace p279:=eq_true p279;replace q279:=eq_true q279;have p280 : 0 ≤ (((rd_T34 l0_1 x8_3).f0) : Int):=of_decide_eq_true (by first | (with_reducible assumption) | assumption);have q280 : ((rd_T34 l0_1 x8_3).f0) < (x5_3.length : Int):=of_decide_eq_true (by first | (with_reducible assumption) | assumption);obtain ⟨t8,e280,q7⟩:=Kd.at_int (Kd.R_reads' HO_5.out).2.2 ((rd_T34 l0_1 x8_3).f0) p280 q280;obtain rfl : (⟨go18,0,none⟩ : Addr) = t8:=(by injection e280)
       (first | simp only [add_plain] at q7 | simp only [add_at] at q7 | simp only [Addr.add,Nat.zero_add] at q7 | skip)
       replace p280:=eq_true p280;replace q280:=eq_true q280;have p281 : 0 ≤ (((rd_T34 l0_1 x8_3).f1) : Int):=of_decide_eq_true (by first | (with_reducible assumption) | assumption);have q281 : ((rd_T34 l0_1 x8_3).f1) < (x5_3.length : Int):=of_decide_eq_true (by first | (with_reducible assumption) | assumption);obtain ⟨t9,e281,q8⟩:=Kd.at_int (Kd.R_reads' HO_5.out).2.2 ((rd_T34 l0_1 x8_3).f1) p281 q281;obtain rfl : (⟨go18,0,none⟩ : Addr) = t9:=(by injection e281)
       (first | simp only [add_plain] at q8 | simp only [add_at] at q8 | simp only [Addr.add,Nat.zero_add] at q8 | skip)
       replace p281:=eq_true p281;replace q281:=eq_true q281;refine start_ (n:=22) (S:=fun w' => w'.cell? ⟨p0,0,none⟩ = some (.int .i64 ((rd_T34 l0_1 x8_3).f0)) ∧ w'.cell? ⟨p0,1,none⟩ = some (.int .i64 ((rd_T34 l0_1 x8_3).f1)) ∧ w'.cell? ⟨p0,2,none⟩ = some (.int .i64 ((rd_T34 l0_1 x8_3).f2)) ∧ w'.cell? ⟨p0,3,none⟩ = some (.int .i64 ((rd_T34 l0_1 x8_3).f3)) ∧ w'.cell? ⟨p0,4,none⟩ = some (.int .i64 ((rd_T34 l0_1 x8_3).f4)) ∧ w'.cell? ⟨go18,(((rd_T34 l0_1 x8_3).f0)).toNat,none⟩ = some (.int .i64 (rd x5_3 ((rd_T34 l0_1 x8_3).f0))) ∧ w'.cell? ⟨go18,(((rd_T34 l0_1 x8_3).f0)).toNat,none⟩ = some (.int .i64 (rd x5_3 ((rd_T34 l0_1 x8_3).f0))) ∧ w'.cell? ⟨go18,(((rd_T34 l0_1 x8_3).f1)).toNat,none⟩ = some (.int .i64 (rd x5_3 ((rd_T34 l0_1 x8_3).f1)))) (ds:=[]) #[J,J,J,J,J,J,J,J,J,J,J,J,J,J,J,J,J,J,J,J,J,J] (by kernel_rfl) rfl rfl ⟨(blk_cell p4.out 0).trans rfl,(blk_cell p4.out 1).trans rfl,(blk_cell p4.out 2).trans rfl,(blk_cell p4.out 3).trans rfl,(blk_cell p4.out 4).trans rfl,p9,q7,q8⟩ (fun hHeld => ?_); refine with_tabW spec_l3All.tab14 spec_l3All.bits14 (fun HT_ HW_ => ?_);generalize w37.drew = w38 at HO_5 p3 p4 HB p9 q7 q8 hHeld ⊢;refine pure_ (i:=0) (N:=some 43) (v:=?_) (a':=?_) #[Y,J,J,J,J,J,J,J,J,J,J,J,J,J,J,J,J,J,J,J,J,J] rfl rfl (any_of HT_.out (by kernel_rfl)) (fun _ _ _ h => h) (Or.inl ⟨by rfl,?_⟩) ?_ ?_;rotate_left
       ·intro w';go_simp;with_reducible rfl
       rotate_left
       ·simp only [Act.put,U,V,Z,i64_w,i32_w];rfl
       refine pure_ (i:=1) (N:=some 44) (v:=?_) (a':=?_) #[Y,Y,J,J,J,J,J,J,J,J,J,J,J,J,J,J,J,J,J,J,J,J] rfl rfl (any_of HT_.out (by kernel_rfl)) (fun _ _ _ h => h) (Or.inl ⟨by rfl,?_⟩) ?_ ?_;rotate_left
       ·intro w';go_simp;with_reducible rfl
       rotate_left
       ·simp only [Act.put,U,V,Z,i64_w,i32_w];rfl
       refine take_ (i:=2) (N:=some 45) (v:=?_) (a':=?_) #[Y,Y,Y,J,J,J,J,J,J,J,J,J,J,J,J,J,J,J,J,J,J,J] rfl rfl (take_ofW HT_.out HW_.out (by kernel_rfl)) (fun _ _ _ h => h) (Or.inl ⟨by rfl,?_⟩) hHeld ?_ ?_;rotate_left
       ·rintro w' ⟨s0,s1,s2,s3,s4,s5,s6,s7⟩;go_simp;with_reducible rfl
       rotate_left
       ·simp only [Act.put,U,V,Z,i64_w,i32_w];rfl
       refine pure_ (i:=3) (N:=some 46) (v:=?_) (a':=?_) #[Y,Y,Y,Y,J,J,J,J,J,J,J,J,J,J,J,J,J,J,J,J,J,J] rfl rfl (any_of HT_.out (by kernel_rfl)) (fun _ _ _ h => h) (Or.inl ⟨by rfl,?_⟩) ?_ ?_;rotate_left
       ·intro w';go_simp;with_reducible rfl
       rotate_left
       ·simp only [Act.put,U,V,Z,i64_w,i32_w];rfl
       refine take_ (i:=4) (N:=some 47) (v:=?_) (a':=?_) #[Y,Y,Y,Y,Y,J,J,J,J,J,J,J,J,J,J,J,J,J,J,J,J,J] rfl rfl (take_ofW HT_.out HW_.out (by kernel_rfl)) (fun _ _ _ h => h) (Or.inl ⟨by rfl,?_⟩) hHeld ?_ ?_;rotate_left
       ·rintro w' ⟨s0,s1,s2,s3,s4,s5,s6,s7⟩;go_simp;with_reducible rfl
       rotate_left
       ·simp only [Act.put,U,V,Z,i64_w,i32_w];rfl
       refine pure_ (i:=5) (N:=some 48) (v:=?_) (a':=?_) #[Y,Y,Y,Y,Y,Y,J,J,J,J,J,J,J,J,J,J,J,J,J,J,J,J] rfl rfl (any_of HT_.out (by kernel_rfl)) (fun _ _ _ h => h) (Or.inl ⟨by rfl,?_⟩) ?_ ?_;rotate_left
       ·intro w';go_simp;with_reducible rfl
       rotate_left
       ·simp only [Act.put,U,V,Z,i64_w,i32_w];rfl
       refine pure_ (i:=6) (N:=some 49) (v:=?_) (a':=?_) #[Y,Y,Y,Y,Y,Y,Y,J,J,J,J,J,J,J,J,J,J,J,J,J,J,J] rfl rfl (any_of HT_.out (by kernel_rfl)) (fun _ _ _ h => h) (Or.inl ⟨by rfl,?_⟩) ?_ ?_;rotate_left
       ·intro w';go_simp;with_reducible rfl
       rotate_left
       ·simp only [Act.put,U,V,Z,i64_w,i32_w];rfl
       refine pure_ (i:=7) (N:=some 50) (v:=?_) (a':=?_) #[Y,Y,Y,Y,Y,Y,Y,Y,J,J,J,J,J,J,J,J,J,J,J,J,J,J] rfl rfl (any_of HT_.out (by kernel_rfl)) (fun _ _ _ h => h) (Or.inl ⟨by rfl,?_⟩) ?_ ?_;rotate_left
       ·intro w';go_simp;with_reducible rfl
       rotate_left
       ·simp only [Act.put,U,V,Z,i64_w,i32_w];rfl
       refine pure_ (i:=8) (N:=some 51) (v:=?_) (a':=?_) #[Y,Y,Y,Y,Y,Y,Y,Y,Y,J,J,J,J,J,J,J,J,J,J,J,J,J] rfl rfl (any_of HT_.out (by kernel_rfl)) (fun _ _ _ h => h) (Or.inl ⟨by rfl,?_⟩) ?_ ?_;rotate_left
       ·intro w';go_simp;with_reducible rfl
       rotate_left
       ·simp only [Act.put,U,V,Z,i64_w,i32_w];rfl
       refine pure_ (i:=12) (N:=some 55) (v:=?_) (a':=?_) #[Y,Y,Y,Y,Y,Y,Y,Y,Y,J,J,J,Y,J,J,J,J,J,J,J,J,J] rfl rfl (any_of HT_.out (by kernel_rfl)) (fun _ _ _ h => h) (Or.inl ⟨by rfl,?_⟩) ?_ ?_;rotate_left
       ·intro w';go_simp;with_reducible rfl
       rotate_left
       ·simp only [Act.put,U,V,Z,i64_w,i32_w];rfl
       refine pure_ (i:=15) (N:=some 58) (v:=?_) (a':=?_) #[Y,Y,Y,Y,Y,Y,Y,Y,Y,J,J,J,Y,J,J,Y,J,J,J,J,J,J] rfl rfl (any_of HT_.out (by kernel_rfl)) (fun _ _ _ h => h) (Or.inl ⟨by rfl,?_⟩) ?_ ?_;rotate_left
       ·intro w';go_simp;with_reducible rfl
       rotate_left
       ·simp only [Act.put,U,V,Z,i64_w,i32_w];rfl
       refine pure_ (i:=16) (N:=some 59) (v:=?_) (a':=?_) #[Y,Y,Y,Y,Y,Y,Y,Y,Y,J,J,J,Y,J,J,Y,Y,J,J,J,J,J] rfl rfl (any_of HT_.out (by kernel_rfl)) (fun _ _ _ h => h) (Or.inl ⟨by rfl,?_⟩) ?_ ?_;rotate_left
       ·intro w';go_simp;with_reducible rfl
       rotate_left
       ·simp only [Act.put,U,V,Z,i64_w,i32_w];rfl
       refine take_ (i:=9) (N:=some 52) (v:=?_) (a':=?_) #[Y,Y,Y,Y,Y,Y,Y,Y,Y,Y,J,J,Y,J,J,Y,Y,J,J,J,J,J] rfl rfl (take_ofW HT_.out HW_.out (by kernel_rfl)) (fun _ _ _ h => h) (Or.inl ⟨by rfl,?_⟩) hHeld ?_ ?_;rotate_left
       ·rintro w' ⟨s0,s1,s2,s3,s4,s5,s6,s7⟩;go_simp;with_reducible rfl
       rotate_left
       ·simp only [Act.put,U,V,Z,i64_w,i32_w];rfl
       refine pure_ (i:=10) (N:=some 53) (v:=?_) (a':=?_) #[Y,Y,Y,Y,Y,Y,Y,Y,Y,Y,Y,J,Y,J,J,Y,Y,J,J,J,J,J] rfl rfl (any_of HT_.out (by kernel_rfl)) (fun _ _ _ h => h) (Or.inl ⟨by rfl,?_⟩) ?_ ?_;rotate_left
       ·intro w';go_simp;with_reducible rfl
       rotate_left
       ·simp only [Act.put,U,V,Z,i64_w,i32_w];rfl
       refine take_ (i:=11) (N:=some 54) (v:=?_) (a':=?_) #[Y,Y,Y,Y,Y,Y,Y,Y,Y,Y,Y,Y,Y,J,J,Y,Y,J,J,J,J,J] rfl rfl (take_ofW HT_.out HW_.out (by kernel_rfl)) (fun _ _ _ h => h) (Or.inl ⟨by rfl,?_⟩) hHeld ?_ ?_;rotate_left
       ·rintro w' ⟨s0,s1,s2,s3,s4,s5,s6,s7⟩;go_simp;with_reducible rfl
       rotate_left
       ·simp only [Act.put,U,V,Z,i64_w,i32_w];rfl
       refine take_ (i:=13) (N:=some 56) (v:=?_) (a':=?_) #[Y,Y,Y,Y,Y,Y,Y,Y,Y,Y,Y,Y,Y,Y,J,Y,Y,J,J,J,J,J] rfl rfl (take_ofW HT_.out HW_.out (by kernel_rfl)) (fun _ _ _ h => h) (Or.inl ⟨by rfl,?_⟩) hHeld ?_ ?_;rotate_left
       ·rintro w' ⟨s0,s1,s2,s3,s4,s5,s6,s7⟩;go_simp;with_reducible rfl
       rotate_left
       ·simp only [Act.put,U,V,Z,i64_w,i32_w];rfl
       refine pure_ (i:=14) (N:=some 57) (v:=?_) (a':=?_) #[Y,Y,Y,Y,Y,Y,Y,Y,Y,Y,Y,Y,Y,Y,Y,Y,Y,J,J,J,J,J] rfl rfl (any_of HT_.out (by kernel_rfl)) (fun _ _ _ h => h) (Or.inl ⟨by rfl,?_⟩) ?_ ?_;rotate_left
       ·intro w';go_simp;with_reducible rfl
       rotate_left
       ·simp only [Act.put,U,V,Z,i64_w,i32_w];rfl
       refine take_ (i:=17) (N:=some 60) (v:=?_) (a':=?_) #[Y,Y,Y,Y,Y,Y,Y,Y,Y,Y,Y,Y,Y,Y,Y,Y,Y,Y,J,J,J,J] rfl rfl (take_ofW HT_.out HW_.out (by kernel_rfl)) (fun _ _ _ h => h) (Or.inl ⟨by rfl,?_⟩) hHeld ?_ ?_;rotate_left
       ·rintro w' ⟨s0,s1,s2,s3,s4,s5,s6,s7⟩;go_simp;with_reducible rfl
       rotate_left
       ·simp only [Act.put,U,V,Z,i64_w,i32_w];rfl
       refine pure_ (i:=18) (N:=some 61) (v:=?_) (a':=?_) #[Y,Y,Y,Y,Y,Y,Y,Y,Y,Y,Y,Y,Y,Y,Y,Y,Y,Y,Y,J,J,J] rfl rfl (any_of HT_.out (by kernel_rfl)) (fun _ _ _ h => h) (Or.inl ⟨by rfl,?_⟩) ?_ ?_;rotate_left
       ·intro w';go_simp;with_reducible rfl
       rotate_left
       ·simp only [Act.put,U,V,Z,i64_w,i32_w];rfl
       refine take_ (i:=19) (N:=some 62) (v:=?_) (a':=?_) #[Y,Y,Y,Y,Y,Y,Y,Y,Y,Y,Y,Y,Y,Y,Y,Y,Y,Y,Y,Y,J,J] rfl rfl (take_ofW HT_.out HW_.out (by kernel_rfl)) (fun _ _ _ h => h) (Or.inl ⟨by rfl,?_⟩) hHeld ?_ ?_;rotate_left
       ·rintro w' ⟨s0,s1,s2,s3,s4,s5,s6,s7⟩;go_simp;with_reducible rfl
       rotate_left
       ·simp only [Act.put,U,V,Z,i64_w,i32_w];rfl
       refine pure_ (i:=20) (N:=some 63) (v:=?_) (a':=?_) #[Y,Y,Y,Y,Y,Y,Y,Y,Y,Y,Y,Y,Y,Y,Y,Y,Y,Y,Y,Y,Y,J] rfl rfl (any_of HT_.out (by kernel_rfl)) (fun _ _ _ h => h) (Or.inl ⟨by rfl,?_⟩) ?_ ?_;rotate_left
       ·intro w';go_simp;with_reducible rfl
       rotate_left
       ·simp only [Act.put,U,V,Z,i64_w,i32_w];rfl
       refine pure_ (i:=21) (N:=some 64) (v:=?_) (a':=?_) #[Y,Y,Y,Y,Y,Y,Y,Y,Y,Y,Y,Y,Y,Y,Y,Y,Y,Y,Y,Y,Y,Y] rfl rfl (any_of HT_.out (by kernel_rfl)) (fun _ _ _ h => h) (Or.inl ⟨by rfl,?_⟩) ?_ ?_;rotate_left
       ·intro w';go_simp;with_reducible rfl
       rotate_left
       ·simp only [Act.put,U,V,Z,i64_w,i32_w];rfl
       refine done_ (done_of HT_.out (by kernel_rfl)) ?_
       try go_wp2
       have n0_:=zx (Kd.R_drew HO_5.out);have n1_:=zx (blk_drew p3.out);have n2_:=zx (blk_drew p4.out);have n3_:=zx (below_drew1 HB.out);clear HO_5;clear p3;clear p4;clear HB;have HO_5:=n0_;have p3:=n1_;have p4:=n2_;have HB:=n3_;clear n0_ n1_ n2_ n3_;have p282 : 0 ≤ (((rd_T34 l0_1 x8_3).f0) : Int):=of_decide_eq_true (by first | (with_reducible assumption) | assumption);have q282 : ((rd_T34 l0_1 x8_3).f0) < (x5_3.length : Int):=of_decide_eq_true (by first | (with_reducible assumption) | assumption);obtain ⟨ad282,e282,r2⟩:=Kd.at_int (Kd.R_reads' HO_5.out).2.2 ((rd_T34 l0_1 x8_3).f0) p282 q282;obtain rfl : (⟨go18,0,none⟩ : Addr) = ad282:=(by injection e282)
       (first | simp only [add_plain] at r2 | simp only [add_at] at r2 | simp only [Addr.add,Nat.zero_add] at r2 | skip)
       replace p282:=eq_true p282;replace q282:=eq_true q282;have p32 : 0 ≤ (((rd_T34 l0_1 x8_3).f1) : Int):=of_decide_eq_true (by first | (with_reducible assumption) | assumption);have q32 : (((rd_T34 l0_1 x8_3).f1) : Int) < ((x5_3.length : Int) : Int):=of_decide_eq_true (by first | (with_reducible assumption) | assumption);obtain ⟨hx32_0,hf32_0⟩:=Kd.R_celln 0 HO_5.out (((rd_T34 l0_1 x8_3).f1) : Int) p32 q32;replace p32:=eq_true p32;replace q32:=eq_true q32;have HP40:=Kd.R_putn HO_5.out (((rd_T34 l0_1 x8_3).f1) : Int) (wrap64 ((rd x5_3 ((rd_T34 l0_1 x8_3).f0)) + ((rd_T34 l0_1 x8_3).f2)));rw [← Ny283.out] at HP40;have HQ40:=zx HP40;clear HP40;refine start_ (n:=13) (S:=fun w' => w'.cell? ⟨p0,0,none⟩ = some (.int .i64 ((rd_T34 l0_1 x8_3).f0)) ∧ w'.cell? ⟨p0,1,none⟩ = some (.int .i64 ((rd_T34 l0_1 x8_3).f1)) ∧ w'.cell? ⟨p0,2,none⟩ = some (.int .i64 ((rd_T34 l0_1 x8_3).f2)) ∧ w'.cell? ⟨p0,3,none⟩ = some (.int .i64 ((rd_T34 l0_1 x8_3).f3)) ∧ w'.cell? ⟨p0,4,none⟩ = some (.int .i64 ((rd_T34 l0_1 x8_3).f4)) ∧ w'.cell? ⟨go18,(((rd_T34 l0_1 x8_3).f0)).toNat,none⟩ = some (.int .i64 (rd x5_3 ((rd_T34 l0_1 x8_3).f0)))) (ds:=[12]) #[J,J,J,J,J,J,J,J,J,J,J,J,J] (by kernel_rfl) rfl rfl ⟨(blk_cell p4.out 0).trans rfl,(blk_cell p4.out 1).trans rfl,(blk_cell p4.out 2).trans rfl,(blk_cell p4.out 3).trans rfl,(blk_cell p4.out 4).trans rfl,r2⟩ (fun hHeld => ?_); refine with_tabW spec_l3All.tab15 spec_l3All.bits15 (fun HT_ HW_ => ?_);generalize w38.drew = w39 at HO_5 p3 p4 HB HQ40 hf32_0 r2 hx32_0 hHeld ⊢;refine pure_ (i:=0) (N:=some 65) (v:=?_) (a':=?_) #[Y,J,J,J,J,J,J,J,J,J,J,J,J] rfl rfl (any_of HT_.out (by kernel_rfl)) (fun _ _ _ h => h) (Or.inl ⟨by rfl,?_⟩) ?_ ?_;rotate_left
       ·intro w';go_simp;with_reducible rfl
       rotate_left
       ·simp only [Act.put,U,V,Z,i64_w,i32_w];rfl
       refine pure_ (i:=1) (N:=some 66) (v:=?_) (a':=?_) #[Y,Y,J,J,J,J,J,J,J,J,J,J,J] rfl rfl (any_of HT_.out (by kernel_rfl)) (fun _ _ _ h => h) (Or.inl ⟨by rfl,?_⟩) ?_ ?_;rotate_left
       ·intro w';go_simp;with_reducible rfl
       rotate_left
       ·simp only [Act.put,U,V,Z,i64_w,i32_w];rfl
       refine pure_ (i:=3) (N:=some 68) (v:=?_) (a':=?_) #[Y,Y,J,Y,J,J,J,J,J,J,J,J,J] rfl rfl (any_of HT_.out (by kernel_rfl)) (fun _ _ _ h => h) (Or.inl ⟨by rfl,?_⟩) ?_ ?_;rotate_left
       ·intro w';go_simp;with_reducible rfl
       rotate_left
       ·simp only [Act.put,U,V,Z,i64_w,i32_w];rfl
       refine pure_ (i:=4) (N:=some 69) (v:=?_) (a':=?_) #[Y,Y,J,Y,Y,J,J,J,J,J,J,J,J] rfl rfl (any_of HT_.out (by kernel_rfl)) (fun _ _ _ h => h) (Or.inl ⟨by rfl,?_⟩) ?_ ?_;rotate_left
       ·intro w';go_simp;with_reducible rfl
       rotate_left
       ·simp only [Act.put,U,V,Z,i64_w,i32_w];rfl
       refine pure_ (i:=8) (N:=some 73) (v:=?_) (a':=?_) #[Y,Y,J,Y,Y,J,J,J,Y,J,J,J,J] rfl rfl (any_of HT_.out (by kernel_rfl)) (fun _ _ _ h => h) (Or.inl ⟨by rfl,?_⟩) ?_ ?_;rotate_left
       ·intro w';go_simp;with_reducible rfl
       rotate_left
       ·simp only [Act.put,U,V,Z,i64_w,i32_w];rfl
       refine take_ (i:=2) (N:=some 67) (v:=?_) (a':=?_) #[Y,Y,Y,Y,Y,J,J,J,Y,J,J,J,J] rfl rfl (take_ofW HT_.out HW_.out (by kernel_rfl)) (fun _ _ _ h => h) (Or.inl ⟨by rfl,?_⟩) hHeld ?_ ?_;rotate_left
       ·rintro w' ⟨s0,s1,s2,s3,s4,s5⟩;go_simp;with_reducible rfl
       rotate_left
       ·simp only [Act.put,U,V,Z,i64_w,i32_w];rfl
       refine take_ (i:=5) (N:=some 70) (v:=?_) (a':=?_) #[Y,Y,Y,Y,Y,Y,J,J,Y,J,J,J,J] rfl rfl (take_ofW HT_.out HW_.out (by kernel_rfl)) (fun _ _ _ h => h) (Or.inl ⟨by rfl,?_⟩) hHeld ?_ ?_;rotate_left
       ·rintro w' ⟨s0,s1,s2,s3,s4,s5⟩;go_simp;with_reducible rfl
       rotate_left
       ·simp only [Act.put,U,V,Z,i64_w,i32_w];rfl
       refine pure_ (i:=6) (N:=some 71) (v:=?_) (a':=?_) #[Y,Y,Y,Y,Y,Y,Y,J,Y,J,J,J,J] rfl rfl (any_of HT_.out (by kernel_rfl)) (fun _ _ _ h => h) (Or.inl ⟨by rfl,?_⟩) ?_ ?_;rotate_left
       ·intro w';go_simp;with_reducible rfl
       rotate_left
       ·simp only [Act.put,U,V,Z,i64_w,i32_w];rfl
       refine take_ (i:=7) (N:=some 72) (v:=?_) (a':=?_) #[Y,Y,Y,Y,Y,Y,Y,Y,Y,J,J,J,J] rfl rfl (take_ofW HT_.out HW_.out (by kernel_rfl)) (fun _ _ _ h => h) (Or.inl ⟨by rfl,?_⟩) hHeld ?_ ?_;rotate_left
       ·rintro w' ⟨s0,s1,s2,s3,s4,s5⟩;go_simp;with_reducible rfl
       rotate_left
       ·simp only [Act.put,U,V,Z,i64_w,i32_w];rfl
       refine take_ (i:=9) (N:=some 74) (v:=?_) (a':=?_) #[Y,Y,Y,Y,Y,Y,Y,Y,Y,Y,J,J,J] rfl rfl (take_ofW HT_.out HW_.out (by kernel_rfl)) (fun _ _ _ h => h) (Or.inl ⟨by rfl,?_⟩) hHeld ?_ ?_;rotate_left
       ·rintro w' ⟨s0,s1,s2,s3,s4,s5⟩;go_simp;with_reducible rfl
       rotate_left
       ·simp only [Act.put,U,V,Z,i64_w,i32_w];rfl
       refine pure_ (i:=10) (N:=some 75) (v:=?_) (a':=?_) #[Y,Y,Y,Y,Y,Y,Y,Y,Y,Y,Y,J,J] rfl rfl (any_of HT_.out (by kernel_rfl)) (fun _ _ _ h => h) (Or.inl ⟨by rfl,?_⟩) ?_ ?_;rotate_left
       ·intro w';go_simp;with_reducible rfl
       rotate_left
       ·simp only [Act.put,U,V,Z,i64_w,i32_w];rfl
       refine pure_ (i:=11) (N:=some 76) (v:=?_) (a':=?_) #[Y,Y,Y,Y,Y,Y,Y,Y,Y,Y,Y,Y,J] rfl rfl (any_of HT_.out (by kernel_rfl)) (fun _ _ _ h => h) (Or.inl ⟨by rfl,?_⟩) ?_ ?_;rotate_left
       ·intro w';go_simp;with_reducible rfl
       rotate_left
       ·simp only [Act.put,U,V,Z,i64_w,i32_w];rfl
       refine last_ (i:=12) (N:=none) #[true,true,true,true,true,true,true,true,true,true,true,true,true] rfl rfl (one_of HT_.out (by kernel_rfl)) (by decide) (fun K hK => ?_);refine skip_ (w1:=?_) (by rfl) rfl ?_ ?_;rotate_left
       ·go_simp;rfl
       refine hK.out _ _ ?_;clear hK K;refine done_ (done_of HT_.out (by kernel_rfl)) ?_
       try go_wp2
       (try simp only [← hl5_3])
       go_roundg k3
       case measure => have:=HK1.out; have:=HK2.out; have:=HK3.out; omega
       case rel => exact ⟨(y283),(wrap64 (x8_3 + 1)),(by first | rfl | (simp; done) | (simp [*]; done)),H',⟨by have:=HK1.out; have:=HK2.out; have:=HK3.out; omega⟩,⟨by (try simp only [hl5_2]); (try simp only [hl5_3]); exact HQ40.out⟩,⟨by (try simp only [hl5_2]); (try simp only [hl5_3]); refine blk_far ?_ (by have h_:=Kd.R_ne HO_5.out p3.out (by decide); intro e_; exact h_ (by rw [e_]; rfl)) _; exact p3.out⟩,⟨by repeat (first | (with_reducible first | exact HB.out | apply below_alloc | apply pw_below_drewN | apply below_drew1 | refine below_set ?_ GB18.out | refine below_set ?_ r1.out | refine below_set ?_ r3.out) | exact HB.out)⟩⟩
def spec_l1Back.l0 : Nat → Int → Int → List (S34) → Int → List (S34) → Option (Int × (List (S34)))
 | 0,_,_,_,_,_ => none
 | k + 1,x4,s9,q7,s3,r4 => if x4 < (q7.length : Int) then (if 0 ≤ x4 then (if r4.length < 3518437208883 then (spec_l1Back.l0 k (wrap64 (x4 + 1)) s9 q7 s3 (r4 ++ [(⟨(rd_T34 q7 x4).f1,(rd_T34 q7 x4).f0,(rd_T34 q7 x4).f2,(rd_T34 q7 x4).f3,(rd_T34 q7 x4).f4⟩ : S34)])) else (none)) else (none)) else (some (s3,r4))
def spec_l1Back.f (k : Nat) (a0_0 : Int) (l0_1 : List (S34)) : Option (Int × (List (S34))):=spec_l1Back.l0 k 0 a0_0 l0_1 a0_0 ([] : List (S34))
set_option maxHeartbeats 8000000 in
set_option maxRecDepth 100000 in
theorem spec_l1Back.calls (k : Nat) (a0_0 : Int) (A0_1 : Option Addr) (c0_1 : Nat) (l0_1 : List (S34)) (r1 : Int) (r2 : List (S34)) (w : World) (hr0_1 : Kd.C k34 w A0_1 l0_1.length l0_1) (hc0_1 : l0_1.length ≤ c0_1) (h : spec_l1Back.f k a0_0 l0_1 = some (r1,r2)) :
  Calls Try.prog 95 #[.agg #[.int .i64 a0_0,.slice A0_1 l0_1.length c0_1]] w fun e w' => ∃ v1_ : Value,e = .returned (.agg #[.int .i64 r1,v1_]) ∧ Kd.R k34 34 w' w.heap.size (fun _ => True) v1_ r2 ∧ Below w.heap.size w w':=by
 have hu25:=Try.underlying25;have hu34:=Try.underlying34;have HR0_1:=zx hr0_1;have HC0_1:=zx hc0_1;clear hr0_1 hc0_1;have HB:=zx (Below.refl w.heap.size w);have H : (spec_l1Back.l0 k 0 a0_0 l0_1 a0_0 ([] : List (S34))) = some (r1,r2):=h;clear h;have H':=zx H;clear H
 go_enter Try.func95,Try.ntmps95
 go_wp2_with (first | ((with_reducible refine gate_dst (N:=1) rfl ?_); refine box_event ?hg (N:=1) ?hd (cs:=#[.int .i64 a0_0,.slice A0_1 l0_1.length c0_1]) (t:=25) ?hr ?_; (case hd => rfl); (case hg => rfl); (case hr => first | (go_simp; done) | (go_simp; rfl)); intro p4 hg w2 hbox hb; have n0_:=zx (below_step HB.out hb); have n1_:=zx (hbox); have n2_:=zx ((by rw [hg]; exact (below_size HB.out) : w.heap.size ≤ p4)); have n3_:=zx ((by rw [hg]; exact (below_size HB.out) : w.heap.size ≤ p4)); clear HB; have HB:=n0_; have p0:=n1_; have GW354:=n2_; have s0:=n3_; clear n0_ n1_ n2_ n3_; clear hb hbox hg) | ((with_reducible refine gate_dst (N:=2) rfl ?_); refine box_event ?hg (N:=2) ?hd (cs:=#[.int .i64 0,.slice none 0 0]) (t:=25) ?hr ?_; (case hd => rfl); (case hg => rfl); (case hr => first | (go_simp; done) | (go_simp; rfl)); intro p8 hg w3 hbox hb; have n0_:=zx (blk_below (g:=p4) (o:=.cells #[.int .i64 a0_0,.slice A0_1 l0_1.length c0_1] 25 (0,0)) p0.out hb); have n1_:=zx (below_step HB.out hb); have n2_:=zx (hbox); have n3_:=zx ((by rw [hg]; exact (below_size HB.out) : w.heap.size ≤ p8)); have n4_:=zx ((by rw [hg]; exact (below_size HB.out) : w.heap.size ≤ p8)); have n5_:=zx ((by rw [hg]; exact Nat.ne_of_lt (blk_lt (g:=p4) (o:=.cells #[.int .i64 a0_0,.slice A0_1 l0_1.length c0_1] 25 (0,0)) p0.out) : p4 ≠ p8)); have n6_:=zx ((by rw [hg]; exact Nat.ne_of_gt (blk_lt (g:=p4) (o:=.cells #[.int .i64 a0_0,.slice A0_1 l0_1.length c0_1] 25 (0,0)) p0.out) : p8 ≠ p4)); clear p0; clear HB; have p0:=n0_; have HB:=n1_; have p5:=n2_; have GW355:=n3_; have s1:=n4_; have q8:=n5_; have q9:=n6_; clear n0_ n1_ n2_ n3_ n4_ n5_ n6_; clear hb hbox hg; have hnb4:=q8.out; have hnc4:=q9.out; have hcz5_0 : w3.cell? ⟨p4,0,none⟩ = some (.int .i64 a0_0):=(blk_cell p0.out 0).trans rfl; have hcz5_1 : w3.cell? ⟨p4,1,none⟩ = some (.slice A0_1 l0_1.length c0_1):=(blk_cell p0.out 1).trans rfl; have hfz5_0:=blk_frozen p0.out 0; have hfz5_1:=blk_frozen p0.out 1) | ((with_reducible refine gate_dst (N:=3) rfl ?_); refine box_event ?hg (N:=3) ?hd (cs:=#[.int .i64 0,.slice none 0 0]) (t:=25) ?hr ?_; (case hd => rfl); (case hg => rfl); (case hr => first | (go_simp; done) | (go_simp; rfl)); intro p7 hg w6 hbox hb; have n0_:=zx (blk_below (g:=p4) (o:=.cells #[.int .i64 a0_0,.slice A0_1 l0_1.length c0_1] 25 (0,0)) p0.out hb); have n1_:=zx (blk_below (g:=p8) (o:=.cells #[.int .i64 0,.slice none 0 0] 25 (0,0)) p5.out hb); have n2_:=zx (below_step HB.out hb); have n3_:=zx (hbox); have n4_:=zx ((by rw [hg]; exact (below_size HB.out) : w.heap.size ≤ p7)); have n5_:=zx ((by rw [hg]; exact (below_size HB.out) : w.heap.size ≤ p7)); have n6_:=zx ((by rw [hg]; exact Nat.ne_of_lt (blk_lt (g:=p4) (o:=.cells #[.int .i64 a0_0,.slice A0_1 l0_1.length c0_1] 25 (0,0)) p0.out) : p4 ≠ p7)); have n7_:=zx ((by rw [hg]; exact Nat.ne_of_gt (blk_lt (g:=p4) (o:=.cells #[.int .i64 a0_0,.slice A0_1 l0_1.length c0_1] 25 (0,0)) p0.out) : p7 ≠ p4)); have n8_:=zx ((by rw [hg]; exact Nat.ne_of_lt (blk_lt (g:=p8) (o:=.cells #[.int .i64 0,.slice none 0 0] 25 (0,0)) p5.out) : p8 ≠ p7)); have n9_:=zx ((by rw [hg]; exact Nat.ne_of_gt (blk_lt (g:=p8) (o:=.cells #[.int .i64 0,.slice none 0 0] 25 (0,0)) p5.out) : p7 ≠ p8)); clear p0; clear p5; clear HB; have p0:=n0_; have p5:=n1_; have HB:=n2_; have p1:=n3_; have GW356:=n4_; have s2:=n5_; have q1:=n6_; have r0:=n7_; have q2:=n8_; have r3:=n9_; clear n0_ n1_ n2_ n3_ n4_ n5_ n6_ n7_ n8_ n9_; clear hb hbox hg; have hnb7:=r0.out; have hnc7:=q1.out; have hnb8:=r3.out; have hnc8:=q2.out; have hcz9_0 : w6.cell? ⟨p7,0,none⟩ = some (.int .i64 0):=(blk_cell p1.out 0).trans rfl; have hcz9_1 : w6.cell? ⟨p7,1,none⟩ = some (.slice none 0 0):=(blk_cell p1.out 1).trans rfl; have hfz9_0:=blk_frozen p1.out 0; have hfz9_1:=blk_frozen p1.out 1))
 go_loopg [4] k (fun kq v4 w' => ∃ (x4_1 : Int) (q0 : List (S34)) (p9 : Value),v4 = .int .i64 x4_1 ∧ Aside0 (spec_l1Back.l0 kq x4_1 a0_0 l0_1 a0_0 q0 = some (r1,r2)) ∧ Aside0 (kq ≤ k) ∧ Aside0 (Kd.R k34 34 w' w.heap.size (fun _ => True) p9 q0) ∧ Aside0 (w'.heap[p4]? = some (.cells #[.int .i64 a0_0,(.slice A0_1 l0_1.length c0_1)] 25 (0,0))) ∧ Aside0 (w'.heap[p8]? = some (.cells #[.int .i64 0,(.slice none 0 0)] 25 (0,0))) ∧ Aside0 (w'.heap[p7]? = some (.cells #[.int .i64 a0_0,p9] 25 (0,0))) ∧ Aside0 (Below w.heap.size w w'))
 case atStart => exact ⟨(0),(([] : List (S34))),(.slice none 0 0),(by first | rfl | (simp; done) | (simp [*]; done)),H',⟨Nat.le_refl _⟩,⟨by first | exact Kd.R_nil _ _ _ _ _ | exact Kd.N_nil _ _ _ _ _ | exact Kd.V_nil _ _ _ _ _ | exact Kd.Q_nil _ _ _ _ _ | exact Kd.S_nil _ _ _ _ _⟩,⟨by refine blk_far ?_ q1.out _; refine blk_far ?_ q1.out _; exact p0.out⟩,⟨by refine blk_far ?_ q2.out _; refine blk_far ?_ q2.out _; exact p5.out⟩,⟨by refine blk_put (cs:=#[.int .i64 a0_0,.slice none 0 0]) ?_ 1 _ rfl; refine blk_put (cs:=#[.int .i64 0,.slice none 0 0]) ?_ 0 _ rfl; exact p1.out⟩,⟨by repeat (first | (with_reducible first | exact HB.out | apply below_alloc | apply pw_below_drewN | apply below_drew1 | refine below_set ?_ s0.out | refine below_set ?_ s1.out | refine below_set ?_ s2.out) | exact HB.out)⟩⟩
 case round =>
  clear H'
  try clear p2
  try clear c4
  try clear c7
  try clear c8
  try clear c9
  try clear hcz5_0
  try clear hcz5_1
  try clear hcz9_0
  try clear hcz9_1
  try clear hfz5_0
  try clear hfz5_1
  try clear hfz9_0
  try clear hfz9_1
  obtain ⟨x4_1,q0,p9,rfl,HA,HK1,p3,p0,p5,p1,HB⟩:=hrel;cases gk with
  | zero => exact absurd HA.out (by simp [spec_l1Back.l0])
  | succ k1 =>
   have H:=HA.out;clear HA;simp only [spec_l1Back.l0] at H
   by_cases c10 : x4_1 < (l0_1.length : Int)
   case neg =>
    rw [if_neg c10] at H;have c10b0 : decide (x4_1 < (l0_1.length : Int)) = false:=decide_eq_false c10;clear c10;simp only [Option.some.injEq,Prod.mk.injEq] at H;obtain ⟨rfl,rfl⟩:=H;have hnb26:=q8.out;have hnc26:=q9.out;have hnb27:=q1.out;have hnc27:=r0.out;have hcz28_0 : wr.cell? ⟨p4,0,none⟩ = some (.int .i64 a0_0):=(blk_cell p0.out 0).trans rfl;have hcz28_1 : wr.cell? ⟨p4,1,none⟩ = some (.slice A0_1 l0_1.length c0_1):=(blk_cell p0.out 1).trans rfl;have hfz28_0:=blk_frozen p0.out 0;have hfz28_1:=blk_frozen p0.out 1;have hnb29:=r3.out;have hnc29:=q2.out;have hcz30_0 : wr.cell? ⟨p7,0,none⟩ = some (.int .i64 a0_0):=(blk_cell p1.out 0).trans rfl;have hcz30_1 : wr.cell? ⟨p7,1,none⟩ = some (p9):=(blk_cell p1.out 1).trans rfl;have hfz30_0:=blk_frozen p1.out 0;have hfz30_1:=blk_frozen p1.out 1;have hcz31_0 : wr.cell? ⟨p8,0,none⟩ = some (.int .i64 0):=(blk_cell p5.out 0).trans rfl;have hcz31_1 : wr.cell? ⟨p8,1,none⟩ = some (.slice none 0 0):=(blk_cell p5.out 1).trans rfl;have hfz31_0:=blk_frozen p5.out 0;have hfz31_1:=blk_frozen p5.out 1;obtain ⟨Ao32,co32,eo32⟩:=Kd.R_slice p3.out;subst eo32
    go_wp2
    refine bodyPost_ret (results_cell_row rfl _ _ p8 25 #[.int .i64 a0_0,.slice Ao32 q0.length co32] (0,0) _ rfl (by refine blk_put (cs:=#[.int .i64 a0_0,.slice none 0 0]) ?_ 1 _ rfl; refine blk_put (cs:=#[.int .i64 0,.slice none 0 0]) ?_ 0 _ rfl; exact p5.out) Try.underlying25 rfl (by kernel_rfl)) rfl ?_;exact ⟨_,by first | rfl | (simp [errW_none,errW_some] <;> rfl) | (simp [*,errW_none,errW_some] <;> rfl),by exact Kd.R_mono (Kd.R_far (p:=⟨p8,1,none⟩) (Kd.R_far (p:=⟨p8,0,none⟩) (Kd.R_types p3.out p5.out (by decide)) (fun _ hk => hk.2) (.int .i64 a0_0)) (fun _ hk => hk.2) (.slice Ao32 q0.length co32)) (fun _ hk => trivial),by repeat (first | (with_reducible first | exact HB.out | apply below_alloc | apply pw_below_drewN | apply below_drew1 | refine below_set ?_ s0.out | refine below_set ?_ s1.out | refine below_set ?_ s2.out) | exact HB.out)⟩
   rw [if_pos c10] at H;have c10b0 : decide (x4_1 < (l0_1.length : Int)) = true:=decide_eq_true c10;clear c10
   by_cases c11 : 0 ≤ x4_1
   case neg =>
    rw [if_neg c11] at H;exact absurd H (by simp)
   rw [if_pos c11] at H;have c11b0 : decide (0 ≤ x4_1) = true:=decide_eq_true c11;clear c11
   by_cases c12 : q0.length < 3518437208883
   case neg =>
    rw [if_neg c12] at H;exact absurd H (by simp)
   rw [if_pos c12] at H;have LMc12:=zx c12;clear c12;obtain ⟨y359,hy359⟩ : ∃ y_ : List (S34),y_ = (q0 ++ [(⟨(rd_T34 l0_1 x4_1).f1,(rd_T34 l0_1 x4_1).f0,(rd_T34 l0_1 x4_1).f2,(rd_T34 l0_1 x4_1).f3,(rd_T34 l0_1 x4_1).f4⟩ : S34)]):=⟨_,rfl⟩
   replace H : (spec_l1Back.l0 k1 (wrap64 (x4_1 + 1)) a0_0 l0_1 a0_0 y359) = some (r1,r2):=by first | (rw [hy359]; with_reducible exact H) | (have H2_:=(Option.bind_some _ _).symm.trans H; rw [hy359]; with_reducible exact H2_) | (have H2_:=(Option.bind_some _ _).symm.trans H; with_reducible exact H2_) | with_reducible exact H | (rw [hy359]; exact H) | exact H
   have Ny359:=zx hy359;clear hy359;have H':=zx H;clear H;have hnb13:=q8.out;have hnc13:=q9.out;have hnb14:=q1.out;have hnc14:=r0.out;have hcz15_0 : wr.cell? ⟨p4,0,none⟩ = some (.int .i64 a0_0):=(blk_cell p0.out 0).trans rfl;have hcz15_1 : wr.cell? ⟨p4,1,none⟩ = some (.slice A0_1 l0_1.length c0_1):=(blk_cell p0.out 1).trans rfl;have hfz15_0:=blk_frozen p0.out 0;have hfz15_1:=blk_frozen p0.out 1;have p357 : 0 ≤ (x4_1 : Int):=of_decide_eq_true (by first | (with_reducible assumption) | assumption);have q357 : x4_1 < (l0_1.length : Int):=of_decide_eq_true (by first | (with_reducible assumption) | assumption);obtain ⟨s4,e357,r5,r6,r7,r8,r9⟩:=at_T34 HR0_1.out x4_1 p357 q357;cases e357;replace r5:=(HB.out.cell (World.block_lt_of_cell? w _ r5)).trans r5;replace r6:=(HB.out.cell (World.block_lt_of_cell? w _ r6)).trans r6;replace r7:=(HB.out.cell (World.block_lt_of_cell? w _ r7)).trans r7;replace r8:=(HB.out.cell (World.block_lt_of_cell? w _ r8)).trans r8;replace r9:=(HB.out.cell (World.block_lt_of_cell? w _ r9)).trans r9;replace p357:=eq_true p357;replace q357:=eq_true q357
   go_wp2_with (first | ((with_reducible refine gate_dst (N:=5) rfl ?_); refine box_event ?hg (N:=5) ?hd (cs:=#[.int .i64 0,.int .i64 0,.int .i64 0,.int .i64 0,.int .i64 0]) (t:=34) ?hr ?_; (case hd => rfl); (case hg => rfl); (case hr => first | (go_simp; done) | (go_simp; rfl)); intro p6 hg w16 hbox hb; have n0_:=zx (Kd.R_below (Kd.R_elderB p3.out p6 (Nat.le_of_eq hg.symm)) hb); have n1_:=zx (blk_below (g:=p4) (o:=.cells #[.int .i64 a0_0,.slice (some s4) l0_1.length c0_1] 25 (0,0)) p0.out hb); have n2_:=zx (blk_below (g:=p8) (o:=.cells #[.int .i64 0,.slice none 0 0] 25 (0,0)) p5.out hb); have n3_:=zx (blk_below (g:=p7) (o:=.cells #[.int .i64 a0_0,p9] 25 (0,0)) p1.out hb); have n4_:=zx (below_step HB.out hb); have n5_:=zx (hbox); have n6_:=zx ((by rw [hg]; exact (below_size HB.out) : w.heap.size ≤ p6)); have n7_:=zx ((by rw [hg]; exact (below_size HB.out) : w.heap.size ≤ p6)); have n8_:=zx ((by rw [hg]; exact Nat.ne_of_lt (blk_lt (g:=p4) (o:=.cells #[.int .i64 a0_0,.slice (some s4) l0_1.length c0_1] 25 (0,0)) p0.out) : p4 ≠ p6)); have n9_:=zx ((by rw [hg]; exact Nat.ne_of_gt (blk_lt (g:=p4) (o:=.cells #[.int .i64 a0_0,.slice (some s4) l0_1.length c0_1] 25 (0,0)) p0.out) : p6 ≠ p4)); have n10_:=zx ((by rw [hg]; exact Nat.ne_of_lt (blk_lt (g:=p8) (o:=.cells #[.int .i64 0,.slice none 0 0] 25 (0,0)) p5.out) : p8 ≠ p6)); have n11_:=zx ((by rw [hg]; exact Nat.ne_of_gt (blk_lt (g:=p8) (o:=.cells #[.int .i64 0,.slice none 0 0] 25 (0,0)) p5.out) : p6 ≠ p8)); have n12_:=zx ((by rw [hg]; exact Nat.ne_of_lt (blk_lt (g:=p7) (o:=.cells #[.int .i64 a0_0,p9] 25 (0,0)) p1.out) : p7 ≠ p6)); have n13_:=zx ((by rw [hg]; exact Nat.ne_of_gt (blk_lt (g:=p7) (o:=.cells #[.int .i64 a0_0,p9] 25 (0,0)) p1.out) : p6 ≠ p7)); clear p3; clear p0; clear p5; clear p1; clear HB; have p3:=n0_; have p0:=n1_; have p5:=n2_; have p1:=n3_; have HB:=n4_; have q6:=n5_; have GW358:=n6_; have s8:=n7_; have q3:=n8_; have s5:=n9_; have q4:=n10_; have s6:=n11_; have q5:=n12_; have s7:=n13_; clear n0_ n1_ n2_ n3_ n4_ n5_ n6_ n7_ n8_ n9_ n10_ n11_ n12_ n13_; clear hb hbox hg; have hnb17:=s5.out; have hnc17:=q3.out; have hnb18:=s6.out; have hnc18:=q4.out; have hnb19:=s7.out; have hnc19:=q5.out; have hcz20_0 : w16.cell? ⟨p6,0,none⟩ = some (.int .i64 0):=(blk_cell q6.out 0).trans rfl; have hcz20_1 : w16.cell? ⟨p6,1,none⟩ = some (.int .i64 0):=(blk_cell q6.out 1).trans rfl; have hcz20_2 : w16.cell? ⟨p6,2,none⟩ = some (.int .i64 0):=(blk_cell q6.out 2).trans rfl; have hcz20_3 : w16.cell? ⟨p6,3,none⟩ = some (.int .i64 0):=(blk_cell q6.out 3).trans rfl; have hcz20_4 : w16.cell? ⟨p6,4,none⟩ = some (.int .i64 0):=(blk_cell q6.out 4).trans rfl; have hfz20_0:=blk_frozen q6.out 0; have hfz20_1:=blk_frozen q6.out 1; have hfz20_2:=blk_frozen q6.out 2; have hfz20_3:=blk_frozen q6.out 3; have hfz20_4:=blk_frozen q6.out 4; have hnb21:=r3.out; have hnc21:=q2.out; have hcz22_0 : w16.cell? ⟨p7,0,none⟩ = some (.int .i64 a0_0):=(blk_cell p1.out 0).trans rfl; have hcz22_1 : w16.cell? ⟨p7,1,none⟩ = some (p9):=(blk_cell p1.out 1).trans rfl; have hfz22_0:=blk_frozen p1.out 0; have hfz22_1:=blk_frozen p1.out 1) | ((with_reducible refine gate_builtin (b:=.append) (xs:=#[.tmp 22,.tmp 34]) rfl ?_); at_builtin; refine Kd.R_append k34 (w0:=w) w.heap.size rfl (.tmp 22) (.tmp 34) 23 34 (.agg #[(.int .i64 0),(.int .i64 0),(.int .i64 0),(.int .i64 0),(.int .i64 0)]) 40 rfl Try.underlying23 info34 rfl (by decide) (by omega) p9 q0 (⟨(rd_T34 l0_1 x4_1).f1,(rd_T34 l0_1 x4_1).f0,(rd_T34 l0_1 x4_1).f2,(rd_T34 l0_1 x4_1).f3,(rd_T34 l0_1 x4_1).f4⟩ : S34) [.int .i64 ((rd_T34 l0_1 x4_1).f1),.int .i64 ((rd_T34 l0_1 x4_1).f0),.int .i64 ((rd_T34 l0_1 x4_1).f2),.int .i64 ((rd_T34 l0_1 x4_1).f3),.int .i64 ((rd_T34 l0_1 x4_1).f4)] (fun k_ => k_ ≠ p6) (fun _ => False) rfl (by first | (go_simp; done) | (go_simp; rfl)) ?aP (fun _ hk => hk.elim) ?aF ?aO ?aB ?aS ?aL ?_; (case aP => exact k34_mkM _ _ _ (⟨(rd_T34 l0_1 x4_1).f1,(rd_T34 l0_1 x4_1).f0,(rd_T34 l0_1 x4_1).f2,(rd_T34 l0_1 x4_1).f3,(rd_T34 l0_1 x4_1).f4⟩ : S34)); (case aB => exact (by repeat (first | (with_reducible first | exact HB.out | apply below_alloc | apply pw_below_drewN | apply below_drew1 | refine below_set ?_ s0.out | refine below_set ?_ s1.out | refine below_set ?_ s2.out | refine below_set ?_ s8.out) | exact HB.out))); (case aF => exact (fun k_ hk => Kd.freshB (g:=p6) (o:=.cells #[.int .i64 ((rd_T34 l0_1 x4_1).f0),.int .i64 ((rd_T34 l0_1 x4_1).f1),.int .i64 ((rd_T34 l0_1 x4_1).f2),.int .i64 ((rd_T34 l0_1 x4_1).f3),.int .i64 ((rd_T34 l0_1 x4_1).f4)] 34 (0,0)) (by refine blk_put (cs:=#[.int .i64 ((rd_T34 l0_1 x4_1).f0),.int .i64 ((rd_T34 l0_1 x4_1).f1),.int .i64 ((rd_T34 l0_1 x4_1).f2),.int .i64 ((rd_T34 l0_1 x4_1).f3),.int .i64 0]) ?_ 4 _ rfl; refine blk_put (cs:=#[.int .i64 ((rd_T34 l0_1 x4_1).f0),.int .i64 ((rd_T34 l0_1 x4_1).f1),.int .i64 ((rd_T34 l0_1 x4_1).f2),.int .i64 0,.int .i64 0]) ?_ 3 _ rfl; refine blk_put (cs:=#[.int .i64 ((rd_T34 l0_1 x4_1).f0),.int .i64 ((rd_T34 l0_1 x4_1).f1),.int .i64 0,.int .i64 0,.int .i64 0]) ?_ 2 _ rfl; refine blk_put (cs:=#[.int .i64 ((rd_T34 l0_1 x4_1).f0),.int .i64 0,.int .i64 0,.int .i64 0,.int .i64 0]) ?_ 1 _ rfl; refine blk_put (cs:=#[.int .i64 0,.int .i64 0,.int .i64 0,.int .i64 0,.int .i64 0]) ?_ 0 _ rfl; exact q6.out) k_ hk)); (case aO => exact (Kd.R_mono (Kd.R_far (p:=⟨p6,4,none⟩) (Kd.R_far (p:=⟨p6,3,none⟩) (Kd.R_far (p:=⟨p6,2,none⟩) (Kd.R_far (p:=⟨p6,1,none⟩) (Kd.R_far (p:=⟨p6,0,none⟩) (Kd.R_mono p3.out (fun k_ hk => (⟨hk,hk.2⟩ : _ ∧ k_ ≠ p6))) (fun _ hk => hk.2) (.int .i64 ((rd_T34 l0_1 x4_1).f0))) (fun _ hk => hk.2) (.int .i64 ((rd_T34 l0_1 x4_1).f1))) (fun _ hk => hk.2) (.int .i64 ((rd_T34 l0_1 x4_1).f2))) (fun _ hk => hk.2) (.int .i64 ((rd_T34 l0_1 x4_1).f3))) (fun _ hk => hk.2) (.int .i64 ((rd_T34 l0_1 x4_1).f4))) (fun _ hk => hk.1.2))); (case aS => exact (below_size (by repeat (first | (with_reducible first | exact HB.out | apply below_alloc | apply pw_below_drewN | apply below_drew1 | refine below_set ?_ s0.out | refine below_set ?_ s1.out | refine below_set ?_ s2.out | refine below_set ?_ s8.out) | exact HB.out)))); (case aL => have:=LMc12.out; omega); intro v360 w23 ho hb hg hat; rw [← Ny359.out] at ho; have n0_:=zx (blk_grown (g:=p4) (o:=.cells #[.int .i64 a0_0,.slice (some s4) l0_1.length c0_1] 25 (0,0)) (by refine blk_far ?_ q3.out _; refine blk_far ?_ q3.out _; refine blk_far ?_ q3.out _; refine blk_far ?_ q3.out _; refine blk_far ?_ q3.out _; exact p0.out) hg (Kd.R_ne p3.out p0.out (by decide))); have n1_:=zx (blk_grown (g:=p8) (o:=.cells #[.int .i64 0,.slice none 0 0] 25 (0,0)) (by refine blk_far ?_ q4.out _; refine blk_far ?_ q4.out _; refine blk_far ?_ q4.out _; refine blk_far ?_ q4.out _; refine blk_far ?_ q4.out _; exact p5.out) hg (Kd.R_ne p3.out p5.out (by decide))); have n2_:=zx (blk_grown (g:=p7) (o:=.cells #[.int .i64 a0_0,p9] 25 (0,0)) (by refine blk_far ?_ q5.out _; refine blk_far ?_ q5.out _; refine blk_far ?_ q5.out _; refine blk_far ?_ q5.out _; refine blk_far ?_ q5.out _; exact p1.out) hg (Kd.R_ne p3.out p1.out (by decide))); have n3_:=zx (blk_grown (g:=p6) (o:=.cells #[.int .i64 ((rd_T34 l0_1 x4_1).f0),.int .i64 ((rd_T34 l0_1 x4_1).f1),.int .i64 ((rd_T34 l0_1 x4_1).f2),.int .i64 ((rd_T34 l0_1 x4_1).f3),.int .i64 ((rd_T34 l0_1 x4_1).f4)] 34 (0,0)) (by refine blk_put (cs:=#[.int .i64 ((rd_T34 l0_1 x4_1).f0),.int .i64 ((rd_T34 l0_1 x4_1).f1),.int .i64 ((rd_T34 l0_1 x4_1).f2),.int .i64 ((rd_T34 l0_1 x4_1).f3),.int .i64 0]) ?_ 4 _ rfl; refine blk_put (cs:=#[.int .i64 ((rd_T34 l0_1 x4_1).f0),.int .i64 ((rd_T34 l0_1 x4_1).f1),.int .i64 ((rd_T34 l0_1 x4_1).f2),.int .i64 0,.int .i64 0]) ?_ 3 _ rfl; refine blk_put (cs:=#[.int .i64 ((rd_T34 l0_1 x4_1).f0),.int .i64 ((rd_T34 l0_1 x4_1).f1),.int .i64 0,.int .i64 0,.int .i64 0]) ?_ 2 _ rfl; refine blk_put (cs:=#[.int .i64 ((rd_T34 l0_1 x4_1).f0),.int .i64 0,.int .i64 0,.int .i64 0,.int .i64 0]) ?_ 1 _ rfl; refine blk_put (cs:=#[.int .i64 0,.int .i64 0,.int .i64 0,.int .i64 0,.int .i64 0]) ?_ 0 _ rfl; exact q6.out) hg (Kd.R_away p3.out (fun _ hk => hk.2))); have n4_:=zx (hb); have n5_:=zx (ho); clear p0; clear p5; clear p1; clear q6; clear HB; clear p3; have p0:=n0_; have p5:=n1_; have p1:=n2_; have q6:=n3_; have HB:=n4_; have HO361:=n5_; clear n0_ n1_ n2_ n3_ n4_ n5_; clear ho hb hg hat; obtain ⟨Ao24,co24,eo24⟩:=Kd.R_slice HO361.out; subst eo24; have hcz25_0 : w23.cell? ⟨p7,0,none⟩ = some (.int .i64 a0_0):=(blk_cell p1.out 0).trans rfl; have hcz25_1 : w23.cell? ⟨p7,1,none⟩ = some (p9):=(blk_cell p1.out 1).trans rfl; have hfz25_0:=blk_frozen p1.out 0; have hfz25_1:=blk_frozen p1.out 1))
   go_roundg k1
   case measure => have:=HK1.out; omega
   case rel => exact ⟨(wrap64 (x4_1 + 1)),(y359),(.slice Ao24 y359.length co24),(by first | rfl | (simp; done) | (simp [*]; done)),H',⟨by have:=HK1.out; omega⟩,⟨by exact Kd.R_mono (Kd.R_far (p:=⟨p7,1,none⟩) (Kd.R_types HO361.out p1.out (by decide)) (fun _ hk => hk.2) (.slice Ao24 y359.length co24)) (fun _ hk => trivial)⟩,⟨by refine blk_far ?_ q1.out _; exact p0.out⟩,⟨by refine blk_far ?_ q2.out _; exact p5.out⟩,⟨by refine blk_put (cs:=#[.int .i64 a0_0,p9]) ?_ 1 _ rfl; exact p1.out⟩,⟨by repeat (first | (with_reducible first | exact HB.out | apply below_alloc | apply pw_below_drewN | apply below_drew1 | refine below_set ?_ s0.out | refine below_set ?_ s1.out | refine below_set ?_ s2.out | refine below_set ?_ s8.out) | exact HB.out)⟩⟩
mutual
def spec_l3Steps.l0 : Nat → Int → List Int → List Int → Int → Int → List (S34) → Option (List Int)
 | 0,_,_,_,_,_,_ => none
 | k + 1,x1,x5,x6,x7,q6,p8 => if x7 < q6 then (if 0 ≤ x7 then (if x7 < (x6.length : Int) then (spec_l3Steps.l0 k x1 x5 (x6.set (x7 : Int).toNat 99999) (wrap64 (x7 + 1)) q6 p8) else (none)) else (none)) else (if 0 ≤ x1 then (if x1 < (x6.length : Int) then (spec_l3Steps.l1 k x5 (x6.set (x1 : Int).toNat 0) 0 q6 p8) else (none)) else (none))
def spec_l3Steps.l1 : Nat → List Int → List Int → Int → Int → List (S34) → Option (List Int)
 | 0,_,_,_,_,_ => none
 | k + 1,x5,x6,x8,q6,p8 => if x8 < q6 then (spec_l3Steps.l2 k x5 x6 x8 0 q6 p8) else (some x6)
def spec_l3Steps.l2 : Nat → List Int → List Int → Int → Int → Int → List (S34) → Option (List Int)
 | 0,_,_,_,_,_,_ => none
 | k + 1,x5,x6,x8,x9,q6,p8 => if x9 < (p8.length : Int) then (if 0 ≤ x9 then (if 0 ≤ ((rd_T34 p8 x9).f1) then (if ((rd_T34 p8 x9).f1) < (x5.length : Int) then (if (rd x5 ((rd_T34 p8 x9).f1)) < 99999 then (if 0 ≤ ((rd_T34 p8 x9).f0) then (if ((rd_T34 p8 x9).f0) < (x5.length : Int) then (if (rd x5 ((rd_T34 p8 x9).f0)) = (wrap64 (((rd_T34 p8 x9).f2) + (rd x5 ((rd_T34 p8 x9).f1)))) then (if ((rd_T34 p8 x9).f1) < (x6.length : Int) then (if ((rd_T34 p8 x9).f0) < (x6.length : Int) then (if (wrap64 ((rd x6 ((rd_T34 p8 x9).f1)) + 1)) < (rd x6 ((rd_T34 p8 x9).f0)) then (spec_l3Steps.l2 k x5 (x6.set (((rd_T34 p8 x9).f0) : Int).toNat (wrap64 ((rd x6 ((rd_T34 p8 x9).f1)) + 1))) x8 (wrap64 (x9 + 1)) q6 p8) else (spec_l3Steps.l2 k x5 x6 x8 (wrap64 (x9 + 1)) q6 p8)) else (none)) else (none)) else (spec_l3Steps.l2 k x5 x6 x8 (wrap64 (x9 + 1)) q6 p8)) else (none)) else (none)) else (spec_l3Steps.l2 k x5 x6 x8 (wrap64 (x9 + 1)) q6 p8)) else (none)) else (none)) else (none)) else (spec_l3Steps.l1 k x5 x6 (wrap64 (x8 + 1)) q6 p8)
end
def spec_l3Steps.f (k : Nat) (a0_0 : Int) (l0_1 : List (S34)) (a1 : Int) : Option (List Int):=(spec_l1Back.f k a0_0 l0_1).bind fun bt530 => ((spec_l3All.f k bt530.1 bt530.2 a1).bind fun t534 => (if 0 ≤ a0_0 then (if (a0_0 : Int).toNat ≤ 35184372088832 then (spec_l3Steps.l0 k a1 t534 (List.replicate (a0_0 : Int).toNat 0) 0 a0_0 l0_1) else (none)) else (none)))
def spec_l3Steps.T15 : Bool × List (List Nat × List Nat):=(true,[([],[]),([],[]),([1],[1]),([0,2],[0,2]),([3],[3]),([4],[4]),([5],[5]),([6],[6]),([6],[6]),([8,6],[6,8]),([7,9,6],[6,7,9]),([10,6],[6,10]),([6],[6]),([12,6],[6,12]),([6],[6]),([6],[6]),([15,6],[6,15]),([14,16,6],[6,14,16]),([17,6],[6,17]),([13,18,6],[6,13,18]),([11,19,6],[6,11,19]),([6,20],[6,20]),([21,6],[21]),([22],[22]),([22],[22]),([24,22],[22,24]),([23,25,22],[22,23,25]),([26,22],[22,26]),([27,22],[22,27]),([22],[22]),([22],[22]),([30,22],[22,30]),([29,31,22],[22,29,31]),([32,22],[22,32]),([28,33,22],[22,28,33]),([22,34],[22,34])])
def spec_l3Steps.B15 : List Nat:=[0,0,2,7,15,31,63,127,127,383,1023,2047,127,4223,127,127,32895,114815,245887,520319,1048575,2097151,4194303,8388607,8388607,25165823,67108863,134217727,268435455,8388607,8388607,1082130431,3766484991,8061452287,17179869183,34359738367]
theorem spec_l3Steps.tab15 : rtab .any (opsOf Try.f108 15) = spec_l3Steps.T15:=by kernel_rfl
theorem spec_l3Steps.bits15 : waitsOk spec_l3Steps.T15.2 spec_l3Steps.B15 = true:=by kernel_rfl
def spec_l3Steps.T16 : Bool × List (List Nat × List Nat):=(true,[([],[]),([],[]),([1],[1]),([],[]),([],[]),([4],[4]),([3,5],[3,5]),([6],[6]),([7],[7]),([0,2,0,1,2,3,4,5,6,7,8],[0,2]),([9,8,0,1,2,3,4,5,6,7,8],[8,9])])
def spec_l3Steps.B16 : List Nat:=[0,0,2,0,0,16,56,120,248,511,1023]
theorem spec_l3Steps.tab16 : rtab .any (opsOf Try.f108 16) = spec_l3Steps.T16:=by kernel_rfl
theorem spec_l3Steps.bits16 : waitsOk spec_l3Steps.T16.2 spec_l3Steps.B16 = true:=by kernel_rfl
set_option maxHeartbeats 8000000 in
set_option maxRecDepth 100000 in
theorem spec_l3Steps.calls (k : Nat) (a0_0 : Int) (A0_1 : Option Addr) (c0_1 : Nat) (l0_1 : List (S34)) (a1 : Int) (r : List Int) (w : World) (hr0_1 : Kd.C k34 w A0_1 l0_1.length l0_1) (hc0_1 : l0_1.length ≤ c0_1) (h : spec_l3Steps.f k a0_0 l0_1 a1 = some r) :
  Calls Try.prog 108 #[.agg #[.int .i64 a0_0,.slice A0_1 l0_1.length c0_1],.int .i64 a1] w fun e w' => ∃ v0_ : Value,e = .returned (v0_) ∧ Kd.R (Kd.int .i64) 3 w' w.heap.size (fun _ => True) v0_ r ∧ Below w.heap.size w w':=by
 have hu25:=Try.underlying25;have hu34:=Try.underlying34;have t2:=zx hr0_1;have HC0_1:=zx hc0_1;clear hr0_1 hc0_1;have HB:=zx (Below.refl w.heap.size w);have H : ((spec_l1Back.f k a0_0 l0_1).bind fun bt530 => ((spec_l3All.f k bt530.1 bt530.2 a1).bind fun t534 => (if 0 ≤ a0_0 then (if (a0_0 : Int).toNat ≤ 35184372088832 then (spec_l3Steps.l0 k a1 t534 (List.replicate (a0_0 : Int).toNat 0) 0 a0_0 l0_1) else (none)) else (none)))) = some r:=h;clear h;replace H:=Option.bind_eq_some_iff.mp H;obtain ⟨⟨t530,t531⟩,A30,H⟩:=H;replace H : ((spec_l3All.f k t530 t531 a1).bind fun t534 => (if 0 ≤ a0_0 then (if (a0_0 : Int).toNat ≤ 35184372088832 then (spec_l3Steps.l0 k a1 t534 (List.replicate (a0_0 : Int).toNat 0) 0 a0_0 l0_1) else (none)) else (none))) = some r:=H;have A3:=zx A30;clear A30;replace H:=Option.bind_eq_some_iff.mp H;obtain ⟨t534,A40,H⟩:=H;replace H : (if 0 ≤ a0_0 then (if (a0_0 : Int).toNat ≤ 35184372088832 then (spec_l3Steps.l0 k a1 t534 (List.replicate (a0_0 : Int).toNat 0) 0 a0_0 l0_1) else (none)) else (none)) = some r:=H;have A4:=zx A40;clear A40
 by_cases c5 : 0 ≤ a0_0
 case neg =>
  rw [if_neg c5] at H;exact absurd H (by simp)
 rw [if_pos c5] at H;have c5b0:=eq_true c5;have c5b1 : decide (0 ≤ a0_0) = true:=decide_eq_true c5;clear c5
 by_cases c6 : (a0_0 : Int).toNat ≤ 35184372088832
 case neg =>
  rw [if_neg c6] at H;exact absurd H (by simp)
 rw [if_pos c6] at H;have c6b0:=eq_true c6;have c6b1 : decide ((a0_0 : Int).toNat ≤ 35184372088832) = true:=decide_eq_true c6;clear c6;obtain ⟨y537,hy537⟩ : ∃ y_ : List Int,y_ = (List.replicate (a0_0 : Int).toNat 0):=⟨_,rfl⟩
 replace H : (spec_l3Steps.l0 k a1 t534 y537 0 a0_0 l0_1) = some r:=by first | (rw [hy537]; with_reducible exact H) | (have H2_:=(Option.bind_some _ _).symm.trans H; rw [hy537]; with_reducible exact H2_) | (have H2_:=(Option.bind_some _ _).symm.trans H; with_reducible exact H2_) | with_reducible exact H | (rw [hy537]; exact H) | exact H
 have Ny537:=zx hy537;clear hy537;have H':=zx H;clear H
 go_enter Try.func108,Try.ntmps108
 go_wp2_with (first | ((with_reducible refine gate_dst (N:=2) rfl ?_); refine box_event ?hg (N:=2) ?hd (cs:=#[.int .i64 a0_0,.slice A0_1 l0_1.length c0_1]) (t:=25) ?hr ?_; (case hd => rfl); (case hg => rfl); (case hr => first | (go_simp; done) | (go_simp; rfl)); intro p7 hg w7 hbox hb; have n0_:=zx (below_step HB.out hb); have n1_:=zx (hbox); have n2_:=zx ((by rw [hg]; exact (below_size HB.out) : w.heap.size ≤ p7)); have n3_:=zx ((by rw [hg]; exact (below_size HB.out) : w.heap.size ≤ p7)); clear HB; have HB:=n0_; have p3:=n1_; have GW529:=n2_; have r3:=n3_; clear n0_ n1_ n2_ n3_; clear hb hbox hg; have t5 : w7.cell? ⟨p7,0,none⟩ = some (.int .i64 a0_0):=(blk_cell p3.out 0).trans rfl; have t6 : w7.cell? ⟨p7,1,none⟩ = some (.slice A0_1 l0_1.length c0_1):=(blk_cell p3.out 1).trans rfl; have t7:=blk_frozen p3.out 0; have t8:=blk_frozen p3.out 1) | ((with_reducible refine gate_callee (f:=95) rfl ?_); refine goesL_ (some 12) rfl rfl Try.func95 (by kernel_rfl) rfl #[.agg #[.int .i64 a0_0,.slice A0_1 l0_1.length c0_1]] rfl (by (try simp only [List.map_toArray,List.map_cons,List.map_nil]); first | done | rfl | (simp only [List.length_drop,List.length_take]; rfl)) ?_; (with_reducible refine (spec_l1Back.calls k a0_0 _ _ l0_1 t530 t531 _ ?side1 ?side2 A3.out).mono ?_); (case side1 => repeat (first | exact (Kd.C_below t2.out HB.out) | (with_reducible refine Kd.C_alloc ?_ _) | (with_reducible refine Kd.C_drewN ?_ _) | (with_reducible refine Kd.C_drew ?_))); (case side2 => exact HC0_1.out); rintro e w9 ⟨v532,rfl,ho0,hb⟩; refine ⟨_,rfl,?_⟩; have n0_:=zx (Kd.R_lower ho0 (below_size HB.out)); have n1_:=zx (blk_below (g:=p7) (o:=.cells #[.int .i64 a0_0,.slice A0_1 l0_1.length c0_1] 25 (0,0)) p3.out hb); have n2_:=zx (below_step HB.out hb); clear p3; clear HB; have HO533:=n0_; have p3:=n1_; have HB:=n2_; clear n0_ n1_ n2_; (try clear hb); (try clear hb2); (try clear hk); (try clear hi); (try clear ho0); obtain ⟨Ao10,co10,eo10⟩:=Kd.R_slice HO533.out; subst eo10) | ((with_reducible refine gate_callee (f:=55) rfl ?_); refine goesL_ (some 14) rfl rfl Try.func55 (by kernel_rfl) rfl #[.agg #[.int .i64 t530,.slice Ao10 t531.length co10],.int .i64 a1] rfl (by (try simp only [List.map_toArray,List.map_cons,List.map_nil]); first | done | rfl | (simp only [List.length_drop,List.length_take]; rfl)) ?_; (with_reducible refine (spec_l3All.calls k t530 _ _ t531 a1 t534 _ ?side1 ?side2 A4.out).mono ?_); (case side1 => repeat (first | exact (Kd.R_reads' HO533.out).2.2 | (with_reducible refine Kd.C_alloc ?_ _) | (with_reducible refine Kd.C_drewN ?_ _) | (with_reducible refine Kd.C_drew ?_))); (case side2 => exact (Kd.R_reads' HO533.out).2.1); rintro e w11 ⟨v535,rfl,ho0,hb⟩; refine ⟨_,rfl,?_⟩; have n0_:=zx (Kd.R_below HO533.out hb); have n1_:=zx (Kd.R_lower ho0 (below_size HB.out)); have n2_:=zx (blk_below (g:=p7) (o:=.cells #[.int .i64 a0_0,.slice A0_1 l0_1.length c0_1] 25 (0,0)) p3.out hb); have n3_:=zx (below_step HB.out hb); clear HO533; clear p3; clear HB; have HO533:=n0_; have HO536:=n1_; have p3:=n2_; have HB:=n3_; clear n0_ n1_ n2_ n3_; (try clear hb); (try clear hb2); (try clear hk); (try clear hi); (try clear ho0); have r8 : w11.cell? ⟨p7,0,none⟩ = some (.int .i64 a0_0):=(blk_cell p3.out 0).trans rfl; have r9 : w11.cell? ⟨p7,1,none⟩ = some (.slice A0_1 l0_1.length c0_1):=(blk_cell p3.out 1).trans rfl; have t0:=blk_frozen p3.out 0; have t1:=blk_frozen p3.out 1) | ((with_reducible refine gate_dst (N:=17) rfl ?_); refine Kd.R_make (Kd.int .i64) _ 3 rfl (N:=17) rfl 29 _ _ rfl a0_0 (by first | rfl | (go_simp; done) | (go_simp; rfl)) (by first | rfl | (go_simp; done) | (go_simp; rfl)) Try.underlying29 (.int .i64 0) 8 info3 rfl (by decide) (by omega) 0 (ok:=fun _ => True) (okp:=fun _ => True) rfl (fun _ hk => hk) trivial (of_decide_eq_true (by first | (with_reducible assumption) | assumption)) (Nat.le_trans (Nat.mul_le_mul_right _ (of_decide_eq_true (by first | (with_reducible assumption) | assumption) : a0_0.toNat ≤ 35184372088832)) (by omega)) (Below.refl _ _) (Nat.le_refl _) ?_; intro v538 w13 ho14 hb hg_ hnew_; clear hg_ hnew_; (first | rw [← Ny537.out] at ho14 | (simp only [Int.reduceToNat] at ho14; rw [← Ny537.out] at ho14)); have n0_:=zx (Kd.R_below HO533.out hb); have n1_:=zx (Kd.R_elder' HO536.out (Kd.R_base ho14) hb); have n2_:=zx (Kd.R_lower (Kd.R_new' ho14 (Kd.R_lt HO536.out)) (below_size HB.out)); have n3_:=zx (blk_below (g:=p7) (o:=.cells #[.int .i64 a0_0,.slice A0_1 l0_1.length c0_1] 25 (0,0)) p3.out hb); have n4_:=zx (below_step HB.out hb); clear HO533; clear HO536; clear p3; clear HB; have HO533:=n0_; have HO536:=n1_; have HO539:=n2_; have p3:=n3_; have HB:=n4_; clear n0_ n1_ n2_ n3_ n4_; clear hb ho14))
 go_loopg [7] k (fun kq v7 w' => ∃ (x6_1 : List Int) (x7_1 : Int),v7 = .int .i64 x7_1 ∧ Aside0 (spec_l3Steps.l0 kq a1 t534 x6_1 x7_1 a0_0 l0_1 = some r) ∧ Aside0 (kq ≤ k) ∧ Aside0 (Kd.R (Kd.int .i64) 3 w' w.heap.size (fun k_ => some k_ ≠ (v538 : Value).ownBlock) v535 t534) ∧ Aside0 (Kd.R (Kd.int .i64) 3 w' w.heap.size (fun k_ => some k_ ≠ (v535 : Value).ownBlock) v538 x6_1) ∧ Aside0 (w'.heap[p7]? = some (.cells #[.int .i64 a0_0,(.slice A0_1 l0_1.length c0_1)] 25 (0,0))) ∧ Aside0 (Below w.heap.size w w'))
 case atStart => exact ⟨(y537),(0),(by first | rfl | (simp; done) | (simp [*]; done)),H',⟨Nat.le_refl _⟩,⟨by exact Kd.R_mono HO536.out (fun _ hk => hk.2)⟩,⟨by exact Kd.R_mono HO539.out (fun _ hk => hk.2)⟩,⟨by exact p3.out⟩,⟨by repeat (first | (with_reducible first | exact HB.out | apply below_alloc | apply pw_below_drewN | apply below_drew1 | refine below_set ?_ r3.out) | exact HB.out)⟩⟩
 case round =>
  clear H'
  try clear c1
  try clear p2
  try clear c5
  try clear c5b0
  try clear c5b1
  try clear c6
  try clear c6b0
  try clear c6b1
  try clear c9
  try clear c10
  try clear r8
  try clear r9
  try clear t5
  try clear t6
  try clear t0
  try clear t1
  try clear t7
  try clear t8
  obtain ⟨x6_1,x7_1,rfl,HA,HK1,HO_5,HO_6,p3,HB⟩:=hrel;cases gk with
  | zero => exact absurd HA.out (by simp [spec_l3Steps.l0])
  | succ k1 =>
   have H:=HA.out;clear HA;simp only [spec_l3Steps.l0] at H
   by_cases c15 : x7_1 < a0_0
   case pos =>
    rw [if_pos c15] at H;have c15b0 : decide (x7_1 < a0_0) = true:=decide_eq_true c15;clear c15
    by_cases c16 : 0 ≤ x7_1
    case neg =>
     rw [if_neg c16] at H;exact absurd H (by simp)
    rw [if_pos c16] at H;have c16b0 : decide (0 ≤ x7_1) = true:=decide_eq_true c16;clear c16
    by_cases c17 : x7_1 < (x6_1.length : Int)
    case neg =>
     rw [if_neg c17] at H;exact absurd H (by simp)
    rw [if_pos c17] at H;have c17b0 : decide (x7_1 < (x6_1.length : Int)) = true:=decide_eq_true c17;clear c17;obtain ⟨y540,hy540⟩ : ∃ y_ : List Int,y_ = (x6_1.set (x7_1 : Int).toNat 99999):=⟨_,rfl⟩
    replace H : (spec_l3Steps.l0 k1 a1 t534 y540 (wrap64 (x7_1 + 1)) a0_0 l0_1) = some r:=by first | (rw [hy540]; with_reducible exact H) | (have H2_:=(Option.bind_some _ _).symm.trans H; rw [hy540]; with_reducible exact H2_) | (have H2_:=(Option.bind_some _ _).symm.trans H; with_reducible exact H2_) | with_reducible exact H | (rw [hy540]; exact H) | exact H
    have Ny540:=zx hy540;clear hy540;have H':=zx H;clear H;have t9 : wr.cell? ⟨p7,0,none⟩ = some (.int .i64 a0_0):=(blk_cell p3.out 0).trans rfl;have u0 : wr.cell? ⟨p7,1,none⟩ = some (.slice A0_1 l0_1.length c0_1):=(blk_cell p3.out 1).trans rfl;have u1:=blk_frozen p3.out 0;have u2:=blk_frozen p3.out 1;have p18 : 0 ≤ (x7_1 : Int):=of_decide_eq_true (by first | (with_reducible assumption) | assumption);have q18 : (x7_1 : Int) < ((x6_1.length : Int) : Int):=of_decide_eq_true (by first | (with_reducible assumption) | assumption);obtain ⟨go18,co18,eo18,gb18,gl18,cl18,HG18⟩:=Kd.R_form HO_6.out (by omega)
    (first | cases eo18 | (injection eo18 with ea_ en_ ec_; (first | subst ea_ | (injection ea_ with ea_; subst ea_)); subst ec_; clear en_))
    have GB18:=zx gb18;have GG18:=zx HG18;clear gb18 gl18 HG18;obtain ⟨u7,hf18_0⟩:=Kd.R_celln 0 HO_6.out (x7_1 : Int) p18 q18;replace p18:=eq_true p18;replace q18:=eq_true q18;have HP20:=Kd.R_putg HO_6.out (x7_1 : Int) 99999
    go_wp2_with (first | ((with_reducible refine gate_store (t:=3) (p:=26) rfl ?_); refine store_event (t:=3) (p:=26) (v:=?vo_w21) (w1:=(wr.setCell ⟨go18,(x7_1 : Int).toNat,none⟩ (.int .i64 99999))) ?hg ?ho ?hn ?hr ?_; (case ho => rfl); (case hg => rfl); (case hn => rfl); (case hr => first | (go_simp; done) | (go_simp; rfl)); intro w21 hw; have hg : wr.grownBy w21 (some go18):=(by rw [hw]; exact HP20.2); have hp_ : Kd.R (Kd.int .i64) 3 w21 w.heap.size (fun k_ => some k_ ≠ (v535 : Value).ownBlock) (.slice (some ⟨go18,0,none⟩) x6_1.length co18) y540:=(by rw [hw,Ny540.out]; exact HP20.1); clear HP20; have n0_:=zx (Kd.R_after (v:=(.slice (some ⟨go18,0,none⟩) x6_1.length co18)) (v1:=(.slice (some ⟨go18,0,none⟩) x6_1.length co18)) (ok:=(fun _ => True)) (Kd.R_mono HO_5.out (fun _ hk => ⟨trivial,hk⟩)) hg (.inl rfl)); have n1_:=zx (hp_); have n2_:=zx (blk_grown (g:=p7) (o:=.cells #[.int .i64 a0_0,.slice A0_1 l0_1.length c0_1] 25 (0,0)) p3.out hg (Kd.R_ne HO_6.out p3.out (by decide))); have n3_:=zx ((by rw [hw]; exact below_set (HB.out) GB18.out : Below w.heap.size w w21)); clear HO_5; clear HO_6; clear p3; clear HB; have HO_5:=n0_; have HO_6:=n1_; have p3:=n2_; have HB:=n3_; clear n0_ n1_ n2_ n3_; clear hg hw hp_))
    go_roundg k1
    case measure => have:=HK1.out; omega
    case rel => exact ⟨(y540),(wrap64 (x7_1 + 1)),(by first | rfl | (simp; done) | (simp [*]; done)),H',⟨by have:=HK1.out; omega⟩,⟨by exact Kd.R_mono HO_5.out (fun _ hk => hk.2)⟩,⟨by exact HO_6.out⟩,⟨by exact p3.out⟩,⟨by repeat (first | (with_reducible first | exact HB.out | apply below_alloc | apply pw_below_drewN | apply below_drew1 | refine below_set ?_ r3.out) | exact HB.out)⟩⟩
   rw [if_neg c15] at H;have c15b0 : decide (x7_1 < a0_0) = false:=decide_eq_false c15;clear c15
   by_cases c22 : 0 ≤ a1
   case neg =>
    rw [if_neg c22] at H;exact absurd H (by simp)
   rw [if_pos c22] at H;have c22b0 : decide (0 ≤ a1) = true:=decide_eq_true c22;clear c22
   by_cases c23 : a1 < (x6_1.length : Int)
   case neg =>
    rw [if_neg c23] at H;exact absurd H (by simp)
   rw [if_pos c23] at H;have c23b0 : decide (a1 < (x6_1.length : Int)) = true:=decide_eq_true c23;clear c23;obtain ⟨y541,hy541⟩ : ∃ y_ : List Int,y_ = (x6_1.set (a1 : Int).toNat 0):=⟨_,rfl⟩
   replace H : (spec_l3Steps.l1 k1 t534 y541 0 a0_0 l0_1) = some r:=by first | (rw [hy541]; with_reducible exact H) | (have H2_:=(Option.bind_some _ _).symm.trans H; rw [hy541]; with_reducible exact H2_) | (have H2_:=(Option.bind_some _ _).symm.trans H; with_reducible exact H2_) | with_reducible exact H | (rw [hy541]; exact H) | exact H
   have Ny541:=zx hy541;clear hy541;have H':=zx H;clear H;have u3 : wr.cell? ⟨p7,0,none⟩ = some (.int .i64 a0_0):=(blk_cell p3.out 0).trans rfl;have u4 : wr.cell? ⟨p7,1,none⟩ = some (.slice A0_1 l0_1.length c0_1):=(blk_cell p3.out 1).trans rfl;have u5:=blk_frozen p3.out 0;have u6:=blk_frozen p3.out 1;have p24 : 0 ≤ (a1 : Int):=of_decide_eq_true (by first | (with_reducible assumption) | assumption);have q24 : (a1 : Int) < ((x6_1.length : Int) : Int):=of_decide_eq_true (by first | (with_reducible assumption) | assumption);obtain ⟨go24,co24,eo24,gb24,gl24,cl24,HG24⟩:=Kd.R_form HO_6.out (by omega)
   (first | cases eo24 | (injection eo24 with ea_ en_ ec_; (first | subst ea_ | (injection ea_ with ea_; subst ea_)); subst ec_; clear en_))
   have GB24:=zx gb24;have GG24:=zx HG24;clear gb24 gl24 HG24;obtain ⟨u8,hf24_0⟩:=Kd.R_celln 0 HO_6.out (a1 : Int) p24 q24;replace p24:=eq_true p24;replace q24:=eq_true q24;have HP26:=Kd.R_putg HO_6.out (a1 : Int) 0
   go_wp2_with (first | ((with_reducible refine gate_store (t:=3) (p:=29) rfl ?_); refine store_event (t:=3) (p:=29) (v:=?vo_w27) (w1:=(wr.setCell ⟨go24,(a1 : Int).toNat,none⟩ (.int .i64 0))) ?hg ?ho ?hn ?hr ?_; (case ho => rfl); (case hg => rfl); (case hn => rfl); (case hr => first | (go_simp; done) | (go_simp; rfl)); intro w27 hw; have hg : wr.grownBy w27 (some go24):=(by rw [hw]; exact HP26.2); have hp_ : Kd.R (Kd.int .i64) 3 w27 w.heap.size (fun k_ => some k_ ≠ (v535 : Value).ownBlock) (.slice (some ⟨go24,0,none⟩) x6_1.length co24) y541:=(by rw [hw,Ny541.out]; exact HP26.1); clear HP26; have n0_:=zx (Kd.R_after (v:=(.slice (some ⟨go24,0,none⟩) x6_1.length co24)) (v1:=(.slice (some ⟨go24,0,none⟩) x6_1.length co24)) (ok:=(fun _ => True)) (Kd.R_mono HO_5.out (fun _ hk => ⟨trivial,hk⟩)) hg (.inl rfl)); have n1_:=zx (hp_); have n2_:=zx (blk_grown (g:=p7) (o:=.cells #[.int .i64 a0_0,.slice A0_1 l0_1.length c0_1] 25 (0,0)) p3.out hg (Kd.R_ne HO_6.out p3.out (by decide))); have n3_:=zx ((by rw [hw]; exact below_set (HB.out) GB24.out : Below w.heap.size w w27)); clear HO_5; clear HO_6; clear p3; clear HB; have HO_5:=n0_; have HO_6:=n1_; have p3:=n2_; have HB:=n3_; clear n0_ n1_ n2_ n3_; clear hg hw hp_))
   go_loopg [8] k1 (fun kq v8 w' => ∃ (x6_2 : List Int) (x8_2 : Int),v8 = .int .i64 x8_2 ∧ Aside0 (spec_l3Steps.l1 kq t534 x6_2 x8_2 a0_0 l0_1 = some r) ∧ Aside0 (kq ≤ k1) ∧ Aside0 (Kd.R (Kd.int .i64) 3 w' w.heap.size (fun k_ => some k_ ≠ ((.slice (some ⟨go24,0,none⟩) x6_1.length co24) : Value).ownBlock) v535 t534) ∧ Aside0 (Kd.R (Kd.int .i64) 3 w' w.heap.size (fun k_ => some k_ ≠ (v535 : Value).ownBlock) (.slice (some ⟨go24,0,none⟩) x6_1.length co24) x6_2) ∧ Aside0 (w'.heap[p7]? = some (.cells #[.int .i64 a0_0,(.slice A0_1 l0_1.length c0_1)] 25 (0,0))) ∧ Aside0 (Below w.heap.size w w'))
   case atStart => exact ⟨(y541),(0),(by first | rfl | (simp; done) | (simp [*]; done)),H',⟨Nat.le_refl _⟩,⟨by exact Kd.R_mono HO_5.out (fun _ hk => hk.2)⟩,⟨by exact HO_6.out⟩,⟨by exact p3.out⟩,⟨by repeat (first | (with_reducible first | exact HB.out | apply below_alloc | apply pw_below_drewN | apply below_drew1 | refine below_set ?_ r3.out) | exact HB.out)⟩⟩
   case round =>
    clear H'
    try clear c1
    try clear p1
    try clear q1
    try clear hx1
    try clear c2
    try clear p2
    try clear q2
    try clear hx2
    try clear hf2
    try clear c5
    try clear c5b0
    try clear c5b1
    try clear c6
    try clear c6b0
    try clear c6b1
    try clear p6
    try clear c9
    try clear c10
    try clear c15
    try clear c15b0
    try clear c16
    try clear c16b0
    try clear c17
    try clear c17b0
    try clear p18
    try clear q18
    try clear hx18
    try clear hf18
    try clear c22
    try clear c22b0
    try clear c23
    try clear c23b0
    try clear p24
    try clear q24
    try clear hx24
    try clear hf24
    try clear r8
    try clear r9
    try clear t9
    try clear u0
    try clear u3
    try clear u4
    try clear t5
    try clear t6
    try clear t0
    try clear t1
    try clear u1
    try clear u2
    try clear u5
    try clear u6
    try clear t7
    try clear t8
    try clear u7
    try clear u8
    try clear p18
    try clear p2
    try clear p24
    try clear q18
    try clear q24
    obtain ⟨x6_2,x8_2,rfl,HA,HK2,HO_5,HO_6,p3,HB⟩:=hrel;have hl6_2:=(Kd.R_reads' HO_6.out).1;rw [hl6_2] at HO_6
    (try simp only [hl6_2])
    (try simp only [hl6_2] at p3)
    (try simp only [hl6_2] at HO_5)
    cases gk with
    | zero => exact absurd HA.out (by simp [spec_l3Steps.l1])
    | succ k2 =>
     have H:=HA.out;clear HA;simp only [spec_l3Steps.l1] at H
     by_cases c28 : x8_2 < a0_0
     case neg =>
      rw [if_neg c28] at H;have c28b0 : decide (x8_2 < a0_0) = false:=decide_eq_false c28;clear c28;obtain rfl:=Option.some.inj H;have hcz73_0 : wr.cell? ⟨p7,0,none⟩ = some (.int .i64 a0_0):=(blk_cell p3.out 0).trans rfl;have hcz73_1 : wr.cell? ⟨p7,1,none⟩ = some (.slice A0_1 l0_1.length c0_1):=(blk_cell p3.out 1).trans rfl;have hfz73_0:=blk_frozen p3.out 0;have hfz73_1:=blk_frozen p3.out 1
      go_wp2
      go_ret;exact ⟨_,by first | rfl | (simp [errW_none,errW_some] <;> rfl) | (simp [*,errW_none,errW_some] <;> rfl),by exact Kd.R_mono HO_6.out (fun _ hk => trivial),by repeat (first | (with_reducible first | exact HB.out | apply below_alloc | apply pw_below_drewN | apply below_drew1 | refine below_set ?_ r3.out) | exact HB.out)⟩
     rw [if_pos c28] at H;have c28b0 : decide (x8_2 < a0_0) = true:=decide_eq_true c28;clear c28;have H':=zx H;clear H;have v3 : wr.cell? ⟨p7,0,none⟩ = some (.int .i64 a0_0):=(blk_cell p3.out 0).trans rfl;have v4 : wr.cell? ⟨p7,1,none⟩ = some (.slice A0_1 l0_1.length c0_1):=(blk_cell p3.out 1).trans rfl;have v5:=blk_frozen p3.out 0;have v6:=blk_frozen p3.out 1
     go_wp2
     go_loopg [9] k2 (fun kq v9 w' => ∃ (x6_3 : List Int) (x9_3 : Int),v9 = .int .i64 x9_3 ∧ Aside0 (spec_l3Steps.l2 kq t534 x6_3 x8_2 x9_3 a0_0 l0_1 = some r) ∧ Aside0 (kq ≤ k2) ∧ Aside0 (Kd.R (Kd.int .i64) 3 w' w.heap.size (fun k_ => some k_ ≠ ((.slice (some ⟨go24,0,none⟩) x6_2.length co24) : Value).ownBlock) v535 t534) ∧ Aside0 (Kd.R (Kd.int .i64) 3 w' w.heap.size (fun k_ => some k_ ≠ (v535 : Value).ownBlock) (.slice (some ⟨go24,0,none⟩) x6_2.length co24) x6_3) ∧ Aside0 (w'.heap[p7]? = some (.cells #[.int .i64 a0_0,(.slice A0_1 l0_1.length c0_1)] 25 (0,0))) ∧ Aside0 (Below w.heap.size w w'))
     case atStart => exact ⟨(x6_2),(0),(by first | rfl | (simp; done) | (simp [*]; done)),H',⟨Nat.le_refl _⟩,⟨by (try simp only [hl6_2]); exact HO_5.out⟩,⟨by (try simp only [hl6_2]); exact HO_6.out⟩,⟨by (try simp only [hl6_2]); exact p3.out⟩,⟨by repeat (first | (with_reducible first | exact HB.out | apply below_alloc | apply pw_below_drewN | apply below_drew1 | refine below_set ?_ r3.out) | exact HB.out)⟩⟩
     case round =>
      clear H'
      try clear c1
      try clear p1
      try clear q1
      try clear hx1
      try clear c2
      try clear p2
      try clear q2
      try clear hx2
      try clear hf2
      try clear c5
      try clear c5b0
      try clear c5b1
      try clear c6
      try clear c6b0
      try clear c6b1
      try clear p6
      try clear c9
      try clear c10
      try clear c15
      try clear c15b0
      try clear c16
      try clear c16b0
      try clear c17
      try clear c17b0
      try clear p18
      try clear q18
      try clear hx18
      try clear hf18
      try clear c22
      try clear c22b0
      try clear c23
      try clear c23b0
      try clear p24
      try clear q24
      try clear hx24
      try clear hf24
      try clear c28
      try clear c28b0
      try clear r8
      try clear r9
      try clear t9
      try clear u0
      try clear u3
      try clear u4
      try clear v3
      try clear v4
      try clear t5
      try clear t6
      try clear t0
      try clear t1
      try clear u1
      try clear u2
      try clear u5
      try clear u6
      try clear v5
      try clear v6
      try clear t7
      try clear t8
      try clear u7
      try clear u8
      try clear p1
      try clear p18
      try clear p2
      try clear p24
      try clear p6
      try clear q1
      try clear q18
      try clear q2
      try clear q24
      obtain ⟨x6_3,x9_3,rfl,HA,HK3,HO_5,HO_6,p3,HB⟩:=hrel;have hl6_3:=(Kd.R_reads' HO_6.out).1;rw [hl6_3] at HO_6
      (try simp only [hl6_3])
      (try simp only [hl6_3] at p3)
      (try simp only [hl6_3] at HO_5)
      cases gk with
      | zero => exact absurd HA.out (by simp [spec_l3Steps.l2])
      | succ k3 =>
       have H:=HA.out;clear HA;simp only [spec_l3Steps.l2] at H
       by_cases c30 : x9_3 < (l0_1.length : Int)
       case neg =>
        rw [if_neg c30] at H;have c30b0 : decide (x9_3 < (l0_1.length : Int)) = false:=decide_eq_false c30;clear c30;have H':=zx H;clear H;have hcz72_0 : wr.cell? ⟨p7,0,none⟩ = some (.int .i64 a0_0):=(blk_cell p3.out 0).trans rfl;have hcz72_1 : wr.cell? ⟨p7,1,none⟩ = some (.slice A0_1 l0_1.length c0_1):=(blk_cell p3.out 1).trans rfl;have hfz72_0:=blk_frozen p3.out 0;have hfz72_1:=blk_frozen p3.out 1
        go_wp2
        (try simp only [← hl6_2,← hl6_3])
        go_roundg k3
        case measure => have:=HK1.out; have:=HK2.out; have:=HK3.out; omega
        case rel => exact ⟨(x6_3),(wrap64 (x8_2 + 1)),(by first | rfl | (simp; done) | (simp [*]; done)),H',⟨by have:=HK1.out; have:=HK2.out; have:=HK3.out; omega⟩,⟨by (try simp only [hl6_2]); (try simp only [hl6_3]); exact HO_5.out⟩,⟨by (try simp only [hl6_2]); (try simp only [hl6_3]); exact HO_6.out⟩,⟨by (try simp only [hl6_2]); (try simp only [hl6_3]); exact p3.out⟩,⟨by repeat (first | (with_reducible first | exact HB.out | apply below_alloc | apply pw_below_drewN | apply below_drew1 | refine below_set ?_ r3.out) | exact HB.out)⟩⟩
       rw [if_pos c30] at H;have c30b0 : decide (x9_3 < (l0_1.length : Int)) = true:=decide_eq_true c30;clear c30
       by_cases c31 : 0 ≤ x9_3
       case neg =>
        rw [if_neg c31] at H;exact absurd H (by simp)
       rw [if_pos c31] at H;have c31b0 : decide (0 ≤ x9_3) = true:=decide_eq_true c31;clear c31
       by_cases c32 : 0 ≤ ((rd_T34 l0_1 x9_3).f1)
       case neg =>
        rw [if_neg c32] at H;exact absurd H (by simp)
       rw [if_pos c32] at H;have c32b0 : decide (0 ≤ ((rd_T34 l0_1 x9_3).f1)) = true:=decide_eq_true c32;clear c32
       by_cases c33 : ((rd_T34 l0_1 x9_3).f1) < (t534.length : Int)
       case neg =>
        rw [if_neg c33] at H;exact absurd H (by simp)
       rw [if_pos c33] at H;have c33b0 : decide (((rd_T34 l0_1 x9_3).f1) < (t534.length : Int)) = true:=decide_eq_true c33;clear c33
       by_cases c34 : (rd t534 ((rd_T34 l0_1 x9_3).f1)) < 99999
       case neg =>
        rw [if_neg c34] at H;have c34b0 : decide ((rd t534 ((rd_T34 l0_1 x9_3).f1)) < 99999) = false:=decide_eq_false c34;clear c34;have H':=zx H;clear H;have hcz65_0 : wr.cell? ⟨p7,0,none⟩ = some (.int .i64 a0_0):=(blk_cell p3.out 0).trans rfl;have hcz65_1 : wr.cell? ⟨p7,1,none⟩ = some (.slice A0_1 l0_1.length c0_1):=(blk_cell p3.out 1).trans rfl;have hfz65_0:=blk_frozen p3.out 0;have hfz65_1:=blk_frozen p3.out 1;have p542 : 0 ≤ (x9_3 : Int):=of_decide_eq_true (by first | (with_reducible assumption) | assumption);have q542 : x9_3 < (l0_1.length : Int):=of_decide_eq_true (by first | (with_reducible assumption) | assumption);obtain ⟨q7,e542,p9,q0,q3,q4,q5⟩:=at_T34 t2.out x9_3 p542 q542;cases e542;replace p9:=(HB.out.cell (World.block_lt_of_cell? w _ p9)).trans p9;replace q0:=(HB.out.cell (World.block_lt_of_cell? w _ q0)).trans q0;replace q3:=(HB.out.cell (World.block_lt_of_cell? w _ q3)).trans q3;replace q4:=(HB.out.cell (World.block_lt_of_cell? w _ q4)).trans q4;replace q5:=(HB.out.cell (World.block_lt_of_cell? w _ q5)).trans q5;replace p542:=eq_true p542;replace q542:=eq_true q542
        try go_wp2_with (first | ((with_reducible refine gate_dst (N:=10) rfl ?_); refine box_event ?hg (N:=10) ?hd (cs:=#[.int .i64 0,.int .i64 0,.int .i64 0,.int .i64 0,.int .i64 0]) (t:=34) ?hr ?_; (case hd => rfl); (case hg => rfl); (case hr => first | (go_simp; done) | (go_simp; rfl)); intro p0 hg w66 hbox hb; have n0_:=zx (Kd.R_below HO_5.out hb); have n1_:=zx (Kd.R_below HO_6.out hb); have n2_:=zx (blk_below (g:=p7) (o:=.cells #[.int .i64 a0_0,.slice (some q7) l0_1.length c0_1] 25 (0,0)) p3.out hb); have n3_:=zx (below_step HB.out hb); have n4_:=zx (hbox); have n5_:=zx ((by rw [hg]; exact (below_size HB.out) : w.heap.size ≤ p0)); have n6_:=zx ((by rw [hg]; exact (below_size HB.out) : w.heap.size ≤ p0)); have n7_:=zx ((by rw [hg]; exact Nat.ne_of_lt (blk_lt (g:=p7) (o:=.cells #[.int .i64 a0_0,.slice (some q7) l0_1.length c0_1] 25 (0,0)) p3.out) : p7 ≠ p0)); have n8_:=zx ((by rw [hg]; exact Nat.ne_of_gt (blk_lt (g:=p7) (o:=.cells #[.int .i64 a0_0,.slice (some q7) l0_1.length c0_1] 25 (0,0)) p3.out) : p0 ≠ p7)); clear HO_5; clear HO_6; clear p3; clear HB; have HO_5:=n0_; have HO_6:=n1_; have p3:=n2_; have HB:=n3_; have p4:=n4_; have u9:=n5_; have r6:=n6_; have p5:=n7_; have r2:=n8_; clear n0_ n1_ n2_ n3_ n4_ n5_ n6_ n7_ n8_; clear hb hbox hg; have hnb67:=r2.out; have hnc67:=p5.out; have hcz68_0 : w66.cell? ⟨p0,0,none⟩ = some (.int .i64 0):=(blk_cell p4.out 0).trans rfl; have hcz68_1 : w66.cell? ⟨p0,1,none⟩ = some (.int .i64 0):=(blk_cell p4.out 1).trans rfl; have hcz68_2 : w66.cell? ⟨p0,2,none⟩ = some (.int .i64 0):=(blk_cell p4.out 2).trans rfl; have hcz68_3 : w66.cell? ⟨p0,3,none⟩ = some (.int .i64 0):=(blk_cell p4.out 3).trans rfl; have hcz68_4 : w66.cell? ⟨p0,4,none⟩ = some (.int .i64 0):=(blk_cell p4.out 4).trans rfl; have hfz68_0:=blk_frozen p4.out 0; have hfz68_1:=blk_frozen p4.out 1; have hfz68_2:=blk_frozen p4.out 2; have hfz68_3:=blk_frozen p4.out 3; have hfz68_4:=blk_frozen p4.out 4))
        have n0_ : Aside0 (Kd.R (Kd.int .i64) 3 (((((w66.setCell ⟨p0,0,none⟩ (.int .i64 ((rd_T34 l0_1 x9_3).f0))).setCell ⟨p0,1,none⟩ (.int .i64 ((rd_T34 l0_1 x9_3).f1))).setCell ⟨p0,2,none⟩ (.int .i64 ((rd_T34 l0_1 x9_3).f2))).setCell ⟨p0,3,none⟩ (.int .i64 ((rd_T34 l0_1 x9_3).f3))).setCell ⟨p0,4,none⟩ (.int .i64 ((rd_T34 l0_1 x9_3).f4))) w.heap.size (fun k_ => some k_ ≠ (.slice (some ⟨go24,0,none⟩) x6_3.length co24 : Value).ownBlock) v535 t534):=⟨by exact Kd.R_mono (Kd.R_far (p:=⟨p0,4,none⟩) (Kd.R_far (p:=⟨p0,3,none⟩) (Kd.R_far (p:=⟨p0,2,none⟩) (Kd.R_far (p:=⟨p0,1,none⟩) (Kd.R_far (p:=⟨p0,0,none⟩) (Kd.R_types HO_5.out p4.out (by decide)) (fun _ hk => hk.2) (.int .i64 ((rd_T34 l0_1 x9_3).f0))) (fun _ hk => hk.2) (.int .i64 ((rd_T34 l0_1 x9_3).f1))) (fun _ hk => hk.2) (.int .i64 ((rd_T34 l0_1 x9_3).f2))) (fun _ hk => hk.2) (.int .i64 ((rd_T34 l0_1 x9_3).f3))) (fun _ hk => hk.2) (.int .i64 ((rd_T34 l0_1 x9_3).f4))) (fun _ hk => hk.1)⟩
        have n1_ : Aside0 (Kd.R (Kd.int .i64) 3 (((((w66.setCell ⟨p0,0,none⟩ (.int .i64 ((rd_T34 l0_1 x9_3).f0))).setCell ⟨p0,1,none⟩ (.int .i64 ((rd_T34 l0_1 x9_3).f1))).setCell ⟨p0,2,none⟩ (.int .i64 ((rd_T34 l0_1 x9_3).f2))).setCell ⟨p0,3,none⟩ (.int .i64 ((rd_T34 l0_1 x9_3).f3))).setCell ⟨p0,4,none⟩ (.int .i64 ((rd_T34 l0_1 x9_3).f4))) w.heap.size (fun k_ => some k_ ≠ (v535 : Value).ownBlock) (.slice (some ⟨go24,0,none⟩) x6_3.length co24) x6_3):=⟨by exact Kd.R_mono (Kd.R_far (p:=⟨p0,4,none⟩) (Kd.R_far (p:=⟨p0,3,none⟩) (Kd.R_far (p:=⟨p0,2,none⟩) (Kd.R_far (p:=⟨p0,1,none⟩) (Kd.R_far (p:=⟨p0,0,none⟩) (Kd.R_types HO_6.out p4.out (by decide)) (fun _ hk => hk.2) (.int .i64 ((rd_T34 l0_1 x9_3).f0))) (fun _ hk => hk.2) (.int .i64 ((rd_T34 l0_1 x9_3).f1))) (fun _ hk => hk.2) (.int .i64 ((rd_T34 l0_1 x9_3).f2))) (fun _ hk => hk.2) (.int .i64 ((rd_T34 l0_1 x9_3).f3))) (fun _ hk => hk.2) (.int .i64 ((rd_T34 l0_1 x9_3).f4))) (fun _ hk => hk.1)⟩
        have n2_ : Aside0 ((((((w66.setCell ⟨p0,0,none⟩ (.int .i64 ((rd_T34 l0_1 x9_3).f0))).setCell ⟨p0,1,none⟩ (.int .i64 ((rd_T34 l0_1 x9_3).f1))).setCell ⟨p0,2,none⟩ (.int .i64 ((rd_T34 l0_1 x9_3).f2))).setCell ⟨p0,3,none⟩ (.int .i64 ((rd_T34 l0_1 x9_3).f3))).setCell ⟨p0,4,none⟩ (.int .i64 ((rd_T34 l0_1 x9_3).f4))).heap[p7]? = some (.cells #[.int .i64 a0_0,.slice (some q7) l0_1.length c0_1] 25 (0,0))):=⟨by refine blk_far ?_ p5.out _; refine blk_far ?_ p5.out _; refine blk_far ?_ p5.out _; refine blk_far ?_ p5.out _; refine blk_far ?_ p5.out _; exact p3.out⟩
        have n3_ : Aside0 ((((((w66.setCell ⟨p0,0,none⟩ (.int .i64 ((rd_T34 l0_1 x9_3).f0))).setCell ⟨p0,1,none⟩ (.int .i64 ((rd_T34 l0_1 x9_3).f1))).setCell ⟨p0,2,none⟩ (.int .i64 ((rd_T34 l0_1 x9_3).f2))).setCell ⟨p0,3,none⟩ (.int .i64 ((rd_T34 l0_1 x9_3).f3))).setCell ⟨p0,4,none⟩ (.int .i64 ((rd_T34 l0_1 x9_3).f4))).heap[p0]? = some (.cells #[.int .i64 ((rd_T34 l0_1 x9_3).f0),.int .i64 ((rd_T34 l0_1 x9_3).f1),.int .i64 ((rd_T34 l0_1 x9_3).f2),.int .i64 ((rd_T34 l0_1 x9_3).f3),.int .i64 ((rd_T34 l0_1 x9_3).f4)] 34 (0,0))):=⟨by refine blk_put (cs:=#[.int .i64 ((rd_T34 l0_1 x9_3).f0),.int .i64 ((rd_T34 l0_1 x9_3).f1),.int .i64 ((rd_T34 l0_1 x9_3).f2),.int .i64 ((rd_T34 l0_1 x9_3).f3),.int .i64 0]) ?_ 4 _ rfl; refine blk_put (cs:=#[.int .i64 ((rd_T34 l0_1 x9_3).f0),.int .i64 ((rd_T34 l0_1 x9_3).f1),.int .i64 ((rd_T34 l0_1 x9_3).f2),.int .i64 0,.int .i64 0]) ?_ 3 _ rfl; refine blk_put (cs:=#[.int .i64 ((rd_T34 l0_1 x9_3).f0),.int .i64 ((rd_T34 l0_1 x9_3).f1),.int .i64 0,.int .i64 0,.int .i64 0]) ?_ 2 _ rfl; refine blk_put (cs:=#[.int .i64 ((rd_T34 l0_1 x9_3).f0),.int .i64 0,.int .i64 0,.int .i64 0,.int .i64 0]) ?_ 1 _ rfl; refine blk_put (cs:=#[.int .i64 0,.int .i64 0,.int .i64 0,.int .i64 0,.int .i64 0]) ?_ 0 _ rfl; exact p4.out⟩
        have n4_ : Aside0 (Below w.heap.size w (((((w66.setCell ⟨p0,0,none⟩ (.int .i64 ((rd_T34 l0_1 x9_3).f0))).setCell ⟨p0,1,none⟩ (.int .i64 ((rd_T34 l0_1 x9_3).f1))).setCell ⟨p0,2,none⟩ (.int .i64 ((rd_T34 l0_1 x9_3).f2))).setCell ⟨p0,3,none⟩ (.int .i64 ((rd_T34 l0_1 x9_3).f3))).setCell ⟨p0,4,none⟩ (.int .i64 ((rd_T34 l0_1 x9_3).f4)))):=⟨by repeat (first | (with_reducible first | exact HB.out | apply below_alloc | apply pw_below_drewN | apply below_drew1 | refine below_set ?_ r3.out | refine below_set ?_ r6.out) | exact HB.out)⟩
        (try clear HO_5)
        (try clear HO_6)
        (try clear p3)
        (try clear p4)
        (try clear HB)
        generalize (((((w66.setCell ⟨p0,0,none⟩ (.int .i64 ((rd_T34 l0_1 x9_3).f0))).setCell ⟨p0,1,none⟩ (.int .i64 ((rd_T34 l0_1 x9_3).f1))).setCell ⟨p0,2,none⟩ (.int .i64 ((rd_T34 l0_1 x9_3).f2))).setCell ⟨p0,3,none⟩ (.int .i64 ((rd_T34 l0_1 x9_3).f3))).setCell ⟨p0,4,none⟩ (.int .i64 ((rd_T34 l0_1 x9_3).f4))) = w69 at n0_ n1_ n2_ n3_ n4_ ⊢;have HO_5:=n0_;have HO_6:=n1_;have p3:=n2_;have p4:=n3_;have HB:=n4_;clear n0_ n1_ n2_ n3_ n4_;have n0_:=zx (Kd.R_drew HO_5.out);have n1_:=zx (Kd.R_drew HO_6.out);have n2_:=zx (blk_drew p3.out);have n3_:=zx (blk_drew p4.out);have n4_:=zx (below_drew1 HB.out);clear HO_5;clear HO_6;clear p3;clear p4;clear HB;have HO_5:=n0_;have HO_6:=n1_;have p3:=n2_;have p4:=n3_;have HB:=n4_;clear n0_ n1_ n2_ n3_ n4_;obtain ⟨Ao71,co71,eo71⟩:=Kd.R_slice HO_5.out
        (first | subst eo71 | (injection eo71 with f1_ f2_ f3_; have f4_:=f1_.symm; have f5_:=f3_.symm; clear f1_ f2_ f3_; subst f4_; subst f5_))
        have p544 : 0 ≤ (((rd_T34 l0_1 x9_3).f1) : Int):=of_decide_eq_true (by first | (with_reducible assumption) | assumption);have q544 : ((rd_T34 l0_1 x9_3).f1) < (t534.length : Int):=of_decide_eq_true (by first | (with_reducible assumption) | assumption);obtain ⟨q8,e544,q9⟩:=Kd.at_int (Kd.R_reads' HO_5.out).2.2 ((rd_T34 l0_1 x9_3).f1) p544 q544;cases e544;replace p544:=eq_true p544;replace q544:=eq_true q544;refine start_ (n:=36) (S:=fun w' => w'.cell? ⟨p0,0,none⟩ = some (.int .i64 ((rd_T34 l0_1 x9_3).f0)) ∧ w'.cell? ⟨p0,1,none⟩ = some (.int .i64 ((rd_T34 l0_1 x9_3).f1)) ∧ w'.cell? ⟨p0,2,none⟩ = some (.int .i64 ((rd_T34 l0_1 x9_3).f2)) ∧ w'.cell? ⟨p0,3,none⟩ = some (.int .i64 ((rd_T34 l0_1 x9_3).f3)) ∧ w'.cell? ⟨p0,4,none⟩ = some (.int .i64 ((rd_T34 l0_1 x9_3).f4)) ∧ w'.cell? (q8.add (((rd_T34 l0_1 x9_3).f1)).toNat) = some (.int .i64 (rd t534 ((rd_T34 l0_1 x9_3).f1)))) (ds:=[]) #[J,J,J,J,J,J,J,J,J,J,J,J,J,J,J,J,J,J,J,J,J,J,J,J,J,J,J,J,J,J,J,J,J,J,J,J] (by kernel_rfl) rfl rfl ⟨(blk_cell p4.out 0).trans rfl,(blk_cell p4.out 1).trans rfl,(blk_cell p4.out 2).trans rfl,(blk_cell p4.out 3).trans rfl,(blk_cell p4.out 4).trans rfl,q9⟩ (fun hHeld => ?_); refine with_tabW spec_l3Steps.tab15 spec_l3Steps.bits15 (fun HT_ HW_ => ?_);generalize w69.drew = w70 at HO_5 HO_6 p3 p4 HB q9 hHeld ⊢;refine pure_ (i:=0) (N:=some 48) (v:=?_) (a':=?_) #[Y,J,J,J,J,J,J,J,J,J,J,J,J,J,J,J,J,J,J,J,J,J,J,J,J,J,J,J,J,J,J,J,J,J,J,J] rfl rfl (any_of HT_.out (by kernel_rfl)) (fun _ _ _ h => h) (Or.inl ⟨by rfl,?_⟩) ?_ ?_;rotate_left
        ·intro w';go_simp;with_reducible rfl
        rotate_left
        ·simp only [Act.put,U,V,Z,i64_w,i32_w];rfl
        refine pure_ (i:=1) (N:=some 49) (v:=?_) (a':=?_) #[Y,Y,J,J,J,J,J,J,J,J,J,J,J,J,J,J,J,J,J,J,J,J,J,J,J,J,J,J,J,J,J,J,J,J,J,J] rfl rfl (any_of HT_.out (by kernel_rfl)) (fun _ _ _ h => h) (Or.inl ⟨by rfl,?_⟩) ?_ ?_;rotate_left
        ·intro w';go_simp;with_reducible rfl
        rotate_left
        ·simp only [Act.put,U,V,Z,i64_w,i32_w];rfl
        refine take_ (i:=2) (N:=some 50) (v:=?_) (a':=?_) #[Y,Y,Y,J,J,J,J,J,J,J,J,J,J,J,J,J,J,J,J,J,J,J,J,J,J,J,J,J,J,J,J,J,J,J,J,J] rfl rfl (take_ofW HT_.out HW_.out (by kernel_rfl)) (fun _ _ _ h => h) (Or.inl ⟨by rfl,?_⟩) hHeld ?_ ?_;rotate_left
        ·rintro w' ⟨s0,s1,s2,s3,s4,s5⟩;go_simp;with_reducible rfl
        rotate_left
        ·simp only [Act.put,U,V,Z,i64_w,i32_w];rfl
        refine pure_ (i:=3) (N:=some 51) (v:=?_) (a':=?_) #[Y,Y,Y,Y,J,J,J,J,J,J,J,J,J,J,J,J,J,J,J,J,J,J,J,J,J,J,J,J,J,J,J,J,J,J,J,J] rfl rfl (any_of HT_.out (by kernel_rfl)) (fun _ _ _ h => h) (Or.inl ⟨by rfl,?_⟩) ?_ ?_;rotate_left
        ·intro w';go_simp;with_reducible rfl
        rotate_left
        ·simp only [Act.put,U,V,Z,i64_w,i32_w];rfl
        refine take_ (i:=4) (N:=some 52) (v:=?_) (a':=?_) #[Y,Y,Y,Y,Y,J,J,J,J,J,J,J,J,J,J,J,J,J,J,J,J,J,J,J,J,J,J,J,J,J,J,J,J,J,J,J] rfl rfl (take_ofW HT_.out HW_.out (by kernel_rfl)) (fun _ _ _ h => h) (Or.inl ⟨by rfl,?_⟩) hHeld ?_ ?_;rotate_left
        ·rintro w' ⟨s0,s1,s2,s3,s4,s5⟩;go_simp;with_reducible rfl
        rotate_left
        ·simp only [Act.put,U,V,Z,i64_w,i32_w];rfl
        refine pure_ (i:=5) (N:=some 53) (v:=?_) (a':=?_) #[Y,Y,Y,Y,Y,Y,J,J,J,J,J,J,J,J,J,J,J,J,J,J,J,J,J,J,J,J,J,J,J,J,J,J,J,J,J,J] rfl rfl (any_of HT_.out (by kernel_rfl)) (fun _ _ _ h => h) (Or.inl ⟨by rfl,?_⟩) ?_ ?_;rotate_left
        ·intro w';go_simp;with_reducible rfl
        rotate_left
        ·simp only [Act.put,U,V,Z,i64_w,i32_w];rfl
        refine pure_ (i:=6) (N:=some 54) (v:=?_) (a':=?_) #[Y,Y,Y,Y,Y,Y,Y,J,J,J,J,J,J,J,J,J,J,J,J,J,J,J,J,J,J,J,J,J,J,J,J,J,J,J,J,J] rfl rfl (any_of HT_.out (by kernel_rfl)) (fun _ _ _ h => h) (Or.inl ⟨by rfl,?_⟩) ?_ ?_;rotate_left
        ·intro w';go_simp;with_reducible rfl
        rotate_left
        ·simp only [Act.put,U,V,Z,i64_w,i32_w];rfl
        refine pure_ (i:=7) (N:=some 55) (v:=undef) (a':=?_) #[Y,Y,Y,Y,Y,Y,Y,Y,J,J,J,J,J,J,J,J,J,J,J,J,J,J,J,J,J,J,J,J,J,J,J,J,J,J,J,J] rfl rfl (any_of HT_.out (by kernel_rfl)) (fun _ _ _ h => h) (Or.inr ⟨by rfl,rfl⟩) ?_ ?_;rotate_left
        ·simp only [Act.put,U,V,Z,i64_w,i32_w];rfl
        refine pure_ (i:=8) (N:=some 56) (v:=undef) (a':=?_) #[Y,Y,Y,Y,Y,Y,Y,Y,Y,J,J,J,J,J,J,J,J,J,J,J,J,J,J,J,J,J,J,J,J,J,J,J,J,J,J,J] rfl rfl (any_of HT_.out (by kernel_rfl)) (fun _ _ _ h => h) (Or.inr ⟨by rfl,rfl⟩) ?_ ?_;rotate_left
        ·simp only [Act.put,U,V,Z,i64_w,i32_w];rfl
        refine pure_ (i:=9) (N:=some 57) (v:=undef) (a':=?_) #[Y,Y,Y,Y,Y,Y,Y,Y,Y,Y,J,J,J,J,J,J,J,J,J,J,J,J,J,J,J,J,J,J,J,J,J,J,J,J,J,J] rfl rfl (any_of HT_.out (by kernel_rfl)) (fun _ _ _ h => h) (Or.inr ⟨by rfl,rfl⟩) ?_ ?_;rotate_left
        ·simp only [Act.put,U,V,Z,i64_w,i32_w];rfl
        refine pure_ (i:=10) (N:=some 58) (v:=undef) (a':=?_) #[Y,Y,Y,Y,Y,Y,Y,Y,Y,Y,Y,J,J,J,J,J,J,J,J,J,J,J,J,J,J,J,J,J,J,J,J,J,J,J,J,J] rfl rfl (any_of HT_.out (by kernel_rfl)) (fun _ _ _ h => h) (Or.inr ⟨by rfl,rfl⟩) ?_ ?_;rotate_left
        ·simp only [Act.put,U,V,Z,i64_w,i32_w];rfl
        refine pure_ (i:=11) (N:=some 59) (v:=undef) (a':=?_) #[Y,Y,Y,Y,Y,Y,Y,Y,Y,Y,Y,Y,J,J,J,J,J,J,J,J,J,J,J,J,J,J,J,J,J,J,J,J,J,J,J,J] rfl rfl (any_of HT_.out (by kernel_rfl)) (fun _ _ _ h => h) (Or.inr ⟨by rfl,rfl⟩) ?_ ?_;rotate_left
        ·simp only [Act.put,U,V,Z,i64_w,i32_w];rfl
        refine pure_ (i:=12) (N:=some 60) (v:=undef) (a':=?_) #[Y,Y,Y,Y,Y,Y,Y,Y,Y,Y,Y,Y,Y,J,J,J,J,J,J,J,J,J,J,J,J,J,J,J,J,J,J,J,J,J,J,J] rfl rfl (any_of HT_.out (by kernel_rfl)) (fun _ _ _ h => h) (Or.inr ⟨by rfl,rfl⟩) ?_ ?_;rotate_left
        ·simp only [Act.put,U,V,Z,i64_w,i32_w];rfl
        refine pure_ (i:=13) (N:=some 61) (v:=undef) (a':=?_) #[Y,Y,Y,Y,Y,Y,Y,Y,Y,Y,Y,Y,Y,Y,J,J,J,J,J,J,J,J,J,J,J,J,J,J,J,J,J,J,J,J,J,J] rfl rfl (any_of HT_.out (by kernel_rfl)) (fun _ _ _ h => h) (Or.inr ⟨by rfl,rfl⟩) ?_ ?_;rotate_left
        ·simp only [Act.put,U,V,Z,i64_w,i32_w];rfl
        refine pure_ (i:=14) (N:=some 62) (v:=undef) (a':=?_) #[Y,Y,Y,Y,Y,Y,Y,Y,Y,Y,Y,Y,Y,Y,Y,J,J,J,J,J,J,J,J,J,J,J,J,J,J,J,J,J,J,J,J,J] rfl rfl (any_of HT_.out (by kernel_rfl)) (fun _ _ _ h => h) (Or.inr ⟨by rfl,rfl⟩) ?_ ?_;rotate_left
        ·simp only [Act.put,U,V,Z,i64_w,i32_w];rfl
        refine pure_ (i:=15) (N:=some 63) (v:=undef) (a':=?_) #[Y,Y,Y,Y,Y,Y,Y,Y,Y,Y,Y,Y,Y,Y,Y,Y,J,J,J,J,J,J,J,J,J,J,J,J,J,J,J,J,J,J,J,J] rfl rfl (any_of HT_.out (by kernel_rfl)) (fun _ _ _ h => h) (Or.inr ⟨by rfl,rfl⟩) ?_ ?_;rotate_left
        ·simp only [Act.put,U,V,Z,i64_w,i32_w];rfl
        refine pure_ (i:=16) (N:=some 64) (v:=undef) (a':=?_) #[Y,Y,Y,Y,Y,Y,Y,Y,Y,Y,Y,Y,Y,Y,Y,Y,Y,J,J,J,J,J,J,J,J,J,J,J,J,J,J,J,J,J,J,J] rfl rfl (any_of HT_.out (by kernel_rfl)) (fun _ _ _ h => h) (Or.inr ⟨by rfl,rfl⟩) ?_ ?_;rotate_left
        ·simp only [Act.put,U,V,Z,i64_w,i32_w];rfl
        refine pure_ (i:=17) (N:=some 65) (v:=undef) (a':=?_) #[Y,Y,Y,Y,Y,Y,Y,Y,Y,Y,Y,Y,Y,Y,Y,Y,Y,Y,J,J,J,J,J,J,J,J,J,J,J,J,J,J,J,J,J,J] rfl rfl (any_of HT_.out (by kernel_rfl)) (fun _ _ _ h => h) (Or.inr ⟨by rfl,rfl⟩) ?_ ?_;rotate_left
        ·simp only [Act.put,U,V,Z,i64_w,i32_w];rfl
        refine pure_ (i:=18) (N:=some 66) (v:=undef) (a':=?_) #[Y,Y,Y,Y,Y,Y,Y,Y,Y,Y,Y,Y,Y,Y,Y,Y,Y,Y,Y,J,J,J,J,J,J,J,J,J,J,J,J,J,J,J,J,J] rfl rfl (any_of HT_.out (by kernel_rfl)) (fun _ _ _ h => h) (Or.inr ⟨by rfl,rfl⟩) ?_ ?_;rotate_left
        ·simp only [Act.put,U,V,Z,i64_w,i32_w];rfl
        refine pure_ (i:=19) (N:=some 67) (v:=undef) (a':=?_) #[Y,Y,Y,Y,Y,Y,Y,Y,Y,Y,Y,Y,Y,Y,Y,Y,Y,Y,Y,Y,J,J,J,J,J,J,J,J,J,J,J,J,J,J,J,J] rfl rfl (any_of HT_.out (by kernel_rfl)) (fun _ _ _ h => h) (Or.inr ⟨by rfl,rfl⟩) ?_ ?_;rotate_left
        ·simp only [Act.put,U,V,Z,i64_w,i32_w];rfl
        refine pure_ (i:=20) (N:=some 68) (v:=undef) (a':=?_) #[Y,Y,Y,Y,Y,Y,Y,Y,Y,Y,Y,Y,Y,Y,Y,Y,Y,Y,Y,Y,Y,J,J,J,J,J,J,J,J,J,J,J,J,J,J,J] rfl rfl (any_of HT_.out (by kernel_rfl)) (fun _ _ _ h => h) (Or.inr ⟨by rfl,rfl⟩) ?_ ?_;rotate_left
        ·simp only [Act.put,U,V,Z,i64_w,i32_w];rfl
        refine pure_ (i:=21) (N:=some 69) (v:=?_) (a':=?_) #[Y,Y,Y,Y,Y,Y,Y,Y,Y,Y,Y,Y,Y,Y,Y,Y,Y,Y,Y,Y,Y,Y,J,J,J,J,J,J,J,J,J,J,J,J,J,J] rfl rfl (any_of HT_.out (by kernel_rfl)) (fun _ _ _ h => h) (Or.inl ⟨by rfl,?_⟩) ?_ ?_;rotate_left
        ·intro w';go_simp;with_reducible rfl
        rotate_left
        ·simp only [Act.put,U,V,Z,i64_w,i32_w];rfl
        refine pure_ (i:=22) (N:=some 70) (v:=?_) (a':=?_) #[Y,Y,Y,Y,Y,Y,Y,Y,Y,Y,Y,Y,Y,Y,Y,Y,Y,Y,Y,Y,Y,Y,Y,J,J,J,J,J,J,J,J,J,J,J,J,J] rfl rfl (any_of HT_.out (by kernel_rfl)) (fun _ _ _ h => h) (Or.inl ⟨by rfl,?_⟩) ?_ ?_;rotate_left
        ·intro w';go_simp;with_reducible rfl
        rotate_left
        ·simp only [Act.put,U,V,Z,i64_w,i32_w];rfl
        refine pure_ (i:=23) (N:=some 71) (v:=undef) (a':=?_) #[Y,Y,Y,Y,Y,Y,Y,Y,Y,Y,Y,Y,Y,Y,Y,Y,Y,Y,Y,Y,Y,Y,Y,Y,J,J,J,J,J,J,J,J,J,J,J,J] rfl rfl (any_of HT_.out (by kernel_rfl)) (fun _ _ _ h => h) (Or.inr ⟨by rfl,rfl⟩) ?_ ?_;rotate_left
        ·simp only [Act.put,U,V,Z,i64_w,i32_w];rfl
        refine pure_ (i:=24) (N:=some 72) (v:=undef) (a':=?_) #[Y,Y,Y,Y,Y,Y,Y,Y,Y,Y,Y,Y,Y,Y,Y,Y,Y,Y,Y,Y,Y,Y,Y,Y,Y,J,J,J,J,J,J,J,J,J,J,J] rfl rfl (any_of HT_.out (by kernel_rfl)) (fun _ _ _ h => h) (Or.inr ⟨by rfl,rfl⟩) ?_ ?_;rotate_left
        ·simp only [Act.put,U,V,Z,i64_w,i32_w];rfl
        refine pure_ (i:=25) (N:=some 73) (v:=undef) (a':=?_) #[Y,Y,Y,Y,Y,Y,Y,Y,Y,Y,Y,Y,Y,Y,Y,Y,Y,Y,Y,Y,Y,Y,Y,Y,Y,Y,J,J,J,J,J,J,J,J,J,J] rfl rfl (any_of HT_.out (by kernel_rfl)) (fun _ _ _ h => h) (Or.inr ⟨by rfl,rfl⟩) ?_ ?_;rotate_left
        ·simp only [Act.put,U,V,Z,i64_w,i32_w];rfl
        refine pure_ (i:=26) (N:=some 74) (v:=undef) (a':=?_) #[Y,Y,Y,Y,Y,Y,Y,Y,Y,Y,Y,Y,Y,Y,Y,Y,Y,Y,Y,Y,Y,Y,Y,Y,Y,Y,Y,J,J,J,J,J,J,J,J,J] rfl rfl (any_of HT_.out (by kernel_rfl)) (fun _ _ _ h => h) (Or.inr ⟨by rfl,rfl⟩) ?_ ?_;rotate_left
        ·simp only [Act.put,U,V,Z,i64_w,i32_w];rfl
        refine pure_ (i:=27) (N:=some 75) (v:=undef) (a':=?_) #[Y,Y,Y,Y,Y,Y,Y,Y,Y,Y,Y,Y,Y,Y,Y,Y,Y,Y,Y,Y,Y,Y,Y,Y,Y,Y,Y,Y,J,J,J,J,J,J,J,J] rfl rfl (any_of HT_.out (by kernel_rfl)) (fun _ _ _ h => h) (Or.inr ⟨by rfl,rfl⟩) ?_ ?_;rotate_left
        ·simp only [Act.put,U,V,Z,i64_w,i32_w];rfl
        refine pure_ (i:=28) (N:=some 76) (v:=undef) (a':=?_) #[Y,Y,Y,Y,Y,Y,Y,Y,Y,Y,Y,Y,Y,Y,Y,Y,Y,Y,Y,Y,Y,Y,Y,Y,Y,Y,Y,Y,Y,J,J,J,J,J,J,J] rfl rfl (any_of HT_.out (by kernel_rfl)) (fun _ _ _ h => h) (Or.inr ⟨by rfl,rfl⟩) ?_ ?_;rotate_left
        ·simp only [Act.put,U,V,Z,i64_w,i32_w];rfl
        refine pure_ (i:=29) (N:=some 77) (v:=undef) (a':=?_) #[Y,Y,Y,Y,Y,Y,Y,Y,Y,Y,Y,Y,Y,Y,Y,Y,Y,Y,Y,Y,Y,Y,Y,Y,Y,Y,Y,Y,Y,Y,J,J,J,J,J,J] rfl rfl (any_of HT_.out (by kernel_rfl)) (fun _ _ _ h => h) (Or.inr ⟨by rfl,rfl⟩) ?_ ?_;rotate_left
        ·simp only [Act.put,U,V,Z,i64_w,i32_w];rfl
        refine pure_ (i:=30) (N:=some 78) (v:=undef) (a':=?_) #[Y,Y,Y,Y,Y,Y,Y,Y,Y,Y,Y,Y,Y,Y,Y,Y,Y,Y,Y,Y,Y,Y,Y,Y,Y,Y,Y,Y,Y,Y,Y,J,J,J,J,J] rfl rfl (any_of HT_.out (by kernel_rfl)) (fun _ _ _ h => h) (Or.inr ⟨by rfl,rfl⟩) ?_ ?_;rotate_left
        ·simp only [Act.put,U,V,Z,i64_w,i32_w];rfl
        refine pure_ (i:=31) (N:=some 79) (v:=undef) (a':=?_) #[Y,Y,Y,Y,Y,Y,Y,Y,Y,Y,Y,Y,Y,Y,Y,Y,Y,Y,Y,Y,Y,Y,Y,Y,Y,Y,Y,Y,Y,Y,Y,Y,J,J,J,J] rfl rfl (any_of HT_.out (by kernel_rfl)) (fun _ _ _ h => h) (Or.inr ⟨by rfl,rfl⟩) ?_ ?_;rotate_left
        ·simp only [Act.put,U,V,Z,i64_w,i32_w];rfl
        refine pure_ (i:=32) (N:=some 80) (v:=undef) (a':=?_) #[Y,Y,Y,Y,Y,Y,Y,Y,Y,Y,Y,Y,Y,Y,Y,Y,Y,Y,Y,Y,Y,Y,Y,Y,Y,Y,Y,Y,Y,Y,Y,Y,Y,J,J,J] rfl rfl (any_of HT_.out (by kernel_rfl)) (fun _ _ _ h => h) (Or.inr ⟨by rfl,rfl⟩) ?_ ?_;rotate_left
        ·simp only [Act.put,U,V,Z,i64_w,i32_w];rfl
        refine pure_ (i:=33) (N:=some 81) (v:=undef) (a':=?_) #[Y,Y,Y,Y,Y,Y,Y,Y,Y,Y,Y,Y,Y,Y,Y,Y,Y,Y,Y,Y,Y,Y,Y,Y,Y,Y,Y,Y,Y,Y,Y,Y,Y,Y,J,J] rfl rfl (any_of HT_.out (by kernel_rfl)) (fun _ _ _ h => h) (Or.inr ⟨by rfl,rfl⟩) ?_ ?_;rotate_left
        ·simp only [Act.put,U,V,Z,i64_w,i32_w];rfl
        refine pure_ (i:=34) (N:=some 82) (v:=undef) (a':=?_) #[Y,Y,Y,Y,Y,Y,Y,Y,Y,Y,Y,Y,Y,Y,Y,Y,Y,Y,Y,Y,Y,Y,Y,Y,Y,Y,Y,Y,Y,Y,Y,Y,Y,Y,Y,J] rfl rfl (any_of HT_.out (by kernel_rfl)) (fun _ _ _ h => h) (Or.inr ⟨by rfl,rfl⟩) ?_ ?_;rotate_left
        ·simp only [Act.put,U,V,Z,i64_w,i32_w];rfl
        refine pure_ (i:=35) (N:=some 83) (v:=?_) (a':=?_) #[Y,Y,Y,Y,Y,Y,Y,Y,Y,Y,Y,Y,Y,Y,Y,Y,Y,Y,Y,Y,Y,Y,Y,Y,Y,Y,Y,Y,Y,Y,Y,Y,Y,Y,Y,Y] rfl rfl (any_of HT_.out (by kernel_rfl)) (fun _ _ _ h => h) (Or.inl ⟨by rfl,?_⟩) ?_ ?_;rotate_left
        ·intro w';go_simp;with_reducible rfl
        rotate_left
        ·simp only [Act.put,U,V,Z,i64_w,i32_w];rfl
        refine done_ (done_of HT_.out (by kernel_rfl)) ?_
        try go_wp2
        (try simp only [← hl6_3])
        go_roundg k3
        case measure => have:=HK1.out; have:=HK2.out; have:=HK3.out; omega
        case rel => exact ⟨(x6_3),(wrap64 (x9_3 + 1)),(by first | rfl | (simp; done) | (simp [*]; done)),H',⟨by have:=HK1.out; have:=HK2.out; have:=HK3.out; omega⟩,⟨by (try simp only [hl6_2]); (try simp only [hl6_3]); exact HO_5.out⟩,⟨by (try simp only [hl6_2]); (try simp only [hl6_3]); exact HO_6.out⟩,⟨by (try simp only [hl6_2]); (try simp only [hl6_3]); exact p3.out⟩,⟨by repeat (first | (with_reducible first | exact HB.out | apply below_alloc | apply pw_below_drewN | apply below_drew1 | refine below_set ?_ r3.out | refine below_set ?_ r6.out) | exact HB.out)⟩⟩
       rw [if_pos c34] at H;have c34b0 : decide ((rd t534 ((rd_T34 l0_1 x9_3).f1)) < 99999) = true:=decide_eq_true c34;clear c34
       by_cases c35 : 0 ≤ ((rd_T34 l0_1 x9_3).f0)
       case neg =>
        rw [if_neg c35] at H;exact absurd H (by simp)
       rw [if_pos c35] at H;have c35b0 : decide (0 ≤ ((rd_T34 l0_1 x9_3).f0)) = true:=decide_eq_true c35;clear c35
       by_cases c36 : ((rd_T34 l0_1 x9_3).f0) < (t534.length : Int)
       case neg =>
        rw [if_neg c36] at H;exact absurd H (by simp)
       rw [if_pos c36] at H;have c36b0 : decide (((rd_T34 l0_1 x9_3).f0) < (t534.length : Int)) = true:=decide_eq_true c36;clear c36
       by_cases c37 : (rd t534 ((rd_T34 l0_1 x9_3).f0)) = (wrap64 (((rd_T34 l0_1 x9_3).f2) + (rd t534 ((rd_T34 l0_1 x9_3).f1))))
       case neg =>
        rw [if_neg c37] at H;have c37b0 : ((rd t534 ((rd_T34 l0_1 x9_3).f0)) == (wrap64 (((rd_T34 l0_1 x9_3).f2) + (rd t534 ((rd_T34 l0_1 x9_3).f1))))) = false:=beq_eq_false_iff_ne.mpr c37;have c37b1 : ((rd t534 ((rd_T34 l0_1 x9_3).f0)) != (wrap64 (((rd_T34 l0_1 x9_3).f2) + (rd t534 ((rd_T34 l0_1 x9_3).f1))))) = true:=bne_iff_ne.mpr c37;have H':=zx H;clear H;have hcz58_0 : wr.cell? ⟨p7,0,none⟩ = some (.int .i64 a0_0):=(blk_cell p3.out 0).trans rfl;have hcz58_1 : wr.cell? ⟨p7,1,none⟩ = some (.slice A0_1 l0_1.length c0_1):=(blk_cell p3.out 1).trans rfl;have hfz58_0:=blk_frozen p3.out 0;have hfz58_1:=blk_frozen p3.out 1;have p542 : 0 ≤ (x9_3 : Int):=of_decide_eq_true (by first | (with_reducible assumption) | assumption);have q542 : x9_3 < (l0_1.length : Int):=of_decide_eq_true (by first | (with_reducible assumption) | assumption);obtain ⟨q7,e542,p9,q0,q3,q4,q5⟩:=at_T34 t2.out x9_3 p542 q542;cases e542;replace p9:=(HB.out.cell (World.block_lt_of_cell? w _ p9)).trans p9;replace q0:=(HB.out.cell (World.block_lt_of_cell? w _ q0)).trans q0;replace q3:=(HB.out.cell (World.block_lt_of_cell? w _ q3)).trans q3;replace q4:=(HB.out.cell (World.block_lt_of_cell? w _ q4)).trans q4;replace q5:=(HB.out.cell (World.block_lt_of_cell? w _ q5)).trans q5;replace p542:=eq_true p542;replace q542:=eq_true q542
        try go_wp2_with (first | ((with_reducible refine gate_dst (N:=10) rfl ?_); refine box_event ?hg (N:=10) ?hd (cs:=#[.int .i64 0,.int .i64 0,.int .i64 0,.int .i64 0,.int .i64 0]) (t:=34) ?hr ?_; (case hd => rfl); (case hg => rfl); (case hr => first | (go_simp; done) | (go_simp; rfl)); intro p0 hg w59 hbox hb; have n0_:=zx (Kd.R_below HO_5.out hb); have n1_:=zx (Kd.R_below HO_6.out hb); have n2_:=zx (blk_below (g:=p7) (o:=.cells #[.int .i64 a0_0,.slice (some q7) l0_1.length c0_1] 25 (0,0)) p3.out hb); have n3_:=zx (below_step HB.out hb); have n4_:=zx (hbox); have n5_:=zx ((by rw [hg]; exact (below_size HB.out) : w.heap.size ≤ p0)); have n6_:=zx ((by rw [hg]; exact (below_size HB.out) : w.heap.size ≤ p0)); have n7_:=zx ((by rw [hg]; exact Nat.ne_of_lt (blk_lt (g:=p7) (o:=.cells #[.int .i64 a0_0,.slice (some q7) l0_1.length c0_1] 25 (0,0)) p3.out) : p7 ≠ p0)); have n8_:=zx ((by rw [hg]; exact Nat.ne_of_gt (blk_lt (g:=p7) (o:=.cells #[.int .i64 a0_0,.slice (some q7) l0_1.length c0_1] 25 (0,0)) p3.out) : p0 ≠ p7)); clear HO_5; clear HO_6; clear p3; clear HB; have HO_5:=n0_; have HO_6:=n1_; have p3:=n2_; have HB:=n3_; have p4:=n4_; have u9:=n5_; have r6:=n6_; have p5:=n7_; have r2:=n8_; clear n0_ n1_ n2_ n3_ n4_ n5_ n6_ n7_ n8_; clear hb hbox hg; have hnb60:=r2.out; have hnc60:=p5.out; have hcz61_0 : w59.cell? ⟨p0,0,none⟩ = some (.int .i64 0):=(blk_cell p4.out 0).trans rfl; have hcz61_1 : w59.cell? ⟨p0,1,none⟩ = some (.int .i64 0):=(blk_cell p4.out 1).trans rfl; have hcz61_2 : w59.cell? ⟨p0,2,none⟩ = some (.int .i64 0):=(blk_cell p4.out 2).trans rfl; have hcz61_3 : w59.cell? ⟨p0,3,none⟩ = some (.int .i64 0):=(blk_cell p4.out 3).trans rfl; have hcz61_4 : w59.cell? ⟨p0,4,none⟩ = some (.int .i64 0):=(blk_cell p4.out 4).trans rfl; have hfz61_0:=blk_frozen p4.out 0; have hfz61_1:=blk_frozen p4.out 1; have hfz61_2:=blk_frozen p4.out 2; have hfz61_3:=blk_frozen p4.out 3; have hfz61_4:=blk_frozen p4.out 4))
        have n0_ : Aside0 (Kd.R (Kd.int .i64) 3 (((((w59.setCell ⟨p0,0,none⟩ (.int .i64 ((rd_T34 l0_1 x9_3).f0))).setCell ⟨p0,1,none⟩ (.int .i64 ((rd_T34 l0_1 x9_3).f1))).setCell ⟨p0,2,none⟩ (.int .i64 ((rd_T34 l0_1 x9_3).f2))).setCell ⟨p0,3,none⟩ (.int .i64 ((rd_T34 l0_1 x9_3).f3))).setCell ⟨p0,4,none⟩ (.int .i64 ((rd_T34 l0_1 x9_3).f4))) w.heap.size (fun k_ => some k_ ≠ (.slice (some ⟨go24,0,none⟩) x6_3.length co24 : Value).ownBlock) v535 t534):=⟨by exact Kd.R_mono (Kd.R_far (p:=⟨p0,4,none⟩) (Kd.R_far (p:=⟨p0,3,none⟩) (Kd.R_far (p:=⟨p0,2,none⟩) (Kd.R_far (p:=⟨p0,1,none⟩) (Kd.R_far (p:=⟨p0,0,none⟩) (Kd.R_types HO_5.out p4.out (by decide)) (fun _ hk => hk.2) (.int .i64 ((rd_T34 l0_1 x9_3).f0))) (fun _ hk => hk.2) (.int .i64 ((rd_T34 l0_1 x9_3).f1))) (fun _ hk => hk.2) (.int .i64 ((rd_T34 l0_1 x9_3).f2))) (fun _ hk => hk.2) (.int .i64 ((rd_T34 l0_1 x9_3).f3))) (fun _ hk => hk.2) (.int .i64 ((rd_T34 l0_1 x9_3).f4))) (fun _ hk => hk.1)⟩
        have n1_ : Aside0 (Kd.R (Kd.int .i64) 3 (((((w59.setCell ⟨p0,0,none⟩ (.int .i64 ((rd_T34 l0_1 x9_3).f0))).setCell ⟨p0,1,none⟩ (.int .i64 ((rd_T34 l0_1 x9_3).f1))).setCell ⟨p0,2,none⟩ (.int .i64 ((rd_T34 l0_1 x9_3).f2))).setCell ⟨p0,3,none⟩ (.int .i64 ((rd_T34 l0_1 x9_3).f3))).setCell ⟨p0,4,none⟩ (.int .i64 ((rd_T34 l0_1 x9_3).f4))) w.heap.size (fun k_ => some k_ ≠ (v535 : Value).ownBlock) (.slice (some ⟨go24,0,none⟩) x6_3.length co24) x6_3):=⟨by exact Kd.R_mono (Kd.R_far (p:=⟨p0,4,none⟩) (Kd.R_far (p:=⟨p0,3,none⟩) (Kd.R_far (p:=⟨p0,2,none⟩) (Kd.R_far (p:=⟨p0,1,none⟩) (Kd.R_far (p:=⟨p0,0,none⟩) (Kd.R_types HO_6.out p4.out (by decide)) (fun _ hk => hk.2) (.int .i64 ((rd_T34 l0_1 x9_3).f0))) (fun _ hk => hk.2) (.int .i64 ((rd_T34 l0_1 x9_3).f1))) (fun _ hk => hk.2) (.int .i64 ((rd_T34 l0_1 x9_3).f2))) (fun _ hk => hk.2) (.int .i64 ((rd_T34 l0_1 x9_3).f3))) (fun _ hk => hk.2) (.int .i64 ((rd_T34 l0_1 x9_3).f4))) (fun _ hk => hk.1)⟩
        have n2_ : Aside0 ((((((w59.setCell ⟨p0,0,none⟩ (.int .i64 ((rd_T34 l0_1 x9_3).f0))).setCell ⟨p0,1,none⟩ (.int .i64 ((rd_T34 l0_1 x9_3).f1))).setCell ⟨p0,2,none⟩ (.int .i64 ((rd_T34 l0_1 x9_3).f2))).setCell ⟨p0,3,none⟩ (.int .i64 ((rd_T34 l0_1 x9_3).f3))).setCell ⟨p0,4,none⟩ (.int .i64 ((rd_T34 l0_1 x9_3).f4))).heap[p7]? = some (.cells #[.int .i64 a0_0,.slice (some q7) l0_1.length c0_1] 25 (0,0))):=⟨by refine blk_far ?_ p5.out _; refine blk_far ?_ p5.out _; refine blk_far ?_ p5.out _; refine blk_far ?_ p5.out _; refine blk_far ?_ p5.out _; exact p3.out⟩
        have n3_ : Aside0 ((((((w59.setCell ⟨p0,0,none⟩ (.int .i64 ((rd_T34 l0_1 x9_3).f0))).setCell ⟨p0,1,none⟩ (.int .i64 ((rd_T34 l0_1 x9_3).f1))).setCell ⟨p0,2,none⟩ (.int .i64 ((rd_T34 l0_1 x9_3).f2))).setCell ⟨p0,3,none⟩ (.int .i64 ((rd_T34 l0_1 x9_3).f3))).setCell ⟨p0,4,none⟩ (.int .i64 ((rd_T34 l0_1 x9_3).f4))).heap[p0]? = some (.cells #[.int .i64 ((rd_T34 l0_1 x9_3).f0),.int .i64 ((rd_T34 l0_1 x9_3).f1),.int .i64 ((rd_T34 l0_1 x9_3).f2),.int .i64 ((rd_T34 l0_1 x9_3).f3),.int .i64 ((rd_T34 l0_1 x9_3).f4)] 34 (0,0))):=⟨by refine blk_put (cs:=#[.int .i64 ((rd_T34 l0_1 x9_3).f0),.int .i64 ((rd_T34 l0_1 x9_3).f1),.int .i64 ((rd_T34 l0_1 x9_3).f2),.int .i64 ((rd_T34 l0_1 x9_3).f3),.int .i64 0]) ?_ 4 _ rfl; refine blk_put (cs:=#[.int .i64 ((rd_T34 l0_1 x9_3).f0),.int .i64 ((rd_T34 l0_1 x9_3).f1),.int .i64 ((rd_T34 l0_1 x9_3).f2),.int .i64 0,.int .i64 0]) ?_ 3 _ rfl; refine blk_put (cs:=#[.int .i64 ((rd_T34 l0_1 x9_3).f0),.int .i64 ((rd_T34 l0_1 x9_3).f1),.int .i64 0,.int .i64 0,.int .i64 0]) ?_ 2 _ rfl; refine blk_put (cs:=#[.int .i64 ((rd_T34 l0_1 x9_3).f0),.int .i64 0,.int .i64 0,.int .i64 0,.int .i64 0]) ?_ 1 _ rfl; refine blk_put (cs:=#[.int .i64 0,.int .i64 0,.int .i64 0,.int .i64 0,.int .i64 0]) ?_ 0 _ rfl; exact p4.out⟩
        have n4_ : Aside0 (Below w.heap.size w (((((w59.setCell ⟨p0,0,none⟩ (.int .i64 ((rd_T34 l0_1 x9_3).f0))).setCell ⟨p0,1,none⟩ (.int .i64 ((rd_T34 l0_1 x9_3).f1))).setCell ⟨p0,2,none⟩ (.int .i64 ((rd_T34 l0_1 x9_3).f2))).setCell ⟨p0,3,none⟩ (.int .i64 ((rd_T34 l0_1 x9_3).f3))).setCell ⟨p0,4,none⟩ (.int .i64 ((rd_T34 l0_1 x9_3).f4)))):=⟨by repeat (first | (with_reducible first | exact HB.out | apply below_alloc | apply pw_below_drewN | apply below_drew1 | refine below_set ?_ r3.out | refine below_set ?_ r6.out) | exact HB.out)⟩
        (try clear HO_5)
        (try clear HO_6)
        (try clear p3)
        (try clear p4)
        (try clear HB)
        generalize (((((w59.setCell ⟨p0,0,none⟩ (.int .i64 ((rd_T34 l0_1 x9_3).f0))).setCell ⟨p0,1,none⟩ (.int .i64 ((rd_T34 l0_1 x9_3).f1))).setCell ⟨p0,2,none⟩ (.int .i64 ((rd_T34 l0_1 x9_3).f2))).setCell ⟨p0,3,none⟩ (.int .i64 ((rd_T34 l0_1 x9_3).f3))).setCell ⟨p0,4,none⟩ (.int .i64 ((rd_T34 l0_1 x9_3).f4))) = w62 at n0_ n1_ n2_ n3_ n4_ ⊢;have HO_5:=n0_;have HO_6:=n1_;have p3:=n2_;have p4:=n3_;have HB:=n4_;clear n0_ n1_ n2_ n3_ n4_;have n0_:=zx (Kd.R_drew HO_5.out);have n1_:=zx (Kd.R_drew HO_6.out);have n2_:=zx (blk_drew p3.out);have n3_:=zx (blk_drew p4.out);have n4_:=zx (below_drew1 HB.out);clear HO_5;clear HO_6;clear p3;clear p4;clear HB;have HO_5:=n0_;have HO_6:=n1_;have p3:=n2_;have p4:=n3_;have HB:=n4_;clear n0_ n1_ n2_ n3_ n4_;obtain ⟨Ao64,co64,eo64⟩:=Kd.R_slice HO_5.out
        (first | subst eo64 | (injection eo64 with f1_ f2_ f3_; have f4_:=f1_.symm; have f5_:=f3_.symm; clear f1_ f2_ f3_; subst f4_; subst f5_))
        have p544 : 0 ≤ (((rd_T34 l0_1 x9_3).f1) : Int):=of_decide_eq_true (by first | (with_reducible assumption) | assumption);have q544 : ((rd_T34 l0_1 x9_3).f1) < (t534.length : Int):=of_decide_eq_true (by first | (with_reducible assumption) | assumption);obtain ⟨q8,e544,q9⟩:=Kd.at_int (Kd.R_reads' HO_5.out).2.2 ((rd_T34 l0_1 x9_3).f1) p544 q544;cases e544;replace p544:=eq_true p544;replace q544:=eq_true q544;have p545 : 0 ≤ (((rd_T34 l0_1 x9_3).f0) : Int):=of_decide_eq_true (by first | (with_reducible assumption) | assumption);have q545 : ((rd_T34 l0_1 x9_3).f0) < (t534.length : Int):=of_decide_eq_true (by first | (with_reducible assumption) | assumption);obtain ⟨t3,e545,r4⟩:=Kd.at_int (Kd.R_reads' HO_5.out).2.2 ((rd_T34 l0_1 x9_3).f0) p545 q545;obtain rfl : q8 = t3:=(by injection e545)
        replace p545:=eq_true p545;replace q545:=eq_true q545;have p546 : 0 ≤ (((rd_T34 l0_1 x9_3).f1) : Int):=of_decide_eq_true (by first | (with_reducible assumption) | assumption);have q546 : ((rd_T34 l0_1 x9_3).f1) < (t534.length : Int):=of_decide_eq_true (by first | (with_reducible assumption) | assumption);obtain ⟨t4,e546,r5⟩:=Kd.at_int (Kd.R_reads' HO_5.out).2.2 ((rd_T34 l0_1 x9_3).f1) p546 q546;obtain rfl : q8 = t4:=(by injection e546)
        replace p546:=eq_true p546;replace q546:=eq_true q546;refine start_ (n:=36) (S:=fun w' => w'.cell? ⟨p0,0,none⟩ = some (.int .i64 ((rd_T34 l0_1 x9_3).f0)) ∧ w'.cell? ⟨p0,1,none⟩ = some (.int .i64 ((rd_T34 l0_1 x9_3).f1)) ∧ w'.cell? ⟨p0,2,none⟩ = some (.int .i64 ((rd_T34 l0_1 x9_3).f2)) ∧ w'.cell? ⟨p0,3,none⟩ = some (.int .i64 ((rd_T34 l0_1 x9_3).f3)) ∧ w'.cell? ⟨p0,4,none⟩ = some (.int .i64 ((rd_T34 l0_1 x9_3).f4)) ∧ w'.cell? (q8.add (((rd_T34 l0_1 x9_3).f1)).toNat) = some (.int .i64 (rd t534 ((rd_T34 l0_1 x9_3).f1))) ∧ w'.cell? (q8.add (((rd_T34 l0_1 x9_3).f0)).toNat) = some (.int .i64 (rd t534 ((rd_T34 l0_1 x9_3).f0))) ∧ w'.cell? (q8.add (((rd_T34 l0_1 x9_3).f1)).toNat) = some (.int .i64 (rd t534 ((rd_T34 l0_1 x9_3).f1)))) (ds:=[]) #[J,J,J,J,J,J,J,J,J,J,J,J,J,J,J,J,J,J,J,J,J,J,J,J,J,J,J,J,J,J,J,J,J,J,J,J] (by kernel_rfl) rfl rfl ⟨(blk_cell p4.out 0).trans rfl,(blk_cell p4.out 1).trans rfl,(blk_cell p4.out 2).trans rfl,(blk_cell p4.out 3).trans rfl,(blk_cell p4.out 4).trans rfl,q9,r4,r5⟩ (fun hHeld => ?_); refine with_tabW spec_l3Steps.tab15 spec_l3Steps.bits15 (fun HT_ HW_ => ?_);generalize w62.drew = w63 at HO_5 HO_6 p3 p4 HB q9 r4 r5 hHeld ⊢;refine pure_ (i:=0) (N:=some 48) (v:=?_) (a':=?_) #[Y,J,J,J,J,J,J,J,J,J,J,J,J,J,J,J,J,J,J,J,J,J,J,J,J,J,J,J,J,J,J,J,J,J,J,J] rfl rfl (any_of HT_.out (by kernel_rfl)) (fun _ _ _ h => h) (Or.inl ⟨by rfl,?_⟩) ?_ ?_;rotate_left
        ·intro w';go_simp;with_reducible rfl
        rotate_left
        ·simp only [Act.put,U,V,Z,i64_w,i32_w];rfl
        refine pure_ (i:=1) (N:=some 49) (v:=?_) (a':=?_) #[Y,Y,J,J,J,J,J,J,J,J,J,J,J,J,J,J,J,J,J,J,J,J,J,J,J,J,J,J,J,J,J,J,J,J,J,J] rfl rfl (any_of HT_.out (by kernel_rfl)) (fun _ _ _ h => h) (Or.inl ⟨by rfl,?_⟩) ?_ ?_;rotate_left
        ·intro w';go_simp;with_reducible rfl
        rotate_left
        ·simp only [Act.put,U,V,Z,i64_w,i32_w];rfl
        refine take_ (i:=2) (N:=some 50) (v:=?_) (a':=?_) #[Y,Y,Y,J,J,J,J,J,J,J,J,J,J,J,J,J,J,J,J,J,J,J,J,J,J,J,J,J,J,J,J,J,J,J,J,J] rfl rfl (take_ofW HT_.out HW_.out (by kernel_rfl)) (fun _ _ _ h => h) (Or.inl ⟨by rfl,?_⟩) hHeld ?_ ?_;rotate_left
        ·rintro w' ⟨s0,s1,s2,s3,s4,s5,s6,s7⟩;go_simp;with_reducible rfl
        rotate_left
        ·simp only [Act.put,U,V,Z,i64_w,i32_w];rfl
        refine pure_ (i:=3) (N:=some 51) (v:=?_) (a':=?_) #[Y,Y,Y,Y,J,J,J,J,J,J,J,J,J,J,J,J,J,J,J,J,J,J,J,J,J,J,J,J,J,J,J,J,J,J,J,J] rfl rfl (any_of HT_.out (by kernel_rfl)) (fun _ _ _ h => h) (Or.inl ⟨by rfl,?_⟩) ?_ ?_;rotate_left
        ·intro w';go_simp;with_reducible rfl
        rotate_left
        ·simp only [Act.put,U,V,Z,i64_w,i32_w];rfl
        refine take_ (i:=4) (N:=some 52) (v:=?_) (a':=?_) #[Y,Y,Y,Y,Y,J,J,J,J,J,J,J,J,J,J,J,J,J,J,J,J,J,J,J,J,J,J,J,J,J,J,J,J,J,J,J] rfl rfl (take_ofW HT_.out HW_.out (by kernel_rfl)) (fun _ _ _ h => h) (Or.inl ⟨by rfl,?_⟩) hHeld ?_ ?_;rotate_left
        ·rintro w' ⟨s0,s1,s2,s3,s4,s5,s6,s7⟩;go_simp;with_reducible rfl
        rotate_left
        ·simp only [Act.put,U,V,Z,i64_w,i32_w];rfl
        refine pure_ (i:=5) (N:=some 53) (v:=?_) (a':=?_) #[Y,Y,Y,Y,Y,Y,J,J,J,J,J,J,J,J,J,J,J,J,J,J,J,J,J,J,J,J,J,J,J,J,J,J,J,J,J,J] rfl rfl (any_of HT_.out (by kernel_rfl)) (fun _ _ _ h => h) (Or.inl ⟨by rfl,?_⟩) ?_ ?_;rotate_left
        ·intro w';go_simp;with_reducible rfl
        rotate_left
        ·simp only [Act.put,U,V,Z,i64_w,i32_w];rfl
        refine pure_ (i:=6) (N:=some 54) (v:=?_) (a':=?_) #[Y,Y,Y,Y,Y,Y,Y,J,J,J,J,J,J,J,J,J,J,J,J,J,J,J,J,J,J,J,J,J,J,J,J,J,J,J,J,J] rfl rfl (any_of HT_.out (by kernel_rfl)) (fun _ _ _ h => h) (Or.inl ⟨by rfl,?_⟩) ?_ ?_;rotate_left
        ·intro w';go_simp;with_reducible rfl
        rotate_left
        ·simp only [Act.put,U,V,Z,i64_w,i32_w];rfl
        refine pure_ (i:=7) (N:=some 55) (v:=?_) (a':=?_) #[Y,Y,Y,Y,Y,Y,Y,Y,J,J,J,J,J,J,J,J,J,J,J,J,J,J,J,J,J,J,J,J,J,J,J,J,J,J,J,J] rfl rfl (any_of HT_.out (by kernel_rfl)) (fun _ _ _ h => h) (Or.inl ⟨by rfl,?_⟩) ?_ ?_;rotate_left
        ·intro w';go_simp;with_reducible rfl
        rotate_left
        ·simp only [Act.put,U,V,Z,i64_w,i32_w];rfl
        refine pure_ (i:=8) (N:=some 56) (v:=?_) (a':=?_) #[Y,Y,Y,Y,Y,Y,Y,Y,Y,J,J,J,J,J,J,J,J,J,J,J,J,J,J,J,J,J,J,J,J,J,J,J,J,J,J,J] rfl rfl (any_of HT_.out (by kernel_rfl)) (fun _ _ _ h => h) (Or.inl ⟨by rfl,?_⟩) ?_ ?_;rotate_left
        ·intro w';go_simp;with_reducible rfl
        rotate_left
        ·simp only [Act.put,U,V,Z,i64_w,i32_w];rfl
        refine pure_ (i:=12) (N:=some 60) (v:=?_) (a':=?_) #[Y,Y,Y,Y,Y,Y,Y,Y,Y,J,J,J,Y,J,J,J,J,J,J,J,J,J,J,J,J,J,J,J,J,J,J,J,J,J,J,J] rfl rfl (any_of HT_.out (by kernel_rfl)) (fun _ _ _ h => h) (Or.inl ⟨by rfl,?_⟩) ?_ ?_;rotate_left
        ·intro w';go_simp;with_reducible rfl
        rotate_left
        ·simp only [Act.put,U,V,Z,i64_w,i32_w];rfl
        refine pure_ (i:=14) (N:=some 62) (v:=?_) (a':=?_) #[Y,Y,Y,Y,Y,Y,Y,Y,Y,J,J,J,Y,J,Y,J,J,J,J,J,J,J,J,J,J,J,J,J,J,J,J,J,J,J,J,J] rfl rfl (any_of HT_.out (by kernel_rfl)) (fun _ _ _ h => h) (Or.inl ⟨by rfl,?_⟩) ?_ ?_;rotate_left
        ·intro w';go_simp;with_reducible rfl
        rotate_left
        ·simp only [Act.put,U,V,Z,i64_w,i32_w];rfl
        refine pure_ (i:=15) (N:=some 63) (v:=?_) (a':=?_) #[Y,Y,Y,Y,Y,Y,Y,Y,Y,J,J,J,Y,J,Y,Y,J,J,J,J,J,J,J,J,J,J,J,J,J,J,J,J,J,J,J,J] rfl rfl (any_of HT_.out (by kernel_rfl)) (fun _ _ _ h => h) (Or.inl ⟨by rfl,?_⟩) ?_ ?_;rotate_left
        ·intro w';go_simp;with_reducible rfl
        rotate_left
        ·simp only [Act.put,U,V,Z,i64_w,i32_w];rfl
        refine take_ (i:=9) (N:=some 57) (v:=?_) (a':=?_) #[Y,Y,Y,Y,Y,Y,Y,Y,Y,Y,J,J,Y,J,Y,Y,J,J,J,J,J,J,J,J,J,J,J,J,J,J,J,J,J,J,J,J] rfl rfl (take_ofW HT_.out HW_.out (by kernel_rfl)) (fun _ _ _ h => h) (Or.inl ⟨by rfl,?_⟩) hHeld ?_ ?_;rotate_left
        ·rintro w' ⟨s0,s1,s2,s3,s4,s5,s6,s7⟩;go_simp;with_reducible rfl
        rotate_left
        ·simp only [Act.put,U,V,Z,i64_w,i32_w];rfl
        refine pure_ (i:=10) (N:=some 58) (v:=?_) (a':=?_) #[Y,Y,Y,Y,Y,Y,Y,Y,Y,Y,Y,J,Y,J,Y,Y,J,J,J,J,J,J,J,J,J,J,J,J,J,J,J,J,J,J,J,J] rfl rfl (any_of HT_.out (by kernel_rfl)) (fun _ _ _ h => h) (Or.inl ⟨by rfl,?_⟩) ?_ ?_;rotate_left
        ·intro w';go_simp;with_reducible rfl
        rotate_left
        ·simp only [Act.put,U,V,Z,i64_w,i32_w];rfl
        refine take_ (i:=11) (N:=some 59) (v:=?_) (a':=?_) #[Y,Y,Y,Y,Y,Y,Y,Y,Y,Y,Y,Y,Y,J,Y,Y,J,J,J,J,J,J,J,J,J,J,J,J,J,J,J,J,J,J,J,J] rfl rfl (take_ofW HT_.out HW_.out (by kernel_rfl)) (fun _ _ _ h => h) (Or.inl ⟨by rfl,?_⟩) hHeld ?_ ?_;rotate_left
        ·rintro w' ⟨s0,s1,s2,s3,s4,s5,s6,s7⟩;go_simp;with_reducible rfl
        rotate_left
        ·simp only [Act.put,U,V,Z,i64_w,i32_w];rfl
        refine take_ (i:=13) (N:=some 61) (v:=?_) (a':=?_) #[Y,Y,Y,Y,Y,Y,Y,Y,Y,Y,Y,Y,Y,Y,Y,Y,J,J,J,J,J,J,J,J,J,J,J,J,J,J,J,J,J,J,J,J] rfl rfl (take_ofW HT_.out HW_.out (by kernel_rfl)) (fun _ _ _ h => h) (Or.inl ⟨by rfl,?_⟩) hHeld ?_ ?_;rotate_left
        ·rintro w' ⟨s0,s1,s2,s3,s4,s5,s6,s7⟩;go_simp;with_reducible rfl
        rotate_left
        ·simp only [Act.put,U,V,Z,i64_w,i32_w];rfl
        refine take_ (i:=16) (N:=some 64) (v:=?_) (a':=?_) #[Y,Y,Y,Y,Y,Y,Y,Y,Y,Y,Y,Y,Y,Y,Y,Y,Y,J,J,J,J,J,J,J,J,J,J,J,J,J,J,J,J,J,J,J] rfl rfl (take_ofW HT_.out HW_.out (by kernel_rfl)) (fun _ _ _ h => h) (Or.inl ⟨by rfl,?_⟩) hHeld ?_ ?_;rotate_left
        ·rintro w' ⟨s0,s1,s2,s3,s4,s5,s6,s7⟩;go_simp;with_reducible rfl
        rotate_left
        ·simp only [Act.put,U,V,Z,i64_w,i32_w];rfl
        refine pure_ (i:=17) (N:=some 65) (v:=?_) (a':=?_) #[Y,Y,Y,Y,Y,Y,Y,Y,Y,Y,Y,Y,Y,Y,Y,Y,Y,Y,J,J,J,J,J,J,J,J,J,J,J,J,J,J,J,J,J,J] rfl rfl (any_of HT_.out (by kernel_rfl)) (fun _ _ _ h => h) (Or.inl ⟨by rfl,?_⟩) ?_ ?_;rotate_left
        ·intro w';go_simp;with_reducible rfl
        rotate_left
        ·simp only [Act.put,U,V,Z,i64_w,i32_w];rfl
        refine take_ (i:=18) (N:=some 66) (v:=?_) (a':=?_) #[Y,Y,Y,Y,Y,Y,Y,Y,Y,Y,Y,Y,Y,Y,Y,Y,Y,Y,Y,J,J,J,J,J,J,J,J,J,J,J,J,J,J,J,J,J] rfl rfl (take_ofW HT_.out HW_.out (by kernel_rfl)) (fun _ _ _ h => h) (Or.inl ⟨by rfl,?_⟩) hHeld ?_ ?_;rotate_left
        ·rintro w' ⟨s0,s1,s2,s3,s4,s5,s6,s7⟩;go_simp;with_reducible rfl
        rotate_left
        ·simp only [Act.put,U,V,Z,i64_w,i32_w];rfl
        refine pure_ (i:=19) (N:=some 67) (v:=?_) (a':=?_) #[Y,Y,Y,Y,Y,Y,Y,Y,Y,Y,Y,Y,Y,Y,Y,Y,Y,Y,Y,Y,J,J,J,J,J,J,J,J,J,J,J,J,J,J,J,J] rfl rfl (any_of HT_.out (by kernel_rfl)) (fun _ _ _ h => h) (Or.inl ⟨by rfl,?_⟩) ?_ ?_;rotate_left
        ·intro w';go_simp;with_reducible rfl
        rotate_left
        ·simp only [Act.put,U,V,Z,i64_w,i32_w];rfl
        refine pure_ (i:=20) (N:=some 68) (v:=?_) (a':=?_) #[Y,Y,Y,Y,Y,Y,Y,Y,Y,Y,Y,Y,Y,Y,Y,Y,Y,Y,Y,Y,Y,J,J,J,J,J,J,J,J,J,J,J,J,J,J,J] rfl rfl (any_of HT_.out (by kernel_rfl)) (fun _ _ _ h => h) (Or.inl ⟨by rfl,?_⟩) ?_ ?_;rotate_left
        ·intro w';go_simp;with_reducible rfl
        rotate_left
        ·simp only [Act.put,U,V,Z,i64_w,i32_w];rfl
        refine pure_ (i:=21) (N:=some 69) (v:=?_) (a':=?_) #[Y,Y,Y,Y,Y,Y,Y,Y,Y,Y,Y,Y,Y,Y,Y,Y,Y,Y,Y,Y,Y,Y,J,J,J,J,J,J,J,J,J,J,J,J,J,J] rfl rfl (any_of HT_.out (by kernel_rfl)) (fun _ _ _ h => h) (Or.inl ⟨by rfl,?_⟩) ?_ ?_;rotate_left
        ·intro w';go_simp;with_reducible rfl
        rotate_left
        ·simp only [Act.put,U,V,Z,i64_w,i32_w];rfl
        refine pure_ (i:=22) (N:=some 70) (v:=?_) (a':=?_) #[Y,Y,Y,Y,Y,Y,Y,Y,Y,Y,Y,Y,Y,Y,Y,Y,Y,Y,Y,Y,Y,Y,Y,J,J,J,J,J,J,J,J,J,J,J,J,J] rfl rfl (any_of HT_.out (by kernel_rfl)) (fun _ _ _ h => h) (Or.inl ⟨by rfl,?_⟩) ?_ ?_;rotate_left
        ·intro w';go_simp;with_reducible rfl
        rotate_left
        ·simp only [Act.put,U,V,Z,i64_w,i32_w];rfl
        refine pure_ (i:=23) (N:=some 71) (v:=undef) (a':=?_) #[Y,Y,Y,Y,Y,Y,Y,Y,Y,Y,Y,Y,Y,Y,Y,Y,Y,Y,Y,Y,Y,Y,Y,Y,J,J,J,J,J,J,J,J,J,J,J,J] rfl rfl (any_of HT_.out (by kernel_rfl)) (fun _ _ _ h => h) (Or.inr ⟨by rfl,rfl⟩) ?_ ?_;rotate_left
        ·simp only [Act.put,U,V,Z,i64_w,i32_w];rfl
        refine pure_ (i:=24) (N:=some 72) (v:=undef) (a':=?_) #[Y,Y,Y,Y,Y,Y,Y,Y,Y,Y,Y,Y,Y,Y,Y,Y,Y,Y,Y,Y,Y,Y,Y,Y,Y,J,J,J,J,J,J,J,J,J,J,J] rfl rfl (any_of HT_.out (by kernel_rfl)) (fun _ _ _ h => h) (Or.inr ⟨by rfl,rfl⟩) ?_ ?_;rotate_left
        ·simp only [Act.put,U,V,Z,i64_w,i32_w];rfl
        refine pure_ (i:=25) (N:=some 73) (v:=undef) (a':=?_) #[Y,Y,Y,Y,Y,Y,Y,Y,Y,Y,Y,Y,Y,Y,Y,Y,Y,Y,Y,Y,Y,Y,Y,Y,Y,Y,J,J,J,J,J,J,J,J,J,J] rfl rfl (any_of HT_.out (by kernel_rfl)) (fun _ _ _ h => h) (Or.inr ⟨by rfl,rfl⟩) ?_ ?_;rotate_left
        ·simp only [Act.put,U,V,Z,i64_w,i32_w];rfl
        refine pure_ (i:=26) (N:=some 74) (v:=undef) (a':=?_) #[Y,Y,Y,Y,Y,Y,Y,Y,Y,Y,Y,Y,Y,Y,Y,Y,Y,Y,Y,Y,Y,Y,Y,Y,Y,Y,Y,J,J,J,J,J,J,J,J,J] rfl rfl (any_of HT_.out (by kernel_rfl)) (fun _ _ _ h => h) (Or.inr ⟨by rfl,rfl⟩) ?_ ?_;rotate_left
        ·simp only [Act.put,U,V,Z,i64_w,i32_w];rfl
        refine pure_ (i:=27) (N:=some 75) (v:=undef) (a':=?_) #[Y,Y,Y,Y,Y,Y,Y,Y,Y,Y,Y,Y,Y,Y,Y,Y,Y,Y,Y,Y,Y,Y,Y,Y,Y,Y,Y,Y,J,J,J,J,J,J,J,J] rfl rfl (any_of HT_.out (by kernel_rfl)) (fun _ _ _ h => h) (Or.inr ⟨by rfl,rfl⟩) ?_ ?_;rotate_left
        ·simp only [Act.put,U,V,Z,i64_w,i32_w];rfl
        refine pure_ (i:=28) (N:=some 76) (v:=undef) (a':=?_) #[Y,Y,Y,Y,Y,Y,Y,Y,Y,Y,Y,Y,Y,Y,Y,Y,Y,Y,Y,Y,Y,Y,Y,Y,Y,Y,Y,Y,Y,J,J,J,J,J,J,J] rfl rfl (any_of HT_.out (by kernel_rfl)) (fun _ _ _ h => h) (Or.inr ⟨by rfl,rfl⟩) ?_ ?_;rotate_left
        ·simp only [Act.put,U,V,Z,i64_w,i32_w];rfl
        refine pure_ (i:=29) (N:=some 77) (v:=undef) (a':=?_) #[Y,Y,Y,Y,Y,Y,Y,Y,Y,Y,Y,Y,Y,Y,Y,Y,Y,Y,Y,Y,Y,Y,Y,Y,Y,Y,Y,Y,Y,Y,J,J,J,J,J,J] rfl rfl (any_of HT_.out (by kernel_rfl)) (fun _ _ _ h => h) (Or.inr ⟨by rfl,rfl⟩) ?_ ?_;rotate_left
        ·simp only [Act.put,U,V,Z,i64_w,i32_w];rfl
        refine pure_ (i:=30) (N:=some 78) (v:=undef) (a':=?_) #[Y,Y,Y,Y,Y,Y,Y,Y,Y,Y,Y,Y,Y,Y,Y,Y,Y,Y,Y,Y,Y,Y,Y,Y,Y,Y,Y,Y,Y,Y,Y,J,J,J,J,J] rfl rfl (any_of HT_.out (by kernel_rfl)) (fun _ _ _ h => h) (Or.inr ⟨by rfl,rfl⟩) ?_ ?_;rotate_left
        ·simp only [Act.put,U,V,Z,i64_w,i32_w];rfl
        refine pure_ (i:=31) (N:=some 79) (v:=undef) (a':=?_) #[Y,Y,Y,Y,Y,Y,Y,Y,Y,Y,Y,Y,Y,Y,Y,Y,Y,Y,Y,Y,Y,Y,Y,Y,Y,Y,Y,Y,Y,Y,Y,Y,J,J,J,J] rfl rfl (any_of HT_.out (by kernel_rfl)) (fun _ _ _ h => h) (Or.inr ⟨by rfl,rfl⟩) ?_ ?_;rotate_left
        ·simp only [Act.put,U,V,Z,i64_w,i32_w];rfl
        refine pure_ (i:=32) (N:=some 80) (v:=undef) (a':=?_) #[Y,Y,Y,Y,Y,Y,Y,Y,Y,Y,Y,Y,Y,Y,Y,Y,Y,Y,Y,Y,Y,Y,Y,Y,Y,Y,Y,Y,Y,Y,Y,Y,Y,J,J,J] rfl rfl (any_of HT_.out (by kernel_rfl)) (fun _ _ _ h => h) (Or.inr ⟨by rfl,rfl⟩) ?_ ?_;rotate_left
        ·simp only [Act.put,U,V,Z,i64_w,i32_w];rfl
        refine pure_ (i:=33) (N:=some 81) (v:=undef) (a':=?_) #[Y,Y,Y,Y,Y,Y,Y,Y,Y,Y,Y,Y,Y,Y,Y,Y,Y,Y,Y,Y,Y,Y,Y,Y,Y,Y,Y,Y,Y,Y,Y,Y,Y,Y,J,J] rfl rfl (any_of HT_.out (by kernel_rfl)) (fun _ _ _ h => h) (Or.inr ⟨by rfl,rfl⟩) ?_ ?_;rotate_left
        ·simp only [Act.put,U,V,Z,i64_w,i32_w];rfl
        refine pure_ (i:=34) (N:=some 82) (v:=undef) (a':=?_) #[Y,Y,Y,Y,Y,Y,Y,Y,Y,Y,Y,Y,Y,Y,Y,Y,Y,Y,Y,Y,Y,Y,Y,Y,Y,Y,Y,Y,Y,Y,Y,Y,Y,Y,Y,J] rfl rfl (any_of HT_.out (by kernel_rfl)) (fun _ _ _ h => h) (Or.inr ⟨by rfl,rfl⟩) ?_ ?_;rotate_left
        ·simp only [Act.put,U,V,Z,i64_w,i32_w];rfl
        refine pure_ (i:=35) (N:=some 83) (v:=?_) (a':=?_) #[Y,Y,Y,Y,Y,Y,Y,Y,Y,Y,Y,Y,Y,Y,Y,Y,Y,Y,Y,Y,Y,Y,Y,Y,Y,Y,Y,Y,Y,Y,Y,Y,Y,Y,Y,Y] rfl rfl (any_of HT_.out (by kernel_rfl)) (fun _ _ _ h => h) (Or.inl ⟨by rfl,?_⟩) ?_ ?_;rotate_left
        ·intro w';go_simp;with_reducible rfl
        rotate_left
        ·simp only [Act.put,U,V,Z,i64_w,i32_w];rfl
        refine done_ (done_of HT_.out (by kernel_rfl)) ?_
        try go_wp2
        (try simp only [← hl6_3])
        go_roundg k3
        case measure => have:=HK1.out; have:=HK2.out; have:=HK3.out; omega
        case rel => exact ⟨(x6_3),(wrap64 (x9_3 + 1)),(by first | rfl | (simp; done) | (simp [*]; done)),H',⟨by have:=HK1.out; have:=HK2.out; have:=HK3.out; omega⟩,⟨by (try simp only [hl6_2]); (try simp only [hl6_3]); exact HO_5.out⟩,⟨by (try simp only [hl6_2]); (try simp only [hl6_3]); exact HO_6.out⟩,⟨by (try simp only [hl6_2]); (try simp only [hl6_3]); exact p3.out⟩,⟨by repeat (first | (with_reducible first | exact HB.out | apply below_alloc | apply pw_below_drewN | apply below_drew1 | refine below_set ?_ r3.out | refine below_set ?_ r6.out) | exact HB.out)⟩⟩
       rw [if_pos c37] at H;have c37b0 : ((rd t534 ((rd_T34 l0_1 x9_3).f0)) == (wrap64 (((rd_T34 l0_1 x9_3).f2) + (rd t534 ((rd_T34 l0_1 x9_3).f1))))) = true:=beq_iff_eq.mpr c37;have c37b1 : ((rd t534 ((rd_T34 l0_1 x9_3).f0)) != (wrap64 (((rd_T34 l0_1 x9_3).f2) + (rd t534 ((rd_T34 l0_1 x9_3).f1))))) = false:=bne_eq_false_iff_eq.mpr c37;clear c37
       by_cases c38 : ((rd_T34 l0_1 x9_3).f1) < (x6_3.length : Int)
       case neg =>
        rw [if_neg c38] at H;exact absurd H (by simp)
       rw [if_pos c38] at H;have c38b0 : decide (((rd_T34 l0_1 x9_3).f1) < (x6_3.length : Int)) = true:=decide_eq_true c38;clear c38
       by_cases c39 : ((rd_T34 l0_1 x9_3).f0) < (x6_3.length : Int)
       case neg =>
        rw [if_neg c39] at H;exact absurd H (by simp)
       rw [if_pos c39] at H;have c39b0 : decide (((rd_T34 l0_1 x9_3).f0) < (x6_3.length : Int)) = true:=decide_eq_true c39;clear c39
       by_cases c40 : (wrap64 ((rd x6_3 ((rd_T34 l0_1 x9_3).f1)) + 1)) < (rd x6_3 ((rd_T34 l0_1 x9_3).f0))
       case neg =>
        rw [if_neg c40] at H;have c40b0 : decide ((wrap64 ((rd x6_3 ((rd_T34 l0_1 x9_3).f1)) + 1)) < (rd x6_3 ((rd_T34 l0_1 x9_3).f0))) = false:=decide_eq_false c40;clear c40;have H':=zx H;clear H;have hcz51_0 : wr.cell? ⟨p7,0,none⟩ = some (.int .i64 a0_0):=(blk_cell p3.out 0).trans rfl;have hcz51_1 : wr.cell? ⟨p7,1,none⟩ = some (.slice A0_1 l0_1.length c0_1):=(blk_cell p3.out 1).trans rfl;have hfz51_0:=blk_frozen p3.out 0;have hfz51_1:=blk_frozen p3.out 1;have p542 : 0 ≤ (x9_3 : Int):=of_decide_eq_true (by first | (with_reducible assumption) | assumption);have q542 : x9_3 < (l0_1.length : Int):=of_decide_eq_true (by first | (with_reducible assumption) | assumption);obtain ⟨q7,e542,p9,q0,q3,q4,q5⟩:=at_T34 t2.out x9_3 p542 q542;cases e542;replace p9:=(HB.out.cell (World.block_lt_of_cell? w _ p9)).trans p9;replace q0:=(HB.out.cell (World.block_lt_of_cell? w _ q0)).trans q0;replace q3:=(HB.out.cell (World.block_lt_of_cell? w _ q3)).trans q3;replace q4:=(HB.out.cell (World.block_lt_of_cell? w _ q4)).trans q4;replace q5:=(HB.out.cell (World.block_lt_of_cell? w _ q5)).trans q5;replace p542:=eq_true p542;replace q542:=eq_true q542
        try go_wp2_with (first | ((with_reducible refine gate_dst (N:=10) rfl ?_); refine box_event ?hg (N:=10) ?hd (cs:=#[.int .i64 0,.int .i64 0,.int .i64 0,.int .i64 0,.int .i64 0]) (t:=34) ?hr ?_; (case hd => rfl); (case hg => rfl); (case hr => first | (go_simp; done) | (go_simp; rfl)); intro p0 hg w52 hbox hb; have n0_:=zx (Kd.R_below HO_5.out hb); have n1_:=zx (Kd.R_below HO_6.out hb); have n2_:=zx (blk_below (g:=p7) (o:=.cells #[.int .i64 a0_0,.slice (some q7) l0_1.length c0_1] 25 (0,0)) p3.out hb); have n3_:=zx (below_step HB.out hb); have n4_:=zx (hbox); have n5_:=zx ((by rw [hg]; exact (below_size HB.out) : w.heap.size ≤ p0)); have n6_:=zx ((by rw [hg]; exact (below_size HB.out) : w.heap.size ≤ p0)); have n7_:=zx ((by rw [hg]; exact Nat.ne_of_lt (blk_lt (g:=p7) (o:=.cells #[.int .i64 a0_0,.slice (some q7) l0_1.length c0_1] 25 (0,0)) p3.out) : p7 ≠ p0)); have n8_:=zx ((by rw [hg]; exact Nat.ne_of_gt (blk_lt (g:=p7) (o:=.cells #[.int .i64 a0_0,.slice (some q7) l0_1.length c0_1] 25 (0,0)) p3.out) : p0 ≠ p7)); clear HO_5; clear HO_6; clear p3; clear HB; have HO_5:=n0_; have HO_6:=n1_; have p3:=n2_; have HB:=n3_; have p4:=n4_; have u9:=n5_; have r6:=n6_; have p5:=n7_; have r2:=n8_; clear n0_ n1_ n2_ n3_ n4_ n5_ n6_ n7_ n8_; clear hb hbox hg; have hnb53:=r2.out; have hnc53:=p5.out; have hcz54_0 : w52.cell? ⟨p0,0,none⟩ = some (.int .i64 0):=(blk_cell p4.out 0).trans rfl; have hcz54_1 : w52.cell? ⟨p0,1,none⟩ = some (.int .i64 0):=(blk_cell p4.out 1).trans rfl; have hcz54_2 : w52.cell? ⟨p0,2,none⟩ = some (.int .i64 0):=(blk_cell p4.out 2).trans rfl; have hcz54_3 : w52.cell? ⟨p0,3,none⟩ = some (.int .i64 0):=(blk_cell p4.out 3).trans rfl; have hcz54_4 : w52.cell? ⟨p0,4,none⟩ = some (.int .i64 0):=(blk_cell p4.out 4).trans rfl; have hfz54_0:=blk_frozen p4.out 0; have hfz54_1:=blk_frozen p4.out 1; have hfz54_2:=blk_frozen p4.out 2; have hfz54_3:=blk_frozen p4.out 3; have hfz54_4:=blk_frozen p4.out 4))
        have n0_ : Aside0 (Kd.R (Kd.int .i64) 3 (((((w52.setCell ⟨p0,0,none⟩ (.int .i64 ((rd_T34 l0_1 x9_3).f0))).setCell ⟨p0,1,none⟩ (.int .i64 ((rd_T34 l0_1 x9_3).f1))).setCell ⟨p0,2,none⟩ (.int .i64 ((rd_T34 l0_1 x9_3).f2))).setCell ⟨p0,3,none⟩ (.int .i64 ((rd_T34 l0_1 x9_3).f3))).setCell ⟨p0,4,none⟩ (.int .i64 ((rd_T34 l0_1 x9_3).f4))) w.heap.size (fun k_ => some k_ ≠ (.slice (some ⟨go24,0,none⟩) x6_3.length co24 : Value).ownBlock) v535 t534):=⟨by exact Kd.R_mono (Kd.R_far (p:=⟨p0,4,none⟩) (Kd.R_far (p:=⟨p0,3,none⟩) (Kd.R_far (p:=⟨p0,2,none⟩) (Kd.R_far (p:=⟨p0,1,none⟩) (Kd.R_far (p:=⟨p0,0,none⟩) (Kd.R_types HO_5.out p4.out (by decide)) (fun _ hk => hk.2) (.int .i64 ((rd_T34 l0_1 x9_3).f0))) (fun _ hk => hk.2) (.int .i64 ((rd_T34 l0_1 x9_3).f1))) (fun _ hk => hk.2) (.int .i64 ((rd_T34 l0_1 x9_3).f2))) (fun _ hk => hk.2) (.int .i64 ((rd_T34 l0_1 x9_3).f3))) (fun _ hk => hk.2) (.int .i64 ((rd_T34 l0_1 x9_3).f4))) (fun _ hk => hk.1)⟩
        have n1_ : Aside0 (Kd.R (Kd.int .i64) 3 (((((w52.setCell ⟨p0,0,none⟩ (.int .i64 ((rd_T34 l0_1 x9_3).f0))).setCell ⟨p0,1,none⟩ (.int .i64 ((rd_T34 l0_1 x9_3).f1))).setCell ⟨p0,2,none⟩ (.int .i64 ((rd_T34 l0_1 x9_3).f2))).setCell ⟨p0,3,none⟩ (.int .i64 ((rd_T34 l0_1 x9_3).f3))).setCell ⟨p0,4,none⟩ (.int .i64 ((rd_T34 l0_1 x9_3).f4))) w.heap.size (fun k_ => some k_ ≠ (v535 : Value).ownBlock) (.slice (some ⟨go24,0,none⟩) x6_3.length co24) x6_3):=⟨by exact Kd.R_mono (Kd.R_far (p:=⟨p0,4,none⟩) (Kd.R_far (p:=⟨p0,3,none⟩) (Kd.R_far (p:=⟨p0,2,none⟩) (Kd.R_far (p:=⟨p0,1,none⟩) (Kd.R_far (p:=⟨p0,0,none⟩) (Kd.R_types HO_6.out p4.out (by decide)) (fun _ hk => hk.2) (.int .i64 ((rd_T34 l0_1 x9_3).f0))) (fun _ hk => hk.2) (.int .i64 ((rd_T34 l0_1 x9_3).f1))) (fun _ hk => hk.2) (.int .i64 ((rd_T34 l0_1 x9_3).f2))) (fun _ hk => hk.2) (.int .i64 ((rd_T34 l0_1 x9_3).f3))) (fun _ hk => hk.2) (.int .i64 ((rd_T34 l0_1 x9_3).f4))) (fun _ hk => hk.1)⟩
        have n2_ : Aside0 ((((((w52.setCell ⟨p0,0,none⟩ (.int .i64 ((rd_T34 l0_1 x9_3).f0))).setCell ⟨p0,1,none⟩ (.int .i64 ((rd_T34 l0_1 x9_3).f1))).setCell ⟨p0,2,none⟩ (.int .i64 ((rd_T34 l0_1 x9_3).f2))).setCell ⟨p0,3,none⟩ (.int .i64 ((rd_T34 l0_1 x9_3).f3))).setCell ⟨p0,4,none⟩ (.int .i64 ((rd_T34 l0_1 x9_3).f4))).heap[p7]? = some (.cells #[.int .i64 a0_0,.slice (some q7) l0_1.length c0_1] 25 (0,0))):=⟨by refine blk_far ?_ p5.out _; refine blk_far ?_ p5.out _; refine blk_far ?_ p5.out _; refine blk_far ?_ p5.out _; refine blk_far ?_ p5.out _; exact p3.out⟩
        have n3_ : Aside0 ((((((w52.setCell ⟨p0,0,none⟩ (.int .i64 ((rd_T34 l0_1 x9_3).f0))).setCell ⟨p0,1,none⟩ (.int .i64 ((rd_T34 l0_1 x9_3).f1))).setCell ⟨p0,2,none⟩ (.int .i64 ((rd_T34 l0_1 x9_3).f2))).setCell ⟨p0,3,none⟩ (.int .i64 ((rd_T34 l0_1 x9_3).f3))).setCell ⟨p0,4,none⟩ (.int .i64 ((rd_T34 l0_1 x9_3).f4))).heap[p0]? = some (.cells #[.int .i64 ((rd_T34 l0_1 x9_3).f0),.int .i64 ((rd_T34 l0_1 x9_3).f1),.int .i64 ((rd_T34 l0_1 x9_3).f2),.int .i64 ((rd_T34 l0_1 x9_3).f3),.int .i64 ((rd_T34 l0_1 x9_3).f4)] 34 (0,0))):=⟨by refine blk_put (cs:=#[.int .i64 ((rd_T34 l0_1 x9_3).f0),.int .i64 ((rd_T34 l0_1 x9_3).f1),.int .i64 ((rd_T34 l0_1 x9_3).f2),.int .i64 ((rd_T34 l0_1 x9_3).f3),.int .i64 0]) ?_ 4 _ rfl; refine blk_put (cs:=#[.int .i64 ((rd_T34 l0_1 x9_3).f0),.int .i64 ((rd_T34 l0_1 x9_3).f1),.int .i64 ((rd_T34 l0_1 x9_3).f2),.int .i64 0,.int .i64 0]) ?_ 3 _ rfl; refine blk_put (cs:=#[.int .i64 ((rd_T34 l0_1 x9_3).f0),.int .i64 ((rd_T34 l0_1 x9_3).f1),.int .i64 0,.int .i64 0,.int .i64 0]) ?_ 2 _ rfl; refine blk_put (cs:=#[.int .i64 ((rd_T34 l0_1 x9_3).f0),.int .i64 0,.int .i64 0,.int .i64 0,.int .i64 0]) ?_ 1 _ rfl; refine blk_put (cs:=#[.int .i64 0,.int .i64 0,.int .i64 0,.int .i64 0,.int .i64 0]) ?_ 0 _ rfl; exact p4.out⟩
        have n4_ : Aside0 (Below w.heap.size w (((((w52.setCell ⟨p0,0,none⟩ (.int .i64 ((rd_T34 l0_1 x9_3).f0))).setCell ⟨p0,1,none⟩ (.int .i64 ((rd_T34 l0_1 x9_3).f1))).setCell ⟨p0,2,none⟩ (.int .i64 ((rd_T34 l0_1 x9_3).f2))).setCell ⟨p0,3,none⟩ (.int .i64 ((rd_T34 l0_1 x9_3).f3))).setCell ⟨p0,4,none⟩ (.int .i64 ((rd_T34 l0_1 x9_3).f4)))):=⟨by repeat (first | (with_reducible first | exact HB.out | apply below_alloc | apply pw_below_drewN | apply below_drew1 | refine below_set ?_ r3.out | refine below_set ?_ r6.out) | exact HB.out)⟩
        (try clear HO_5)
        (try clear HO_6)
        (try clear p3)
        (try clear p4)
        (try clear HB)
        generalize (((((w52.setCell ⟨p0,0,none⟩ (.int .i64 ((rd_T34 l0_1 x9_3).f0))).setCell ⟨p0,1,none⟩ (.int .i64 ((rd_T34 l0_1 x9_3).f1))).setCell ⟨p0,2,none⟩ (.int .i64 ((rd_T34 l0_1 x9_3).f2))).setCell ⟨p0,3,none⟩ (.int .i64 ((rd_T34 l0_1 x9_3).f3))).setCell ⟨p0,4,none⟩ (.int .i64 ((rd_T34 l0_1 x9_3).f4))) = w55 at n0_ n1_ n2_ n3_ n4_ ⊢;have HO_5:=n0_;have HO_6:=n1_;have p3:=n2_;have p4:=n3_;have HB:=n4_;clear n0_ n1_ n2_ n3_ n4_;have n0_:=zx (Kd.R_drew HO_5.out);have n1_:=zx (Kd.R_drew HO_6.out);have n2_:=zx (blk_drew p3.out);have n3_:=zx (blk_drew p4.out);have n4_:=zx (below_drew1 HB.out);clear HO_5;clear HO_6;clear p3;clear p4;clear HB;have HO_5:=n0_;have HO_6:=n1_;have p3:=n2_;have p4:=n3_;have HB:=n4_;clear n0_ n1_ n2_ n3_ n4_;obtain ⟨Ao57,co57,eo57⟩:=Kd.R_slice HO_5.out
        (first | subst eo57 | (injection eo57 with f1_ f2_ f3_; have f4_:=f1_.symm; have f5_:=f3_.symm; clear f1_ f2_ f3_; subst f4_; subst f5_))
        have p544 : 0 ≤ (((rd_T34 l0_1 x9_3).f1) : Int):=of_decide_eq_true (by first | (with_reducible assumption) | assumption);have q544 : ((rd_T34 l0_1 x9_3).f1) < (t534.length : Int):=of_decide_eq_true (by first | (with_reducible assumption) | assumption);obtain ⟨q8,e544,q9⟩:=Kd.at_int (Kd.R_reads' HO_5.out).2.2 ((rd_T34 l0_1 x9_3).f1) p544 q544;cases e544;replace p544:=eq_true p544;replace q544:=eq_true q544;have p545 : 0 ≤ (((rd_T34 l0_1 x9_3).f0) : Int):=of_decide_eq_true (by first | (with_reducible assumption) | assumption);have q545 : ((rd_T34 l0_1 x9_3).f0) < (t534.length : Int):=of_decide_eq_true (by first | (with_reducible assumption) | assumption);obtain ⟨t3,e545,r4⟩:=Kd.at_int (Kd.R_reads' HO_5.out).2.2 ((rd_T34 l0_1 x9_3).f0) p545 q545;obtain rfl : q8 = t3:=(by injection e545)
        replace p545:=eq_true p545;replace q545:=eq_true q545;have p546 : 0 ≤ (((rd_T34 l0_1 x9_3).f1) : Int):=of_decide_eq_true (by first | (with_reducible assumption) | assumption);have q546 : ((rd_T34 l0_1 x9_3).f1) < (t534.length : Int):=of_decide_eq_true (by first | (with_reducible assumption) | assumption);obtain ⟨t4,e546,r5⟩:=Kd.at_int (Kd.R_reads' HO_5.out).2.2 ((rd_T34 l0_1 x9_3).f1) p546 q546;obtain rfl : q8 = t4:=(by injection e546)
        replace p546:=eq_true p546;replace q546:=eq_true q546;have p547 : 0 ≤ (((rd_T34 l0_1 x9_3).f1) : Int):=of_decide_eq_true (by first | (with_reducible assumption) | assumption);have q547 : ((rd_T34 l0_1 x9_3).f1) < (x6_3.length : Int):=of_decide_eq_true (by first | (with_reducible assumption) | assumption);obtain ⟨v0,e547,r0⟩:=Kd.at_int (Kd.R_reads' HO_6.out).2.2 ((rd_T34 l0_1 x9_3).f1) p547 q547;obtain rfl : (⟨go24,0,none⟩ : Addr) = v0:=(by injection e547)
        (first | simp only [add_plain] at r0 | simp only [add_at] at r0 | simp only [Addr.add,Nat.zero_add] at r0 | skip)
        replace p547:=eq_true p547;replace q547:=eq_true q547;have p548 : 0 ≤ (((rd_T34 l0_1 x9_3).f0) : Int):=of_decide_eq_true (by first | (with_reducible assumption) | assumption);have q548 : ((rd_T34 l0_1 x9_3).f0) < (x6_3.length : Int):=of_decide_eq_true (by first | (with_reducible assumption) | assumption);obtain ⟨v2,e548,r1⟩:=Kd.at_int (Kd.R_reads' HO_6.out).2.2 ((rd_T34 l0_1 x9_3).f0) p548 q548;obtain rfl : (⟨go24,0,none⟩ : Addr) = v2:=(by injection e548)
        (first | simp only [add_plain] at r1 | simp only [add_at] at r1 | simp only [Addr.add,Nat.zero_add] at r1 | skip)
        replace p548:=eq_true p548;replace q548:=eq_true q548;refine start_ (n:=36) (S:=fun w' => w'.cell? ⟨p0,0,none⟩ = some (.int .i64 ((rd_T34 l0_1 x9_3).f0)) ∧ w'.cell? ⟨p0,1,none⟩ = some (.int .i64 ((rd_T34 l0_1 x9_3).f1)) ∧ w'.cell? ⟨p0,2,none⟩ = some (.int .i64 ((rd_T34 l0_1 x9_3).f2)) ∧ w'.cell? ⟨p0,3,none⟩ = some (.int .i64 ((rd_T34 l0_1 x9_3).f3)) ∧ w'.cell? ⟨p0,4,none⟩ = some (.int .i64 ((rd_T34 l0_1 x9_3).f4)) ∧ w'.cell? (q8.add (((rd_T34 l0_1 x9_3).f1)).toNat) = some (.int .i64 (rd t534 ((rd_T34 l0_1 x9_3).f1))) ∧ w'.cell? (q8.add (((rd_T34 l0_1 x9_3).f0)).toNat) = some (.int .i64 (rd t534 ((rd_T34 l0_1 x9_3).f0))) ∧ w'.cell? (q8.add (((rd_T34 l0_1 x9_3).f1)).toNat) = some (.int .i64 (rd t534 ((rd_T34 l0_1 x9_3).f1))) ∧ w'.cell? ⟨go24,(((rd_T34 l0_1 x9_3).f1)).toNat,none⟩ = some (.int .i64 (rd x6_3 ((rd_T34 l0_1 x9_3).f1))) ∧ w'.cell? ⟨go24,(((rd_T34 l0_1 x9_3).f0)).toNat,none⟩ = some (.int .i64 (rd x6_3 ((rd_T34 l0_1 x9_3).f0)))) (ds:=[]) #[J,J,J,J,J,J,J,J,J,J,J,J,J,J,J,J,J,J,J,J,J,J,J,J,J,J,J,J,J,J,J,J,J,J,J,J] (by kernel_rfl) rfl rfl ⟨(blk_cell p4.out 0).trans rfl,(blk_cell p4.out 1).trans rfl,(blk_cell p4.out 2).trans rfl,(blk_cell p4.out 3).trans rfl,(blk_cell p4.out 4).trans rfl,q9,r4,r5,r0,r1⟩ (fun hHeld => ?_); refine with_tabW spec_l3Steps.tab15 spec_l3Steps.bits15 (fun HT_ HW_ => ?_);generalize w55.drew = w56 at HO_5 HO_6 p3 p4 HB q9 r4 r5 r0 r1 hHeld ⊢;refine pure_ (i:=0) (N:=some 48) (v:=?_) (a':=?_) #[Y,J,J,J,J,J,J,J,J,J,J,J,J,J,J,J,J,J,J,J,J,J,J,J,J,J,J,J,J,J,J,J,J,J,J,J] rfl rfl (any_of HT_.out (by kernel_rfl)) (fun _ _ _ h => h) (Or.inl ⟨by rfl,?_⟩) ?_ ?_;rotate_left
        ·intro w';go_simp;with_reducible rfl
        rotate_left
        ·simp only [Act.put,U,V,Z,i64_w,i32_w];rfl
        refine pure_ (i:=1) (N:=some 49) (v:=?_) (a':=?_) #[Y,Y,J,J,J,J,J,J,J,J,J,J,J,J,J,J,J,J,J,J,J,J,J,J,J,J,J,J,J,J,J,J,J,J,J,J] rfl rfl (any_of HT_.out (by kernel_rfl)) (fun _ _ _ h => h) (Or.inl ⟨by rfl,?_⟩) ?_ ?_;rotate_left
        ·intro w';go_simp;with_reducible rfl
        rotate_left
        ·simp only [Act.put,U,V,Z,i64_w,i32_w];rfl
        refine take_ (i:=2) (N:=some 50) (v:=?_) (a':=?_) #[Y,Y,Y,J,J,J,J,J,J,J,J,J,J,J,J,J,J,J,J,J,J,J,J,J,J,J,J,J,J,J,J,J,J,J,J,J] rfl rfl (take_ofW HT_.out HW_.out (by kernel_rfl)) (fun _ _ _ h => h) (Or.inl ⟨by rfl,?_⟩) hHeld ?_ ?_;rotate_left
        ·rintro w' ⟨s0,s1,s2,s3,s4,s5,s6,s7,s8,s9⟩;go_simp;with_reducible rfl
        rotate_left
        ·simp only [Act.put,U,V,Z,i64_w,i32_w];rfl
        refine pure_ (i:=3) (N:=some 51) (v:=?_) (a':=?_) #[Y,Y,Y,Y,J,J,J,J,J,J,J,J,J,J,J,J,J,J,J,J,J,J,J,J,J,J,J,J,J,J,J,J,J,J,J,J] rfl rfl (any_of HT_.out (by kernel_rfl)) (fun _ _ _ h => h) (Or.inl ⟨by rfl,?_⟩) ?_ ?_;rotate_left
        ·intro w';go_simp;with_reducible rfl
        rotate_left
        ·simp only [Act.put,U,V,Z,i64_w,i32_w];rfl
        refine take_ (i:=4) (N:=some 52) (v:=?_) (a':=?_) #[Y,Y,Y,Y,Y,J,J,J,J,J,J,J,J,J,J,J,J,J,J,J,J,J,J,J,J,J,J,J,J,J,J,J,J,J,J,J] rfl rfl (take_ofW HT_.out HW_.out (by kernel_rfl)) (fun _ _ _ h => h) (Or.inl ⟨by rfl,?_⟩) hHeld ?_ ?_;rotate_left
        ·rintro w' ⟨s0,s1,s2,s3,s4,s5,s6,s7,s8,s9⟩;go_simp;with_reducible rfl
        rotate_left
        ·simp only [Act.put,U,V,Z,i64_w,i32_w];rfl
        refine pure_ (i:=5) (N:=some 53) (v:=?_) (a':=?_) #[Y,Y,Y,Y,Y,Y,J,J,J,J,J,J,J,J,J,J,J,J,J,J,J,J,J,J,J,J,J,J,J,J,J,J,J,J,J,J] rfl rfl (any_of HT_.out (by kernel_rfl)) (fun _ _ _ h => h) (Or.inl ⟨by rfl,?_⟩) ?_ ?_;rotate_left
        ·intro w';go_simp;with_reducible rfl
        rotate_left
        ·simp only [Act.put,U,V,Z,i64_w,i32_w];rfl
        refine pure_ (i:=6) (N:=some 54) (v:=?_) (a':=?_) #[Y,Y,Y,Y,Y,Y,Y,J,J,J,J,J,J,J,J,J,J,J,J,J,J,J,J,J,J,J,J,J,J,J,J,J,J,J,J,J] rfl rfl (any_of HT_.out (by kernel_rfl)) (fun _ _ _ h => h) (Or.inl ⟨by rfl,?_⟩) ?_ ?_;rotate_left
        ·intro w';go_simp;with_reducible rfl
        rotate_left
        ·simp only [Act.put,U,V,Z,i64_w,i32_w];rfl
        refine pure_ (i:=7) (N:=some 55) (v:=?_) (a':=?_) #[Y,Y,Y,Y,Y,Y,Y,Y,J,J,J,J,J,J,J,J,J,J,J,J,J,J,J,J,J,J,J,J,J,J,J,J,J,J,J,J] rfl rfl (any_of HT_.out (by kernel_rfl)) (fun _ _ _ h => h) (Or.inl ⟨by rfl,?_⟩) ?_ ?_;rotate_left
        ·intro w';go_simp;with_reducible rfl
        rotate_left
        ·simp only [Act.put,U,V,Z,i64_w,i32_w];rfl
        refine pure_ (i:=8) (N:=some 56) (v:=?_) (a':=?_) #[Y,Y,Y,Y,Y,Y,Y,Y,Y,J,J,J,J,J,J,J,J,J,J,J,J,J,J,J,J,J,J,J,J,J,J,J,J,J,J,J] rfl rfl (any_of HT_.out (by kernel_rfl)) (fun _ _ _ h => h) (Or.inl ⟨by rfl,?_⟩) ?_ ?_;rotate_left
        ·intro w';go_simp;with_reducible rfl
        rotate_left
        ·simp only [Act.put,U,V,Z,i64_w,i32_w];rfl
        refine pure_ (i:=12) (N:=some 60) (v:=?_) (a':=?_) #[Y,Y,Y,Y,Y,Y,Y,Y,Y,J,J,J,Y,J,J,J,J,J,J,J,J,J,J,J,J,J,J,J,J,J,J,J,J,J,J,J] rfl rfl (any_of HT_.out (by kernel_rfl)) (fun _ _ _ h => h) (Or.inl ⟨by rfl,?_⟩) ?_ ?_;rotate_left
        ·intro w';go_simp;with_reducible rfl
        rotate_left
        ·simp only [Act.put,U,V,Z,i64_w,i32_w];rfl
        refine pure_ (i:=14) (N:=some 62) (v:=?_) (a':=?_) #[Y,Y,Y,Y,Y,Y,Y,Y,Y,J,J,J,Y,J,Y,J,J,J,J,J,J,J,J,J,J,J,J,J,J,J,J,J,J,J,J,J] rfl rfl (any_of HT_.out (by kernel_rfl)) (fun _ _ _ h => h) (Or.inl ⟨by rfl,?_⟩) ?_ ?_;rotate_left
        ·intro w';go_simp;with_reducible rfl
        rotate_left
        ·simp only [Act.put,U,V,Z,i64_w,i32_w];rfl
        refine pure_ (i:=15) (N:=some 63) (v:=?_) (a':=?_) #[Y,Y,Y,Y,Y,Y,Y,Y,Y,J,J,J,Y,J,Y,Y,J,J,J,J,J,J,J,J,J,J,J,J,J,J,J,J,J,J,J,J] rfl rfl (any_of HT_.out (by kernel_rfl)) (fun _ _ _ h => h) (Or.inl ⟨by rfl,?_⟩) ?_ ?_;rotate_left
        ·intro w';go_simp;with_reducible rfl
        rotate_left
        ·simp only [Act.put,U,V,Z,i64_w,i32_w];rfl
        refine take_ (i:=9) (N:=some 57) (v:=?_) (a':=?_) #[Y,Y,Y,Y,Y,Y,Y,Y,Y,Y,J,J,Y,J,Y,Y,J,J,J,J,J,J,J,J,J,J,J,J,J,J,J,J,J,J,J,J] rfl rfl (take_ofW HT_.out HW_.out (by kernel_rfl)) (fun _ _ _ h => h) (Or.inl ⟨by rfl,?_⟩) hHeld ?_ ?_;rotate_left
        ·rintro w' ⟨s0,s1,s2,s3,s4,s5,s6,s7,s8,s9⟩;go_simp;with_reducible rfl
        rotate_left
        ·simp only [Act.put,U,V,Z,i64_w,i32_w];rfl
        refine pure_ (i:=10) (N:=some 58) (v:=?_) (a':=?_) #[Y,Y,Y,Y,Y,Y,Y,Y,Y,Y,Y,J,Y,J,Y,Y,J,J,J,J,J,J,J,J,J,J,J,J,J,J,J,J,J,J,J,J] rfl rfl (any_of HT_.out (by kernel_rfl)) (fun _ _ _ h => h) (Or.inl ⟨by rfl,?_⟩) ?_ ?_;rotate_left
        ·intro w';go_simp;with_reducible rfl
        rotate_left
        ·simp only [Act.put,U,V,Z,i64_w,i32_w];rfl
        refine take_ (i:=11) (N:=some 59) (v:=?_) (a':=?_) #[Y,Y,Y,Y,Y,Y,Y,Y,Y,Y,Y,Y,Y,J,Y,Y,J,J,J,J,J,J,J,J,J,J,J,J,J,J,J,J,J,J,J,J] rfl rfl (take_ofW HT_.out HW_.out (by kernel_rfl)) (fun _ _ _ h => h) (Or.inl ⟨by rfl,?_⟩) hHeld ?_ ?_;rotate_left
        ·rintro w' ⟨s0,s1,s2,s3,s4,s5,s6,s7,s8,s9⟩;go_simp;with_reducible rfl
        rotate_left
        ·simp only [Act.put,U,V,Z,i64_w,i32_w];rfl
        refine take_ (i:=13) (N:=some 61) (v:=?_) (a':=?_) #[Y,Y,Y,Y,Y,Y,Y,Y,Y,Y,Y,Y,Y,Y,Y,Y,J,J,J,J,J,J,J,J,J,J,J,J,J,J,J,J,J,J,J,J] rfl rfl (take_ofW HT_.out HW_.out (by kernel_rfl)) (fun _ _ _ h => h) (Or.inl ⟨by rfl,?_⟩) hHeld ?_ ?_;rotate_left
        ·rintro w' ⟨s0,s1,s2,s3,s4,s5,s6,s7,s8,s9⟩;go_simp;with_reducible rfl
        rotate_left
        ·simp only [Act.put,U,V,Z,i64_w,i32_w];rfl
        refine take_ (i:=16) (N:=some 64) (v:=?_) (a':=?_) #[Y,Y,Y,Y,Y,Y,Y,Y,Y,Y,Y,Y,Y,Y,Y,Y,Y,J,J,J,J,J,J,J,J,J,J,J,J,J,J,J,J,J,J,J] rfl rfl (take_ofW HT_.out HW_.out (by kernel_rfl)) (fun _ _ _ h => h) (Or.inl ⟨by rfl,?_⟩) hHeld ?_ ?_;rotate_left
        ·rintro w' ⟨s0,s1,s2,s3,s4,s5,s6,s7,s8,s9⟩;go_simp;with_reducible rfl
        rotate_left
        ·simp only [Act.put,U,V,Z,i64_w,i32_w];rfl
        refine pure_ (i:=17) (N:=some 65) (v:=?_) (a':=?_) #[Y,Y,Y,Y,Y,Y,Y,Y,Y,Y,Y,Y,Y,Y,Y,Y,Y,Y,J,J,J,J,J,J,J,J,J,J,J,J,J,J,J,J,J,J] rfl rfl (any_of HT_.out (by kernel_rfl)) (fun _ _ _ h => h) (Or.inl ⟨by rfl,?_⟩) ?_ ?_;rotate_left
        ·intro w';go_simp;with_reducible rfl
        rotate_left
        ·simp only [Act.put,U,V,Z,i64_w,i32_w];rfl
        refine take_ (i:=18) (N:=some 66) (v:=?_) (a':=?_) #[Y,Y,Y,Y,Y,Y,Y,Y,Y,Y,Y,Y,Y,Y,Y,Y,Y,Y,Y,J,J,J,J,J,J,J,J,J,J,J,J,J,J,J,J,J] rfl rfl (take_ofW HT_.out HW_.out (by kernel_rfl)) (fun _ _ _ h => h) (Or.inl ⟨by rfl,?_⟩) hHeld ?_ ?_;rotate_left
        ·rintro w' ⟨s0,s1,s2,s3,s4,s5,s6,s7,s8,s9⟩;go_simp;with_reducible rfl
        rotate_left
        ·simp only [Act.put,U,V,Z,i64_w,i32_w];rfl
        refine pure_ (i:=19) (N:=some 67) (v:=?_) (a':=?_) #[Y,Y,Y,Y,Y,Y,Y,Y,Y,Y,Y,Y,Y,Y,Y,Y,Y,Y,Y,Y,J,J,J,J,J,J,J,J,J,J,J,J,J,J,J,J] rfl rfl (any_of HT_.out (by kernel_rfl)) (fun _ _ _ h => h) (Or.inl ⟨by rfl,?_⟩) ?_ ?_;rotate_left
        ·intro w';go_simp;with_reducible rfl
        rotate_left
        ·simp only [Act.put,U,V,Z,i64_w,i32_w];rfl
        refine pure_ (i:=20) (N:=some 68) (v:=?_) (a':=?_) #[Y,Y,Y,Y,Y,Y,Y,Y,Y,Y,Y,Y,Y,Y,Y,Y,Y,Y,Y,Y,Y,J,J,J,J,J,J,J,J,J,J,J,J,J,J,J] rfl rfl (any_of HT_.out (by kernel_rfl)) (fun _ _ _ h => h) (Or.inl ⟨by rfl,?_⟩) ?_ ?_;rotate_left
        ·intro w';go_simp;with_reducible rfl
        rotate_left
        ·simp only [Act.put,U,V,Z,i64_w,i32_w];rfl
        refine pure_ (i:=21) (N:=some 69) (v:=?_) (a':=?_) #[Y,Y,Y,Y,Y,Y,Y,Y,Y,Y,Y,Y,Y,Y,Y,Y,Y,Y,Y,Y,Y,Y,J,J,J,J,J,J,J,J,J,J,J,J,J,J] rfl rfl (any_of HT_.out (by kernel_rfl)) (fun _ _ _ h => h) (Or.inl ⟨by rfl,?_⟩) ?_ ?_;rotate_left
        ·intro w';go_simp;with_reducible rfl
        rotate_left
        ·simp only [Act.put,U,V,Z,i64_w,i32_w];rfl
        refine pure_ (i:=22) (N:=some 70) (v:=?_) (a':=?_) #[Y,Y,Y,Y,Y,Y,Y,Y,Y,Y,Y,Y,Y,Y,Y,Y,Y,Y,Y,Y,Y,Y,Y,J,J,J,J,J,J,J,J,J,J,J,J,J] rfl rfl (any_of HT_.out (by kernel_rfl)) (fun _ _ _ h => h) (Or.inl ⟨by rfl,?_⟩) ?_ ?_;rotate_left
        ·intro w';go_simp;with_reducible rfl
        rotate_left
        ·simp only [Act.put,U,V,Z,i64_w,i32_w];rfl
        refine pure_ (i:=23) (N:=some 71) (v:=?_) (a':=?_) #[Y,Y,Y,Y,Y,Y,Y,Y,Y,Y,Y,Y,Y,Y,Y,Y,Y,Y,Y,Y,Y,Y,Y,Y,J,J,J,J,J,J,J,J,J,J,J,J] rfl rfl (any_of HT_.out (by kernel_rfl)) (fun _ _ _ h => h) (Or.inl ⟨by rfl,?_⟩) ?_ ?_;rotate_left
        ·intro w';go_simp;with_reducible rfl
        rotate_left
        ·simp only [Act.put,U,V,Z,i64_w,i32_w];rfl
        refine pure_ (i:=24) (N:=some 72) (v:=?_) (a':=?_) #[Y,Y,Y,Y,Y,Y,Y,Y,Y,Y,Y,Y,Y,Y,Y,Y,Y,Y,Y,Y,Y,Y,Y,Y,Y,J,J,J,J,J,J,J,J,J,J,J] rfl rfl (any_of HT_.out (by kernel_rfl)) (fun _ _ _ h => h) (Or.inl ⟨by rfl,?_⟩) ?_ ?_;rotate_left
        ·intro w';go_simp;with_reducible rfl
        rotate_left
        ·simp only [Act.put,U,V,Z,i64_w,i32_w];rfl
        refine pure_ (i:=29) (N:=some 77) (v:=?_) (a':=?_) #[Y,Y,Y,Y,Y,Y,Y,Y,Y,Y,Y,Y,Y,Y,Y,Y,Y,Y,Y,Y,Y,Y,Y,Y,Y,J,J,J,J,Y,J,J,J,J,J,J] rfl rfl (any_of HT_.out (by kernel_rfl)) (fun _ _ _ h => h) (Or.inl ⟨by rfl,?_⟩) ?_ ?_;rotate_left
        ·intro w';go_simp;with_reducible rfl
        rotate_left
        ·simp only [Act.put,U,V,Z,i64_w,i32_w];rfl
        refine pure_ (i:=30) (N:=some 78) (v:=?_) (a':=?_) #[Y,Y,Y,Y,Y,Y,Y,Y,Y,Y,Y,Y,Y,Y,Y,Y,Y,Y,Y,Y,Y,Y,Y,Y,Y,J,J,J,J,Y,Y,J,J,J,J,J] rfl rfl (any_of HT_.out (by kernel_rfl)) (fun _ _ _ h => h) (Or.inl ⟨by rfl,?_⟩) ?_ ?_;rotate_left
        ·intro w';go_simp;with_reducible rfl
        rotate_left
        ·simp only [Act.put,U,V,Z,i64_w,i32_w];rfl
        refine take_ (i:=25) (N:=some 73) (v:=?_) (a':=?_) #[Y,Y,Y,Y,Y,Y,Y,Y,Y,Y,Y,Y,Y,Y,Y,Y,Y,Y,Y,Y,Y,Y,Y,Y,Y,Y,J,J,J,Y,Y,J,J,J,J,J] rfl rfl (take_ofW HT_.out HW_.out (by kernel_rfl)) (fun _ _ _ h => h) (Or.inl ⟨by rfl,?_⟩) hHeld ?_ ?_;rotate_left
        ·rintro w' ⟨s0,s1,s2,s3,s4,s5,s6,s7,s8,s9⟩;go_simp;with_reducible rfl
        rotate_left
        ·simp only [Act.put,U,V,Z,i64_w,i32_w];rfl
        refine pure_ (i:=26) (N:=some 74) (v:=?_) (a':=?_) #[Y,Y,Y,Y,Y,Y,Y,Y,Y,Y,Y,Y,Y,Y,Y,Y,Y,Y,Y,Y,Y,Y,Y,Y,Y,Y,Y,J,J,Y,Y,J,J,J,J,J] rfl rfl (any_of HT_.out (by kernel_rfl)) (fun _ _ _ h => h) (Or.inl ⟨by rfl,?_⟩) ?_ ?_;rotate_left
        ·intro w';go_simp;with_reducible rfl
        rotate_left
        ·simp only [Act.put,U,V,Z,i64_w,i32_w];rfl
        refine take_ (i:=27) (N:=some 75) (v:=?_) (a':=?_) #[Y,Y,Y,Y,Y,Y,Y,Y,Y,Y,Y,Y,Y,Y,Y,Y,Y,Y,Y,Y,Y,Y,Y,Y,Y,Y,Y,Y,J,Y,Y,J,J,J,J,J] rfl rfl (take_ofW HT_.out HW_.out (by kernel_rfl)) (fun _ _ _ h => h) (Or.inl ⟨by rfl,?_⟩) hHeld ?_ ?_;rotate_left
        ·rintro w' ⟨s0,s1,s2,s3,s4,s5,s6,s7,s8,s9⟩;go_simp;with_reducible rfl
        rotate_left
        ·simp only [Act.put,U,V,Z,i64_w,i32_w];rfl
        refine pure_ (i:=28) (N:=some 76) (v:=?_) (a':=?_) #[Y,Y,Y,Y,Y,Y,Y,Y,Y,Y,Y,Y,Y,Y,Y,Y,Y,Y,Y,Y,Y,Y,Y,Y,Y,Y,Y,Y,Y,Y,Y,J,J,J,J,J] rfl rfl (any_of HT_.out (by kernel_rfl)) (fun _ _ _ h => h) (Or.inl ⟨by rfl,?_⟩) ?_ ?_;rotate_left
        ·intro w';go_simp;with_reducible rfl
        rotate_left
        ·simp only [Act.put,U,V,Z,i64_w,i32_w];rfl
        refine take_ (i:=31) (N:=some 79) (v:=?_) (a':=?_) #[Y,Y,Y,Y,Y,Y,Y,Y,Y,Y,Y,Y,Y,Y,Y,Y,Y,Y,Y,Y,Y,Y,Y,Y,Y,Y,Y,Y,Y,Y,Y,Y,J,J,J,J] rfl rfl (take_ofW HT_.out HW_.out (by kernel_rfl)) (fun _ _ _ h => h) (Or.inl ⟨by rfl,?_⟩) hHeld ?_ ?_;rotate_left
        ·rintro w' ⟨s0,s1,s2,s3,s4,s5,s6,s7,s8,s9⟩;go_simp;with_reducible rfl
        rotate_left
        ·simp only [Act.put,U,V,Z,i64_w,i32_w];rfl
        refine pure_ (i:=32) (N:=some 80) (v:=?_) (a':=?_) #[Y,Y,Y,Y,Y,Y,Y,Y,Y,Y,Y,Y,Y,Y,Y,Y,Y,Y,Y,Y,Y,Y,Y,Y,Y,Y,Y,Y,Y,Y,Y,Y,Y,J,J,J] rfl rfl (any_of HT_.out (by kernel_rfl)) (fun _ _ _ h => h) (Or.inl ⟨by rfl,?_⟩) ?_ ?_;rotate_left
        ·intro w';go_simp;with_reducible rfl
        rotate_left
        ·simp only [Act.put,U,V,Z,i64_w,i32_w];rfl
        refine take_ (i:=33) (N:=some 81) (v:=?_) (a':=?_) #[Y,Y,Y,Y,Y,Y,Y,Y,Y,Y,Y,Y,Y,Y,Y,Y,Y,Y,Y,Y,Y,Y,Y,Y,Y,Y,Y,Y,Y,Y,Y,Y,Y,Y,J,J] rfl rfl (take_ofW HT_.out HW_.out (by kernel_rfl)) (fun _ _ _ h => h) (Or.inl ⟨by rfl,?_⟩) hHeld ?_ ?_;rotate_left
        ·rintro w' ⟨s0,s1,s2,s3,s4,s5,s6,s7,s8,s9⟩;go_simp;with_reducible rfl
        rotate_left
        ·simp only [Act.put,U,V,Z,i64_w,i32_w];rfl
        refine pure_ (i:=34) (N:=some 82) (v:=?_) (a':=?_) #[Y,Y,Y,Y,Y,Y,Y,Y,Y,Y,Y,Y,Y,Y,Y,Y,Y,Y,Y,Y,Y,Y,Y,Y,Y,Y,Y,Y,Y,Y,Y,Y,Y,Y,Y,J] rfl rfl (any_of HT_.out (by kernel_rfl)) (fun _ _ _ h => h) (Or.inl ⟨by rfl,?_⟩) ?_ ?_;rotate_left
        ·intro w';go_simp;with_reducible rfl
        rotate_left
        ·simp only [Act.put,U,V,Z,i64_w,i32_w];rfl
        refine pure_ (i:=35) (N:=some 83) (v:=?_) (a':=?_) #[Y,Y,Y,Y,Y,Y,Y,Y,Y,Y,Y,Y,Y,Y,Y,Y,Y,Y,Y,Y,Y,Y,Y,Y,Y,Y,Y,Y,Y,Y,Y,Y,Y,Y,Y,Y] rfl rfl (any_of HT_.out (by kernel_rfl)) (fun _ _ _ h => h) (Or.inl ⟨by rfl,?_⟩) ?_ ?_;rotate_left
        ·intro w';go_simp;with_reducible rfl
        rotate_left
        ·simp only [Act.put,U,V,Z,i64_w,i32_w];rfl
        refine done_ (done_of HT_.out (by kernel_rfl)) ?_
        try go_wp2
        (try simp only [← hl6_3])
        go_roundg k3
        case measure => have:=HK1.out; have:=HK2.out; have:=HK3.out; omega
        case rel => exact ⟨(x6_3),(wrap64 (x9_3 + 1)),(by first | rfl | (simp; done) | (simp [*]; done)),H',⟨by have:=HK1.out; have:=HK2.out; have:=HK3.out; omega⟩,⟨by (try simp only [hl6_2]); (try simp only [hl6_3]); exact HO_5.out⟩,⟨by (try simp only [hl6_2]); (try simp only [hl6_3]); exact HO_6.out⟩,⟨by (try simp only [hl6_2]); (try simp only [hl6_3]); exact p3.out⟩,⟨by repeat (first | (with_reducible first | exact HB.out | apply below_alloc | apply pw_below_drewN | apply below_drew1 | refine below_set ?_ r3.out | refine below_set ?_ r6.out) | exact HB.out)⟩⟩
       rw [if_pos c40] at H;have c40b0 : decide ((wrap64 ((rd x6_3 ((rd_T34 l0_1 x9_3).f1)) + 1)) < (rd x6_3 ((rd_T34 l0_1 x9_3).f0))) = true:=decide_eq_true c40;clear c40;obtain ⟨y550,hy550⟩ : ∃ y_ : List Int,y_ = (x6_3.set (((rd_T34 l0_1 x9_3).f0) : Int).toNat (wrap64 ((rd x6_3 ((rd_T34 l0_1 x9_3).f1)) + 1))):=⟨_,rfl⟩
       replace H : (spec_l3Steps.l2 k3 t534 y550 x8_2 (wrap64 (x9_3 + 1)) a0_0 l0_1) = some r:=by first | (rw [hy550]; with_reducible exact H) | (have H2_:=(Option.bind_some _ _).symm.trans H; rw [hy550]; with_reducible exact H2_) | (have H2_:=(Option.bind_some _ _).symm.trans H; with_reducible exact H2_) | with_reducible exact H | (rw [hy550]; exact H) | exact H
       have Ny550:=zx hy550;clear hy550;have H':=zx H;clear H;have hcz42_0 : wr.cell? ⟨p7,0,none⟩ = some (.int .i64 a0_0):=(blk_cell p3.out 0).trans rfl;have hcz42_1 : wr.cell? ⟨p7,1,none⟩ = some (.slice A0_1 l0_1.length c0_1):=(blk_cell p3.out 1).trans rfl;have hfz42_0:=blk_frozen p3.out 0;have hfz42_1:=blk_frozen p3.out 1;have p542 : 0 ≤ (x9_3 : Int):=of_decide_eq_true (by first | (with_reducible assumption) | assumption);have q542 : x9_3 < (l0_1.length : Int):=of_decide_eq_true (by first | (with_reducible assumption) | assumption);obtain ⟨q7,e542,p9,q0,q3,q4,q5⟩:=at_T34 t2.out x9_3 p542 q542;cases e542;replace p9:=(HB.out.cell (World.block_lt_of_cell? w _ p9)).trans p9;replace q0:=(HB.out.cell (World.block_lt_of_cell? w _ q0)).trans q0;replace q3:=(HB.out.cell (World.block_lt_of_cell? w _ q3)).trans q3;replace q4:=(HB.out.cell (World.block_lt_of_cell? w _ q4)).trans q4;replace q5:=(HB.out.cell (World.block_lt_of_cell? w _ q5)).trans q5;replace p542:=eq_true p542;replace q542:=eq_true q542
       try go_wp2_with (first | ((with_reducible refine gate_dst (N:=10) rfl ?_); refine box_event ?hg (N:=10) ?hd (cs:=#[.int .i64 0,.int .i64 0,.int .i64 0,.int .i64 0,.int .i64 0]) (t:=34) ?hr ?_; (case hd => rfl); (case hg => rfl); (case hr => first | (go_simp; done) | (go_simp; rfl)); intro p0 hg w43 hbox hb; have n0_:=zx (Kd.R_below HO_5.out hb); have n1_:=zx (Kd.R_below HO_6.out hb); have n2_:=zx (blk_below (g:=p7) (o:=.cells #[.int .i64 a0_0,.slice (some q7) l0_1.length c0_1] 25 (0,0)) p3.out hb); have n3_:=zx (below_step HB.out hb); have n4_:=zx (hbox); have n5_:=zx ((by rw [hg]; exact (below_size HB.out) : w.heap.size ≤ p0)); have n6_:=zx ((by rw [hg]; exact (below_size HB.out) : w.heap.size ≤ p0)); have n7_:=zx ((by rw [hg]; exact Nat.ne_of_lt (blk_lt (g:=p7) (o:=.cells #[.int .i64 a0_0,.slice (some q7) l0_1.length c0_1] 25 (0,0)) p3.out) : p7 ≠ p0)); have n8_:=zx ((by rw [hg]; exact Nat.ne_of_gt (blk_lt (g:=p7) (o:=.cells #[.int .i64 a0_0,.slice (some q7) l0_1.length c0_1] 25 (0,0)) p3.out) : p0 ≠ p7)); clear HO_5; clear HO_6; clear p3; clear HB; have HO_5:=n0_; have HO_6:=n1_; have p3:=n2_; have HB:=n3_; have p4:=n4_; have u9:=n5_; have r6:=n6_; have p5:=n7_; have r2:=n8_; clear n0_ n1_ n2_ n3_ n4_ n5_ n6_ n7_ n8_; clear hb hbox hg; have hnb44:=r2.out; have hnc44:=p5.out; have hcz45_0 : w43.cell? ⟨p0,0,none⟩ = some (.int .i64 0):=(blk_cell p4.out 0).trans rfl; have hcz45_1 : w43.cell? ⟨p0,1,none⟩ = some (.int .i64 0):=(blk_cell p4.out 1).trans rfl; have hcz45_2 : w43.cell? ⟨p0,2,none⟩ = some (.int .i64 0):=(blk_cell p4.out 2).trans rfl; have hcz45_3 : w43.cell? ⟨p0,3,none⟩ = some (.int .i64 0):=(blk_cell p4.out 3).trans rfl; have hcz45_4 : w43.cell? ⟨p0,4,none⟩ = some (.int .i64 0):=(blk_cell p4.out 4).trans rfl; have hfz45_0:=blk_frozen p4.out 0; have hfz45_1:=blk_frozen p4.out 1; have hfz45_2:=blk_frozen p4.out 2; have hfz45_3:=blk_frozen p4.out 3; have hfz45_4:=blk_frozen p4.out 4))
       have n0_ : Aside0 (Kd.R (Kd.int .i64) 3 (((((w43.setCell ⟨p0,0,none⟩ (.int .i64 ((rd_T34 l0_1 x9_3).f0))).setCell ⟨p0,1,none⟩ (.int .i64 ((rd_T34 l0_1 x9_3).f1))).setCell ⟨p0,2,none⟩ (.int .i64 ((rd_T34 l0_1 x9_3).f2))).setCell ⟨p0,3,none⟩ (.int .i64 ((rd_T34 l0_1 x9_3).f3))).setCell ⟨p0,4,none⟩ (.int .i64 ((rd_T34 l0_1 x9_3).f4))) w.heap.size (fun k_ => some k_ ≠ (.slice (some ⟨go24,0,none⟩) x6_3.length co24 : Value).ownBlock) v535 t534):=⟨by exact Kd.R_mono (Kd.R_far (p:=⟨p0,4,none⟩) (Kd.R_far (p:=⟨p0,3,none⟩) (Kd.R_far (p:=⟨p0,2,none⟩) (Kd.R_far (p:=⟨p0,1,none⟩) (Kd.R_far (p:=⟨p0,0,none⟩) (Kd.R_types HO_5.out p4.out (by decide)) (fun _ hk => hk.2) (.int .i64 ((rd_T34 l0_1 x9_3).f0))) (fun _ hk => hk.2) (.int .i64 ((rd_T34 l0_1 x9_3).f1))) (fun _ hk => hk.2) (.int .i64 ((rd_T34 l0_1 x9_3).f2))) (fun _ hk => hk.2) (.int .i64 ((rd_T34 l0_1 x9_3).f3))) (fun _ hk => hk.2) (.int .i64 ((rd_T34 l0_1 x9_3).f4))) (fun _ hk => hk.1)⟩
       have n1_ : Aside0 (Kd.R (Kd.int .i64) 3 (((((w43.setCell ⟨p0,0,none⟩ (.int .i64 ((rd_T34 l0_1 x9_3).f0))).setCell ⟨p0,1,none⟩ (.int .i64 ((rd_T34 l0_1 x9_3).f1))).setCell ⟨p0,2,none⟩ (.int .i64 ((rd_T34 l0_1 x9_3).f2))).setCell ⟨p0,3,none⟩ (.int .i64 ((rd_T34 l0_1 x9_3).f3))).setCell ⟨p0,4,none⟩ (.int .i64 ((rd_T34 l0_1 x9_3).f4))) w.heap.size (fun k_ => some k_ ≠ (v535 : Value).ownBlock) (.slice (some ⟨go24,0,none⟩) x6_3.length co24) x6_3):=⟨by exact Kd.R_mono (Kd.R_far (p:=⟨p0,4,none⟩) (Kd.R_far (p:=⟨p0,3,none⟩) (Kd.R_far (p:=⟨p0,2,none⟩) (Kd.R_far (p:=⟨p0,1,none⟩) (Kd.R_far (p:=⟨p0,0,none⟩) (Kd.R_types HO_6.out p4.out (by decide)) (fun _ hk => hk.2) (.int .i64 ((rd_T34 l0_1 x9_3).f0))) (fun _ hk => hk.2) (.int .i64 ((rd_T34 l0_1 x9_3).f1))) (fun _ hk => hk.2) (.int .i64 ((rd_T34 l0_1 x9_3).f2))) (fun _ hk => hk.2) (.int .i64 ((rd_T34 l0_1 x9_3).f3))) (fun _ hk => hk.2) (.int .i64 ((rd_T34 l0_1 x9_3).f4))) (fun _ hk => hk.1)⟩
       have n2_ : Aside0 ((((((w43.setCell ⟨p0,0,none⟩ (.int .i64 ((rd_T34 l0_1 x9_3).f0))).setCell ⟨p0,1,none⟩ (.int .i64 ((rd_T34 l0_1 x9_3).f1))).setCell ⟨p0,2,none⟩ (.int .i64 ((rd_T34 l0_1 x9_3).f2))).setCell ⟨p0,3,none⟩ (.int .i64 ((rd_T34 l0_1 x9_3).f3))).setCell ⟨p0,4,none⟩ (.int .i64 ((rd_T34 l0_1 x9_3).f4))).heap[p7]? = some (.cells #[.int .i64 a0_0,.slice (some q7) l0_1.length c0_1] 25 (0,0))):=⟨by refine blk_far ?_ p5.out _; refine blk_far ?_ p5.out _; refine blk_far ?_ p5.out _; refine blk_far ?_ p5.out _; refine blk_far ?_ p5.out _; exact p3.out⟩
       have n3_ : Aside0 ((((((w43.setCell ⟨p0,0,none⟩ (.int .i64 ((rd_T34 l0_1 x9_3).f0))).setCell ⟨p0,1,none⟩ (.int .i64 ((rd_T34 l0_1 x9_3).f1))).setCell ⟨p0,2,none⟩ (.int .i64 ((rd_T34 l0_1 x9_3).f2))).setCell ⟨p0,3,none⟩ (.int .i64 ((rd_T34 l0_1 x9_3).f3))).setCell ⟨p0,4,none⟩ (.int .i64 ((rd_T34 l0_1 x9_3).f4))).heap[p0]? = some (.cells #[.int .i64 ((rd_T34 l0_1 x9_3).f0),.int .i64 ((rd_T34 l0_1 x9_3).f1),.int .i64 ((rd_T34 l0_1 x9_3).f2),.int .i64 ((rd_T34 l0_1 x9_3).f3),.int .i64 ((rd_T34 l0_1 x9_3).f4)] 34 (0,0))):=⟨by refine blk_put (cs:=#[.int .i64 ((rd_T34 l0_1 x9_3).f0),.int .i64 ((rd_T34 l0_1 x9_3).f1),.int .i64 ((rd_T34 l0_1 x9_3).f2),.int .i64 ((rd_T34 l0_1 x9_3).f3),.int .i64 0]) ?_ 4 _ rfl; refine blk_put (cs:=#[.int .i64 ((rd_T34 l0_1 x9_3).f0),.int .i64 ((rd_T34 l0_1 x9_3).f1),.int .i64 ((rd_T34 l0_1 x9_3).f2),.int .i64 0,.int .i64 0]) ?_ 3 _ rfl; refine blk_put (cs:=#[.int .i64 ((rd_T34 l0_1 x9_3).f0),.int .i64 ((rd_T34 l0_1 x9_3).f1),.int .i64 0,.int .i64 0,.int .i64 0]) ?_ 2 _ rfl; refine blk_put (cs:=#[.int .i64 ((rd_T34 l0_1 x9_3).f0),.int .i64 0,.int .i64 0,.int .i64 0,.int .i64 0]) ?_ 1 _ rfl; refine blk_put (cs:=#[.int .i64 0,.int .i64 0,.int .i64 0,.int .i64 0,.int .i64 0]) ?_ 0 _ rfl; exact p4.out⟩
       have n4_ : Aside0 (Below w.heap.size w (((((w43.setCell ⟨p0,0,none⟩ (.int .i64 ((rd_T34 l0_1 x9_3).f0))).setCell ⟨p0,1,none⟩ (.int .i64 ((rd_T34 l0_1 x9_3).f1))).setCell ⟨p0,2,none⟩ (.int .i64 ((rd_T34 l0_1 x9_3).f2))).setCell ⟨p0,3,none⟩ (.int .i64 ((rd_T34 l0_1 x9_3).f3))).setCell ⟨p0,4,none⟩ (.int .i64 ((rd_T34 l0_1 x9_3).f4)))):=⟨by repeat (first | (with_reducible first | exact HB.out | apply below_alloc | apply pw_below_drewN | apply below_drew1 | refine below_set ?_ r3.out | refine below_set ?_ r6.out) | exact HB.out)⟩
       (try clear HO_5)
       (try clear HO_6)
       (try clear p3)
       (try clear p4)
       (try clear HB)
       generalize (((((w43.setCell ⟨p0,0,none⟩ (.int .i64 ((rd_T34 l0_1 x9_3).f0))).setCell ⟨p0,1,none⟩ (.int .i64 ((rd_T34 l0_1 x9_3).f1))).setCell ⟨p0,2,none⟩ (.int .i64 ((rd_T34 l0_1 x9_3).f2))).setCell ⟨p0,3,none⟩ (.int .i64 ((rd_T34 l0_1 x9_3).f3))).setCell ⟨p0,4,none⟩ (.int .i64 ((rd_T34 l0_1 x9_3).f4))) = w46 at n0_ n1_ n2_ n3_ n4_ ⊢;have HO_5:=n0_;have HO_6:=n1_;have p3:=n2_;have p4:=n3_;have HB:=n4_;clear n0_ n1_ n2_ n3_ n4_;have n0_:=zx (Kd.R_drew HO_5.out);have n1_:=zx (Kd.R_drew HO_6.out);have n2_:=zx (blk_drew p3.out);have n3_:=zx (blk_drew p4.out);have n4_:=zx (below_drew1 HB.out);clear HO_5;clear HO_6;clear p3;clear p4;clear HB;have HO_5:=n0_;have HO_6:=n1_;have p3:=n2_;have p4:=n3_;have HB:=n4_;clear n0_ n1_ n2_ n3_ n4_;obtain ⟨Ao48,co48,eo48⟩:=Kd.R_slice HO_5.out
       (first | subst eo48 | (injection eo48 with f1_ f2_ f3_; have f4_:=f1_.symm; have f5_:=f3_.symm; clear f1_ f2_ f3_; subst f4_; subst f5_))
       have p544 : 0 ≤ (((rd_T34 l0_1 x9_3).f1) : Int):=of_decide_eq_true (by first | (with_reducible assumption) | assumption);have q544 : ((rd_T34 l0_1 x9_3).f1) < (t534.length : Int):=of_decide_eq_true (by first | (with_reducible assumption) | assumption);obtain ⟨q8,e544,q9⟩:=Kd.at_int (Kd.R_reads' HO_5.out).2.2 ((rd_T34 l0_1 x9_3).f1) p544 q544;cases e544;replace p544:=eq_true p544;replace q544:=eq_true q544;have p545 : 0 ≤ (((rd_T34 l0_1 x9_3).f0) : Int):=of_decide_eq_true (by first | (with_reducible assumption) | assumption);have q545 : ((rd_T34 l0_1 x9_3).f0) < (t534.length : Int):=of_decide_eq_true (by first | (with_reducible assumption) | assumption);obtain ⟨t3,e545,r4⟩:=Kd.at_int (Kd.R_reads' HO_5.out).2.2 ((rd_T34 l0_1 x9_3).f0) p545 q545;obtain rfl : q8 = t3:=(by injection e545)
       replace p545:=eq_true p545;replace q545:=eq_true q545;have p546 : 0 ≤ (((rd_T34 l0_1 x9_3).f1) : Int):=of_decide_eq_true (by first | (with_reducible assumption) | assumption);have q546 : ((rd_T34 l0_1 x9_3).f1) < (t534.length : Int):=of_decide_eq_true (by first | (with_reducible assumption) | assumption);obtain ⟨t4,e546,r5⟩:=Kd.at_int (Kd.R_reads' HO_5.out).2.2 ((rd_T34 l0_1 x9_3).f1) p546 q546;obtain rfl : q8 = t4:=(by injection e546)
       replace p546:=eq_true p546;replace q546:=eq_true q546;have p547 : 0 ≤ (((rd_T34 l0_1 x9_3).f1) : Int):=of_decide_eq_true (by first | (with_reducible assumption) | assumption);have q547 : ((rd_T34 l0_1 x9_3).f1) < (x6_3.length : Int):=of_decide_eq_true (by first | (with_reducible assumption) | assumption);obtain ⟨v0,e547,r0⟩:=Kd.at_int (Kd.R_reads' HO_6.out).2.2 ((rd_T34 l0_1 x9_3).f1) p547 q547;obtain rfl : (⟨go24,0,none⟩ : Addr) = v0:=(by injection e547)
       (first | simp only [add_plain] at r0 | simp only [add_at] at r0 | simp only [Addr.add,Nat.zero_add] at r0 | skip)
       replace p547:=eq_true p547;replace q547:=eq_true q547;have p548 : 0 ≤ (((rd_T34 l0_1 x9_3).f0) : Int):=of_decide_eq_true (by first | (with_reducible assumption) | assumption);have q548 : ((rd_T34 l0_1 x9_3).f0) < (x6_3.length : Int):=of_decide_eq_true (by first | (with_reducible assumption) | assumption);obtain ⟨v2,e548,r1⟩:=Kd.at_int (Kd.R_reads' HO_6.out).2.2 ((rd_T34 l0_1 x9_3).f0) p548 q548;obtain rfl : (⟨go24,0,none⟩ : Addr) = v2:=(by injection e548)
       (first | simp only [add_plain] at r1 | simp only [add_at] at r1 | simp only [Addr.add,Nat.zero_add] at r1 | skip)
       replace p548:=eq_true p548;replace q548:=eq_true q548;refine start_ (n:=36) (S:=fun w' => w'.cell? ⟨p0,0,none⟩ = some (.int .i64 ((rd_T34 l0_1 x9_3).f0)) ∧ w'.cell? ⟨p0,1,none⟩ = some (.int .i64 ((rd_T34 l0_1 x9_3).f1)) ∧ w'.cell? ⟨p0,2,none⟩ = some (.int .i64 ((rd_T34 l0_1 x9_3).f2)) ∧ w'.cell? ⟨p0,3,none⟩ = some (.int .i64 ((rd_T34 l0_1 x9_3).f3)) ∧ w'.cell? ⟨p0,4,none⟩ = some (.int .i64 ((rd_T34 l0_1 x9_3).f4)) ∧ w'.cell? (q8.add (((rd_T34 l0_1 x9_3).f1)).toNat) = some (.int .i64 (rd t534 ((rd_T34 l0_1 x9_3).f1))) ∧ w'.cell? (q8.add (((rd_T34 l0_1 x9_3).f0)).toNat) = some (.int .i64 (rd t534 ((rd_T34 l0_1 x9_3).f0))) ∧ w'.cell? (q8.add (((rd_T34 l0_1 x9_3).f1)).toNat) = some (.int .i64 (rd t534 ((rd_T34 l0_1 x9_3).f1))) ∧ w'.cell? ⟨go24,(((rd_T34 l0_1 x9_3).f1)).toNat,none⟩ = some (.int .i64 (rd x6_3 ((rd_T34 l0_1 x9_3).f1))) ∧ w'.cell? ⟨go24,(((rd_T34 l0_1 x9_3).f0)).toNat,none⟩ = some (.int .i64 (rd x6_3 ((rd_T34 l0_1 x9_3).f0)))) (ds:=[]) #[J,J,J,J,J,J,J,J,J,J,J,J,J,J,J,J,J,J,J,J,J,J,J,J,J,J,J,J,J,J,J,J,J,J,J,J] (by kernel_rfl) rfl rfl ⟨(blk_cell p4.out 0).trans rfl,(blk_cell p4.out 1).trans rfl,(blk_cell p4.out 2).trans rfl,(blk_cell p4.out 3).trans rfl,(blk_cell p4.out 4).trans rfl,q9,r4,r5,r0,r1⟩ (fun hHeld => ?_); refine with_tabW spec_l3Steps.tab15 spec_l3Steps.bits15 (fun HT_ HW_ => ?_);generalize w46.drew = w47 at HO_5 HO_6 p3 p4 HB q9 r4 r5 r0 r1 hHeld ⊢;refine pure_ (i:=0) (N:=some 48) (v:=?_) (a':=?_) #[Y,J,J,J,J,J,J,J,J,J,J,J,J,J,J,J,J,J,J,J,J,J,J,J,J,J,J,J,J,J,J,J,J,J,J,J] rfl rfl (any_of HT_.out (by kernel_rfl)) (fun _ _ _ h => h) (Or.inl ⟨by rfl,?_⟩) ?_ ?_;rotate_left
       ·intro w';go_simp;with_reducible rfl
       rotate_left
       ·simp only [Act.put,U,V,Z,i64_w,i32_w];rfl
       refine pure_ (i:=1) (N:=some 49) (v:=?_) (a':=?_) #[Y,Y,J,J,J,J,J,J,J,J,J,J,J,J,J,J,J,J,J,J,J,J,J,J,J,J,J,J,J,J,J,J,J,J,J,J] rfl rfl (any_of HT_.out (by kernel_rfl)) (fun _ _ _ h => h) (Or.inl ⟨by rfl,?_⟩) ?_ ?_;rotate_left
       ·intro w';go_simp;with_reducible rfl
       rotate_left
       ·simp only [Act.put,U,V,Z,i64_w,i32_w];rfl
       refine take_ (i:=2) (N:=some 50) (v:=?_) (a':=?_) #[Y,Y,Y,J,J,J,J,J,J,J,J,J,J,J,J,J,J,J,J,J,J,J,J,J,J,J,J,J,J,J,J,J,J,J,J,J] rfl rfl (take_ofW HT_.out HW_.out (by kernel_rfl)) (fun _ _ _ h => h) (Or.inl ⟨by rfl,?_⟩) hHeld ?_ ?_;rotate_left
       ·rintro w' ⟨s0,s1,s2,s3,s4,s5,s6,s7,s8,s9⟩;go_simp;with_reducible rfl
       rotate_left
       ·simp only [Act.put,U,V,Z,i64_w,i32_w];rfl
       refine pure_ (i:=3) (N:=some 51) (v:=?_) (a':=?_) #[Y,Y,Y,Y,J,J,J,J,J,J,J,J,J,J,J,J,J,J,J,J,J,J,J,J,J,J,J,J,J,J,J,J,J,J,J,J] rfl rfl (any_of HT_.out (by kernel_rfl)) (fun _ _ _ h => h) (Or.inl ⟨by rfl,?_⟩) ?_ ?_;rotate_left
       ·intro w';go_simp;with_reducible rfl
       rotate_left
       ·simp only [Act.put,U,V,Z,i64_w,i32_w];rfl
       refine take_ (i:=4) (N:=some 52) (v:=?_) (a':=?_) #[Y,Y,Y,Y,Y,J,J,J,J,J,J,J,J,J,J,J,J,J,J,J,J,J,J,J,J,J,J,J,J,J,J,J,J,J,J,J] rfl rfl (take_ofW HT_.out HW_.out (by kernel_rfl)) (fun _ _ _ h => h) (Or.inl ⟨by rfl,?_⟩) hHeld ?_ ?_;rotate_left
       ·rintro w' ⟨s0,s1,s2,s3,s4,s5,s6,s7,s8,s9⟩;go_simp;with_reducible rfl
       rotate_left
       ·simp only [Act.put,U,V,Z,i64_w,i32_w];rfl
       refine pure_ (i:=5) (N:=some 53) (v:=?_) (a':=?_) #[Y,Y,Y,Y,Y,Y,J,J,J,J,J,J,J,J,J,J,J,J,J,J,J,J,J,J,J,J,J,J,J,J,J,J,J,J,J,J] rfl rfl (any_of HT_.out (by kernel_rfl)) (fun _ _ _ h => h) (Or.inl ⟨by rfl,?_⟩) ?_ ?_;rotate_left
       ·intro w';go_simp;with_reducible rfl
       rotate_left
       ·simp only [Act.put,U,V,Z,i64_w,i32_w];rfl
       refine pure_ (i:=6) (N:=some 54) (v:=?_) (a':=?_) #[Y,Y,Y,Y,Y,Y,Y,J,J,J,J,J,J,J,J,J,J,J,J,J,J,J,J,J,J,J,J,J,J,J,J,J,J,J,J,J] rfl rfl (any_of HT_.out (by kernel_rfl)) (fun _ _ _ h => h) (Or.inl ⟨by rfl,?_⟩) ?_ ?_;rotate_left
       ·intro w';go_simp;with_reducible rfl
       rotate_left
       ·simp only [Act.put,U,V,Z,i64_w,i32_w];rfl
       refine pure_ (i:=7) (N:=some 55) (v:=?_) (a':=?_) #[Y,Y,Y,Y,Y,Y,Y,Y,J,J,J,J,J,J,J,J,J,J,J,J,J,J,J,J,J,J,J,J,J,J,J,J,J,J,J,J] rfl rfl (any_of HT_.out (by kernel_rfl)) (fun _ _ _ h => h) (Or.inl ⟨by rfl,?_⟩) ?_ ?_;rotate_left
       ·intro w';go_simp;with_reducible rfl
       rotate_left
       ·simp only [Act.put,U,V,Z,i64_w,i32_w];rfl
       refine pure_ (i:=8) (N:=some 56) (v:=?_) (a':=?_) #[Y,Y,Y,Y,Y,Y,Y,Y,Y,J,J,J,J,J,J,J,J,J,J,J,J,J,J,J,J,J,J,J,J,J,J,J,J,J,J,J] rfl rfl (any_of HT_.out (by kernel_rfl)) (fun _ _ _ h => h) (Or.inl ⟨by rfl,?_⟩) ?_ ?_;rotate_left
       ·intro w';go_simp;with_reducible rfl
       rotate_left
       ·simp only [Act.put,U,V,Z,i64_w,i32_w];rfl
       refine pure_ (i:=12) (N:=some 60) (v:=?_) (a':=?_) #[Y,Y,Y,Y,Y,Y,Y,Y,Y,J,J,J,Y,J,J,J,J,J,J,J,J,J,J,J,J,J,J,J,J,J,J,J,J,J,J,J] rfl rfl (any_of HT_.out (by kernel_rfl)) (fun _ _ _ h => h) (Or.inl ⟨by rfl,?_⟩) ?_ ?_;rotate_left
       ·intro w';go_simp;with_reducible rfl
       rotate_left
       ·simp only [Act.put,U,V,Z,i64_w,i32_w];rfl
       refine pure_ (i:=14) (N:=some 62) (v:=?_) (a':=?_) #[Y,Y,Y,Y,Y,Y,Y,Y,Y,J,J,J,Y,J,Y,J,J,J,J,J,J,J,J,J,J,J,J,J,J,J,J,J,J,J,J,J] rfl rfl (any_of HT_.out (by kernel_rfl)) (fun _ _ _ h => h) (Or.inl ⟨by rfl,?_⟩) ?_ ?_;rotate_left
       ·intro w';go_simp;with_reducible rfl
       rotate_left
       ·simp only [Act.put,U,V,Z,i64_w,i32_w];rfl
       refine pure_ (i:=15) (N:=some 63) (v:=?_) (a':=?_) #[Y,Y,Y,Y,Y,Y,Y,Y,Y,J,J,J,Y,J,Y,Y,J,J,J,J,J,J,J,J,J,J,J,J,J,J,J,J,J,J,J,J] rfl rfl (any_of HT_.out (by kernel_rfl)) (fun _ _ _ h => h) (Or.inl ⟨by rfl,?_⟩) ?_ ?_;rotate_left
       ·intro w';go_simp;with_reducible rfl
       rotate_left
       ·simp only [Act.put,U,V,Z,i64_w,i32_w];rfl
       refine take_ (i:=9) (N:=some 57) (v:=?_) (a':=?_) #[Y,Y,Y,Y,Y,Y,Y,Y,Y,Y,J,J,Y,J,Y,Y,J,J,J,J,J,J,J,J,J,J,J,J,J,J,J,J,J,J,J,J] rfl rfl (take_ofW HT_.out HW_.out (by kernel_rfl)) (fun _ _ _ h => h) (Or.inl ⟨by rfl,?_⟩) hHeld ?_ ?_;rotate_left
       ·rintro w' ⟨s0,s1,s2,s3,s4,s5,s6,s7,s8,s9⟩;go_simp;with_reducible rfl
       rotate_left
       ·simp only [Act.put,U,V,Z,i64_w,i32_w];rfl
       refine pure_ (i:=10) (N:=some 58) (v:=?_) (a':=?_) #[Y,Y,Y,Y,Y,Y,Y,Y,Y,Y,Y,J,Y,J,Y,Y,J,J,J,J,J,J,J,J,J,J,J,J,J,J,J,J,J,J,J,J] rfl rfl (any_of HT_.out (by kernel_rfl)) (fun _ _ _ h => h) (Or.inl ⟨by rfl,?_⟩) ?_ ?_;rotate_left
       ·intro w';go_simp;with_reducible rfl
       rotate_left
       ·simp only [Act.put,U,V,Z,i64_w,i32_w];rfl
       refine take_ (i:=11) (N:=some 59) (v:=?_) (a':=?_) #[Y,Y,Y,Y,Y,Y,Y,Y,Y,Y,Y,Y,Y,J,Y,Y,J,J,J,J,J,J,J,J,J,J,J,J,J,J,J,J,J,J,J,J] rfl rfl (take_ofW HT_.out HW_.out (by kernel_rfl)) (fun _ _ _ h => h) (Or.inl ⟨by rfl,?_⟩) hHeld ?_ ?_;rotate_left
       ·rintro w' ⟨s0,s1,s2,s3,s4,s5,s6,s7,s8,s9⟩;go_simp;with_reducible rfl
       rotate_left
       ·simp only [Act.put,U,V,Z,i64_w,i32_w];rfl
       refine take_ (i:=13) (N:=some 61) (v:=?_) (a':=?_) #[Y,Y,Y,Y,Y,Y,Y,Y,Y,Y,Y,Y,Y,Y,Y,Y,J,J,J,J,J,J,J,J,J,J,J,J,J,J,J,J,J,J,J,J] rfl rfl (take_ofW HT_.out HW_.out (by kernel_rfl)) (fun _ _ _ h => h) (Or.inl ⟨by rfl,?_⟩) hHeld ?_ ?_;rotate_left
       ·rintro w' ⟨s0,s1,s2,s3,s4,s5,s6,s7,s8,s9⟩;go_simp;with_reducible rfl
       rotate_left
       ·simp only [Act.put,U,V,Z,i64_w,i32_w];rfl
       refine take_ (i:=16) (N:=some 64) (v:=?_) (a':=?_) #[Y,Y,Y,Y,Y,Y,Y,Y,Y,Y,Y,Y,Y,Y,Y,Y,Y,J,J,J,J,J,J,J,J,J,J,J,J,J,J,J,J,J,J,J] rfl rfl (take_ofW HT_.out HW_.out (by kernel_rfl)) (fun _ _ _ h => h) (Or.inl ⟨by rfl,?_⟩) hHeld ?_ ?_;rotate_left
       ·rintro w' ⟨s0,s1,s2,s3,s4,s5,s6,s7,s8,s9⟩;go_simp;with_reducible rfl
       rotate_left
       ·simp only [Act.put,U,V,Z,i64_w,i32_w];rfl
       refine pure_ (i:=17) (N:=some 65) (v:=?_) (a':=?_) #[Y,Y,Y,Y,Y,Y,Y,Y,Y,Y,Y,Y,Y,Y,Y,Y,Y,Y,J,J,J,J,J,J,J,J,J,J,J,J,J,J,J,J,J,J] rfl rfl (any_of HT_.out (by kernel_rfl)) (fun _ _ _ h => h) (Or.inl ⟨by rfl,?_⟩) ?_ ?_;rotate_left
       ·intro w';go_simp;with_reducible rfl
       rotate_left
       ·simp only [Act.put,U,V,Z,i64_w,i32_w];rfl
       refine take_ (i:=18) (N:=some 66) (v:=?_) (a':=?_) #[Y,Y,Y,Y,Y,Y,Y,Y,Y,Y,Y,Y,Y,Y,Y,Y,Y,Y,Y,J,J,J,J,J,J,J,J,J,J,J,J,J,J,J,J,J] rfl rfl (take_ofW HT_.out HW_.out (by kernel_rfl)) (fun _ _ _ h => h) (Or.inl ⟨by rfl,?_⟩) hHeld ?_ ?_;rotate_left
       ·rintro w' ⟨s0,s1,s2,s3,s4,s5,s6,s7,s8,s9⟩;go_simp;with_reducible rfl
       rotate_left
       ·simp only [Act.put,U,V,Z,i64_w,i32_w];rfl
       refine pure_ (i:=19) (N:=some 67) (v:=?_) (a':=?_) #[Y,Y,Y,Y,Y,Y,Y,Y,Y,Y,Y,Y,Y,Y,Y,Y,Y,Y,Y,Y,J,J,J,J,J,J,J,J,J,J,J,J,J,J,J,J] rfl rfl (any_of HT_.out (by kernel_rfl)) (fun _ _ _ h => h) (Or.inl ⟨by rfl,?_⟩) ?_ ?_;rotate_left
       ·intro w';go_simp;with_reducible rfl
       rotate_left
       ·simp only [Act.put,U,V,Z,i64_w,i32_w];rfl
       refine pure_ (i:=20) (N:=some 68) (v:=?_) (a':=?_) #[Y,Y,Y,Y,Y,Y,Y,Y,Y,Y,Y,Y,Y,Y,Y,Y,Y,Y,Y,Y,Y,J,J,J,J,J,J,J,J,J,J,J,J,J,J,J] rfl rfl (any_of HT_.out (by kernel_rfl)) (fun _ _ _ h => h) (Or.inl ⟨by rfl,?_⟩) ?_ ?_;rotate_left
       ·intro w';go_simp;with_reducible rfl
       rotate_left
       ·simp only [Act.put,U,V,Z,i64_w,i32_w];rfl
       refine pure_ (i:=21) (N:=some 69) (v:=?_) (a':=?_) #[Y,Y,Y,Y,Y,Y,Y,Y,Y,Y,Y,Y,Y,Y,Y,Y,Y,Y,Y,Y,Y,Y,J,J,J,J,J,J,J,J,J,J,J,J,J,J] rfl rfl (any_of HT_.out (by kernel_rfl)) (fun _ _ _ h => h) (Or.inl ⟨by rfl,?_⟩) ?_ ?_;rotate_left
       ·intro w';go_simp;with_reducible rfl
       rotate_left
       ·simp only [Act.put,U,V,Z,i64_w,i32_w];rfl
       refine pure_ (i:=22) (N:=some 70) (v:=?_) (a':=?_) #[Y,Y,Y,Y,Y,Y,Y,Y,Y,Y,Y,Y,Y,Y,Y,Y,Y,Y,Y,Y,Y,Y,Y,J,J,J,J,J,J,J,J,J,J,J,J,J] rfl rfl (any_of HT_.out (by kernel_rfl)) (fun _ _ _ h => h) (Or.inl ⟨by rfl,?_⟩) ?_ ?_;rotate_left
       ·intro w';go_simp;with_reducible rfl
       rotate_left
       ·simp only [Act.put,U,V,Z,i64_w,i32_w];rfl
       refine pure_ (i:=23) (N:=some 71) (v:=?_) (a':=?_) #[Y,Y,Y,Y,Y,Y,Y,Y,Y,Y,Y,Y,Y,Y,Y,Y,Y,Y,Y,Y,Y,Y,Y,Y,J,J,J,J,J,J,J,J,J,J,J,J] rfl rfl (any_of HT_.out (by kernel_rfl)) (fun _ _ _ h => h) (Or.inl ⟨by rfl,?_⟩) ?_ ?_;rotate_left
       ·intro w';go_simp;with_reducible rfl
       rotate_left
       ·simp only [Act.put,U,V,Z,i64_w,i32_w];rfl
       refine pure_ (i:=24) (N:=some 72) (v:=?_) (a':=?_) #[Y,Y,Y,Y,Y,Y,Y,Y,Y,Y,Y,Y,Y,Y,Y,Y,Y,Y,Y,Y,Y,Y,Y,Y,Y,J,J,J,J,J,J,J,J,J,J,J] rfl rfl (any_of HT_.out (by kernel_rfl)) (fun _ _ _ h => h) (Or.inl ⟨by rfl,?_⟩) ?_ ?_;rotate_left
       ·intro w';go_simp;with_reducible rfl
       rotate_left
       ·simp only [Act.put,U,V,Z,i64_w,i32_w];rfl
       refine pure_ (i:=29) (N:=some 77) (v:=?_) (a':=?_) #[Y,Y,Y,Y,Y,Y,Y,Y,Y,Y,Y,Y,Y,Y,Y,Y,Y,Y,Y,Y,Y,Y,Y,Y,Y,J,J,J,J,Y,J,J,J,J,J,J] rfl rfl (any_of HT_.out (by kernel_rfl)) (fun _ _ _ h => h) (Or.inl ⟨by rfl,?_⟩) ?_ ?_;rotate_left
       ·intro w';go_simp;with_reducible rfl
       rotate_left
       ·simp only [Act.put,U,V,Z,i64_w,i32_w];rfl
       refine pure_ (i:=30) (N:=some 78) (v:=?_) (a':=?_) #[Y,Y,Y,Y,Y,Y,Y,Y,Y,Y,Y,Y,Y,Y,Y,Y,Y,Y,Y,Y,Y,Y,Y,Y,Y,J,J,J,J,Y,Y,J,J,J,J,J] rfl rfl (any_of HT_.out (by kernel_rfl)) (fun _ _ _ h => h) (Or.inl ⟨by rfl,?_⟩) ?_ ?_;rotate_left
       ·intro w';go_simp;with_reducible rfl
       rotate_left
       ·simp only [Act.put,U,V,Z,i64_w,i32_w];rfl
       refine take_ (i:=25) (N:=some 73) (v:=?_) (a':=?_) #[Y,Y,Y,Y,Y,Y,Y,Y,Y,Y,Y,Y,Y,Y,Y,Y,Y,Y,Y,Y,Y,Y,Y,Y,Y,Y,J,J,J,Y,Y,J,J,J,J,J] rfl rfl (take_ofW HT_.out HW_.out (by kernel_rfl)) (fun _ _ _ h => h) (Or.inl ⟨by rfl,?_⟩) hHeld ?_ ?_;rotate_left
       ·rintro w' ⟨s0,s1,s2,s3,s4,s5,s6,s7,s8,s9⟩;go_simp;with_reducible rfl
       rotate_left
       ·simp only [Act.put,U,V,Z,i64_w,i32_w];rfl
       refine pure_ (i:=26) (N:=some 74) (v:=?_) (a':=?_) #[Y,Y,Y,Y,Y,Y,Y,Y,Y,Y,Y,Y,Y,Y,Y,Y,Y,Y,Y,Y,Y,Y,Y,Y,Y,Y,Y,J,J,Y,Y,J,J,J,J,J] rfl rfl (any_of HT_.out (by kernel_rfl)) (fun _ _ _ h => h) (Or.inl ⟨by rfl,?_⟩) ?_ ?_;rotate_left
       ·intro w';go_simp;with_reducible rfl
       rotate_left
       ·simp only [Act.put,U,V,Z,i64_w,i32_w];rfl
       refine take_ (i:=27) (N:=some 75) (v:=?_) (a':=?_) #[Y,Y,Y,Y,Y,Y,Y,Y,Y,Y,Y,Y,Y,Y,Y,Y,Y,Y,Y,Y,Y,Y,Y,Y,Y,Y,Y,Y,J,Y,Y,J,J,J,J,J] rfl rfl (take_ofW HT_.out HW_.out (by kernel_rfl)) (fun _ _ _ h => h) (Or.inl ⟨by rfl,?_⟩) hHeld ?_ ?_;rotate_left
       ·rintro w' ⟨s0,s1,s2,s3,s4,s5,s6,s7,s8,s9⟩;go_simp;with_reducible rfl
       rotate_left
       ·simp only [Act.put,U,V,Z,i64_w,i32_w];rfl
       refine pure_ (i:=28) (N:=some 76) (v:=?_) (a':=?_) #[Y,Y,Y,Y,Y,Y,Y,Y,Y,Y,Y,Y,Y,Y,Y,Y,Y,Y,Y,Y,Y,Y,Y,Y,Y,Y,Y,Y,Y,Y,Y,J,J,J,J,J] rfl rfl (any_of HT_.out (by kernel_rfl)) (fun _ _ _ h => h) (Or.inl ⟨by rfl,?_⟩) ?_ ?_;rotate_left
       ·intro w';go_simp;with_reducible rfl
       rotate_left
       ·simp only [Act.put,U,V,Z,i64_w,i32_w];rfl
       refine take_ (i:=31) (N:=some 79) (v:=?_) (a':=?_) #[Y,Y,Y,Y,Y,Y,Y,Y,Y,Y,Y,Y,Y,Y,Y,Y,Y,Y,Y,Y,Y,Y,Y,Y,Y,Y,Y,Y,Y,Y,Y,Y,J,J,J,J] rfl rfl (take_ofW HT_.out HW_.out (by kernel_rfl)) (fun _ _ _ h => h) (Or.inl ⟨by rfl,?_⟩) hHeld ?_ ?_;rotate_left
       ·rintro w' ⟨s0,s1,s2,s3,s4,s5,s6,s7,s8,s9⟩;go_simp;with_reducible rfl
       rotate_left
       ·simp only [Act.put,U,V,Z,i64_w,i32_w];rfl
       refine pure_ (i:=32) (N:=some 80) (v:=?_) (a':=?_) #[Y,Y,Y,Y,Y,Y,Y,Y,Y,Y,Y,Y,Y,Y,Y,Y,Y,Y,Y,Y,Y,Y,Y,Y,Y,Y,Y,Y,Y,Y,Y,Y,Y,J,J,J] rfl rfl (any_of HT_.out (by kernel_rfl)) (fun _ _ _ h => h) (Or.inl ⟨by rfl,?_⟩) ?_ ?_;rotate_left
       ·intro w';go_simp;with_reducible rfl
       rotate_left
       ·simp only [Act.put,U,V,Z,i64_w,i32_w];rfl
       refine take_ (i:=33) (N:=some 81) (v:=?_) (a':=?_) #[Y,Y,Y,Y,Y,Y,Y,Y,Y,Y,Y,Y,Y,Y,Y,Y,Y,Y,Y,Y,Y,Y,Y,Y,Y,Y,Y,Y,Y,Y,Y,Y,Y,Y,J,J] rfl rfl (take_ofW HT_.out HW_.out (by kernel_rfl)) (fun _ _ _ h => h) (Or.inl ⟨by rfl,?_⟩) hHeld ?_ ?_;rotate_left
       ·rintro w' ⟨s0,s1,s2,s3,s4,s5,s6,s7,s8,s9⟩;go_simp;with_reducible rfl
       rotate_left
       ·simp only [Act.put,U,V,Z,i64_w,i32_w];rfl
       refine pure_ (i:=34) (N:=some 82) (v:=?_) (a':=?_) #[Y,Y,Y,Y,Y,Y,Y,Y,Y,Y,Y,Y,Y,Y,Y,Y,Y,Y,Y,Y,Y,Y,Y,Y,Y,Y,Y,Y,Y,Y,Y,Y,Y,Y,Y,J] rfl rfl (any_of HT_.out (by kernel_rfl)) (fun _ _ _ h => h) (Or.inl ⟨by rfl,?_⟩) ?_ ?_;rotate_left
       ·intro w';go_simp;with_reducible rfl
       rotate_left
       ·simp only [Act.put,U,V,Z,i64_w,i32_w];rfl
       refine pure_ (i:=35) (N:=some 83) (v:=?_) (a':=?_) #[Y,Y,Y,Y,Y,Y,Y,Y,Y,Y,Y,Y,Y,Y,Y,Y,Y,Y,Y,Y,Y,Y,Y,Y,Y,Y,Y,Y,Y,Y,Y,Y,Y,Y,Y,Y] rfl rfl (any_of HT_.out (by kernel_rfl)) (fun _ _ _ h => h) (Or.inl ⟨by rfl,?_⟩) ?_ ?_;rotate_left
       ·intro w';go_simp;with_reducible rfl
       rotate_left
       ·simp only [Act.put,U,V,Z,i64_w,i32_w];rfl
       refine done_ (done_of HT_.out (by kernel_rfl)) ?_
       try go_wp2
       have n0_:=zx (Kd.R_drew HO_5.out);have n1_:=zx (Kd.R_drew HO_6.out);have n2_:=zx (blk_drew p3.out);have n3_:=zx (blk_drew p4.out);have n4_:=zx (below_drew1 HB.out);clear HO_5;clear HO_6;clear p3;clear p4;clear HB;have HO_5:=n0_;have HO_6:=n1_;have p3:=n2_;have p4:=n3_;have HB:=n4_;clear n0_ n1_ n2_ n3_ n4_;have p549 : 0 ≤ (((rd_T34 l0_1 x9_3).f1) : Int):=of_decide_eq_true (by first | (with_reducible assumption) | assumption);have q549 : ((rd_T34 l0_1 x9_3).f1) < (x6_3.length : Int):=of_decide_eq_true (by first | (with_reducible assumption) | assumption);obtain ⟨ad549,e549,r7⟩:=Kd.at_int (Kd.R_reads' HO_6.out).2.2 ((rd_T34 l0_1 x9_3).f1) p549 q549;obtain rfl : (⟨go24,0,none⟩ : Addr) = ad549:=(by injection e549)
       (first | simp only [add_plain] at r7 | simp only [add_at] at r7 | simp only [Addr.add,Nat.zero_add] at r7 | skip)
       replace p549:=eq_true p549;replace q549:=eq_true q549;have p41 : 0 ≤ (((rd_T34 l0_1 x9_3).f0) : Int):=of_decide_eq_true (by first | (with_reducible assumption) | assumption);have q41 : (((rd_T34 l0_1 x9_3).f0) : Int) < ((x6_3.length : Int) : Int):=of_decide_eq_true (by first | (with_reducible assumption) | assumption);obtain ⟨hx41_0,hf41_0⟩:=Kd.R_celln 0 HO_6.out (((rd_T34 l0_1 x9_3).f0) : Int) p41 q41;replace p41:=eq_true p41;replace q41:=eq_true q41;have HP50:=Kd.R_putn HO_6.out (((rd_T34 l0_1 x9_3).f0) : Int) (wrap64 ((rd x6_3 ((rd_T34 l0_1 x9_3).f1)) + 1));rw [← Ny550.out] at HP50;have HQ50:=zx HP50;clear HP50;refine start_ (n:=11) (S:=fun w' => w'.cell? ⟨p0,0,none⟩ = some (.int .i64 ((rd_T34 l0_1 x9_3).f0)) ∧ w'.cell? ⟨p0,1,none⟩ = some (.int .i64 ((rd_T34 l0_1 x9_3).f1)) ∧ w'.cell? ⟨p0,2,none⟩ = some (.int .i64 ((rd_T34 l0_1 x9_3).f2)) ∧ w'.cell? ⟨p0,3,none⟩ = some (.int .i64 ((rd_T34 l0_1 x9_3).f3)) ∧ w'.cell? ⟨p0,4,none⟩ = some (.int .i64 ((rd_T34 l0_1 x9_3).f4)) ∧ w'.cell? ⟨go24,(((rd_T34 l0_1 x9_3).f1)).toNat,none⟩ = some (.int .i64 (rd x6_3 ((rd_T34 l0_1 x9_3).f1)))) (ds:=[10]) #[J,J,J,J,J,J,J,J,J,J,J] (by kernel_rfl) rfl rfl ⟨(blk_cell p4.out 0).trans rfl,(blk_cell p4.out 1).trans rfl,(blk_cell p4.out 2).trans rfl,(blk_cell p4.out 3).trans rfl,(blk_cell p4.out 4).trans rfl,r7⟩ (fun hHeld => ?_); refine with_tabW spec_l3Steps.tab16 spec_l3Steps.bits16 (fun HT_ HW_ => ?_);generalize w47.drew = w49 at HO_5 HO_6 p3 p4 HB HQ50 hf41_0 hx41_0 r7 hHeld ⊢;refine pure_ (i:=0) (N:=some 84) (v:=?_) (a':=?_) #[Y,J,J,J,J,J,J,J,J,J,J] rfl rfl (any_of HT_.out (by kernel_rfl)) (fun _ _ _ h => h) (Or.inl ⟨by rfl,?_⟩) ?_ ?_;rotate_left
       ·intro w';go_simp;with_reducible rfl
       rotate_left
       ·simp only [Act.put,U,V,Z,i64_w,i32_w];rfl
       refine pure_ (i:=1) (N:=some 85) (v:=?_) (a':=?_) #[Y,Y,J,J,J,J,J,J,J,J,J] rfl rfl (any_of HT_.out (by kernel_rfl)) (fun _ _ _ h => h) (Or.inl ⟨by rfl,?_⟩) ?_ ?_;rotate_left
       ·intro w';go_simp;with_reducible rfl
       rotate_left
       ·simp only [Act.put,U,V,Z,i64_w,i32_w];rfl
       refine pure_ (i:=3) (N:=some 87) (v:=?_) (a':=?_) #[Y,Y,J,Y,J,J,J,J,J,J,J] rfl rfl (any_of HT_.out (by kernel_rfl)) (fun _ _ _ h => h) (Or.inl ⟨by rfl,?_⟩) ?_ ?_;rotate_left
       ·intro w';go_simp;with_reducible rfl
       rotate_left
       ·simp only [Act.put,U,V,Z,i64_w,i32_w];rfl
       refine pure_ (i:=4) (N:=some 88) (v:=?_) (a':=?_) #[Y,Y,J,Y,Y,J,J,J,J,J,J] rfl rfl (any_of HT_.out (by kernel_rfl)) (fun _ _ _ h => h) (Or.inl ⟨by rfl,?_⟩) ?_ ?_;rotate_left
       ·intro w';go_simp;with_reducible rfl
       rotate_left
       ·simp only [Act.put,U,V,Z,i64_w,i32_w];rfl
       refine take_ (i:=2) (N:=some 86) (v:=?_) (a':=?_) #[Y,Y,Y,Y,Y,J,J,J,J,J,J] rfl rfl (take_ofW HT_.out HW_.out (by kernel_rfl)) (fun _ _ _ h => h) (Or.inl ⟨by rfl,?_⟩) hHeld ?_ ?_;rotate_left
       ·rintro w' ⟨s0,s1,s2,s3,s4,s5⟩;go_simp;with_reducible rfl
       rotate_left
       ·simp only [Act.put,U,V,Z,i64_w,i32_w];rfl
       refine take_ (i:=5) (N:=some 89) (v:=?_) (a':=?_) #[Y,Y,Y,Y,Y,Y,J,J,J,J,J] rfl rfl (take_ofW HT_.out HW_.out (by kernel_rfl)) (fun _ _ _ h => h) (Or.inl ⟨by rfl,?_⟩) hHeld ?_ ?_;rotate_left
       ·rintro w' ⟨s0,s1,s2,s3,s4,s5⟩;go_simp;with_reducible rfl
       rotate_left
       ·simp only [Act.put,U,V,Z,i64_w,i32_w];rfl
       refine pure_ (i:=6) (N:=some 90) (v:=?_) (a':=?_) #[Y,Y,Y,Y,Y,Y,Y,J,J,J,J] rfl rfl (any_of HT_.out (by kernel_rfl)) (fun _ _ _ h => h) (Or.inl ⟨by rfl,?_⟩) ?_ ?_;rotate_left
       ·intro w';go_simp;with_reducible rfl
       rotate_left
       ·simp only [Act.put,U,V,Z,i64_w,i32_w];rfl
       refine take_ (i:=7) (N:=some 91) (v:=?_) (a':=?_) #[Y,Y,Y,Y,Y,Y,Y,Y,J,J,J] rfl rfl (take_ofW HT_.out HW_.out (by kernel_rfl)) (fun _ _ _ h => h) (Or.inl ⟨by rfl,?_⟩) hHeld ?_ ?_;rotate_left
       ·rintro w' ⟨s0,s1,s2,s3,s4,s5⟩;go_simp;with_reducible rfl
       rotate_left
       ·simp only [Act.put,U,V,Z,i64_w,i32_w];rfl
       refine pure_ (i:=8) (N:=some 92) (v:=?_) (a':=?_) #[Y,Y,Y,Y,Y,Y,Y,Y,Y,J,J] rfl rfl (any_of HT_.out (by kernel_rfl)) (fun _ _ _ h => h) (Or.inl ⟨by rfl,?_⟩) ?_ ?_;rotate_left
       ·intro w';go_simp;with_reducible rfl
       rotate_left
       ·simp only [Act.put,U,V,Z,i64_w,i32_w];rfl
       refine pure_ (i:=9) (N:=some 93) (v:=?_) (a':=?_) #[Y,Y,Y,Y,Y,Y,Y,Y,Y,Y,J] rfl rfl (any_of HT_.out (by kernel_rfl)) (fun _ _ _ h => h) (Or.inl ⟨by rfl,?_⟩) ?_ ?_;rotate_left
       ·intro w';go_simp;with_reducible rfl
       rotate_left
       ·simp only [Act.put,U,V,Z,i64_w,i32_w];rfl
       refine last_ (i:=10) (N:=none) #[true,true,true,true,true,true,true,true,true,true,true] rfl rfl (one_of HT_.out (by kernel_rfl)) (by decide) (fun K hK => ?_);refine skip_ (w1:=?_) (by rfl) rfl ?_ ?_;rotate_left
       ·go_simp;rfl
       refine hK.out _ _ ?_;clear hK K;refine done_ (done_of HT_.out (by kernel_rfl)) ?_
       try go_wp2
       (try simp only [← hl6_3])
       go_roundg k3
       case measure => have:=HK1.out; have:=HK2.out; have:=HK3.out; omega
       case rel => exact ⟨(y550),(wrap64 (x9_3 + 1)),(by first | rfl | (simp; done) | (simp [*]; done)),H',⟨by have:=HK1.out; have:=HK2.out; have:=HK3.out; omega⟩,⟨by (try simp only [hl6_2]); (try simp only [hl6_3]); exact Kd.R_mono (Kd.R_far (p:=⟨go24,(((rd_T34 l0_1 x9_3).f0) : Int).toNat,none⟩) (Kd.R_mono HO_5.out (fun k_ hk => (⟨hk,fun e_ => hk (by rw [e_]; rfl)⟩ : _ ∧ k_ ≠ go24))) (fun _ hk => hk.2) (.int .i64 (wrap64 ((rd x6_3 ((rd_T34 l0_1 x9_3).f1)) + 1)))) (fun _ hk => hk.1)⟩,⟨by (try simp only [hl6_2]); (try simp only [hl6_3]); exact HQ50.out⟩,⟨by (try simp only [hl6_2]); (try simp only [hl6_3]); refine blk_far ?_ (by have h_:=Kd.R_ne HO_6.out p3.out (by decide); intro e_; exact h_ (by rw [e_]; rfl)) _; exact p3.out⟩,⟨by repeat (first | (with_reducible first | exact HB.out | apply below_alloc | apply pw_below_drewN | apply below_drew1 | refine below_set ?_ GB24.out | refine below_set ?_ r3.out | refine below_set ?_ r6.out) | exact HB.out)⟩⟩
end Go.Proofs.Ytljdcinpjnijcaa.Pr
end
