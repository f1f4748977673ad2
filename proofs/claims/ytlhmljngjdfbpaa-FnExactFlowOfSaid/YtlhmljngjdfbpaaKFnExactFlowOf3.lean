/- For the statement FnExactFlowOf of this seat: it is proved here, with no further conditions (part 4 of its texts: words, walks of the functions, the plain law, the row). -/
import Derived.Test.YtlhmljngjdfbpaaKFnExactFlowOf2
section
namespace Go.Proofs.Ytlhmljngjdfbpaa.Pr
open Go.RowKit Go.Proofs.YtlhmljngjdfbpaaW.PrintWords Go.Proofs.YtlhmljngjdfbpaaW.PrintLast Go.Proofs.YtlhmljngjdfbpaaW.PrintMore
attribute [local go_sem] max2_int min2_int max_two min_two max_three min_three max_four min_four
set_option linter.unusedVariables false
set_option linter.unusedSimpArgs false
open List renaming setIfInBounds_toArray → J,set_cons_zero → U,set_cons_succ → O
open Go.Proofs.YtlhmljngjdfbpaaW.PrintWords.Aside0 renaming mk → I
mutual
def spec_l25Push.l0 : Nat → List Int → Int → Int → List Int → Int → Int → List (S58) → Option (List Int × Bool)
 | 0,_,_,_,_,_,_,_ => none
 | k + 1,x1,x2,x3,x10,x11,s6,r3 => if x11 < s6 then (if 0 ≤ x11 then (if x11 < (x10.length : Int) then (spec_l25Push.l0 k x1 x2 x3 (x10.set (x11 : Int).toNat 0) (wrap64 (x11 + 1)) s6 r3) else (none)) else (none)) else (spec_l25Push.l1 k x1 x2 x3 x10 (([x2] : List Int)) 0 s6 r3)
def spec_l25Push.l1 : Nat → List Int → Int → Int → List Int → List Int → Int → Int → List (S58) → Option (List Int × Bool)
 | 0,_,_,_,_,_,_,_,_ => none
 | k + 1,x1,x2,x3,x10,x12,x13,s6,r3 => if x13 < (x12.length : Int) then (spec_l25Push.l2 k x1 x2 x3 x10 x12 x13 0 s6 r3) else (if 0 ≤ x3 then (if x3 < (x10.length : Int) then (if (rd x10 x3) = 0 then (some (x1,false)) else ((some (([] : List Int) : List Int)).bind fun y652 => (if y652.length + x1.length < 17592186044416 then (spec_l25Push.l3 k x2 x10 (y652 ++ x1) x3 s6 r3) else (none)))) else (none)) else (none))
def spec_l25Push.l2 : Nat → List Int → Int → Int → List Int → List Int → Int → Int → Int → List (S58) → Option (List Int × Bool)
 | 0,_,_,_,_,_,_,_,_,_ => none
 | k + 1,x1,x2,x3,x10,x12,x13,x14,s6,r3 => if x14 < (r3.length : Int) then (if 0 ≤ x14 then (if 0 ≤ x13 then (if x13 < (x12.length : Int) then (if ((rd_T58 r3 x14).f0) = (rd x12 x13) then (if x14 < (x1.length : Int) then (if (rd x1 x14) < ((rd_T58 r3 x14).f4) then (if 0 ≤ ((rd_T58 r3 x14).f1) then (if ((rd_T58 r3 x14).f1) < (x10.length : Int) then (if (rd x10 ((rd_T58 r3 x14).f1)) = 0 then (spec_l25Push.j3 k x1 x2 x3 x10 x12 x13 x14 (((rd_T58 r3 x14).f1) != x2) s6 r3 ((rd_T58 r3 x14).f0) ((rd_T58 r3 x14).f1) ((rd_T58 r3 x14).f2) ((rd_T58 r3 x14).f3) ((rd_T58 r3 x14).f4)) else (spec_l25Push.j3 k x1 x2 x3 x10 x12 x13 x14 false s6 r3 ((rd_T58 r3 x14).f0) ((rd_T58 r3 x14).f1) ((rd_T58 r3 x14).f2) ((rd_T58 r3 x14).f3) ((rd_T58 r3 x14).f4))) else (none)) else (none)) else (spec_l25Push.j3 k x1 x2 x3 x10 x12 x13 x14 false s6 r3 ((rd_T58 r3 x14).f0) ((rd_T58 r3 x14).f1) ((rd_T58 r3 x14).f2) ((rd_T58 r3 x14).f3) ((rd_T58 r3 x14).f4))) else (none)) else (spec_l25Push.j3 k x1 x2 x3 x10 x12 x13 x14 false s6 r3 ((rd_T58 r3 x14).f0) ((rd_T58 r3 x14).f1) ((rd_T58 r3 x14).f2) ((rd_T58 r3 x14).f3) ((rd_T58 r3 x14).f4))) else (none)) else (none)) else (none)) else (spec_l25Push.l1 k x1 x2 x3 x10 x12 (wrap64 (x13 + 1)) s6 r3)
def spec_l25Push.j3 : Nat → List Int → Int → Int → List Int → List Int → Int → Int → Bool → Int → List (S58) → Int → Int → Int → Int → Int → Option (List Int × Bool)
 | 0,_,_,_,_,_,_,_,_,_,_,_,_,_,_,_ => none
 | k + 1,x1,x2,x3,x10,x12,x13,x14,x80,s6,r3,u6,z4,x630002,x630003,x630004 => if x80 = true then (if 0 ≤ z4 then (if z4 < (x10.length : Int) then ((some (x10.set (z4 : Int).toNat (wrap64 (x14 + 1)) : List Int)).bind fun y633 => (if x12.length < 17592186044416 then ((some (x12 ++ [z4] : List Int)).bind fun y634 => (if 0 ≤ x13 then (if x13 < (y634.length : Int) then (if z4 = (rd y634 x13) then (if 0 ≤ x14 then (if x14 < (x1.length : Int) then (if (rd x1 x14) > 0 then (if 0 ≤ u6 then (if u6 < (x10.length : Int) then (if (rd y633 u6) = 0 then (if u6 = x2 then (spec_l25Push.l2 k x1 x2 x3 y633 y634 x13 (wrap64 (x14 + 1)) s6 r3) else (if y634.length < 17592186044416 then (spec_l25Push.l2 k x1 x2 x3 (y633.set (u6 : Int).toNat (wrap64 ((wrap64 (-x14)) - 1))) (y634 ++ [u6]) x13 (wrap64 (x14 + 1)) s6 r3) else (none))) else (spec_l25Push.l2 k x1 x2 x3 y633 y634 x13 (wrap64 (x14 + 1)) s6 r3)) else (none)) else (none)) else (spec_l25Push.l2 k x1 x2 x3 y633 y634 x13 (wrap64 (x14 + 1)) s6 r3)) else (none)) else (none)) else (spec_l25Push.l2 k x1 x2 x3 y633 y634 x13 (wrap64 (x14 + 1)) s6 r3)) else (none)) else (none))) else (none))) else (none)) else (none)) else (if 0 ≤ x13 then (if x13 < (x12.length : Int) then (if z4 = (rd x12 x13) then (if 0 ≤ x14 then (if x14 < (x1.length : Int) then (if (rd x1 x14) > 0 then (if 0 ≤ u6 then (if u6 < (x10.length : Int) then (if (rd x10 u6) = 0 then (if u6 = x2 then (spec_l25Push.l2 k x1 x2 x3 x10 x12 x13 (wrap64 (x14 + 1)) s6 r3) else (if x12.length < 17592186044416 then (spec_l25Push.l2 k x1 x2 x3 (x10.set (u6 : Int).toNat (wrap64 ((wrap64 (-x14)) - 1))) (x12 ++ [u6]) x13 (wrap64 (x14 + 1)) s6 r3) else (none))) else (spec_l25Push.l2 k x1 x2 x3 x10 x12 x13 (wrap64 (x14 + 1)) s6 r3)) else (none)) else (none)) else (spec_l25Push.l2 k x1 x2 x3 x10 x12 x13 (wrap64 (x14 + 1)) s6 r3)) else (none)) else (none)) else (spec_l25Push.l2 k x1 x2 x3 x10 x12 x13 (wrap64 (x14 + 1)) s6 r3)) else (none)) else (none))
def spec_l25Push.l3 : Nat → Int → List Int → List Int → Int → Int → List (S58) → Option (List Int × Bool)
 | 0,_,_,_,_,_,_ => none
 | k + 1,x2,x10,x16,x17,s6,r3 => if x17 = x2 then (some (x16,true)) else (if 0 ≤ x17 then (if x17 < (x10.length : Int) then (if (rd x10 x17) > 0 then (if 0 ≤ (wrap64 ((rd x10 x17) - 1)) then (if (wrap64 ((rd x10 x17) - 1)) < (x16.length : Int) then (if (wrap64 ((rd x10 x17) - 1)) < (r3.length : Int) then (spec_l25Push.l3 k x2 x10 (x16.set ((wrap64 ((rd x10 x17) - 1)) : Int).toNat (wrap64 ((rd x16 (wrap64 ((rd x10 x17) - 1))) + 1))) ((rd_T58 r3 (wrap64 ((rd x10 x17) - 1))).f0) s6 r3) else (none)) else (none)) else (none)) else (if 0 ≤ (wrap64 ((wrap64 (-(rd x10 x17))) - 1)) then (if (wrap64 ((wrap64 (-(rd x10 x17))) - 1)) < (x16.length : Int) then (if (wrap64 ((wrap64 (-(rd x10 x17))) - 1)) < (r3.length : Int) then (spec_l25Push.l3 k x2 x10 (x16.set ((wrap64 ((wrap64 (-(rd x10 x17))) - 1)) : Int).toNat (wrap64 ((rd x16 (wrap64 ((wrap64 (-(rd x10 x17))) - 1))) - 1))) ((rd_T58 r3 (wrap64 ((wrap64 (-(rd x10 x17))) - 1))).f1) s6 r3) else (none)) else (none)) else (none))) else (none)) else (none))
end
def spec_l25Push.f (k : Nat) (a0_0 : Int) (l0_1 : List (S58)) (l1 : List Int) (a2 : Int) (a3 : Int) : Option (List Int × Bool):=if 0 ≤ a0_0 then (if (a0_0 : Int).toNat ≤ 35184372088832 then (spec_l25Push.l0 k l1 a2 a3 (List.replicate (a0_0 : Int).toNat 0) 0 a0_0 l0_1) else (none)) else (none)
set_option maxHeartbeats 100000000 in
set_option maxRecDepth 100000 in
theorem spec_l25Push.calls (k : Nat) (a0_0 : Int) (A0_1 : Option Addr) (c0_1 : Nat) (l0_1 : List (S58)) (P1_ : Nat → Prop) (q9 : Value) (l1 : List Int) (a2 : Int) (a3 : Int) (r1 : List Int) (r2 : Bool) (w0 w : World) (hB : Below w0.heap.size w0 w) (hr0_1 : ∀ W_,Kept w W_ (fun k_ => P1_ k_) → Kd.C k58 W_ A0_1 l0_1.length l0_1) (hc0_1 : l0_1.length ≤ c0_1) (ho1 : Kd.R (Kd.int .i64) 3 w w0.heap.size P1_ q9 l1) (h : spec_l25Push.f k a0_0 l0_1 l1 a2 a3 = some (r1,r2)) :
  Calls Try.prog 95 #[.agg #[.int .i64 a0_0,.slice A0_1 l0_1.length c0_1],q9,.int .i64 a2,.int .i64 a3] w fun e w' => ∃ v0_ : Value,e = .returned (.tuple #[v0_,.bool r2]) ∧ Kd.R (Kd.int .i64) 3 w' w0.heap.size (fun k_ => (P1_ k_ ∨ w.heap.size ≤ k_)) v0_ r1 ∧ Below w0.heap.size w0 w' ∧ Kept w w' (fun k_ => P1_ k_):=by
 have hu34:=Try.underlying34;have hu58:=Try.underlying58;have m4:=I hr0_1;have HC0_1:=I hc0_1;clear hr0_1 hc0_1;have HO1:=I (show Kd.R (Kd.int .i64) 3 w w0.heap.size (fun k_ => (P1_ k_ ∨ w.heap.size ≤ k_)) q9 l1 from Kd.R_mono ho1 (fun k_ hk => (.inl hk)));have HK:=I (Kept.refl w (fun k_ => P1_ k_));have HW0:=I hB.size;have HB:=I hB;clear hB;have H : (if 0 ≤ a0_0 then (if (a0_0 : Int).toNat ≤ 35184372088832 then (spec_l25Push.l0 k l1 a2 a3 (List.replicate (a0_0 : Int).toNat 0) 0 a0_0 l0_1) else (none)) else (none)) = some (r1,r2):=h;clear h
 by_cases c5 : 0 ≤ a0_0
 case neg =>
  rw [if_neg c5] at H;exact absurd H (by simp)
 rw [if_pos c5] at H;have c5b0:=eq_true c5;have c5b1 : decide (0 ≤ a0_0) = true:=decide_eq_true c5;clear c5
 by_cases c6 : (a0_0 : Int).toNat ≤ 35184372088832
 case neg =>
  rw [if_neg c6] at H;exact absurd H (by simp)
 rw [if_pos c6] at H;have c6b0:=eq_true c6;have c6b1 : decide ((a0_0 : Int).toNat ≤ 35184372088832) = true:=decide_eq_true c6;clear c6;obtain ⟨y621,hy621⟩ : ∃ y_ : List Int,y_ = (List.replicate (a0_0 : Int).toNat 0):=⟨_,rfl⟩
 replace H : (spec_l25Push.l0 k l1 a2 a3 y621 0 a0_0 l0_1) = some (r1,r2):=by first | (rw [hy621]; with_reducible exact H) | (have H2_:=(Option.bind_some _ _).symm.trans H; rw [hy621]; with_reducible exact H2_) | (have H2_:=(Option.bind_some _ _).symm.trans H; with_reducible exact H2_) | with_reducible exact H | (rw [hy621]; exact H) | exact H
 have g4:=I hy621;clear hy621;have H':=I H;clear H
 go_enter Try.func95,Try.ntmps95
 go_wp2_with (first | ((with_reducible refine gate_dst (N:=4) rfl ?_); refine box_event ?hg (N:=4) ?hd (cs:=#[.int .i64 a0_0,.slice A0_1 l0_1.length c0_1]) (t:=34) ?hr ?_; (case hd => rfl); (case hg => rfl); (case hr => first | (go_simp; done) | (go_simp; rfl)); intro q8 hg w7 hbox hb; have n0_:=I (Kd.R_below (by (with_reducible repeat (first | apply Kd.R_alloc | apply Kd.R_drewN | apply Kd.R_drew)); exact HO1.out) hb); have n1_:=I (Kept.below (S:=(fun k_ => P1_ k_)) (by repeat (first | (with_reducible first | exact HK.out | apply Kept.alloc | apply Kept.drewN | apply Kept.drew) | exact HK.out)) hb); have n2_:=I (below_step (by repeat (first | (with_reducible first | exact HB.out | apply below_alloc | apply pw_below_drewN | apply below_drew1) | exact HB.out)) hb); have n3_:=I (hbox); have n4_:=I ((by rw [hg]; exact (by first | exact HK.out.1 | exact (show Kept w _ (fun k_ => P1_ k_) from by repeat (first | (with_reducible first | exact HK.out | apply Kept.alloc | apply Kept.drewN | apply Kept.drew) | exact HK.out)).1) : w.heap.size ≤ q8)); have n5_:=I ((by rw [hg]; exact (below_size (by repeat (first | (with_reducible first | exact HB.out | apply below_alloc | apply pw_below_drewN | apply below_drew1) | exact HB.out))) : w0.heap.size ≤ q8)); clear HO1; clear HK; clear HB; have HO1:=n0_; have HK:=n1_; have HB:=n2_; have p9:=n3_; have q4:=n4_; have r0:=n5_; clear n0_ n1_ n2_ n3_ n4_ n5_; clear hb hbox hg; have z6 : w7.cell? ⟨q8,0,none⟩ = some (.int .i64 a0_0):=(blk_cell p9.out 0).trans rfl; have z7 : w7.cell? ⟨q8,1,none⟩ = some (.slice A0_1 l0_1.length c0_1):=(blk_cell p9.out 1).trans rfl; have z8:=blk_frozen p9.out 0; have z9:=blk_frozen p9.out 1) | ((with_reducible refine gate_dst (N:=21) rfl ?_); refine Kd.R_make (Kd.int .i64) _ 3 rfl (N:=21) rfl 23 _ _ rfl a0_0 (by first | rfl | (go_simp; done) | (go_simp; rfl)) (by first | rfl | (go_simp; done) | (go_simp; rfl)) Try.underlying23 (.int .i64 0) 8 info3 rfl (by decide) (by omega) 0 (ok:=fun _ => True) (okp:=fun _ => True) rfl (fun _ hk => hk) trivial (of_decide_eq_true (by first | (with_reducible assumption) | assumption)) (Nat.le_trans (Nat.mul_le_mul_right _ (of_decide_eq_true (by first | (with_reducible assumption) | assumption) : a0_0.toNat ≤ 35184372088832)) (by omega)) (Below.refl _ _) (Nat.le_refl _) ?_; intro v622 w9 ho10 hb hg_ hnew_; clear hg_ hnew_; (first | rw [← g4.out] at ho10 | (simp only [Int.reduceToNat] at ho10; rw [← g4.out] at ho10)); have n0_:=I (Kd.R_elder' (by (with_reducible repeat (first | apply Kd.R_alloc | apply Kd.R_drewN | apply Kd.R_drew)); exact HO1.out) (Kd.R_base ho10) hb); have n1_:=I (Kd.R_lower (Kd.R_new' (Kd.R_newM (M:=fun k_ => (P1_ k_ ∨ w.heap.size ≤ k_)) ho10 (by first | exact HK.out.1 | exact (show Kept w _ (fun k_ => P1_ k_) from by repeat (first | (with_reducible first | exact HK.out | apply Kept.alloc | apply Kept.drewN | apply Kept.drew | refine Kept.setCell ?_ (.inr q4.out) _) | exact HK.out)).1) (fun k_ h_ => .inr h_)) (Kd.R_lt (by (with_reducible repeat (first | apply Kd.R_alloc | apply Kd.R_drewN | apply Kd.R_drew)); exact HO1.out))) (below_size (by repeat (first | (with_reducible first | exact HB.out | apply below_alloc | apply pw_below_drewN | apply below_drew1 | refine below_set ?_ r0.out) | exact HB.out)))); have n2_:=I (blk_below (g:=q8) (o:=.cells #[.int .i64 a0_0,.slice A0_1 l0_1.length c0_1] 34 (0,0)) (by (with_reducible repeat (first | refine blk_drewN ?_ _ | refine blk_drew ?_ | refine blk_alloc ?_ _)); exact p9.out) hb); have n3_:=I (Kept.below (S:=(fun k_ => P1_ k_)) (by repeat (first | (with_reducible first | exact HK.out | apply Kept.alloc | apply Kept.drewN | apply Kept.drew | refine Kept.setCell ?_ (.inr q4.out) _) | exact HK.out)) hb); have n4_:=I (below_step (by repeat (first | (with_reducible first | exact HB.out | apply below_alloc | apply pw_below_drewN | apply below_drew1 | refine below_set ?_ r0.out) | exact HB.out)) hb); clear HO1; clear p9; clear HK; clear HB; have HO1:=n0_; have HO623:=n1_; have p9:=n2_; have HK:=n3_; have HB:=n4_; clear n0_ n1_ n2_ n3_ n4_; clear hb ho10))
 repeat (go_quiet (fail); try go_wp2)
 go_loopg [11] k (fun kq v11 w' => ∃ (u9 : List Int) (t6 : Int),v11 = .int .i64 t6 ∧ Aside0 (spec_l25Push.l0 kq l1 a2 a3 u9 t6 a0_0 l0_1 = some (r1,r2)) ∧ Aside0 (kq ≤ k) ∧ Aside0 (Kd.R (Kd.int .i64) 3 w' w0.heap.size (fun k_ => (P1_ k_ ∨ w.heap.size ≤ k_) ∧ some k_ ≠ (v622 : Value).ownBlock) q9 l1) ∧ Aside0 (Kd.R (Kd.int .i64) 3 w' w0.heap.size (fun k_ => (P1_ k_ ∨ w.heap.size ≤ k_) ∧ some k_ ≠ (q9 : Value).ownBlock) v622 u9) ∧ Aside0 (w'.heap[q8]? = some (.cells #[.int .i64 a0_0,(.slice A0_1 l0_1.length c0_1)] 34 (0,0))) ∧ Aside0 (Kept w w' (fun k_ => P1_ k_)) ∧ Aside0 (Below w0.heap.size w0 w'))
 case atStart => exact ⟨(y621),(0),(by first | rfl | (simp; done) | (simp [*]; done)),H',⟨Nat.le_refl _⟩,⟨by (with_reducible repeat (first | apply Kd.R_alloc | apply Kd.R_drewN | apply Kd.R_drew)); exact HO1.out⟩,⟨by (with_reducible repeat (first | apply Kd.R_alloc | apply Kd.R_drewN | apply Kd.R_drew)); exact Kd.R_mono HO623.out (fun _ hk => ⟨hk.1.1,hk.2⟩)⟩,⟨by (with_reducible repeat (first | refine blk_drewN ?_ _ | refine blk_drew ?_ | refine blk_alloc ?_ _)); exact p9.out⟩,⟨by repeat (first | (with_reducible first | exact HK.out | apply Kept.alloc | apply Kept.drewN | apply Kept.drew | refine Kept.setCell ?_ (.inr q4.out) _) | exact HK.out)⟩,⟨by repeat (first | (with_reducible first | exact HB.out | apply below_alloc | apply pw_below_drewN | apply below_drew1 | refine below_set ?_ r0.out) | exact HB.out)⟩⟩
 case round =>
  clear H'
  try clear p2
  try clear c5
  try clear c5b0
  try clear c5b1
  try clear c6
  try clear c6b0
  try clear c6b1
  try clear c9
  try clear z6
  try clear z7
  try clear z8
  try clear z9
  obtain ⟨u9,t6,rfl,HA,HK1,HO_1,p4,p9,HK,HB⟩:=hrel;cases gk with
  | zero => exact absurd HA.out (by simp [spec_l25Push.l0])
  | succ k1 =>
   have H:=HA.out;clear HA;simp only [spec_l25Push.l0] at H
   by_cases c11 : t6 < a0_0
   case pos =>
    rw [if_pos c11] at H;have c11b0 : decide (t6 < a0_0) = true:=decide_eq_true c11;clear c11
    by_cases c12 : 0 ≤ t6
    case neg =>
     rw [if_neg c12] at H;exact absurd H (by simp)
    rw [if_pos c12] at H;have c12b0 : decide (0 ≤ t6) = true:=decide_eq_true c12;clear c12
    by_cases c13 : t6 < (u9.length : Int)
    case neg =>
     rw [if_neg c13] at H;exact absurd H (by simp)
    rw [if_pos c13] at H;have c13b0 : decide (t6 < (u9.length : Int)) = true:=decide_eq_true c13;clear c13;obtain ⟨y624,hy624⟩ : ∃ y_ : List Int,y_ = (u9.set (t6 : Int).toNat 0):=⟨_,rfl⟩
    replace H : (spec_l25Push.l0 k1 l1 a2 a3 y624 (wrap64 (t6 + 1)) a0_0 l0_1) = some (r1,r2):=by first | (rw [hy624]; with_reducible exact H) | (have H2_:=(Option.bind_some _ _).symm.trans H; rw [hy624]; with_reducible exact H2_) | (have H2_:=(Option.bind_some _ _).symm.trans H; with_reducible exact H2_) | with_reducible exact H | (rw [hy624]; exact H) | exact H
    have G8:=I hy624;clear hy624;have H':=I H;clear H;have g7 : wr.cell? ⟨q8,0,none⟩ = some (.int .i64 a0_0):=(blk_cell p9.out 0).trans rfl;have g8 : wr.cell? ⟨q8,1,none⟩ = some (.slice A0_1 l0_1.length c0_1):=(blk_cell p9.out 1).trans rfl;have g9:=blk_frozen p9.out 0;have j0:=blk_frozen p9.out 1;have p14 : 0 ≤ (t6 : Int):=of_decide_eq_true (by first | (with_reducible assumption) | assumption);have q14 : (t6 : Int) < ((u9.length : Int) : Int):=of_decide_eq_true (by first | (with_reducible assumption) | assumption);obtain ⟨go14,co14,eo14,gb14,gl14,cl14,HG14⟩:=Kd.R_form p4.out (by omega)
    (first | cases eo14 | (injection eo14 with ea_ en_ ec_; (first | subst ea_ | (injection ea_ with ea_; subst ea_)); subst ec_; clear en_))
    have GB14:=I gb14;have GG14:=I HG14;clear gb14 gl14 HG14;have HMgo14:=I (show (P1_ go14 ∨ w.heap.size ≤ go14) from (p4.out.1 _ rfl).1);obtain ⟨m0,hf14_0⟩:=Kd.R_celln 0 p4.out (t6 : Int) p14 q14;replace p14:=eq_true p14;replace q14:=eq_true q14;have HP16:=Kd.R_putg p4.out (t6 : Int) 0
    go_wp2_with (first | ((with_reducible refine gate_store (t:=3) (p:=30) rfl ?_); (try (rw [drewN_self wr]; generalize hq_ : World.drewN wr _ = wr; have n0_:=I (Kd.R_at hq_ HO_1.out); have n1_:=I (Kd.R_at hq_ p4.out); have n2_:=I (blk_at hq_ p9.out); have n3_:=I (kept_at hq_ HK.out); have n4_:=I (below_at hq_ HB.out); clear hq_ HO_1 p4 p9 HK HB; have HO_1:=n0_; have p4:=n1_; have p9:=n2_; have HK:=n3_; have HB:=n4_; clear n0_ n1_ n2_ n3_ n4_; (try (have HP16:=Kd.R_putg p4.out (t6 : Int) 0)); (try (obtain ⟨m0,hf14_0⟩:=Kd.R_celln 0 p4.out (t6 : Int) (of_eq_true p14) (of_eq_true q14))))); refine store_event (t:=3) (p:=30) (v:=?vo_w17) (w1:=(wr.setCell ⟨go14,(t6 : Int).toNat,none⟩ (.int .i64 0))) ?hg ?ho ?hn ?hr ?_; (case ho => rfl); (case hg => rfl); (case hn => rfl); (case hr => first | (go_simp; done) | (go_simp; rfl)); intro w17 hw; have hg : wr.grownBy w17 (some go14):=(by rw [hw]; exact HP16.2); have hp_ : Kd.R (Kd.int .i64) 3 w17 w0.heap.size (fun k_ => (P1_ k_ ∨ w.heap.size ≤ k_) ∧ some k_ ≠ (q9 : Value).ownBlock) (.slice (some ⟨go14,0,none⟩) u9.length co14) y624:=(by rw [hw,G8.out]; exact HP16.1); clear HP16; have n0_:=I (Kd.R_after (v:=(.slice (some ⟨go14,0,none⟩) u9.length co14)) (v1:=(.slice (some ⟨go14,0,none⟩) u9.length co14)) (ok:=(fun k_ => (P1_ k_ ∨ w.heap.size ≤ k_))) (by (with_reducible repeat (first | apply Kd.R_alloc | apply Kd.R_drewN | apply Kd.R_drew)); exact HO_1.out) hg (.inl rfl)); have n1_:=I (hp_); have n2_:=I (blk_grown (g:=q8) (o:=.cells #[.int .i64 a0_0,.slice A0_1 l0_1.length c0_1] 34 (0,0)) (by (with_reducible repeat (first | refine blk_drewN ?_ _ | refine blk_drew ?_ | refine blk_alloc ?_ _)); exact p9.out) hg (Kd.R_ne p4.out p9.out (by decide))); have n3_:=I ((by rw [hw]; exact below_set (HB.out) GB14.out : Below w0.heap.size w0 w17)); have n4_:=I (Kept.of_grown (S:=(fun k_ => P1_ k_)) hg (by repeat (first | (with_reducible first | exact HK.out | apply Kept.alloc | apply Kept.drewN | apply Kept.drew | refine Kept.setCell ?_ (.inr q4.out) _) | exact HK.out)) (fun k_ e_ => (p4.out.1 k_ e_).1)); clear HO_1; clear p4; clear p9; clear HB; clear HK; have HO_1:=n0_; have p4:=n1_; have p9:=n2_; have HB:=n3_; have HK:=n4_; clear n0_ n1_ n2_ n3_ n4_; clear hg hw hp_))
    repeat (go_quiet (fail); try go_wp2)
    go_roundg k1
    case measure => have:=HK1.out; omega
    case rel => exact ⟨(y624),(wrap64 (t6 + 1)),(by first | rfl | (simp; done) | (simp [*]; done)),H',⟨by have:=HK1.out; omega⟩,⟨by (with_reducible repeat (first | apply Kd.R_alloc | apply Kd.R_drewN | apply Kd.R_drew)); exact HO_1.out⟩,⟨by (with_reducible repeat (first | apply Kd.R_alloc | apply Kd.R_drewN | apply Kd.R_drew)); exact p4.out⟩,⟨by (with_reducible repeat (first | refine blk_drewN ?_ _ | refine blk_drew ?_ | refine blk_alloc ?_ _)); exact p9.out⟩,⟨by repeat (first | (with_reducible first | exact HK.out | apply Kept.alloc | apply Kept.drewN | apply Kept.drew | refine Kept.setCell ?_ (.inr q4.out) _) | exact HK.out)⟩,⟨by repeat (first | (with_reducible first | exact HB.out | apply below_alloc | apply pw_below_drewN | apply below_drew1 | refine below_set ?_ r0.out) | exact HB.out)⟩⟩
   rw [if_neg c11] at H;have c11b0 : decide (t6 < a0_0) = false:=decide_eq_false c11;clear c11;obtain ⟨y625,hy625⟩ : ∃ y_ : List Int,y_ = (([a2] : List Int)):=⟨_,rfl⟩
   replace H : (spec_l25Push.l1 k1 l1 a2 a3 u9 y625 0 a0_0 l0_1) = some (r1,r2):=by first | (rw [hy625]; with_reducible exact H) | (have H2_:=(Option.bind_some _ _).symm.trans H; rw [hy625]; with_reducible exact H2_) | (have H2_:=(Option.bind_some _ _).symm.trans H; with_reducible exact H2_) | with_reducible exact H | (rw [hy625]; exact H) | exact H
   have g5:=I hy625;clear hy625;have H':=I H;clear H;have j1 : wr.cell? ⟨q8,0,none⟩ = some (.int .i64 a0_0):=(blk_cell p9.out 0).trans rfl;have j2 : wr.cell? ⟨q8,1,none⟩ = some (.slice A0_1 l0_1.length c0_1):=(blk_cell p9.out 1).trans rfl;have j4:=blk_frozen p9.out 0;have j5:=blk_frozen p9.out 1
   go_wp2_with (first | ((with_reducible refine gate_dst (N:=32) rfl ?_); refine Kd.R_lit (Kd.int .i64) _ 3 ?hg (N:=32) ?hd (xs:=([a2] : List Int)) (inner:=[.int .i64 a2]) (ok:=fun _ => True) (okp:=fun _ => True) ?hr ?hp (fun _ hk => hk) trivial (Below.refl _ _) (Nat.le_refl _) (by simp) ?_; (case hd => rfl); (case hg => rfl); (case hr => first | (go_simp; done) | (go_simp; rfl)); (case hp => exact (Reps.one (show Kd.M (Kd.int .i64) _ _ _ a2 [.int .i64 a2] from rfl) (Reps.none _ _))); intro v626 w19 ho20 hb hg_ hnew_; clear hg_ hnew_; (first | rw [← g5.out] at ho20 | (simp only [Int.reduceToNat] at ho20; rw [← g5.out] at ho20)); have n0_:=I (Kd.R_elder' (by (with_reducible repeat (first | apply Kd.R_alloc | apply Kd.R_drewN | apply Kd.R_drew)); exact HO_1.out) (Kd.R_base ho20) hb); have n1_:=I (Kd.R_elder' (by (with_reducible repeat (first | apply Kd.R_alloc | apply Kd.R_drewN | apply Kd.R_drew)); exact p4.out) (Kd.R_base ho20) hb); have n2_:=I (Kd.R_lower (Kd.R_new' (Kd.R_new' (Kd.R_newM (M:=fun k_ => (P1_ k_ ∨ w.heap.size ≤ k_)) ho20 (by first | exact HK.out.1 | exact (show Kept w _ (fun k_ => P1_ k_) from by repeat (first | (with_reducible first | exact HK.out | apply Kept.alloc | apply Kept.drewN | apply Kept.drew | refine Kept.setCell ?_ (.inr q4.out) _) | exact HK.out)).1) (fun k_ h_ => .inr h_)) (Kd.R_lt (by (with_reducible repeat (first | apply Kd.R_alloc | apply Kd.R_drewN | apply Kd.R_drew)); exact HO_1.out))) (Kd.R_lt (by (with_reducible repeat (first | apply Kd.R_alloc | apply Kd.R_drewN | apply Kd.R_drew)); exact p4.out))) (below_size (by repeat (first | (with_reducible first | exact HB.out | apply below_alloc | apply pw_below_drewN | apply below_drew1 | refine below_set ?_ r0.out) | exact HB.out)))); have n3_:=I (blk_below (g:=q8) (o:=.cells #[.int .i64 a0_0,.slice A0_1 l0_1.length c0_1] 34 (0,0)) (by (with_reducible repeat (first | refine blk_drewN ?_ _ | refine blk_drew ?_ | refine blk_alloc ?_ _)); exact p9.out) hb); have n4_:=I (Kept.below (S:=(fun k_ => P1_ k_)) (by repeat (first | (with_reducible first | exact HK.out | apply Kept.alloc | apply Kept.drewN | apply Kept.drew | refine Kept.setCell ?_ (.inr q4.out) _) | exact HK.out)) hb); have n5_:=I (below_step (by repeat (first | (with_reducible first | exact HB.out | apply below_alloc | apply pw_below_drewN | apply below_drew1 | refine below_set ?_ r0.out) | exact HB.out)) hb); clear HO_1; clear p4; clear p9; clear HK; clear HB; have HO_1:=n0_; have p4:=n1_; have HO627:=n2_; have p9:=n3_; have HK:=n4_; have HB:=n5_; clear n0_ n1_ n2_ n3_ n4_ n5_; clear hb ho20))
   repeat (go_quiet (fail); try go_wp2)
   go_loopg [12,13] k1 (fun kq v12 v13 w' => ∃ (s4 : List Int) (v3 : List Int) (q3 : Int),v13 = .int .i64 q3 ∧ Aside0 (spec_l25Push.l1 kq l1 a2 a3 s4 v3 q3 a0_0 l0_1 = some (r1,r2)) ∧ Aside0 (kq ≤ k1) ∧ Aside0 (Kd.R (Kd.int .i64) 3 w' w0.heap.size (fun k_ => (P1_ k_ ∨ w.heap.size ≤ k_) ∧ some k_ ≠ (v622 : Value).ownBlock ∧ some k_ ≠ (v12 : Value).ownBlock) q9 l1) ∧ Aside0 (Kd.R (Kd.int .i64) 3 w' w0.heap.size (fun k_ => (P1_ k_ ∨ w.heap.size ≤ k_) ∧ some k_ ≠ (q9 : Value).ownBlock ∧ some k_ ≠ (v12 : Value).ownBlock) v622 s4) ∧ Aside0 (Kd.R (Kd.int .i64) 3 w' w0.heap.size (fun k_ => (P1_ k_ ∨ w.heap.size ≤ k_) ∧ some k_ ≠ (q9 : Value).ownBlock ∧ some k_ ≠ (v622 : Value).ownBlock) v12 v3) ∧ Aside0 (w'.heap[q8]? = some (.cells #[.int .i64 a0_0,(.slice A0_1 l0_1.length c0_1)] 34 (0,0))) ∧ Aside0 (Kept w w' (fun k_ => P1_ k_)) ∧ Aside0 (Below w0.heap.size w0 w'))
   case atStart => exact ⟨(u9),(y625),(0),(by first | rfl | (simp; done) | (simp [*]; done)),H',⟨Nat.le_refl _⟩,⟨by (with_reducible repeat (first | apply Kd.R_alloc | apply Kd.R_drewN | apply Kd.R_drew)); exact Kd.R_mono HO_1.out (fun _ hk => ⟨hk.1.1,⟨hk.1.2,hk.2⟩⟩)⟩,⟨by (with_reducible repeat (first | apply Kd.R_alloc | apply Kd.R_drewN | apply Kd.R_drew)); exact Kd.R_mono p4.out (fun _ hk => ⟨hk.1.1,⟨hk.1.2,hk.2⟩⟩)⟩,⟨by (with_reducible repeat (first | apply Kd.R_alloc | apply Kd.R_drewN | apply Kd.R_drew)); exact Kd.R_mono HO627.out (fun _ hk => ⟨hk.1.1.1,⟨hk.1.2,hk.2⟩⟩)⟩,⟨by (with_reducible repeat (first | refine blk_drewN ?_ _ | refine blk_drew ?_ | refine blk_alloc ?_ _)); exact p9.out⟩,⟨by repeat (first | (with_reducible first | exact HK.out | apply Kept.alloc | apply Kept.drewN | apply Kept.drew | refine Kept.setCell ?_ (.inr q4.out) _) | exact HK.out)⟩,⟨by repeat (first | (with_reducible first | exact HB.out | apply below_alloc | apply pw_below_drewN | apply below_drew1 | refine below_set ?_ r0.out) | exact HB.out)⟩⟩
   case round =>
    clear H'
    try clear c1
    try clear p1
    try clear q1
    try clear hx1
    try clear p2
    try clear c5
    try clear c5b0
    try clear c5b1
    try clear c6
    try clear c6b0
    try clear c6b1
    try clear p6
    try clear c9
    try clear c11
    try clear c11b0
    try clear c12
    try clear c12b0
    try clear c13
    try clear c13b0
    try clear p14
    try clear q14
    try clear hx14
    try clear hf14
    try clear g7
    try clear g8
    try clear j1
    try clear j2
    try clear z6
    try clear z7
    try clear g9
    try clear j0
    try clear j4
    try clear j5
    try clear z8
    try clear z9
    try clear m0
    try clear p14
    try clear p2
    try clear q14
    obtain ⟨s4,v3,q3,rfl,HA,HK2,HO_1,p4,q0,p9,HK,HB⟩:=hrel;cases gk with
    | zero => exact absurd HA.out (by simp [spec_l25Push.l1])
    | succ k2 =>
     have H:=HA.out;clear HA;simp only [spec_l25Push.l1] at H
     by_cases c21 : q3 < (v3.length : Int)
     case neg =>
      rw [if_neg c21] at H;have c21b0 : decide (q3 < (v3.length : Int)) = false:=decide_eq_false c21;clear c21
      by_cases c159 : 0 ≤ a3
      case neg =>
       rw [if_neg c159] at H;exact absurd H (by simp)
      rw [if_pos c159] at H;have c159b0 : decide (0 ≤ a3) = true:=decide_eq_true c159;clear c159
      by_cases c160 : a3 < (s4.length : Int)
      case neg =>
       rw [if_neg c160] at H;exact absurd H (by simp)
      rw [if_pos c160] at H;have c160b0 : decide (a3 < (s4.length : Int)) = true:=decide_eq_true c160;clear c160
      by_cases c161 : (rd s4 a3) = 0
      case pos =>
       rw [if_pos c161] at H;have c161b0 : ((rd s4 a3) == 0) = true:=beq_iff_eq.mpr c161;have c161b1 : ((rd s4 a3) != 0) = false:=bne_eq_false_iff_eq.mpr c161;clear c161;simp only [Option.some.injEq,Prod.mk.injEq] at H;obtain ⟨rfl,rfl⟩:=H;obtain ⟨Ao162,co162,eo162⟩:=Kd.R_slice q0.out;subst eo162;obtain ⟨Ao163,co163,eo163⟩:=Kd.R_slice p4.out;subst eo163;have p651 : 0 ≤ (a3 : Int):=of_decide_eq_true (by first | (with_reducible assumption) | assumption);have q651 : a3 < (s4.length : Int):=of_decide_eq_true (by first | (with_reducible assumption) | assumption);obtain ⟨u8,e651,F7⟩:=Kd.at_int (Kd.R_reads' p4.out).2.2 a3 p651 q651;cases e651;replace p651:=eq_true p651;replace q651:=eq_true q651
       go_wp2
       repeat (go_quiet (fail); try go_wp2)
       go_ret2;exact ⟨_,by first | rfl | (simp [errW_none,errW_some] <;> rfl) | (simp [*,errW_none,errW_some] <;> rfl),by (with_reducible repeat (first | apply Kd.R_alloc | apply Kd.R_drewN | apply Kd.R_drew)); exact Kd.R_mono HO_1.out (fun _ hk => hk.1),by repeat (first | (with_reducible first | exact HB.out | apply below_alloc | apply pw_below_drewN | apply below_drew1 | refine below_set ?_ r0.out) | exact HB.out),by repeat (first | (with_reducible first | exact HK.out | apply Kept.alloc | apply Kept.drewN | apply Kept.drew | refine Kept.setCell ?_ (.inr q4.out) _) | exact HK.out)⟩
      rw [if_neg c161] at H;have c161b0 : ((rd s4 a3) == 0) = false:=beq_eq_false_iff_ne.mpr c161;have c161b1 : ((rd s4 a3) != 0) = true:=bne_iff_ne.mpr c161;obtain ⟨y652,hy652⟩ : ∃ y_ : List Int,y_ = (([] : List Int)):=⟨_,rfl⟩
      replace H : (if y652.length + l1.length < 17592186044416 then (spec_l25Push.l3 k2 a2 s4 (y652 ++ l1) a3 a0_0 l0_1) else (none)) = some (r1,r2):=by first | (rw [hy652]; with_reducible exact H) | (have H2_:=(Option.bind_some _ _).symm.trans H; rw [hy652]; with_reducible exact H2_) | (have H2_:=(Option.bind_some _ _).symm.trans H; with_reducible exact H2_) | with_reducible exact H | (rw [hy652]; exact H) | exact H
      have g6:=I hy652;clear hy652
      by_cases c164 : y652.length + l1.length < 17592186044416
      case neg =>
       rw [if_neg c164] at H;exact absurd H (by simp)
      rw [if_pos c164] at H;have F6:=I c164;clear c164;obtain ⟨y655,hy655⟩ : ∃ y_ : List Int,y_ = (y652 ++ l1):=⟨_,rfl⟩
      replace H : (spec_l25Push.l3 k2 a2 s4 y655 a3 a0_0 l0_1) = some (r1,r2):=by first | (rw [hy655]; with_reducible exact H) | (have H2_:=(Option.bind_some _ _).symm.trans H; rw [hy655]; with_reducible exact H2_) | (have H2_:=(Option.bind_some _ _).symm.trans H; with_reducible exact H2_) | with_reducible exact H | (rw [hy655]; exact H) | exact H
      have O9:=I hy655;clear hy655;have H':=I H;clear H;obtain ⟨Ao165,co165,eo165⟩:=Kd.R_slice q0.out;subst eo165;obtain ⟨Ao166,co166,eo166⟩:=Kd.R_slice p4.out;subst eo166;have p651 : 0 ≤ (a3 : Int):=of_decide_eq_true (by first | (with_reducible assumption) | assumption);have q651 : a3 < (s4.length : Int):=of_decide_eq_true (by first | (with_reducible assumption) | assumption);obtain ⟨u8,e651,F7⟩:=Kd.at_int (Kd.R_reads' p4.out).2.2 a3 p651 q651;cases e651;replace p651:=eq_true p651;replace q651:=eq_true q651
      go_wp2_with (first | ((with_reducible refine gate_dst (N:=138) rfl ?_); refine Kd.R_lit (Kd.int .i64) _ 3 ?hg (N:=138) ?hd (xs:=([] : List Int)) (inner:=[]) (ok:=fun _ => True) (okp:=fun _ => True) ?hr ?hp (fun _ hk => hk) trivial (Below.refl _ _) (Nat.le_refl _) (by simp) ?_; (case hd => rfl); (case hg => rfl); (case hr => first | (go_simp; done) | (go_simp; rfl)); (case hp => exact (Reps.none _ _)); intro v653 w167 ho168 hb hg_ hnew_; clear hg_ hnew_; (first | rw [← g6.out] at ho168 | (simp only [Int.reduceToNat] at ho168; rw [← g6.out] at ho168)); have n0_:=I (Kd.R_elder' (by (with_reducible repeat (first | apply Kd.R_alloc | apply Kd.R_drewN | apply Kd.R_drew)); exact HO_1.out) (Kd.R_base ho168) hb); have n1_:=I (Kd.R_elder' (by (with_reducible repeat (first | apply Kd.R_alloc | apply Kd.R_drewN | apply Kd.R_drew)); exact p4.out) (Kd.R_base ho168) hb); have n2_:=I (Kd.R_elder' (by (with_reducible repeat (first | apply Kd.R_alloc | apply Kd.R_drewN | apply Kd.R_drew)); exact q0.out) (Kd.R_base ho168) hb); have n3_:=I (Kd.R_lower (Kd.R_new' (Kd.R_new' (Kd.R_new' (Kd.R_newM (M:=fun k_ => (P1_ k_ ∨ w.heap.size ≤ k_)) ho168 (by first | exact HK.out.1 | exact (show Kept w _ (fun k_ => P1_ k_) from by repeat (first | (with_reducible first | exact HK.out | apply Kept.alloc | apply Kept.drewN | apply Kept.drew | refine Kept.setCell ?_ (.inr q4.out) _) | exact HK.out)).1) (fun k_ h_ => .inr h_)) (Kd.R_lt (by (with_reducible repeat (first | apply Kd.R_alloc | apply Kd.R_drewN | apply Kd.R_drew)); exact HO_1.out))) (Kd.R_lt (by (with_reducible repeat (first | apply Kd.R_alloc | apply Kd.R_drewN | apply Kd.R_drew)); exact p4.out))) (Kd.R_lt (by (with_reducible repeat (first | apply Kd.R_alloc | apply Kd.R_drewN | apply Kd.R_drew)); exact q0.out))) (below_size (by repeat (first | (with_reducible first | exact HB.out | apply below_alloc | apply pw_below_drewN | apply below_drew1 | refine below_set ?_ r0.out) | exact HB.out)))); have n4_:=I (blk_below (g:=q8) (o:=.cells #[.int .i64 a0_0,.slice A0_1 l0_1.length c0_1] 34 (0,0)) (by (with_reducible repeat (first | refine blk_drewN ?_ _ | refine blk_drew ?_ | refine blk_alloc ?_ _)); exact p9.out) hb); have n5_:=I (Kept.below (S:=(fun k_ => P1_ k_)) (by repeat (first | (with_reducible first | exact HK.out | apply Kept.alloc | apply Kept.drewN | apply Kept.drew | refine Kept.setCell ?_ (.inr q4.out) _) | exact HK.out)) hb); have n6_:=I (below_step (by repeat (first | (with_reducible first | exact HB.out | apply below_alloc | apply pw_below_drewN | apply below_drew1 | refine below_set ?_ r0.out) | exact HB.out)) hb); clear HO_1; clear p4; clear q0; clear p9; clear HK; clear HB; have HO_1:=n0_; have p4:=n1_; have q0:=n2_; have HO654:=n3_; have p9:=n4_; have HK:=n5_; have HB:=n6_; clear n0_ n1_ n2_ n3_ n4_ n5_ n6_; clear hb ho168; obtain ⟨Ao170,co170,eo170⟩:=Kd.R_slice HO_1.out; subst eo170) | ((with_reducible refine gate_builtin (b:=.append) (xs:=#[.tmp 138,.tmp 139]) rfl ?_); at_builtin; refine Kd.R_append_rows (Kd.int .i64) (w0:=w0) w0.heap.size rfl (.tmp 138) (.tmp 139) 23 3 (.int .i64 0) 8 rfl Try.underlying23 info3 rfl (by decide) (by omega) v653 y652 l1 _ _ _ (fun k_ => (P1_ k_ ∨ w.heap.size ≤ k_) ∧ some k_ ≠ (.slice Ao170 l1.length co170 : Value).ownBlock ∧ some k_ ≠ (.slice (some u8) s4.length co166 : Value).ownBlock ∧ some k_ ≠ (.slice Ao165 v3.length co165 : Value).ownBlock) (fun _ => False) rfl rfl ?aO ?aR (fun _ _ h => h) (fun _ h => h.elim) ?aF ?aB ?aS ?aL ?_; (case aR => repeat (first | exact (Kd.R_reads' HO_1.out).2.2 | (with_reducible refine Kd.C_alloc ?_ _) | (with_reducible refine Kd.C_drewN ?_ _) | (with_reducible refine Kd.C_drew ?_))); (case aB => exact (by repeat (first | (with_reducible first | exact HB.out | apply below_alloc | apply pw_below_drewN | apply below_drew1 | refine below_set ?_ r0.out) | exact HB.out))); (case aF => exact (fun k_ hk => ⟨(.inr (Nat.le_trans (by first | exact HK.out.1 | exact (show Kept w _ (fun k_ => P1_ k_) from by repeat (first | (with_reducible first | exact HK.out | apply Kept.alloc | apply Kept.drewN | apply Kept.drew | refine Kept.setCell ?_ (.inr q4.out) _) | exact HK.out)).1) hk)),Kd.fresh' (Kd.R_lt (by (with_reducible repeat (first | apply Kd.R_alloc | apply Kd.R_drewN | apply Kd.R_drew)); exact HO_1.out)) k_ hk,Kd.fresh' (Kd.R_lt (by (with_reducible repeat (first | apply Kd.R_alloc | apply Kd.R_drewN | apply Kd.R_drew)); exact p4.out)) k_ hk,Kd.fresh' (Kd.R_lt (by (with_reducible repeat (first | apply Kd.R_alloc | apply Kd.R_drewN | apply Kd.R_drew)); exact q0.out)) k_ hk⟩)); (case aO => exact (by (with_reducible repeat (first | apply Kd.R_alloc | apply Kd.R_drewN | apply Kd.R_drew)); exact Kd.R_mono HO654.out (fun _ hk => ⟨hk.1.1.1.1,⟨hk.1.1.2,⟨hk.1.2,hk.2⟩⟩⟩))); (case aS => exact (below_size (by repeat (first | (with_reducible first | exact HB.out | apply below_alloc | apply pw_below_drewN | apply below_drew1 | refine below_set ?_ r0.out) | exact HB.out)))); (case aL => have:=F6.out; omega); intro v656 w169 ho hb hg hat; rw [← O9.out] at ho; have n0_:=I (Kd.R_after (ok:=(fun k_ => (P1_ k_ ∨ w.heap.size ≤ k_) ∧ some k_ ≠ (.slice (some u8) s4.length co166 : Value).ownBlock ∧ some k_ ≠ (.slice Ao165 v3.length co165 : Value).ownBlock)) (by (with_reducible repeat (first | apply Kd.R_alloc | apply Kd.R_drewN | apply Kd.R_drew)); exact HO_1.out) hg hat); have n1_:=I (Kd.R_after (ok:=(fun k_ => (P1_ k_ ∨ w.heap.size ≤ k_) ∧ some k_ ≠ (.slice Ao170 l1.length co170 : Value).ownBlock ∧ some k_ ≠ (.slice Ao165 v3.length co165 : Value).ownBlock)) (by (with_reducible repeat (first | apply Kd.R_alloc | apply Kd.R_drewN | apply Kd.R_drew)); exact p4.out) hg hat); have n2_:=I (Kd.R_after (ok:=(fun k_ => (P1_ k_ ∨ w.heap.size ≤ k_) ∧ some k_ ≠ (.slice Ao170 l1.length co170 : Value).ownBlock ∧ some k_ ≠ (.slice (some u8) s4.length co166 : Value).ownBlock)) (by (with_reducible repeat (first | apply Kd.R_alloc | apply Kd.R_drewN | apply Kd.R_drew)); exact q0.out) hg hat); have n3_:=I (blk_grown (g:=q8) (o:=.cells #[.int .i64 a0_0,.slice A0_1 l0_1.length c0_1] 34 (0,0)) (by (with_reducible repeat (first | refine blk_drewN ?_ _ | refine blk_drew ?_ | refine blk_alloc ?_ _)); exact p9.out) hg (Kd.R_ne HO654.out p9.out (by decide))); have n4_:=I (hb); have n5_:=I (Kept.of_grown (S:=(fun k_ => P1_ k_)) hg (by repeat (first | (with_reducible first | exact HK.out | apply Kept.alloc | apply Kept.drewN | apply Kept.drew | refine Kept.setCell ?_ (.inr q4.out) _) | exact HK.out)) (fun k_ e_ => (HO654.out.1 k_ e_).1.1.1.1)); have n6_:=I (ho); clear HO_1; clear p4; clear q0; clear p9; clear HB; clear HK; clear HO654; have HO_1:=n0_; have p4:=n1_; have q0:=n2_; have p9:=n3_; have HB:=n4_; have HK:=n5_; have HO657:=n6_; clear n0_ n1_ n2_ n3_ n4_ n5_ n6_; clear ho hb hg hat))
      repeat (go_quiet (fail); try go_wp2)
      go_loopg [17] k2 (fun kq v17 w' => ∃ (s2 : List Int) (t8 : Int),v17 = .int .i64 t8 ∧ Aside0 (spec_l25Push.l3 kq a2 s4 s2 t8 a0_0 l0_1 = some (r1,r2)) ∧ Aside0 (kq ≤ k2) ∧ Aside0 (Kd.R (Kd.int .i64) 3 w' w0.heap.size (fun k_ => (P1_ k_ ∨ w.heap.size ≤ k_) ∧ some k_ ≠ (v656 : Value).ownBlock) (.slice (some u8) s4.length co166) s4) ∧ Aside0 (Kd.R (Kd.int .i64) 3 w' w0.heap.size (fun k_ => (P1_ k_ ∨ w.heap.size ≤ k_) ∧ some k_ ≠ ((.slice (some u8) s4.length co166) : Value).ownBlock) v656 s2) ∧ Aside0 (w'.heap[q8]? = some (.cells #[.int .i64 a0_0,(.slice A0_1 l0_1.length c0_1)] 34 (0,0))) ∧ Aside0 (Kept w w' (fun k_ => P1_ k_)) ∧ Aside0 (Below w0.heap.size w0 w'))
      case atStart => exact ⟨(y655),(a3),(by first | rfl | (simp; done) | (simp [*]; done)),H',⟨Nat.le_refl _⟩,⟨by (with_reducible repeat (first | apply Kd.R_alloc | apply Kd.R_drewN | apply Kd.R_drew)); exact Kd.R_mono p4.out (fun _ hk => ⟨hk.1.1,hk.2⟩)⟩,⟨by (with_reducible repeat (first | apply Kd.R_alloc | apply Kd.R_drewN | apply Kd.R_drew)); exact Kd.R_mono HO657.out (fun _ hk => ⟨hk.1,hk.2.2.1⟩)⟩,⟨by (with_reducible repeat (first | refine blk_drewN ?_ _ | refine blk_drew ?_ | refine blk_alloc ?_ _)); exact p9.out⟩,⟨by repeat (first | (with_reducible first | exact HK.out | apply Kept.alloc | apply Kept.drewN | apply Kept.drew | refine Kept.setCell ?_ (.inr q4.out) _) | exact HK.out)⟩,⟨by repeat (first | (with_reducible first | exact HB.out | apply below_alloc | apply pw_below_drewN | apply below_drew1 | refine below_set ?_ r0.out) | exact HB.out)⟩⟩
      case round =>
       clear H'
       try clear c1
       try clear p1
       try clear q1
       try clear hx1
       try clear c2
       try clear p2
       try clear c5
       try clear p5
       try clear q5
       try clear hx5
       try clear hf5
       try clear c6
       try clear p6
       try clear q6
       try clear hx6
       try clear c7
       try clear p7
       try clear q7
       try clear hx7
       try clear hf7
       try clear c8
       try clear c9
       try clear c10
       try clear c11
       try clear c12
       try clear c13
       try clear p13
       try clear q13
       try clear hx13
       try clear hf13
       try clear c14
       try clear c15
       try clear c16
       try clear c21
       try clear c21b0
       try clear c23
       try clear c23b0
       try clear c24
       try clear c55
       try clear c56
       try clear c57
       try clear p58
       try clear q58
       try clear hx58
       try clear hf58
       try clear c59
       try clear c60
       try clear c61
       try clear c62
       try clear c62b0
       try clear c62b1
       try clear c63
       try clear c63b0
       try clear p63
       try clear q63
       try clear hx63
       try clear c64
       try clear c64b0
       try clear p64
       try clear q64
       try clear hx64
       try clear c65
       try clear c65b0
       try clear p65
       try clear q65
       try clear hx65
       try clear c66
       try clear c66b0
       try clear c67
       try clear c67b0
       try clear c68
       try clear c68b0
       try clear c68b1
       try clear c69
       try clear c69b0
       try clear c69b1
       try clear c70
       try clear p79
       try clear q79
       try clear hx79
       try clear hf79
       try clear c80
       try clear c81
       try clear c94
       try clear c103
       try clear c112
       try clear c120
       try clear c120b0
       try clear c121
       try clear c121b0
       try clear c122
       try clear c122b0
       try clear c122b1
       try clear c123
       try clear c123b0
       try clear c124
       try clear c124b0
       try clear c125
       try clear c125b0
       try clear c126
       try clear c126b0
       try clear c127
       try clear c127b0
       try clear c128
       try clear c128b0
       try clear c128b1
       try clear c129
       try clear c129b0
       try clear c129b1
       try clear c130
       try clear p135
       try clear q135
       try clear hx135
       try clear hf135
       try clear c136
       try clear c137
       try clear c146
       try clear c151
       try clear c155
       try clear c159
       try clear c159b0
       try clear c160
       try clear c160b0
       try clear c161
       try clear c161b0
       try clear c161b1
       try clear c164
       try clear m5
       try clear m6
       try clear m7
       try clear m8
       try clear m9
       try clear H3
       try clear H4
       try clear H5
       try clear H6
       try clear H7
       try clear n5
       try clear n6
       try clear n7
       try clear n8
       try clear n9
       try clear b0
       try clear b1
       try clear b2
       try clear b3
       try clear b4
       try clear I3
       try clear I4
       try clear I5
       try clear I6
       try clear I7
       try clear c0
       try clear d0
       try clear d1
       try clear d2
       try clear d3
       try clear d9
       try clear e0
       try clear e1
       try clear e2
       try clear e3
       try clear J3
       try clear J4
       try clear J5
       try clear J6
       try clear J7
       try clear K5
       try clear K6
       try clear K7
       try clear K8
       try clear K9
       try clear e9
       try clear f5
       try clear f6
       try clear f7
       try clear f8
       try clear L5
       try clear L6
       try clear L7
       try clear L8
       try clear L9
       try clear M5
       try clear M6
       try clear M7
       try clear M8
       try clear M9
       try clear N5
       try clear N6
       try clear N7
       try clear N8
       try clear N9
       try clear O5
       try clear O6
       try clear U2
       try clear U3
       try clear U4
       try clear U5
       try clear U6
       try clear l4
       try clear l5
       try clear l6
       try clear l7
       try clear l8
       try clear o4
       try clear o5
       try clear o6
       try clear o7
       try clear o8
       try clear V2
       try clear V3
       try clear V4
       try clear V5
       try clear V6
       try clear A4
       try clear A5
       try clear A6
       try clear A7
       try clear A8
       try clear B4
       try clear B5
       try clear B6
       try clear B7
       try clear B8
       try clear C4
       try clear C5
       try clear C6
       try clear C7
       try clear C8
       try clear W2
       try clear W3
       try clear W4
       try clear W5
       try clear W6
       try clear D4
       try clear D5
       try clear D6
       try clear D7
       try clear D8
       try clear n0
       try clear n1
       try clear n2
       try clear n3
       try clear n4
       try clear H8
       try clear H9
       try clear I0
       try clear I1
       try clear I2
       try clear a5
       try clear a6
       try clear a7
       try clear a8
       try clear a9
       try clear b5
       try clear b6
       try clear b7
       try clear b8
       try clear b9
       try clear I8
       try clear I9
       try clear J0
       try clear J1
       try clear J2
       try clear d4
       try clear d5
       try clear d6
       try clear d7
       try clear d8
       try clear e4
       try clear e5
       try clear e6
       try clear e7
       try clear e8
       try clear J8
       try clear J9
       try clear K0
       try clear K1
       try clear K2
       try clear L0
       try clear L1
       try clear L2
       try clear L3
       try clear L4
       try clear f9
       try clear g0
       try clear g1
       try clear g2
       try clear g3
       try clear M0
       try clear M1
       try clear M2
       try clear M3
       try clear M4
       try clear N0
       try clear N1
       try clear N2
       try clear N3
       try clear N4
       try clear O0
       try clear O1
       try clear O2
       try clear O3
       try clear O4
       try clear O7
       try clear O8
       try clear U7
       try clear U8
       try clear U9
       try clear V0
       try clear V1
       try clear l9
       try clear o0
       try clear o1
       try clear o2
       try clear o3
       try clear o9
       try clear A0
       try clear A1
       try clear A2
       try clear A3
       try clear V7
       try clear V8
       try clear V9
       try clear W0
       try clear W1
       try clear A9
       try clear B0
       try clear B1
       try clear B2
       try clear B3
       try clear B9
       try clear C0
       try clear C1
       try clear C2
       try clear C3
       try clear C9
       try clear D0
       try clear D1
       try clear D2
       try clear D3
       try clear W7
       try clear W8
       try clear W9
       try clear X0
       try clear X1
       try clear D9
       try clear E0
       try clear E1
       try clear E2
       try clear E3
       try clear m3
       try clear t3
       try clear t7
       try clear u7
       try clear s0
       try clear z5
       try clear m1
       try clear m2
       try clear F7
       try clear F4
       try clear p135
       try clear p58
       try clear p637
       try clear p638
       try clear p639
       try clear p644
       try clear p645
       try clear p646
       try clear p651
       try clear p79
       try clear q135
       try clear q58
       try clear q637
       try clear q638
       try clear q639
       try clear q644
       try clear q645
       try clear q646
       try clear q651
       try clear q79
       obtain ⟨s2,t8,rfl,HA,HK3,p4,r8,p9,HK,HB⟩:=hrel;cases gk with
       | zero => exact absurd HA.out (by simp [spec_l25Push.l3])
       | succ k3 =>
        have H:=HA.out;clear HA;simp only [spec_l25Push.l3] at H
        by_cases c171 : t8 = a2
        case pos =>
         rw [if_pos c171] at H;have c171b0 : (t8 == a2) = true:=beq_iff_eq.mpr c171;have c171b1 : (t8 != a2) = false:=bne_eq_false_iff_eq.mpr c171;clear c171;simp only [Option.some.injEq,Prod.mk.injEq] at H;obtain ⟨rfl,rfl⟩:=H
         go_wp2
         repeat (go_quiet (fail); try go_wp2)
         go_ret2;exact ⟨_,by first | rfl | (simp [errW_none,errW_some] <;> rfl) | (simp [*,errW_none,errW_some] <;> rfl),by (with_reducible repeat (first | apply Kd.R_alloc | apply Kd.R_drewN | apply Kd.R_drew)); exact Kd.R_mono r8.out (fun _ hk => hk.1),by repeat (first | (with_reducible first | exact HB.out | apply below_alloc | apply pw_below_drewN | apply below_drew1 | refine below_set ?_ r0.out) | exact HB.out),by repeat (first | (with_reducible first | exact HK.out | apply Kept.alloc | apply Kept.drewN | apply Kept.drew | refine Kept.setCell ?_ (.inr q4.out) _) | exact HK.out)⟩
        rw [if_neg c171] at H;have c171b0 : (t8 == a2) = false:=beq_eq_false_iff_ne.mpr c171;have c171b1 : (t8 != a2) = true:=bne_iff_ne.mpr c171
        by_cases c172 : 0 ≤ t8
        case neg =>
         rw [if_neg c172] at H;exact absurd H (by simp)
        rw [if_pos c172] at H;have c172b0 : decide (0 ≤ t8) = true:=decide_eq_true c172;clear c172
        by_cases c173 : t8 < (s4.length : Int)
        case neg =>
         rw [if_neg c173] at H;exact absurd H (by simp)
        rw [if_pos c173] at H;have c173b0 : decide (t8 < (s4.length : Int)) = true:=decide_eq_true c173;clear c173
        by_cases c174 : (rd s4 t8) > 0
        case pos =>
         rw [if_pos c174] at H;have c174b0 : decide (0 < (rd s4 t8)) = true:=decide_eq_true c174;clear c174;obtain ⟨ji175,hji175⟩ : ∃ j_ : Int,(wrap64 ((rd s4 t8) - 1)) = j_:=⟨_,rfl⟩
         replace H : (if 0 ≤ (ji175) then (if (ji175) < (s2.length : Int) then (if (ji175) < (l0_1.length : Int) then (spec_l25Push.l3 k3 a2 s4 (s2.set ((ji175) : Int).toNat (wrap64 ((rd s2 (ji175)) + 1))) ((rd_T58 l0_1 (ji175)).f0) a0_0 l0_1) else (none)) else (none)) else (none)) = some (r1,r2):=by first | (rw [hji175] at H; exact H) | (simp only [hji175] at H ⊢; exact H)
         have hji175w : (IntKind.i64.wrap ((rd s4 t8) - 1)) = ji175:=(i64_w _).trans hji175
         by_cases c176 : 0 ≤ (ji175)
         case neg =>
          rw [if_neg c176] at H;exact absurd H (by simp)
         rw [if_pos c176] at H;have c176b0 : decide (0 ≤ (ji175)) = true:=decide_eq_true c176;clear c176
         by_cases c177 : (ji175) < (s2.length : Int)
         case neg =>
          rw [if_neg c177] at H;exact absurd H (by simp)
         rw [if_pos c177] at H;have c177b0 : decide ((ji175) < (s2.length : Int)) = true:=decide_eq_true c177;clear c177;obtain ⟨y660,hy660⟩ : ∃ y_ : List Int,y_ = (s2.set ((ji175) : Int).toNat (wrap64 ((rd s2 (ji175)) + 1))):=⟨_,rfl⟩
         replace H : (if (ji175) < (l0_1.length : Int) then (spec_l25Push.l3 k3 a2 s4 y660 ((rd_T58 l0_1 (ji175)).f0) a0_0 l0_1) else (none)) = some (r1,r2):=by first | (rw [hy660]; with_reducible exact H) | (have H2_:=(Option.bind_some _ _).symm.trans H; rw [hy660]; with_reducible exact H2_) | (have H2_:=(Option.bind_some _ _).symm.trans H; with_reducible exact H2_) | with_reducible exact H | (rw [hy660]; exact H) | exact H
         have P0:=I hy660;clear hy660
         by_cases c179 : (ji175) < (l0_1.length : Int)
         case neg =>
          rw [if_neg c179] at H;exact absurd H (by simp)
         rw [if_pos c179] at H;have c179b0 : decide ((ji175) < (l0_1.length : Int)) = true:=decide_eq_true c179;clear c179;have H':=I H;clear H;have p658 : 0 ≤ (t8 : Int):=of_decide_eq_true (by first | (with_reducible assumption) | assumption);have q658 : t8 < (s4.length : Int):=of_decide_eq_true (by first | (with_reducible assumption) | assumption);obtain ⟨P1,e658,X2⟩:=Kd.at_int (Kd.R_reads' p4.out).2.2 t8 p658 q658;obtain rfl : u8 = P1:=(by injection e658)
         replace p658:=eq_true p658;replace q658:=eq_true q658;obtain ⟨Ao180,co180,eo180⟩:=Kd.R_slice r8.out;subst eo180;have p659 : 0 ≤ ((ji175) : Int):=of_decide_eq_true (by first | (with_reducible assumption) | assumption);have q659 : (ji175) < (s2.length : Int):=of_decide_eq_true (by first | (with_reducible assumption) | assumption);obtain ⟨ad659,e659,X3⟩:=Kd.at_int (Kd.R_reads' r8.out).2.2 (ji175) p659 q659;cases e659;replace p659:=eq_true p659;replace q659:=eq_true q659;have p178 : 0 ≤ ((ji175) : Int):=of_decide_eq_true (by first | (with_reducible assumption) | assumption);have q178 : ((ji175) : Int) < ((s2.length : Int) : Int):=of_decide_eq_true (by first | (with_reducible assumption) | assumption);obtain ⟨go178,co178,eo178,gb178,gl178,cl178,HG178⟩:=Kd.R_form r8.out (by omega)
         (first | cases eo178 | (injection eo178 with ea_ en_ ec_; (first | subst ea_ | (injection ea_ with ea_; subst ea_)); subst ec_; clear en_))
         have GB178:=I gb178;have GG178:=I HG178;clear gb178 gl178 HG178;have HMgo178:=I (show (P1_ go178 ∨ w.heap.size ≤ go178) from (r8.out.1 _ rfl).1)
         (first | simp only [add_plain] at X3 | skip)
         obtain ⟨E4,hf178_0⟩:=Kd.R_celln 0 r8.out ((ji175) : Int) p178 q178;replace p178:=eq_true p178;replace q178:=eq_true q178;have HP181:=Kd.R_putg r8.out ((ji175) : Int) (wrap64 ((rd s2 (ji175)) + 1))
         go_wp2_with (first | ((with_reducible refine gate_store (t:=3) (p:=160) rfl ?_); (try (rw [drewN_self wr]; generalize hq_ : World.drewN wr _ = wr; have n0_:=I (Kd.R_at hq_ p4.out); have n1_:=I (Kd.R_at hq_ r8.out); have n2_:=I (blk_at hq_ p9.out); have n3_:=I (kept_at hq_ HK.out); have n4_:=I (below_at hq_ HB.out); clear hq_ p4 r8 p9 HK HB; have p4:=n0_; have r8:=n1_; have p9:=n2_; have HK:=n3_; have HB:=n4_; clear n0_ n1_ n2_ n3_ n4_; (try (have HP181:=Kd.R_putg r8.out ((ji175) : Int) (wrap64 ((rd s2 (ji175)) + 1)))); (try (obtain ⟨E4,hf178_0⟩:=Kd.R_celln 0 r8.out ((ji175) : Int) (of_eq_true p178) (of_eq_true q178))))); refine store_event (t:=3) (p:=160) (v:=?vo_w182) (w1:=(wr.setCell ⟨go178,((ji175) : Int).toNat,none⟩ (.int .i64 (wrap64 ((rd s2 (ji175)) + 1))))) ?hg ?ho ?hn ?hr ?_; (case ho => rfl); (case hg => rfl); (case hn => rfl); (case hr => first | (go_simp; done) | (go_simp; rfl)); intro w182 hw; have hg : wr.grownBy w182 (some go178):=(by rw [hw]; exact HP181.2); have hp_ : Kd.R (Kd.int .i64) 3 w182 w0.heap.size (fun k_ => (P1_ k_ ∨ w.heap.size ≤ k_) ∧ some k_ ≠ (.slice (some u8) s4.length co166 : Value).ownBlock) (.slice (some ⟨go178,0,none⟩) s2.length co180) y660:=(by rw [hw,P0.out]; exact HP181.1); clear HP181; have n0_:=I (Kd.R_after (v:=(.slice (some ⟨go178,0,none⟩) s2.length co180)) (v1:=(.slice (some ⟨go178,0,none⟩) s2.length co180)) (ok:=(fun k_ => (P1_ k_ ∨ w.heap.size ≤ k_))) (by (with_reducible repeat (first | apply Kd.R_alloc | apply Kd.R_drewN | apply Kd.R_drew)); exact p4.out) hg (.inl rfl)); have n1_:=I (hp_); have n2_:=I (blk_grown (g:=q8) (o:=.cells #[.int .i64 a0_0,.slice A0_1 l0_1.length c0_1] 34 (0,0)) (by (with_reducible repeat (first | refine blk_drewN ?_ _ | refine blk_drew ?_ | refine blk_alloc ?_ _)); exact p9.out) hg (Kd.R_ne r8.out p9.out (by decide))); have n3_:=I ((by rw [hw]; exact below_set (HB.out) GB178.out : Below w0.heap.size w0 w182)); have n4_:=I (Kept.of_grown (S:=(fun k_ => P1_ k_)) hg (by repeat (first | (with_reducible first | exact HK.out | apply Kept.alloc | apply Kept.drewN | apply Kept.drew | refine Kept.setCell ?_ (.inr q4.out) _) | exact HK.out)) (fun k_ e_ => (r8.out.1 k_ e_).1)); clear p4; clear r8; clear p9; clear HB; clear HK; have p4:=n0_; have r8:=n1_; have p9:=n2_; have HB:=n3_; have HK:=n4_; clear n0_ n1_ n2_ n3_ n4_; clear hg hw hp_; have E6 : w182.cell? ⟨q8,0,none⟩ = some (.int .i64 a0_0):=(blk_cell p9.out 0).trans rfl; have E7 : w182.cell? ⟨q8,1,none⟩ = some (.slice A0_1 l0_1.length c0_1):=(blk_cell p9.out 1).trans rfl; have E8:=blk_frozen p9.out 0; have E9:=blk_frozen p9.out 1; have p661 : 0 ≤ ((ji175) : Int):=of_decide_eq_true (by first | (with_reducible assumption) | assumption); have q661 : (ji175) < (l0_1.length : Int):=of_decide_eq_true (by first | (with_reducible assumption) | assumption); obtain ⟨ad661,e661,F8,F9,G0,G1,G2⟩:=at_T58 (Kd.C_kept_now m4.out HK.out) (ji175) p661 q661; cases e661; replace p661:=eq_true p661; replace q661:=eq_true q661))
         repeat (go_quiet (fail); try go_wp2)
         go_roundg k3
         case measure => have:=HK1.out; have:=HK2.out; have:=HK3.out; omega
         case rel => exact ⟨(y660),((rd_T58 l0_1 (ji175)).f0),(by first | rfl | (simp; done) | (simp only [← hji175] <;> (first | rfl | simp)) | (simp [*]; done)),H',⟨by have:=HK1.out; have:=HK2.out; have:=HK3.out; omega⟩,⟨by (with_reducible repeat (first | apply Kd.R_alloc | apply Kd.R_drewN | apply Kd.R_drew)); exact p4.out⟩,⟨by (with_reducible repeat (first | apply Kd.R_alloc | apply Kd.R_drewN | apply Kd.R_drew)); exact r8.out⟩,⟨by (with_reducible repeat (first | refine blk_drewN ?_ _ | refine blk_drew ?_ | refine blk_alloc ?_ _)); exact p9.out⟩,⟨by repeat (first | (with_reducible first | exact HK.out | apply Kept.alloc | apply Kept.drewN | apply Kept.drew | refine Kept.setCell ?_ (.inr q4.out) _) | exact HK.out)⟩,⟨by repeat (first | (with_reducible first | exact HB.out | apply below_alloc | apply pw_below_drewN | apply below_drew1 | refine below_set ?_ r0.out) | exact HB.out)⟩⟩
        rw [if_neg c174] at H;have c174b0 : decide (0 < (rd s4 t8)) = false:=decide_eq_false c174;clear c174;obtain ⟨ji184,hji184⟩ : ∃ j_ : Int,(wrap64 ((wrap64 (-(rd s4 t8))) - 1)) = j_:=⟨_,rfl⟩
        replace H : (if 0 ≤ (ji184) then (if (ji184) < (s2.length : Int) then (if (ji184) < (l0_1.length : Int) then (spec_l25Push.l3 k3 a2 s4 (s2.set ((ji184) : Int).toNat (wrap64 ((rd s2 (ji184)) - 1))) ((rd_T58 l0_1 (ji184)).f1) a0_0 l0_1) else (none)) else (none)) else (none)) = some (r1,r2):=by first | (rw [hji184] at H; exact H) | (simp only [hji184] at H ⊢; exact H)
        have hji184w : (IntKind.i64.wrap ((wrap64 (-(rd s4 t8))) - 1)) = ji184:=(i64_w _).trans hji184
        by_cases c185 : 0 ≤ (ji184)
        case neg =>
         rw [if_neg c185] at H;exact absurd H (by simp)
        rw [if_pos c185] at H;have c185b0 : decide (0 ≤ (ji184)) = true:=decide_eq_true c185;clear c185
        by_cases c186 : (ji184) < (s2.length : Int)
        case neg =>
         rw [if_neg c186] at H;exact absurd H (by simp)
        rw [if_pos c186] at H;have c186b0 : decide ((ji184) < (s2.length : Int)) = true:=decide_eq_true c186;clear c186;obtain ⟨y663,hy663⟩ : ∃ y_ : List Int,y_ = (s2.set ((ji184) : Int).toNat (wrap64 ((rd s2 (ji184)) - 1))):=⟨_,rfl⟩
        replace H : (if (ji184) < (l0_1.length : Int) then (spec_l25Push.l3 k3 a2 s4 y663 ((rd_T58 l0_1 (ji184)).f1) a0_0 l0_1) else (none)) = some (r1,r2):=by first | (rw [hy663]; with_reducible exact H) | (have H2_:=(Option.bind_some _ _).symm.trans H; rw [hy663]; with_reducible exact H2_) | (have H2_:=(Option.bind_some _ _).symm.trans H; with_reducible exact H2_) | with_reducible exact H | (rw [hy663]; exact H) | exact H
        have P2:=I hy663;clear hy663
        by_cases c188 : (ji184) < (l0_1.length : Int)
        case neg =>
         rw [if_neg c188] at H;exact absurd H (by simp)
        rw [if_pos c188] at H;have c188b0 : decide ((ji184) < (l0_1.length : Int)) = true:=decide_eq_true c188;clear c188;have H':=I H;clear H;have p658 : 0 ≤ (t8 : Int):=of_decide_eq_true (by first | (with_reducible assumption) | assumption);have q658 : t8 < (s4.length : Int):=of_decide_eq_true (by first | (with_reducible assumption) | assumption);obtain ⟨P1,e658,X2⟩:=Kd.at_int (Kd.R_reads' p4.out).2.2 t8 p658 q658;obtain rfl : u8 = P1:=(by injection e658)
        replace p658:=eq_true p658;replace q658:=eq_true q658;obtain ⟨Ao189,co189,eo189⟩:=Kd.R_slice r8.out;subst eo189;have p662 : 0 ≤ ((ji184) : Int):=of_decide_eq_true (by first | (with_reducible assumption) | assumption);have q662 : (ji184) < (s2.length : Int):=of_decide_eq_true (by first | (with_reducible assumption) | assumption);obtain ⟨ad662,e662,X4⟩:=Kd.at_int (Kd.R_reads' r8.out).2.2 (ji184) p662 q662;cases e662;replace p662:=eq_true p662;replace q662:=eq_true q662;have p187 : 0 ≤ ((ji184) : Int):=of_decide_eq_true (by first | (with_reducible assumption) | assumption);have q187 : ((ji184) : Int) < ((s2.length : Int) : Int):=of_decide_eq_true (by first | (with_reducible assumption) | assumption);obtain ⟨go187,co187,eo187,gb187,gl187,cl187,HG187⟩:=Kd.R_form r8.out (by omega)
        (first | cases eo187 | (injection eo187 with ea_ en_ ec_; (first | subst ea_ | (injection ea_ with ea_; subst ea_)); subst ec_; clear en_))
        have GB187:=I gb187;have GG187:=I HG187;clear gb187 gl187 HG187;have HMgo187:=I (show (P1_ go187 ∨ w.heap.size ≤ go187) from (r8.out.1 _ rfl).1)
        (first | simp only [add_plain] at X4 | skip)
        obtain ⟨E5,hf187_0⟩:=Kd.R_celln 0 r8.out ((ji184) : Int) p187 q187;replace p187:=eq_true p187;replace q187:=eq_true q187;have HP190:=Kd.R_putg r8.out ((ji184) : Int) (wrap64 ((rd s2 (ji184)) - 1))
        go_wp2_with (first | ((with_reducible refine gate_store (t:=3) (p:=179) rfl ?_); (try (rw [drewN_self wr]; generalize hq_ : World.drewN wr _ = wr; have n0_:=I (Kd.R_at hq_ p4.out); have n1_:=I (Kd.R_at hq_ r8.out); have n2_:=I (blk_at hq_ p9.out); have n3_:=I (kept_at hq_ HK.out); have n4_:=I (below_at hq_ HB.out); clear hq_ p4 r8 p9 HK HB; have p4:=n0_; have r8:=n1_; have p9:=n2_; have HK:=n3_; have HB:=n4_; clear n0_ n1_ n2_ n3_ n4_; (try (have HP190:=Kd.R_putg r8.out ((ji184) : Int) (wrap64 ((rd s2 (ji184)) - 1)))); (try (obtain ⟨E5,hf187_0⟩:=Kd.R_celln 0 r8.out ((ji184) : Int) (of_eq_true p187) (of_eq_true q187))))); refine store_event (t:=3) (p:=179) (v:=?vo_w191) (w1:=(wr.setCell ⟨go187,((ji184) : Int).toNat,none⟩ (.int .i64 (wrap64 ((rd s2 (ji184)) - 1))))) ?hg ?ho ?hn ?hr ?_; (case ho => rfl); (case hg => rfl); (case hn => rfl); (case hr => first | (go_simp; done) | (go_simp; rfl)); intro w191 hw; have hg : wr.grownBy w191 (some go187):=(by rw [hw]; exact HP190.2); have hp_ : Kd.R (Kd.int .i64) 3 w191 w0.heap.size (fun k_ => (P1_ k_ ∨ w.heap.size ≤ k_) ∧ some k_ ≠ (.slice (some u8) s4.length co166 : Value).ownBlock) (.slice (some ⟨go187,0,none⟩) s2.length co189) y663:=(by rw [hw,P2.out]; exact HP190.1); clear HP190; have n0_:=I (Kd.R_after (v:=(.slice (some ⟨go187,0,none⟩) s2.length co189)) (v1:=(.slice (some ⟨go187,0,none⟩) s2.length co189)) (ok:=(fun k_ => (P1_ k_ ∨ w.heap.size ≤ k_))) (by (with_reducible repeat (first | apply Kd.R_alloc | apply Kd.R_drewN | apply Kd.R_drew)); exact p4.out) hg (.inl rfl)); have n1_:=I (hp_); have n2_:=I (blk_grown (g:=q8) (o:=.cells #[.int .i64 a0_0,.slice A0_1 l0_1.length c0_1] 34 (0,0)) (by (with_reducible repeat (first | refine blk_drewN ?_ _ | refine blk_drew ?_ | refine blk_alloc ?_ _)); exact p9.out) hg (Kd.R_ne r8.out p9.out (by decide))); have n3_:=I ((by rw [hw]; exact below_set (HB.out) GB187.out : Below w0.heap.size w0 w191)); have n4_:=I (Kept.of_grown (S:=(fun k_ => P1_ k_)) hg (by repeat (first | (with_reducible first | exact HK.out | apply Kept.alloc | apply Kept.drewN | apply Kept.drew | refine Kept.setCell ?_ (.inr q4.out) _) | exact HK.out)) (fun k_ e_ => (r8.out.1 k_ e_).1)); clear p4; clear r8; clear p9; clear HB; clear HK; have p4:=n0_; have r8:=n1_; have p9:=n2_; have HB:=n3_; have HK:=n4_; clear n0_ n1_ n2_ n3_ n4_; clear hg hw hp_; have F0 : w191.cell? ⟨q8,0,none⟩ = some (.int .i64 a0_0):=(blk_cell p9.out 0).trans rfl; have F1 : w191.cell? ⟨q8,1,none⟩ = some (.slice A0_1 l0_1.length c0_1):=(blk_cell p9.out 1).trans rfl; have F2:=blk_frozen p9.out 0; have F3:=blk_frozen p9.out 1; have p664 : 0 ≤ ((ji184) : Int):=of_decide_eq_true (by first | (with_reducible assumption) | assumption); have q664 : (ji184) < (l0_1.length : Int):=of_decide_eq_true (by first | (with_reducible assumption) | assumption); obtain ⟨ad664,e664,G3,G4,G5,G6,G7⟩:=at_T58 (Kd.C_kept_now m4.out HK.out) (ji184) p664 q664; cases e664; replace p664:=eq_true p664; replace q664:=eq_true q664))
        repeat (go_quiet (fail); try go_wp2)
        go_roundg k3
        case measure => have:=HK1.out; have:=HK2.out; have:=HK3.out; omega
        case rel => exact ⟨(y663),((rd_T58 l0_1 (ji184)).f1),(by first | rfl | (simp; done) | (simp only [← hji184] <;> (first | rfl | simp)) | (simp [*]; done)),H',⟨by have:=HK1.out; have:=HK2.out; have:=HK3.out; omega⟩,⟨by (with_reducible repeat (first | apply Kd.R_alloc | apply Kd.R_drewN | apply Kd.R_drew)); exact p4.out⟩,⟨by (with_reducible repeat (first | apply Kd.R_alloc | apply Kd.R_drewN | apply Kd.R_drew)); exact r8.out⟩,⟨by (with_reducible repeat (first | refine blk_drewN ?_ _ | refine blk_drew ?_ | refine blk_alloc ?_ _)); exact p9.out⟩,⟨by repeat (first | (with_reducible first | exact HK.out | apply Kept.alloc | apply Kept.drewN | apply Kept.drew | refine Kept.setCell ?_ (.inr q4.out) _) | exact HK.out)⟩,⟨by repeat (first | (with_reducible first | exact HB.out | apply below_alloc | apply pw_below_drewN | apply below_drew1 | refine below_set ?_ r0.out) | exact HB.out)⟩⟩
     rw [if_pos c21] at H;have c21b0 : decide (q3 < (v3.length : Int)) = true:=decide_eq_true c21;clear c21;have H':=I H;clear H;obtain ⟨Ao22,co22,eo22⟩:=Kd.R_slice q0.out;subst eo22
     go_wp2
     repeat (go_quiet (fail); try go_wp2)
     go_loopg [12,14] k2 (fun kq v12 v14 w' => ∃ (q2 : List Int) (r7 : List Int) (p0 : Int),v14 = .int .i64 p0 ∧ Aside0 (spec_l25Push.l2 kq l1 a2 a3 q2 r7 q3 p0 a0_0 l0_1 = some (r1,r2)) ∧ Aside0 (kq ≤ k2) ∧ Aside0 (Kd.R (Kd.int .i64) 3 w' w0.heap.size (fun k_ => (P1_ k_ ∨ w.heap.size ≤ k_) ∧ some k_ ≠ (v622 : Value).ownBlock ∧ some k_ ≠ (v12 : Value).ownBlock) q9 l1) ∧ Aside0 (Kd.R (Kd.int .i64) 3 w' w0.heap.size (fun k_ => (P1_ k_ ∨ w.heap.size ≤ k_) ∧ some k_ ≠ (q9 : Value).ownBlock ∧ some k_ ≠ (v12 : Value).ownBlock) v622 q2) ∧ Aside0 (Kd.R (Kd.int .i64) 3 w' w0.heap.size (fun k_ => (P1_ k_ ∨ w.heap.size ≤ k_) ∧ some k_ ≠ (q9 : Value).ownBlock ∧ some k_ ≠ (v622 : Value).ownBlock) v12 r7) ∧ Aside0 (w'.heap[q8]? = some (.cells #[.int .i64 a0_0,(.slice A0_1 l0_1.length c0_1)] 34 (0,0))) ∧ Aside0 (Kept w w' (fun k_ => P1_ k_)) ∧ Aside0 (Below w0.heap.size w0 w'))
     case atStart => exact ⟨(s4),(v3),(0),(by first | rfl | (simp; done) | (simp [*]; done)),H',⟨Nat.le_refl _⟩,⟨by (with_reducible repeat (first | apply Kd.R_alloc | apply Kd.R_drewN | apply Kd.R_drew)); exact HO_1.out⟩,⟨by (with_reducible repeat (first | apply Kd.R_alloc | apply Kd.R_drewN | apply Kd.R_drew)); exact p4.out⟩,⟨by (with_reducible repeat (first | apply Kd.R_alloc | apply Kd.R_drewN | apply Kd.R_drew)); exact q0.out⟩,⟨by (with_reducible repeat (first | refine blk_drewN ?_ _ | refine blk_drew ?_ | refine blk_alloc ?_ _)); exact p9.out⟩,⟨by repeat (first | (with_reducible first | exact HK.out | apply Kept.alloc | apply Kept.drewN | apply Kept.drew | refine Kept.setCell ?_ (.inr q4.out) _) | exact HK.out)⟩,⟨by repeat (first | (with_reducible first | exact HB.out | apply below_alloc | apply pw_below_drewN | apply below_drew1 | refine below_set ?_ r0.out) | exact HB.out)⟩⟩
     case round =>
      clear H'
      try clear c1
      try clear p1
      try clear q1
      try clear hx1
      try clear c2
      try clear p2
      try clear c5
      try clear c5b0
      try clear c5b1
      try clear c6
      try clear c6b0
      try clear c6b1
      try clear p6
      try clear c9
      try clear c11
      try clear c11b0
      try clear c12
      try clear c12b0
      try clear c13
      try clear c13b0
      try clear p14
      try clear q14
      try clear hx14
      try clear hf14
      try clear c21
      try clear c21b0
      try clear g7
      try clear g8
      try clear j1
      try clear j2
      try clear z6
      try clear z7
      try clear g9
      try clear j0
      try clear j4
      try clear j5
      try clear z8
      try clear z9
      try clear m0
      try clear p1
      try clear p14
      try clear p2
      try clear p6
      try clear q1
      try clear q14
      obtain ⟨q2,r7,p0,rfl,HA,HK3,HO_1,p4,q0,p9,HK,HB⟩:=hrel;cases gk with
      | zero => exact absurd HA.out (by simp [spec_l25Push.l2])
      | succ k3 =>
       have H:=HA.out;clear HA;simp only [spec_l25Push.l2] at H
       by_cases c23 : p0 < (l0_1.length : Int)
       case neg =>
        rw [if_neg c23] at H;have c23b0 : decide (p0 < (l0_1.length : Int)) = false:=decide_eq_false c23;clear c23;have H':=I H;clear H;have O5 : wr.cell? ⟨q8,0,none⟩ = some (.int .i64 a0_0):=(blk_cell p9.out 0).trans rfl;have O6 : wr.cell? ⟨q8,1,none⟩ = some (.slice A0_1 l0_1.length c0_1):=(blk_cell p9.out 1).trans rfl;have O7:=blk_frozen p9.out 0;have O8:=blk_frozen p9.out 1
        go_wp2
        repeat (go_quiet (fail); try go_wp2)
        go_roundg k3
        case measure => have:=HK1.out; have:=HK2.out; have:=HK3.out; omega
        case rel => exact ⟨(q2),(r7),(wrap64 (q3 + 1)),(by first | rfl | (simp; done) | (simp [*]; done)),H',⟨by have:=HK1.out; have:=HK2.out; have:=HK3.out; omega⟩,⟨by (with_reducible repeat (first | apply Kd.R_alloc | apply Kd.R_drewN | apply Kd.R_drew)); exact HO_1.out⟩,⟨by (with_reducible repeat (first | apply Kd.R_alloc | apply Kd.R_drewN | apply Kd.R_drew)); exact p4.out⟩,⟨by (with_reducible repeat (first | apply Kd.R_alloc | apply Kd.R_drewN | apply Kd.R_drew)); exact q0.out⟩,⟨by (with_reducible repeat (first | refine blk_drewN ?_ _ | refine blk_drew ?_ | refine blk_alloc ?_ _)); exact p9.out⟩,⟨by repeat (first | (with_reducible first | exact HK.out | apply Kept.alloc | apply Kept.drewN | apply Kept.drew | refine Kept.setCell ?_ (.inr q4.out) _) | exact HK.out)⟩,⟨by repeat (first | (with_reducible first | exact HB.out | apply below_alloc | apply pw_below_drewN | apply below_drew1 | refine below_set ?_ r0.out) | exact HB.out)⟩⟩
       rw [if_pos c23] at H;have c23b0 : decide (p0 < (l0_1.length : Int)) = true:=decide_eq_true c23;clear c23
       by_cases c24 : 0 ≤ p0
       case neg =>
        rw [if_neg c24] at H;exact absurd H (by simp)
       rw [if_pos c24] at H;have c24b0 : decide (0 ≤ p0) = true:=decide_eq_true c24;clear c24;have HC25:=I H;clear H;have P3 : wr.cell? ⟨q8,0,none⟩ = some (.int .i64 a0_0):=(blk_cell p9.out 0).trans rfl;have P4 : wr.cell? ⟨q8,1,none⟩ = some (.slice A0_1 l0_1.length c0_1):=(blk_cell p9.out 1).trans rfl;have P5:=blk_frozen p9.out 0;have P6:=blk_frozen p9.out 1;have p628 : 0 ≤ (p0 : Int):=of_decide_eq_true (by first | (with_reducible assumption) | assumption);have q628 : p0 < (l0_1.length : Int):=of_decide_eq_true (by first | (with_reducible assumption) | assumption);obtain ⟨s3,e628,P7,P8,P9,Q0,Q1⟩:=at_T58 (Kd.C_kept_now m4.out HK.out) p0 p628 q628;cases e628;replace p628:=eq_true p628;replace q628:=eq_true q628
       go_upto_region 14 with (first | ((with_reducible refine gate_dst (N:=15) rfl ?_); refine box_event ?hg (N:=15) ?hd (cs:=#[.int .i64 0,.int .i64 0,.int .i64 0,.int .i64 0,.int .i64 0]) (t:=58) ?hr ?_; (case hd => rfl); (case hg => rfl); (case hr => first | (go_simp; done) | (go_simp; rfl)); intro p8 hg w27 hbox hb; have n0_:=I (Kd.R_below (by (with_reducible repeat (first | apply Kd.R_alloc | apply Kd.R_drewN | apply Kd.R_drew)); exact HO_1.out) hb); have n1_:=I (Kd.R_below (by (with_reducible repeat (first | apply Kd.R_alloc | apply Kd.R_drewN | apply Kd.R_drew)); exact p4.out) hb); have n2_:=I (Kd.R_below (by (with_reducible repeat (first | apply Kd.R_alloc | apply Kd.R_drewN | apply Kd.R_drew)); exact q0.out) hb); have n3_:=I (blk_below (g:=q8) (o:=.cells #[.int .i64 a0_0,.slice (some s3) l0_1.length c0_1] 34 (0,0)) (by (with_reducible repeat (first | refine blk_drewN ?_ _ | refine blk_drew ?_ | refine blk_alloc ?_ _)); exact p9.out) hb); have n4_:=I (Kept.below (S:=(fun k_ => P1_ k_)) (by repeat (first | (with_reducible first | exact HK.out | apply Kept.alloc | apply Kept.drewN | apply Kept.drew | refine Kept.setCell ?_ (.inr q4.out) _) | exact HK.out)) hb); have n5_:=I (below_step (by repeat (first | (with_reducible first | exact HB.out | apply below_alloc | apply pw_below_drewN | apply below_drew1 | refine below_set ?_ r0.out) | exact HB.out)) hb); have n6_:=I (hbox); have n7_:=I ((by rw [hg]; exact (by first | exact HK.out.1 | exact (show Kept w _ (fun k_ => P1_ k_) from by repeat (first | (with_reducible first | exact HK.out | apply Kept.alloc | apply Kept.drewN | apply Kept.drew | refine Kept.setCell ?_ (.inr q4.out) _) | exact HK.out)).1) : w.heap.size ≤ p8)); have n8_:=I ((by rw [hg]; exact (below_size (by repeat (first | (with_reducible first | exact HB.out | apply below_alloc | apply pw_below_drewN | apply below_drew1 | refine below_set ?_ r0.out) | exact HB.out))) : w0.heap.size ≤ p8)); have n9_:=I ((by rw [hg]; exact Nat.ne_of_lt (blk_lt (g:=q8) (o:=.cells #[.int .i64 a0_0,.slice (some s3) l0_1.length c0_1] 34 (0,0)) (by (with_reducible repeat (first | refine blk_drewN ?_ _ | refine blk_drew ?_ | refine blk_alloc ?_ _)); exact p9.out)) : q8 ≠ p8)); have n10_:=I ((by rw [hg]; exact Nat.ne_of_gt (blk_lt (g:=q8) (o:=.cells #[.int .i64 a0_0,.slice (some s3) l0_1.length c0_1] 34 (0,0)) (by (with_reducible repeat (first | refine blk_drewN ?_ _ | refine blk_drew ?_ | refine blk_alloc ?_ _)); exact p9.out)) : p8 ≠ q8)); clear HO_1; clear p4; clear q0; clear p9; clear HK; clear HB; have HO_1:=n0_; have p4:=n1_; have q0:=n2_; have p9:=n3_; have HK:=n4_; have HB:=n5_; have p3:=n6_; have r6:=n7_; have s1:=n8_; have r4:=n9_; have s5:=n10_; clear n0_ n1_ n2_ n3_ n4_ n5_ n6_ n7_ n8_ n9_ n10_; clear hb hbox hg; have hnb28:=s5.out; have hnc28:=r4.out; have j6 : w27.cell? ⟨p8,0,none⟩ = some (.int .i64 0):=(blk_cell p3.out 0).trans rfl; have j7 : w27.cell? ⟨p8,1,none⟩ = some (.int .i64 0):=(blk_cell p3.out 1).trans rfl; have j8 : w27.cell? ⟨p8,2,none⟩ = some (.int .i64 0):=(blk_cell p3.out 2).trans rfl; have j9 : w27.cell? ⟨p8,3,none⟩ = some (.int .i64 0):=(blk_cell p3.out 3).trans rfl; have k0 : w27.cell? ⟨p8,4,none⟩ = some (.int .i64 0):=(blk_cell p3.out 4).trans rfl; have k4:=blk_frozen p3.out 0; have k5:=blk_frozen p3.out 1; have k6:=blk_frozen p3.out 2; have k7:=blk_frozen p3.out 3; have k8:=blk_frozen p3.out 4))
       repeat (go_quiet (fail); go_upto_region 14 with (fail))
       (try simp only [Act.put,J,U,O])
       go_cut [80] (fun v80 wc => ∃ (kq : Nat) (k9 : Bool),v80 = .bool k9 ∧ Aside0 (spec_l25Push.j3 kq l1 a2 a3 q2 r7 q3 p0 k9 a0_0 l0_1 ((rd_T58 l0_1 p0).f0) ((rd_T58 l0_1 p0).f1) ((rd_T58 l0_1 p0).f2) ((rd_T58 l0_1 p0).f3) ((rd_T58 l0_1 p0).f4) = some (r1,r2)) ∧ Aside0 (kq ≤ k3) ∧ Aside0 (Kd.R (Kd.int .i64) 3 wc w0.heap.size (fun k_ => (P1_ k_ ∨ w.heap.size ≤ k_) ∧ some k_ ≠ (v622 : Value).ownBlock ∧ some k_ ≠ (u12 : Value).ownBlock) q9 l1) ∧ Aside0 (Kd.R (Kd.int .i64) 3 wc w0.heap.size (fun k_ => (P1_ k_ ∨ w.heap.size ≤ k_) ∧ some k_ ≠ (q9 : Value).ownBlock ∧ some k_ ≠ (u12 : Value).ownBlock) v622 q2) ∧ Aside0 (Kd.R (Kd.int .i64) 3 wc w0.heap.size (fun k_ => (P1_ k_ ∨ w.heap.size ≤ k_) ∧ some k_ ≠ (q9 : Value).ownBlock ∧ some k_ ≠ (v622 : Value).ownBlock) u12 r7) ∧ Aside0 (wc.heap[q8]? = some (.cells #[.int .i64 a0_0,(.slice (some s3) l0_1.length c0_1)] 34 (0,0))) ∧ Aside0 (wc.heap[p8]? = some (.cells #[.int .i64 ((rd_T58 l0_1 p0).f0),.int .i64 ((rd_T58 l0_1 p0).f1),.int .i64 ((rd_T58 l0_1 p0).f2),.int .i64 ((rd_T58 l0_1 p0).f3),.int .i64 ((rd_T58 l0_1 p0).f4)] 58 (0,0))) ∧ Aside0 (Kept w wc (fun k_ => P1_ k_)) ∧ Aside0 (Below w0.heap.size w0 wc))
       case first =>
        have H:=HC25.out;clear HC25
        by_cases c30 : 0 ≤ q3
        case neg =>
         rw [if_neg c30] at H;exact absurd H (by simp)
        rw [if_pos c30] at H;have c30b0 : decide (0 ≤ q3) = true:=decide_eq_true c30;clear c30
        (first | rw [c30b0] | (simp only [i64_w,i32_w]; rw [c30b0]) | skip)
        by_cases c31 : q3 < (r7.length : Int)
        case neg =>
         rw [if_neg c31] at H;exact absurd H (by simp)
        rw [if_pos c31] at H;have c31b0 : decide (q3 < (r7.length : Int)) = true:=decide_eq_true c31;clear c31
        by_cases c32 : ((rd_T58 l0_1 p0).f0) = (rd r7 q3)
        case neg =>
         rw [if_neg c32] at H;have c32b0 : (((rd_T58 l0_1 p0).f0) == (rd r7 q3)) = false:=beq_eq_false_iff_ne.mpr c32;have c32b1 : (((rd_T58 l0_1 p0).f0) != (rd r7 q3)) = true:=bne_iff_ne.mpr c32;have H':=I H;clear H;have hnb52:=s5.out;have hnc52:=r4.out;have T2 : w27.cell? ⟨p8,0,none⟩ = some (.int .i64 0):=(blk_cell p3.out 0).trans rfl;have T3 : w27.cell? ⟨p8,1,none⟩ = some (.int .i64 0):=(blk_cell p3.out 1).trans rfl;have T4 : w27.cell? ⟨p8,2,none⟩ = some (.int .i64 0):=(blk_cell p3.out 2).trans rfl;have T5 : w27.cell? ⟨p8,3,none⟩ = some (.int .i64 0):=(blk_cell p3.out 3).trans rfl;have T6 : w27.cell? ⟨p8,4,none⟩ = some (.int .i64 0):=(blk_cell p3.out 4).trans rfl;have T7:=blk_frozen p3.out 0;have T8:=blk_frozen p3.out 1;have T9:=blk_frozen p3.out 2;have U0:=blk_frozen p3.out 3;have U1:=blk_frozen p3.out 4;obtain ⟨Ao54,co54,eo54⟩:=Kd.R_slice q0.out;subst eo54;have p630 : 0 ≤ (q3 : Int):=of_decide_eq_true (by first | (with_reducible assumption) | assumption);have q630 : q3 < (r7.length : Int):=of_decide_eq_true (by first | (with_reducible assumption) | assumption);obtain ⟨u5,e630,r5⟩:=Kd.at_int (Kd.R_reads' q0.out).2.2 q3 p630 q630;cases e630;have s8 : u5.block ≠ p8:=Kd.own_blk (Kd.R_ne q0.out p3.out (by decide));have s9 : u5.block ≠ p8:=Kd.own_blk (Kd.R_ne q0.out p3.out (by decide));have t0 : u5.block ≠ p8:=Kd.own_blk (Kd.R_ne q0.out p3.out (by decide));have t1 : u5.block ≠ p8:=Kd.own_blk (Kd.R_ne q0.out p3.out (by decide));have t2 : u5.block ≠ p8:=Kd.own_blk (Kd.R_ne q0.out p3.out (by decide));replace r5:=(cell_far (p:=⟨p8,0,none⟩) (by first | (rw [add_block]; exact s8) | (show (Addr.add _ _).block ≠ _; rw [add_block]; exact s8) | exact s8) (.int .i64 ((rd_T58 l0_1 p0).f0))).trans r5;replace r5:=(cell_far (p:=⟨p8,1,none⟩) (by first | (rw [add_block]; exact s9) | (show (Addr.add _ _).block ≠ _; rw [add_block]; exact s9) | exact s9) (.int .i64 ((rd_T58 l0_1 p0).f1))).trans r5;replace r5:=(cell_far (p:=⟨p8,2,none⟩) (by first | (rw [add_block]; exact t0) | (show (Addr.add _ _).block ≠ _; rw [add_block]; exact t0) | exact t0) (.int .i64 ((rd_T58 l0_1 p0).f2))).trans r5;replace r5:=(cell_far (p:=⟨p8,3,none⟩) (by first | (rw [add_block]; exact t1) | (show (Addr.add _ _).block ≠ _; rw [add_block]; exact t1) | exact t1) (.int .i64 ((rd_T58 l0_1 p0).f3))).trans r5;replace r5:=(cell_far (p:=⟨p8,4,none⟩) (by first | (rw [add_block]; exact t2) | (show (Addr.add _ _).block ≠ _; rw [add_block]; exact t2) | exact t2) (.int .i64 ((rd_T58 l0_1 p0).f4))).trans r5
         (try have hy630_0:=fun (n_ : Nat) => (show (((((((w27.drewN n_).setCell ⟨p8,0,none⟩ (.int .i64 ((rd_T58 l0_1 p0).f0))).setCell ⟨p8,1,none⟩ (.int .i64 ((rd_T58 l0_1 p0).f1))).setCell ⟨p8,2,none⟩ (.int .i64 ((rd_T58 l0_1 p0).f2))).setCell ⟨p8,3,none⟩ (.int .i64 ((rd_T58 l0_1 p0).f3))).setCell ⟨p8,4,none⟩ (.int .i64 ((rd_T58 l0_1 p0).f4)))).cell? _ = some _ from r5))
         clear s8;clear s9;clear t0;clear t1;clear t2;replace p630:=eq_true p630;replace q630:=eq_true q630
         go_wp2
         repeat (go_quiet (fail); try go_wp2)
         go_meet
         case rel => exact ⟨_,(false),(by first | rfl | (simp; done) | (simp [*]; done)),H',⟨by have:=HK1.out; have:=HK2.out; have:=HK3.out; first | omega | exact Nat.le_refl _⟩,⟨by (with_reducible repeat (first | apply Kd.R_alloc | apply Kd.R_drewN | apply Kd.R_drew)); exact Kd.R_mono (Kd.R_far (p:=⟨p8,4,none⟩) (Kd.R_far (p:=⟨p8,3,none⟩) (Kd.R_far (p:=⟨p8,2,none⟩) (Kd.R_far (p:=⟨p8,1,none⟩) (Kd.R_far (p:=⟨p8,0,none⟩) (Kd.R_types HO_1.out p3.out (by decide)) (fun _ hk => hk.2) (.int .i64 ((rd_T58 l0_1 p0).f0))) (fun _ hk => hk.2) (.int .i64 ((rd_T58 l0_1 p0).f1))) (fun _ hk => hk.2) (.int .i64 ((rd_T58 l0_1 p0).f2))) (fun _ hk => hk.2) (.int .i64 ((rd_T58 l0_1 p0).f3))) (fun _ hk => hk.2) (.int .i64 ((rd_T58 l0_1 p0).f4))) (fun _ hk => ⟨hk.1.1,⟨hk.1.2.1,hk.1.2.2⟩⟩)⟩,⟨by (with_reducible repeat (first | apply Kd.R_alloc | apply Kd.R_drewN | apply Kd.R_drew)); exact Kd.R_mono (Kd.R_far (p:=⟨p8,4,none⟩) (Kd.R_far (p:=⟨p8,3,none⟩) (Kd.R_far (p:=⟨p8,2,none⟩) (Kd.R_far (p:=⟨p8,1,none⟩) (Kd.R_far (p:=⟨p8,0,none⟩) (Kd.R_types p4.out p3.out (by decide)) (fun _ hk => hk.2) (.int .i64 ((rd_T58 l0_1 p0).f0))) (fun _ hk => hk.2) (.int .i64 ((rd_T58 l0_1 p0).f1))) (fun _ hk => hk.2) (.int .i64 ((rd_T58 l0_1 p0).f2))) (fun _ hk => hk.2) (.int .i64 ((rd_T58 l0_1 p0).f3))) (fun _ hk => hk.2) (.int .i64 ((rd_T58 l0_1 p0).f4))) (fun _ hk => ⟨hk.1.1,⟨hk.1.2.1,hk.1.2.2⟩⟩)⟩,⟨by (with_reducible repeat (first | apply Kd.R_alloc | apply Kd.R_drewN | apply Kd.R_drew)); exact Kd.R_mono (Kd.R_far (p:=⟨p8,4,none⟩) (Kd.R_far (p:=⟨p8,3,none⟩) (Kd.R_far (p:=⟨p8,2,none⟩) (Kd.R_far (p:=⟨p8,1,none⟩) (Kd.R_far (p:=⟨p8,0,none⟩) (Kd.R_types q0.out p3.out (by decide)) (fun _ hk => hk.2) (.int .i64 ((rd_T58 l0_1 p0).f0))) (fun _ hk => hk.2) (.int .i64 ((rd_T58 l0_1 p0).f1))) (fun _ hk => hk.2) (.int .i64 ((rd_T58 l0_1 p0).f2))) (fun _ hk => hk.2) (.int .i64 ((rd_T58 l0_1 p0).f3))) (fun _ hk => hk.2) (.int .i64 ((rd_T58 l0_1 p0).f4))) (fun _ hk => ⟨hk.1.1,⟨hk.1.2.1,hk.1.2.2⟩⟩)⟩,⟨by (with_reducible repeat (first | refine blk_drewN ?_ _ | refine blk_drew ?_ | refine blk_alloc ?_ _)); refine blk_far ?_ r4.out _; (with_reducible repeat (first | refine blk_drewN ?_ _ | refine blk_drew ?_ | refine blk_alloc ?_ _)); refine blk_far ?_ r4.out _; (with_reducible repeat (first | refine blk_drewN ?_ _ | refine blk_drew ?_ | refine blk_alloc ?_ _)); refine blk_far ?_ r4.out _; (with_reducible repeat (first | refine blk_drewN ?_ _ | refine blk_drew ?_ | refine blk_alloc ?_ _)); refine blk_far ?_ r4.out _; (with_reducible repeat (first | refine blk_drewN ?_ _ | refine blk_drew ?_ | refine blk_alloc ?_ _)); refine blk_far ?_ r4.out _; (with_reducible repeat (first | refine blk_drewN ?_ _ | refine blk_drew ?_ | refine blk_alloc ?_ _)); exact p9.out⟩,⟨by (with_reducible repeat (first | refine blk_drewN ?_ _ | refine blk_drew ?_ | refine blk_alloc ?_ _)); refine blk_put (cs:=#[.int .i64 ((rd_T58 l0_1 p0).f0),.int .i64 ((rd_T58 l0_1 p0).f1),.int .i64 ((rd_T58 l0_1 p0).f2),.int .i64 ((rd_T58 l0_1 p0).f3),.int .i64 0]) ?_ 4 _ rfl; (with_reducible repeat (first | refine blk_drewN ?_ _ | refine blk_drew ?_ | refine blk_alloc ?_ _)); refine blk_put (cs:=#[.int .i64 ((rd_T58 l0_1 p0).f0),.int .i64 ((rd_T58 l0_1 p0).f1),.int .i64 ((rd_T58 l0_1 p0).f2),.int .i64 0,.int .i64 0]) ?_ 3 _ rfl; (with_reducible repeat (first | refine blk_drewN ?_ _ | refine blk_drew ?_ | refine blk_alloc ?_ _)); refine blk_put (cs:=#[.int .i64 ((rd_T58 l0_1 p0).f0),.int .i64 ((rd_T58 l0_1 p0).f1),.int .i64 0,.int .i64 0,.int .i64 0]) ?_ 2 _ rfl; (with_reducible repeat (first | refine blk_drewN ?_ _ | refine blk_drew ?_ | refine blk_alloc ?_ _)); refine blk_put (cs:=#[.int .i64 ((rd_T58 l0_1 p0).f0),.int .i64 0,.int .i64 0,.int .i64 0,.int .i64 0]) ?_ 1 _ rfl; (with_reducible repeat (first | refine blk_drewN ?_ _ | refine blk_drew ?_ | refine blk_alloc ?_ _)); refine blk_put (cs:=#[.int .i64 0,.int .i64 0,.int .i64 0,.int .i64 0,.int .i64 0]) ?_ 0 _ rfl; (with_reducible repeat (first | refine blk_drewN ?_ _ | refine blk_drew ?_ | refine blk_alloc ?_ _)); exact p3.out⟩,⟨by repeat (first | (with_reducible first | exact HK.out | apply Kept.alloc | apply Kept.drewN | apply Kept.drew | refine Kept.setCell ?_ (.inr q4.out) _ | refine Kept.setCell ?_ (.inr r6.out) _) | exact HK.out)⟩,⟨by repeat (first | (with_reducible first | exact HB.out | apply below_alloc | apply pw_below_drewN | apply below_drew1 | refine below_set ?_ r0.out | refine below_set ?_ s1.out) | exact HB.out)⟩⟩
        rw [if_pos c32] at H;have c32b0 : (((rd_T58 l0_1 p0).f0) == (rd r7 q3)) = true:=beq_iff_eq.mpr c32;have c32b1 : (((rd_T58 l0_1 p0).f0) != (rd r7 q3)) = false:=bne_eq_false_iff_eq.mpr c32;clear c32
        by_cases c33 : p0 < (l1.length : Int)
        case neg =>
         rw [if_neg c33] at H;exact absurd H (by simp)
        rw [if_pos c33] at H;have c33b0 : decide (p0 < (l1.length : Int)) = true:=decide_eq_true c33;clear c33
        by_cases c34 : (rd l1 p0) < ((rd_T58 l0_1 p0).f4)
        case neg =>
         rw [if_neg c34] at H;have c34b0 : decide ((rd l1 p0) < ((rd_T58 l0_1 p0).f4)) = false:=decide_eq_false c34;clear c34;have H':=I H;clear H;have hnb48:=s5.out;have hnc48:=r4.out;have S2 : w27.cell? ⟨p8,0,none⟩ = some (.int .i64 0):=(blk_cell p3.out 0).trans rfl;have S3 : w27.cell? ⟨p8,1,none⟩ = some (.int .i64 0):=(blk_cell p3.out 1).trans rfl;have S4 : w27.cell? ⟨p8,2,none⟩ = some (.int .i64 0):=(blk_cell p3.out 2).trans rfl;have S5 : w27.cell? ⟨p8,3,none⟩ = some (.int .i64 0):=(blk_cell p3.out 3).trans rfl;have S6 : w27.cell? ⟨p8,4,none⟩ = some (.int .i64 0):=(blk_cell p3.out 4).trans rfl;have S7:=blk_frozen p3.out 0;have S8:=blk_frozen p3.out 1;have S9:=blk_frozen p3.out 2;have T0:=blk_frozen p3.out 3;have T1:=blk_frozen p3.out 4;obtain ⟨Ao50,co50,eo50⟩:=Kd.R_slice q0.out;subst eo50;have p630 : 0 ≤ (q3 : Int):=of_decide_eq_true (by first | (with_reducible assumption) | assumption);have q630 : q3 < (r7.length : Int):=of_decide_eq_true (by first | (with_reducible assumption) | assumption);obtain ⟨u5,e630,r5⟩:=Kd.at_int (Kd.R_reads' q0.out).2.2 q3 p630 q630;cases e630;have s8 : u5.block ≠ p8:=Kd.own_blk (Kd.R_ne q0.out p3.out (by decide));have s9 : u5.block ≠ p8:=Kd.own_blk (Kd.R_ne q0.out p3.out (by decide));have t0 : u5.block ≠ p8:=Kd.own_blk (Kd.R_ne q0.out p3.out (by decide));have t1 : u5.block ≠ p8:=Kd.own_blk (Kd.R_ne q0.out p3.out (by decide));have t2 : u5.block ≠ p8:=Kd.own_blk (Kd.R_ne q0.out p3.out (by decide));replace r5:=(cell_far (p:=⟨p8,0,none⟩) (by first | (rw [add_block]; exact s8) | (show (Addr.add _ _).block ≠ _; rw [add_block]; exact s8) | exact s8) (.int .i64 ((rd_T58 l0_1 p0).f0))).trans r5;replace r5:=(cell_far (p:=⟨p8,1,none⟩) (by first | (rw [add_block]; exact s9) | (show (Addr.add _ _).block ≠ _; rw [add_block]; exact s9) | exact s9) (.int .i64 ((rd_T58 l0_1 p0).f1))).trans r5;replace r5:=(cell_far (p:=⟨p8,2,none⟩) (by first | (rw [add_block]; exact t0) | (show (Addr.add _ _).block ≠ _; rw [add_block]; exact t0) | exact t0) (.int .i64 ((rd_T58 l0_1 p0).f2))).trans r5;replace r5:=(cell_far (p:=⟨p8,3,none⟩) (by first | (rw [add_block]; exact t1) | (show (Addr.add _ _).block ≠ _; rw [add_block]; exact t1) | exact t1) (.int .i64 ((rd_T58 l0_1 p0).f3))).trans r5;replace r5:=(cell_far (p:=⟨p8,4,none⟩) (by first | (rw [add_block]; exact t2) | (show (Addr.add _ _).block ≠ _; rw [add_block]; exact t2) | exact t2) (.int .i64 ((rd_T58 l0_1 p0).f4))).trans r5
         (try have hy630_0:=fun (n_ : Nat) => (show (((((((w27.drewN n_).setCell ⟨p8,0,none⟩ (.int .i64 ((rd_T58 l0_1 p0).f0))).setCell ⟨p8,1,none⟩ (.int .i64 ((rd_T58 l0_1 p0).f1))).setCell ⟨p8,2,none⟩ (.int .i64 ((rd_T58 l0_1 p0).f2))).setCell ⟨p8,3,none⟩ (.int .i64 ((rd_T58 l0_1 p0).f3))).setCell ⟨p8,4,none⟩ (.int .i64 ((rd_T58 l0_1 p0).f4)))).cell? _ = some _ from r5))
         clear s8;clear s9;clear t0;clear t1;clear t2;replace p630:=eq_true p630;replace q630:=eq_true q630;obtain ⟨Ao51,co51,eo51⟩:=Kd.R_slice HO_1.out;subst eo51;have p631 : 0 ≤ (p0 : Int):=of_decide_eq_true (by first | (with_reducible assumption) | assumption);have q631 : p0 < (l1.length : Int):=of_decide_eq_true (by first | (with_reducible assumption) | assumption);obtain ⟨v0,e631,r9⟩:=Kd.at_int (Kd.R_reads' HO_1.out).2.2 p0 p631 q631;cases e631;have t9 : v0.block ≠ p8:=Kd.own_blk (Kd.R_ne HO_1.out p3.out (by decide));have u0 : v0.block ≠ p8:=Kd.own_blk (Kd.R_ne HO_1.out p3.out (by decide));have u1 : v0.block ≠ p8:=Kd.own_blk (Kd.R_ne HO_1.out p3.out (by decide));have u2 : v0.block ≠ p8:=Kd.own_blk (Kd.R_ne HO_1.out p3.out (by decide));have u3 : v0.block ≠ p8:=Kd.own_blk (Kd.R_ne HO_1.out p3.out (by decide));replace r9:=(cell_far (p:=⟨p8,0,none⟩) (by first | (rw [add_block]; exact t9) | (show (Addr.add _ _).block ≠ _; rw [add_block]; exact t9) | exact t9) (.int .i64 ((rd_T58 l0_1 p0).f0))).trans r9;replace r9:=(cell_far (p:=⟨p8,1,none⟩) (by first | (rw [add_block]; exact u0) | (show (Addr.add _ _).block ≠ _; rw [add_block]; exact u0) | exact u0) (.int .i64 ((rd_T58 l0_1 p0).f1))).trans r9;replace r9:=(cell_far (p:=⟨p8,2,none⟩) (by first | (rw [add_block]; exact u1) | (show (Addr.add _ _).block ≠ _; rw [add_block]; exact u1) | exact u1) (.int .i64 ((rd_T58 l0_1 p0).f2))).trans r9;replace r9:=(cell_far (p:=⟨p8,3,none⟩) (by first | (rw [add_block]; exact u2) | (show (Addr.add _ _).block ≠ _; rw [add_block]; exact u2) | exact u2) (.int .i64 ((rd_T58 l0_1 p0).f3))).trans r9;replace r9:=(cell_far (p:=⟨p8,4,none⟩) (by first | (rw [add_block]; exact u3) | (show (Addr.add _ _).block ≠ _; rw [add_block]; exact u3) | exact u3) (.int .i64 ((rd_T58 l0_1 p0).f4))).trans r9
         (try have hy631_0:=fun (n_ : Nat) => (show (((((((w27.drewN n_).setCell ⟨p8,0,none⟩ (.int .i64 ((rd_T58 l0_1 p0).f0))).setCell ⟨p8,1,none⟩ (.int .i64 ((rd_T58 l0_1 p0).f1))).setCell ⟨p8,2,none⟩ (.int .i64 ((rd_T58 l0_1 p0).f2))).setCell ⟨p8,3,none⟩ (.int .i64 ((rd_T58 l0_1 p0).f3))).setCell ⟨p8,4,none⟩ (.int .i64 ((rd_T58 l0_1 p0).f4)))).cell? _ = some _ from r9))
         clear t9;clear u0;clear u1;clear u2;clear u3;replace p631:=eq_true p631;replace q631:=eq_true q631
         go_wp2
         repeat (go_quiet (fail); try go_wp2)
         go_meet
         case rel => exact ⟨_,(false),(by first | rfl | (simp; done) | (simp [*]; done)),H',⟨by have:=HK1.out; have:=HK2.out; have:=HK3.out; first | omega | exact Nat.le_refl _⟩,⟨by (with_reducible repeat (first | apply Kd.R_alloc | apply Kd.R_drewN | apply Kd.R_drew)); exact Kd.R_mono (Kd.R_far (p:=⟨p8,4,none⟩) (Kd.R_far (p:=⟨p8,3,none⟩) (Kd.R_far (p:=⟨p8,2,none⟩) (Kd.R_far (p:=⟨p8,1,none⟩) (Kd.R_far (p:=⟨p8,0,none⟩) (Kd.R_types HO_1.out p3.out (by decide)) (fun _ hk => hk.2) (.int .i64 ((rd_T58 l0_1 p0).f0))) (fun _ hk => hk.2) (.int .i64 ((rd_T58 l0_1 p0).f1))) (fun _ hk => hk.2) (.int .i64 ((rd_T58 l0_1 p0).f2))) (fun _ hk => hk.2) (.int .i64 ((rd_T58 l0_1 p0).f3))) (fun _ hk => hk.2) (.int .i64 ((rd_T58 l0_1 p0).f4))) (fun _ hk => ⟨hk.1.1,⟨hk.1.2.1,hk.1.2.2⟩⟩)⟩,⟨by (with_reducible repeat (first | apply Kd.R_alloc | apply Kd.R_drewN | apply Kd.R_drew)); exact Kd.R_mono (Kd.R_far (p:=⟨p8,4,none⟩) (Kd.R_far (p:=⟨p8,3,none⟩) (Kd.R_far (p:=⟨p8,2,none⟩) (Kd.R_far (p:=⟨p8,1,none⟩) (Kd.R_far (p:=⟨p8,0,none⟩) (Kd.R_types p4.out p3.out (by decide)) (fun _ hk => hk.2) (.int .i64 ((rd_T58 l0_1 p0).f0))) (fun _ hk => hk.2) (.int .i64 ((rd_T58 l0_1 p0).f1))) (fun _ hk => hk.2) (.int .i64 ((rd_T58 l0_1 p0).f2))) (fun _ hk => hk.2) (.int .i64 ((rd_T58 l0_1 p0).f3))) (fun _ hk => hk.2) (.int .i64 ((rd_T58 l0_1 p0).f4))) (fun _ hk => ⟨hk.1.1,⟨hk.1.2.1,hk.1.2.2⟩⟩)⟩,⟨by (with_reducible repeat (first | apply Kd.R_alloc | apply Kd.R_drewN | apply Kd.R_drew)); exact Kd.R_mono (Kd.R_far (p:=⟨p8,4,none⟩) (Kd.R_far (p:=⟨p8,3,none⟩) (Kd.R_far (p:=⟨p8,2,none⟩) (Kd.R_far (p:=⟨p8,1,none⟩) (Kd.R_far (p:=⟨p8,0,none⟩) (Kd.R_types q0.out p3.out (by decide)) (fun _ hk => hk.2) (.int .i64 ((rd_T58 l0_1 p0).f0))) (fun _ hk => hk.2) (.int .i64 ((rd_T58 l0_1 p0).f1))) (fun _ hk => hk.2) (.int .i64 ((rd_T58 l0_1 p0).f2))) (fun _ hk => hk.2) (.int .i64 ((rd_T58 l0_1 p0).f3))) (fun _ hk => hk.2) (.int .i64 ((rd_T58 l0_1 p0).f4))) (fun _ hk => ⟨hk.1.1,⟨hk.1.2.1,hk.1.2.2⟩⟩)⟩,⟨by (with_reducible repeat (first | refine blk_drewN ?_ _ | refine blk_drew ?_ | refine blk_alloc ?_ _)); refine blk_far ?_ r4.out _; (with_reducible repeat (first | refine blk_drewN ?_ _ | refine blk_drew ?_ | refine blk_alloc ?_ _)); refine blk_far ?_ r4.out _; (with_reducible repeat (first | refine blk_drewN ?_ _ | refine blk_drew ?_ | refine blk_alloc ?_ _)); refine blk_far ?_ r4.out _; (with_reducible repeat (first | refine blk_drewN ?_ _ | refine blk_drew ?_ | refine blk_alloc ?_ _)); refine blk_far ?_ r4.out _; (with_reducible repeat (first | refine blk_drewN ?_ _ | refine blk_drew ?_ | refine blk_alloc ?_ _)); refine blk_far ?_ r4.out _; (with_reducible repeat (first | refine blk_drewN ?_ _ | refine blk_drew ?_ | refine blk_alloc ?_ _)); exact p9.out⟩,⟨by (with_reducible repeat (first | refine blk_drewN ?_ _ | refine blk_drew ?_ | refine blk_alloc ?_ _)); refine blk_put (cs:=#[.int .i64 ((rd_T58 l0_1 p0).f0),.int .i64 ((rd_T58 l0_1 p0).f1),.int .i64 ((rd_T58 l0_1 p0).f2),.int .i64 ((rd_T58 l0_1 p0).f3),.int .i64 0]) ?_ 4 _ rfl; (with_reducible repeat (first | refine blk_drewN ?_ _ | refine blk_drew ?_ | refine blk_alloc ?_ _)); refine blk_put (cs:=#[.int .i64 ((rd_T58 l0_1 p0).f0),.int .i64 ((rd_T58 l0_1 p0).f1),.int .i64 ((rd_T58 l0_1 p0).f2),.int .i64 0,.int .i64 0]) ?_ 3 _ rfl; (with_reducible repeat (first | refine blk_drewN ?_ _ | refine blk_drew ?_ | refine blk_alloc ?_ _)); refine blk_put (cs:=#[.int .i64 ((rd_T58 l0_1 p0).f0),.int .i64 ((rd_T58 l0_1 p0).f1),.int .i64 0,.int .i64 0,.int .i64 0]) ?_ 2 _ rfl; (with_reducible repeat (first | refine blk_drewN ?_ _ | refine blk_drew ?_ | refine blk_alloc ?_ _)); refine blk_put (cs:=#[.int .i64 ((rd_T58 l0_1 p0).f0),.int .i64 0,.int .i64 0,.int .i64 0,.int .i64 0]) ?_ 1 _ rfl; (with_reducible repeat (first | refine blk_drewN ?_ _ | refine blk_drew ?_ | refine blk_alloc ?_ _)); refine blk_put (cs:=#[.int .i64 0,.int .i64 0,.int .i64 0,.int .i64 0,.int .i64 0]) ?_ 0 _ rfl; (with_reducible repeat (first | refine blk_drewN ?_ _ | refine blk_drew ?_ | refine blk_alloc ?_ _)); exact p3.out⟩,⟨by repeat (first | (with_reducible first | exact HK.out | apply Kept.alloc | apply Kept.drewN | apply Kept.drew | refine Kept.setCell ?_ (.inr q4.out) _ | refine Kept.setCell ?_ (.inr r6.out) _) | exact HK.out)⟩,⟨by repeat (first | (with_reducible first | exact HB.out | apply below_alloc | apply pw_below_drewN | apply below_drew1 | refine below_set ?_ r0.out | refine below_set ?_ s1.out) | exact HB.out)⟩⟩
        rw [if_pos c34] at H;have c34b0 : decide ((rd l1 p0) < ((rd_T58 l0_1 p0).f4)) = true:=decide_eq_true c34;clear c34
        by_cases c35 : 0 ≤ ((rd_T58 l0_1 p0).f1)
        case neg =>
         rw [if_neg c35] at H;exact absurd H (by simp)
        rw [if_pos c35] at H;have c35b0 : decide (0 ≤ ((rd_T58 l0_1 p0).f1)) = true:=decide_eq_true c35;clear c35
        by_cases c36 : ((rd_T58 l0_1 p0).f1) < (q2.length : Int)
        case neg =>
         rw [if_neg c36] at H;exact absurd H (by simp)
        rw [if_pos c36] at H;have c36b0 : decide (((rd_T58 l0_1 p0).f1) < (q2.length : Int)) = true:=decide_eq_true c36;clear c36
        by_cases c37 : (rd q2 ((rd_T58 l0_1 p0).f1)) = 0
        case neg =>
         rw [if_neg c37] at H;have c37b0 : ((rd q2 ((rd_T58 l0_1 p0).f1)) == 0) = false:=beq_eq_false_iff_ne.mpr c37;have c37b1 : ((rd q2 ((rd_T58 l0_1 p0).f1)) != 0) = true:=bne_iff_ne.mpr c37;have H':=I H;clear H;have hnb43:=s5.out;have hnc43:=r4.out;have R2 : w27.cell? ⟨p8,0,none⟩ = some (.int .i64 0):=(blk_cell p3.out 0).trans rfl;have R3 : w27.cell? ⟨p8,1,none⟩ = some (.int .i64 0):=(blk_cell p3.out 1).trans rfl;have R4 : w27.cell? ⟨p8,2,none⟩ = some (.int .i64 0):=(blk_cell p3.out 2).trans rfl;have R5 : w27.cell? ⟨p8,3,none⟩ = some (.int .i64 0):=(blk_cell p3.out 3).trans rfl;have R6 : w27.cell? ⟨p8,4,none⟩ = some (.int .i64 0):=(blk_cell p3.out 4).trans rfl;have R7:=blk_frozen p3.out 0;have R8:=blk_frozen p3.out 1;have R9:=blk_frozen p3.out 2;have S0:=blk_frozen p3.out 3;have S1:=blk_frozen p3.out 4;obtain ⟨Ao45,co45,eo45⟩:=Kd.R_slice q0.out;subst eo45;have p630 : 0 ≤ (q3 : Int):=of_decide_eq_true (by first | (with_reducible assumption) | assumption);have q630 : q3 < (r7.length : Int):=of_decide_eq_true (by first | (with_reducible assumption) | assumption);obtain ⟨u5,e630,r5⟩:=Kd.at_int (Kd.R_reads' q0.out).2.2 q3 p630 q630;cases e630;have s8 : u5.block ≠ p8:=Kd.own_blk (Kd.R_ne q0.out p3.out (by decide));have s9 : u5.block ≠ p8:=Kd.own_blk (Kd.R_ne q0.out p3.out (by decide));have t0 : u5.block ≠ p8:=Kd.own_blk (Kd.R_ne q0.out p3.out (by decide));have t1 : u5.block ≠ p8:=Kd.own_blk (Kd.R_ne q0.out p3.out (by decide));have t2 : u5.block ≠ p8:=Kd.own_blk (Kd.R_ne q0.out p3.out (by decide));replace r5:=(cell_far (p:=⟨p8,0,none⟩) (by first | (rw [add_block]; exact s8) | (show (Addr.add _ _).block ≠ _; rw [add_block]; exact s8) | exact s8) (.int .i64 ((rd_T58 l0_1 p0).f0))).trans r5;replace r5:=(cell_far (p:=⟨p8,1,none⟩) (by first | (rw [add_block]; exact s9) | (show (Addr.add _ _).block ≠ _; rw [add_block]; exact s9) | exact s9) (.int .i64 ((rd_T58 l0_1 p0).f1))).trans r5;replace r5:=(cell_far (p:=⟨p8,2,none⟩) (by first | (rw [add_block]; exact t0) | (show (Addr.add _ _).block ≠ _; rw [add_block]; exact t0) | exact t0) (.int .i64 ((rd_T58 l0_1 p0).f2))).trans r5;replace r5:=(cell_far (p:=⟨p8,3,none⟩) (by first | (rw [add_block]; exact t1) | (show (Addr.add _ _).block ≠ _; rw [add_block]; exact t1) | exact t1) (.int .i64 ((rd_T58 l0_1 p0).f3))).trans r5;replace r5:=(cell_far (p:=⟨p8,4,none⟩) (by first | (rw [add_block]; exact t2) | (show (Addr.add _ _).block ≠ _; rw [add_block]; exact t2) | exact t2) (.int .i64 ((rd_T58 l0_1 p0).f4))).trans r5
         (try have hy630_0:=fun (n_ : Nat) => (show (((((((w27.drewN n_).setCell ⟨p8,0,none⟩ (.int .i64 ((rd_T58 l0_1 p0).f0))).setCell ⟨p8,1,none⟩ (.int .i64 ((rd_T58 l0_1 p0).f1))).setCell ⟨p8,2,none⟩ (.int .i64 ((rd_T58 l0_1 p0).f2))).setCell ⟨p8,3,none⟩ (.int .i64 ((rd_T58 l0_1 p0).f3))).setCell ⟨p8,4,none⟩ (.int .i64 ((rd_T58 l0_1 p0).f4)))).cell? _ = some _ from r5))
         clear s8;clear s9;clear t0;clear t1;clear t2;replace p630:=eq_true p630;replace q630:=eq_true q630;obtain ⟨Ao46,co46,eo46⟩:=Kd.R_slice HO_1.out;subst eo46;have p631 : 0 ≤ (p0 : Int):=of_decide_eq_true (by first | (with_reducible assumption) | assumption);have q631 : p0 < (l1.length : Int):=of_decide_eq_true (by first | (with_reducible assumption) | assumption);obtain ⟨v0,e631,r9⟩:=Kd.at_int (Kd.R_reads' HO_1.out).2.2 p0 p631 q631;cases e631;have t9 : v0.block ≠ p8:=Kd.own_blk (Kd.R_ne HO_1.out p3.out (by decide));have u0 : v0.block ≠ p8:=Kd.own_blk (Kd.R_ne HO_1.out p3.out (by decide));have u1 : v0.block ≠ p8:=Kd.own_blk (Kd.R_ne HO_1.out p3.out (by decide));have u2 : v0.block ≠ p8:=Kd.own_blk (Kd.R_ne HO_1.out p3.out (by decide));have u3 : v0.block ≠ p8:=Kd.own_blk (Kd.R_ne HO_1.out p3.out (by decide));replace r9:=(cell_far (p:=⟨p8,0,none⟩) (by first | (rw [add_block]; exact t9) | (show (Addr.add _ _).block ≠ _; rw [add_block]; exact t9) | exact t9) (.int .i64 ((rd_T58 l0_1 p0).f0))).trans r9;replace r9:=(cell_far (p:=⟨p8,1,none⟩) (by first | (rw [add_block]; exact u0) | (show (Addr.add _ _).block ≠ _; rw [add_block]; exact u0) | exact u0) (.int .i64 ((rd_T58 l0_1 p0).f1))).trans r9;replace r9:=(cell_far (p:=⟨p8,2,none⟩) (by first | (rw [add_block]; exact u1) | (show (Addr.add _ _).block ≠ _; rw [add_block]; exact u1) | exact u1) (.int .i64 ((rd_T58 l0_1 p0).f2))).trans r9;replace r9:=(cell_far (p:=⟨p8,3,none⟩) (by first | (rw [add_block]; exact u2) | (show (Addr.add _ _).block ≠ _; rw [add_block]; exact u2) | exact u2) (.int .i64 ((rd_T58 l0_1 p0).f3))).trans r9;replace r9:=(cell_far (p:=⟨p8,4,none⟩) (by first | (rw [add_block]; exact u3) | (show (Addr.add _ _).block ≠ _; rw [add_block]; exact u3) | exact u3) (.int .i64 ((rd_T58 l0_1 p0).f4))).trans r9
         (try have hy631_0:=fun (n_ : Nat) => (show (((((((w27.drewN n_).setCell ⟨p8,0,none⟩ (.int .i64 ((rd_T58 l0_1 p0).f0))).setCell ⟨p8,1,none⟩ (.int .i64 ((rd_T58 l0_1 p0).f1))).setCell ⟨p8,2,none⟩ (.int .i64 ((rd_T58 l0_1 p0).f2))).setCell ⟨p8,3,none⟩ (.int .i64 ((rd_T58 l0_1 p0).f3))).setCell ⟨p8,4,none⟩ (.int .i64 ((rd_T58 l0_1 p0).f4)))).cell? _ = some _ from r9))
         clear t9;clear u0;clear u1;clear u2;clear u3;replace p631:=eq_true p631;replace q631:=eq_true q631;obtain ⟨Ao47,co47,eo47⟩:=Kd.R_slice p4.out;subst eo47;have p632 : 0 ≤ (((rd_T58 l0_1 p0).f1) : Int):=of_decide_eq_true (by first | (with_reducible assumption) | assumption);have q632 : ((rd_T58 l0_1 p0).f1) < (q2.length : Int):=of_decide_eq_true (by first | (with_reducible assumption) | assumption);obtain ⟨z3,e632,s7⟩:=Kd.at_int (Kd.R_reads' p4.out).2.2 ((rd_T58 l0_1 p0).f1) p632 q632;cases e632;have v4 : z3.block ≠ p8:=Kd.own_blk (Kd.R_ne p4.out p3.out (by decide));have v5 : z3.block ≠ p8:=Kd.own_blk (Kd.R_ne p4.out p3.out (by decide));have v6 : z3.block ≠ p8:=Kd.own_blk (Kd.R_ne p4.out p3.out (by decide));have v7 : z3.block ≠ p8:=Kd.own_blk (Kd.R_ne p4.out p3.out (by decide));have v8 : z3.block ≠ p8:=Kd.own_blk (Kd.R_ne p4.out p3.out (by decide));replace s7:=(cell_far (p:=⟨p8,0,none⟩) (by first | (rw [add_block]; exact v4) | (show (Addr.add _ _).block ≠ _; rw [add_block]; exact v4) | exact v4) (.int .i64 ((rd_T58 l0_1 p0).f0))).trans s7;replace s7:=(cell_far (p:=⟨p8,1,none⟩) (by first | (rw [add_block]; exact v5) | (show (Addr.add _ _).block ≠ _; rw [add_block]; exact v5) | exact v5) (.int .i64 ((rd_T58 l0_1 p0).f1))).trans s7;replace s7:=(cell_far (p:=⟨p8,2,none⟩) (by first | (rw [add_block]; exact v6) | (show (Addr.add _ _).block ≠ _; rw [add_block]; exact v6) | exact v6) (.int .i64 ((rd_T58 l0_1 p0).f2))).trans s7;replace s7:=(cell_far (p:=⟨p8,3,none⟩) (by first | (rw [add_block]; exact v7) | (show (Addr.add _ _).block ≠ _; rw [add_block]; exact v7) | exact v7) (.int .i64 ((rd_T58 l0_1 p0).f3))).trans s7;replace s7:=(cell_far (p:=⟨p8,4,none⟩) (by first | (rw [add_block]; exact v8) | (show (Addr.add _ _).block ≠ _; rw [add_block]; exact v8) | exact v8) (.int .i64 ((rd_T58 l0_1 p0).f4))).trans s7
         (try have hy632_0:=fun (n_ : Nat) => (show (((((((w27.drewN n_).setCell ⟨p8,0,none⟩ (.int .i64 ((rd_T58 l0_1 p0).f0))).setCell ⟨p8,1,none⟩ (.int .i64 ((rd_T58 l0_1 p0).f1))).setCell ⟨p8,2,none⟩ (.int .i64 ((rd_T58 l0_1 p0).f2))).setCell ⟨p8,3,none⟩ (.int .i64 ((rd_T58 l0_1 p0).f3))).setCell ⟨p8,4,none⟩ (.int .i64 ((rd_T58 l0_1 p0).f4)))).cell? _ = some _ from s7))
         clear v4;clear v5;clear v6;clear v7;clear v8;replace p632:=eq_true p632;replace q632:=eq_true q632
         go_wp2
         repeat (go_quiet (fail); try go_wp2)
         go_meet
         case rel => exact ⟨_,(false),(by first | rfl | (simp; done) | (simp [*]; done)),H',⟨by have:=HK1.out; have:=HK2.out; have:=HK3.out; first | omega | exact Nat.le_refl _⟩,⟨by (with_reducible repeat (first | apply Kd.R_alloc | apply Kd.R_drewN | apply Kd.R_drew)); exact Kd.R_mono (Kd.R_far (p:=⟨p8,4,none⟩) (Kd.R_far (p:=⟨p8,3,none⟩) (Kd.R_far (p:=⟨p8,2,none⟩) (Kd.R_far (p:=⟨p8,1,none⟩) (Kd.R_far (p:=⟨p8,0,none⟩) (Kd.R_types HO_1.out p3.out (by decide)) (fun _ hk => hk.2) (.int .i64 ((rd_T58 l0_1 p0).f0))) (fun _ hk => hk.2) (.int .i64 ((rd_T58 l0_1 p0).f1))) (fun _ hk => hk.2) (.int .i64 ((rd_T58 l0_1 p0).f2))) (fun _ hk => hk.2) (.int .i64 ((rd_T58 l0_1 p0).f3))) (fun _ hk => hk.2) (.int .i64 ((rd_T58 l0_1 p0).f4))) (fun _ hk => ⟨hk.1.1,⟨hk.1.2.1,hk.1.2.2⟩⟩)⟩,⟨by (with_reducible repeat (first | apply Kd.R_alloc | apply Kd.R_drewN | apply Kd.R_drew)); exact Kd.R_mono (Kd.R_far (p:=⟨p8,4,none⟩) (Kd.R_far (p:=⟨p8,3,none⟩) (Kd.R_far (p:=⟨p8,2,none⟩) (Kd.R_far (p:=⟨p8,1,none⟩) (Kd.R_far (p:=⟨p8,0,none⟩) (Kd.R_types p4.out p3.out (by decide)) (fun _ hk => hk.2) (.int .i64 ((rd_T58 l0_1 p0).f0))) (fun _ hk => hk.2) (.int .i64 ((rd_T58 l0_1 p0).f1))) (fun _ hk => hk.2) (.int .i64 ((rd_T58 l0_1 p0).f2))) (fun _ hk => hk.2) (.int .i64 ((rd_T58 l0_1 p0).f3))) (fun _ hk => hk.2) (.int .i64 ((rd_T58 l0_1 p0).f4))) (fun _ hk => ⟨hk.1.1,⟨hk.1.2.1,hk.1.2.2⟩⟩)⟩,⟨by (with_reducible repeat (first | apply Kd.R_alloc | apply Kd.R_drewN | apply Kd.R_drew)); exact Kd.R_mono (Kd.R_far (p:=⟨p8,4,none⟩) (Kd.R_far (p:=⟨p8,3,none⟩) (Kd.R_far (p:=⟨p8,2,none⟩) (Kd.R_far (p:=⟨p8,1,none⟩) (Kd.R_far (p:=⟨p8,0,none⟩) (Kd.R_types q0.out p3.out (by decide)) (fun _ hk => hk.2) (.int .i64 ((rd_T58 l0_1 p0).f0))) (fun _ hk => hk.2) (.int .i64 ((rd_T58 l0_1 p0).f1))) (fun _ hk => hk.2) (.int .i64 ((rd_T58 l0_1 p0).f2))) (fun _ hk => hk.2) (.int .i64 ((rd_T58 l0_1 p0).f3))) (fun _ hk => hk.2) (.int .i64 ((rd_T58 l0_1 p0).f4))) (fun _ hk => ⟨hk.1.1,⟨hk.1.2.1,hk.1.2.2⟩⟩)⟩,⟨by (with_reducible repeat (first | refine blk_drewN ?_ _ | refine blk_drew ?_ | refine blk_alloc ?_ _)); refine blk_far ?_ r4.out _; (with_reducible repeat (first | refine blk_drewN ?_ _ | refine blk_drew ?_ | refine blk_alloc ?_ _)); refine blk_far ?_ r4.out _; (with_reducible repeat (first | refine blk_drewN ?_ _ | refine blk_drew ?_ | refine blk_alloc ?_ _)); refine blk_far ?_ r4.out _; (with_reducible repeat (first | refine blk_drewN ?_ _ | refine blk_drew ?_ | refine blk_alloc ?_ _)); refine blk_far ?_ r4.out _; (with_reducible repeat (first | refine blk_drewN ?_ _ | refine blk_drew ?_ | refine blk_alloc ?_ _)); refine blk_far ?_ r4.out _; (with_reducible repeat (first | refine blk_drewN ?_ _ | refine blk_drew ?_ | refine blk_alloc ?_ _)); exact p9.out⟩,⟨by (with_reducible repeat (first | refine blk_drewN ?_ _ | refine blk_drew ?_ | refine blk_alloc ?_ _)); refine blk_put (cs:=#[.int .i64 ((rd_T58 l0_1 p0).f0),.int .i64 ((rd_T58 l0_1 p0).f1),.int .i64 ((rd_T58 l0_1 p0).f2),.int .i64 ((rd_T58 l0_1 p0).f3),.int .i64 0]) ?_ 4 _ rfl; (with_reducible repeat (first | refine blk_drewN ?_ _ | refine blk_drew ?_ | refine blk_alloc ?_ _)); refine blk_put (cs:=#[.int .i64 ((rd_T58 l0_1 p0).f0),.int .i64 ((rd_T58 l0_1 p0).f1),.int .i64 ((rd_T58 l0_1 p0).f2),.int .i64 0,.int .i64 0]) ?_ 3 _ rfl; (with_reducible repeat (first | refine blk_drewN ?_ _ | refine blk_drew ?_ | refine blk_alloc ?_ _)); refine blk_put (cs:=#[.int .i64 ((rd_T58 l0_1 p0).f0),.int .i64 ((rd_T58 l0_1 p0).f1),.int .i64 0,.int .i64 0,.int .i64 0]) ?_ 2 _ rfl; (with_reducible repeat (first | refine blk_drewN ?_ _ | refine blk_drew ?_ | refine blk_alloc ?_ _)); refine blk_put (cs:=#[.int .i64 ((rd_T58 l0_1 p0).f0),.int .i64 0,.int .i64 0,.int .i64 0,.int .i64 0]) ?_ 1 _ rfl; (with_reducible repeat (first | refine blk_drewN ?_ _ | refine blk_drew ?_ | refine blk_alloc ?_ _)); refine blk_put (cs:=#[.int .i64 0,.int .i64 0,.int .i64 0,.int .i64 0,.int .i64 0]) ?_ 0 _ rfl; (with_reducible repeat (first | refine blk_drewN ?_ _ | refine blk_drew ?_ | refine blk_alloc ?_ _)); exact p3.out⟩,⟨by repeat (first | (with_reducible first | exact HK.out | apply Kept.alloc | apply Kept.drewN | apply Kept.drew | refine Kept.setCell ?_ (.inr q4.out) _ | refine Kept.setCell ?_ (.inr r6.out) _) | exact HK.out)⟩,⟨by repeat (first | (with_reducible first | exact HB.out | apply below_alloc | apply pw_below_drewN | apply below_drew1 | refine below_set ?_ r0.out | refine below_set ?_ s1.out) | exact HB.out)⟩⟩
        rw [if_pos c37] at H;have c37b0 : ((rd q2 ((rd_T58 l0_1 p0).f1)) == 0) = true:=beq_iff_eq.mpr c37;have c37b1 : ((rd q2 ((rd_T58 l0_1 p0).f1)) != 0) = false:=bne_eq_false_iff_eq.mpr c37;clear c37;have H':=I H;clear H;have hnb38:=s5.out;have hnc38:=r4.out;have Q2 : w27.cell? ⟨p8,0,none⟩ = some (.int .i64 0):=(blk_cell p3.out 0).trans rfl;have Q3 : w27.cell? ⟨p8,1,none⟩ = some (.int .i64 0):=(blk_cell p3.out 1).trans rfl;have Q4 : w27.cell? ⟨p8,2,none⟩ = some (.int .i64 0):=(blk_cell p3.out 2).trans rfl;have Q5 : w27.cell? ⟨p8,3,none⟩ = some (.int .i64 0):=(blk_cell p3.out 3).trans rfl;have Q6 : w27.cell? ⟨p8,4,none⟩ = some (.int .i64 0):=(blk_cell p3.out 4).trans rfl;have Q7:=blk_frozen p3.out 0;have Q8:=blk_frozen p3.out 1;have Q9:=blk_frozen p3.out 2;have R0:=blk_frozen p3.out 3;have R1:=blk_frozen p3.out 4;obtain ⟨Ao40,co40,eo40⟩:=Kd.R_slice q0.out;subst eo40;have p630 : 0 ≤ (q3 : Int):=of_decide_eq_true (by first | (with_reducible assumption) | assumption);have q630 : q3 < (r7.length : Int):=of_decide_eq_true (by first | (with_reducible assumption) | assumption);obtain ⟨u5,e630,r5⟩:=Kd.at_int (Kd.R_reads' q0.out).2.2 q3 p630 q630;cases e630;have s8 : u5.block ≠ p8:=Kd.own_blk (Kd.R_ne q0.out p3.out (by decide));have s9 : u5.block ≠ p8:=Kd.own_blk (Kd.R_ne q0.out p3.out (by decide));have t0 : u5.block ≠ p8:=Kd.own_blk (Kd.R_ne q0.out p3.out (by decide));have t1 : u5.block ≠ p8:=Kd.own_blk (Kd.R_ne q0.out p3.out (by decide));have t2 : u5.block ≠ p8:=Kd.own_blk (Kd.R_ne q0.out p3.out (by decide));replace r5:=(cell_far (p:=⟨p8,0,none⟩) (by first | (rw [add_block]; exact s8) | (show (Addr.add _ _).block ≠ _; rw [add_block]; exact s8) | exact s8) (.int .i64 ((rd_T58 l0_1 p0).f0))).trans r5;replace r5:=(cell_far (p:=⟨p8,1,none⟩) (by first | (rw [add_block]; exact s9) | (show (Addr.add _ _).block ≠ _; rw [add_block]; exact s9) | exact s9) (.int .i64 ((rd_T58 l0_1 p0).f1))).trans r5;replace r5:=(cell_far (p:=⟨p8,2,none⟩) (by first | (rw [add_block]; exact t0) | (show (Addr.add _ _).block ≠ _; rw [add_block]; exact t0) | exact t0) (.int .i64 ((rd_T58 l0_1 p0).f2))).trans r5;replace r5:=(cell_far (p:=⟨p8,3,none⟩) (by first | (rw [add_block]; exact t1) | (show (Addr.add _ _).block ≠ _; rw [add_block]; exact t1) | exact t1) (.int .i64 ((rd_T58 l0_1 p0).f3))).trans r5;replace r5:=(cell_far (p:=⟨p8,4,none⟩) (by first | (rw [add_block]; exact t2) | (show (Addr.add _ _).block ≠ _; rw [add_block]; exact t2) | exact t2) (.int .i64 ((rd_T58 l0_1 p0).f4))).trans r5
        (try have hy630_0:=fun (n_ : Nat) => (show (((((((w27.drewN n_).setCell ⟨p8,0,none⟩ (.int .i64 ((rd_T58 l0_1 p0).f0))).setCell ⟨p8,1,none⟩ (.int .i64 ((rd_T58 l0_1 p0).f1))).setCell ⟨p8,2,none⟩ (.int .i64 ((rd_T58 l0_1 p0).f2))).setCell ⟨p8,3,none⟩ (.int .i64 ((rd_T58 l0_1 p0).f3))).setCell ⟨p8,4,none⟩ (.int .i64 ((rd_T58 l0_1 p0).f4)))).cell? _ = some _ from r5))
        clear s8;clear s9;clear t0;clear t1;clear t2;replace p630:=eq_true p630;replace q630:=eq_true q630;obtain ⟨Ao41,co41,eo41⟩:=Kd.R_slice HO_1.out;subst eo41;have p631 : 0 ≤ (p0 : Int):=of_decide_eq_true (by first | (with_reducible assumption) | assumption);have q631 : p0 < (l1.length : Int):=of_decide_eq_true (by first | (with_reducible assumption) | assumption);obtain ⟨v0,e631,r9⟩:=Kd.at_int (Kd.R_reads' HO_1.out).2.2 p0 p631 q631;cases e631;have t9 : v0.block ≠ p8:=Kd.own_blk (Kd.R_ne HO_1.out p3.out (by decide));have u0 : v0.block ≠ p8:=Kd.own_blk (Kd.R_ne HO_1.out p3.out (by decide));have u1 : v0.block ≠ p8:=Kd.own_blk (Kd.R_ne HO_1.out p3.out (by decide));have u2 : v0.block ≠ p8:=Kd.own_blk (Kd.R_ne HO_1.out p3.out (by decide));have u3 : v0.block ≠ p8:=Kd.own_blk (Kd.R_ne HO_1.out p3.out (by decide));replace r9:=(cell_far (p:=⟨p8,0,none⟩) (by first | (rw [add_block]; exact t9) | (show (Addr.add _ _).block ≠ _; rw [add_block]; exact t9) | exact t9) (.int .i64 ((rd_T58 l0_1 p0).f0))).trans r9;replace r9:=(cell_far (p:=⟨p8,1,none⟩) (by first | (rw [add_block]; exact u0) | (show (Addr.add _ _).block ≠ _; rw [add_block]; exact u0) | exact u0) (.int .i64 ((rd_T58 l0_1 p0).f1))).trans r9;replace r9:=(cell_far (p:=⟨p8,2,none⟩) (by first | (rw [add_block]; exact u1) | (show (Addr.add _ _).block ≠ _; rw [add_block]; exact u1) | exact u1) (.int .i64 ((rd_T58 l0_1 p0).f2))).trans r9;replace r9:=(cell_far (p:=⟨p8,3,none⟩) (by first | (rw [add_block]; exact u2) | (show (Addr.add _ _).block ≠ _; rw [add_block]; exact u2) | exact u2) (.int .i64 ((rd_T58 l0_1 p0).f3))).trans r9;replace r9:=(cell_far (p:=⟨p8,4,none⟩) (by first | (rw [add_block]; exact u3) | (show (Addr.add _ _).block ≠ _; rw [add_block]; exact u3) | exact u3) (.int .i64 ((rd_T58 l0_1 p0).f4))).trans r9
        (try have hy631_0:=fun (n_ : Nat) => (show (((((((w27.drewN n_).setCell ⟨p8,0,none⟩ (.int .i64 ((rd_T58 l0_1 p0).f0))).setCell ⟨p8,1,none⟩ (.int .i64 ((rd_T58 l0_1 p0).f1))).setCell ⟨p8,2,none⟩ (.int .i64 ((rd_T58 l0_1 p0).f2))).setCell ⟨p8,3,none⟩ (.int .i64 ((rd_T58 l0_1 p0).f3))).setCell ⟨p8,4,none⟩ (.int .i64 ((rd_T58 l0_1 p0).f4)))).cell? _ = some _ from r9))
        clear t9;clear u0;clear u1;clear u2;clear u3;replace p631:=eq_true p631;replace q631:=eq_true q631;obtain ⟨Ao42,co42,eo42⟩:=Kd.R_slice p4.out;subst eo42;have p632 : 0 ≤ (((rd_T58 l0_1 p0).f1) : Int):=of_decide_eq_true (by first | (with_reducible assumption) | assumption);have q632 : ((rd_T58 l0_1 p0).f1) < (q2.length : Int):=of_decide_eq_true (by first | (with_reducible assumption) | assumption);obtain ⟨z3,e632,s7⟩:=Kd.at_int (Kd.R_reads' p4.out).2.2 ((rd_T58 l0_1 p0).f1) p632 q632;cases e632;have v4 : z3.block ≠ p8:=Kd.own_blk (Kd.R_ne p4.out p3.out (by decide));have v5 : z3.block ≠ p8:=Kd.own_blk (Kd.R_ne p4.out p3.out (by decide));have v6 : z3.block ≠ p8:=Kd.own_blk (Kd.R_ne p4.out p3.out (by decide));have v7 : z3.block ≠ p8:=Kd.own_blk (Kd.R_ne p4.out p3.out (by decide));have v8 : z3.block ≠ p8:=Kd.own_blk (Kd.R_ne p4.out p3.out (by decide));replace s7:=(cell_far (p:=⟨p8,0,none⟩) (by first | (rw [add_block]; exact v4) | (show (Addr.add _ _).block ≠ _; rw [add_block]; exact v4) | exact v4) (.int .i64 ((rd_T58 l0_1 p0).f0))).trans s7;replace s7:=(cell_far (p:=⟨p8,1,none⟩) (by first | (rw [add_block]; exact v5) | (show (Addr.add _ _).block ≠ _; rw [add_block]; exact v5) | exact v5) (.int .i64 ((rd_T58 l0_1 p0).f1))).trans s7;replace s7:=(cell_far (p:=⟨p8,2,none⟩) (by first | (rw [add_block]; exact v6) | (show (Addr.add _ _).block ≠ _; rw [add_block]; exact v6) | exact v6) (.int .i64 ((rd_T58 l0_1 p0).f2))).trans s7;replace s7:=(cell_far (p:=⟨p8,3,none⟩) (by first | (rw [add_block]; exact v7) | (show (Addr.add _ _).block ≠ _; rw [add_block]; exact v7) | exact v7) (.int .i64 ((rd_T58 l0_1 p0).f3))).trans s7;replace s7:=(cell_far (p:=⟨p8,4,none⟩) (by first | (rw [add_block]; exact v8) | (show (Addr.add _ _).block ≠ _; rw [add_block]; exact v8) | exact v8) (.int .i64 ((rd_T58 l0_1 p0).f4))).trans s7
        (try have hy632_0:=fun (n_ : Nat) => (show (((((((w27.drewN n_).setCell ⟨p8,0,none⟩ (.int .i64 ((rd_T58 l0_1 p0).f0))).setCell ⟨p8,1,none⟩ (.int .i64 ((rd_T58 l0_1 p0).f1))).setCell ⟨p8,2,none⟩ (.int .i64 ((rd_T58 l0_1 p0).f2))).setCell ⟨p8,3,none⟩ (.int .i64 ((rd_T58 l0_1 p0).f3))).setCell ⟨p8,4,none⟩ (.int .i64 ((rd_T58 l0_1 p0).f4)))).cell? _ = some _ from s7))
        clear v4;clear v5;clear v6;clear v7;clear v8;replace p632:=eq_true p632;replace q632:=eq_true q632
        go_wp2
        repeat (go_quiet (fail); try go_wp2)
        go_meet
        case rel => exact ⟨_,((((rd_T58 l0_1 p0).f1) != a2)),(by first | rfl | (simp; done) | (simp [*]; done)),H',⟨by have:=HK1.out; have:=HK2.out; have:=HK3.out; first | omega | exact Nat.le_refl _⟩,⟨by (with_reducible repeat (first | apply Kd.R_alloc | apply Kd.R_drewN | apply Kd.R_drew)); exact Kd.R_mono (Kd.R_far (p:=⟨p8,4,none⟩) (Kd.R_far (p:=⟨p8,3,none⟩) (Kd.R_far (p:=⟨p8,2,none⟩) (Kd.R_far (p:=⟨p8,1,none⟩) (Kd.R_far (p:=⟨p8,0,none⟩) (Kd.R_types HO_1.out p3.out (by decide)) (fun _ hk => hk.2) (.int .i64 ((rd_T58 l0_1 p0).f0))) (fun _ hk => hk.2) (.int .i64 ((rd_T58 l0_1 p0).f1))) (fun _ hk => hk.2) (.int .i64 ((rd_T58 l0_1 p0).f2))) (fun _ hk => hk.2) (.int .i64 ((rd_T58 l0_1 p0).f3))) (fun _ hk => hk.2) (.int .i64 ((rd_T58 l0_1 p0).f4))) (fun _ hk => ⟨hk.1.1,⟨hk.1.2.1,hk.1.2.2⟩⟩)⟩,⟨by (with_reducible repeat (first | apply Kd.R_alloc | apply Kd.R_drewN | apply Kd.R_drew)); exact Kd.R_mono (Kd.R_far (p:=⟨p8,4,none⟩) (Kd.R_far (p:=⟨p8,3,none⟩) (Kd.R_far (p:=⟨p8,2,none⟩) (Kd.R_far (p:=⟨p8,1,none⟩) (Kd.R_far (p:=⟨p8,0,none⟩) (Kd.R_types p4.out p3.out (by decide)) (fun _ hk => hk.2) (.int .i64 ((rd_T58 l0_1 p0).f0))) (fun _ hk => hk.2) (.int .i64 ((rd_T58 l0_1 p0).f1))) (fun _ hk => hk.2) (.int .i64 ((rd_T58 l0_1 p0).f2))) (fun _ hk => hk.2) (.int .i64 ((rd_T58 l0_1 p0).f3))) (fun _ hk => hk.2) (.int .i64 ((rd_T58 l0_1 p0).f4))) (fun _ hk => ⟨hk.1.1,⟨hk.1.2.1,hk.1.2.2⟩⟩)⟩,⟨by (with_reducible repeat (first | apply Kd.R_alloc | apply Kd.R_drewN | apply Kd.R_drew)); exact Kd.R_mono (Kd.R_far (p:=⟨p8,4,none⟩) (Kd.R_far (p:=⟨p8,3,none⟩) (Kd.R_far (p:=⟨p8,2,none⟩) (Kd.R_far (p:=⟨p8,1,none⟩) (Kd.R_far (p:=⟨p8,0,none⟩) (Kd.R_types q0.out p3.out (by decide)) (fun _ hk => hk.2) (.int .i64 ((rd_T58 l0_1 p0).f0))) (fun _ hk => hk.2) (.int .i64 ((rd_T58 l0_1 p0).f1))) (fun _ hk => hk.2) (.int .i64 ((rd_T58 l0_1 p0).f2))) (fun _ hk => hk.2) (.int .i64 ((rd_T58 l0_1 p0).f3))) (fun _ hk => hk.2) (.int .i64 ((rd_T58 l0_1 p0).f4))) (fun _ hk => ⟨hk.1.1,⟨hk.1.2.1,hk.1.2.2⟩⟩)⟩,⟨by (with_reducible repeat (first | refine blk_drewN ?_ _ | refine blk_drew ?_ | refine blk_alloc ?_ _)); refine blk_far ?_ r4.out _; (with_reducible repeat (first | refine blk_drewN ?_ _ | refine blk_drew ?_ | refine blk_alloc ?_ _)); refine blk_far ?_ r4.out _; (with_reducible repeat (first | refine blk_drewN ?_ _ | refine blk_drew ?_ | refine blk_alloc ?_ _)); refine blk_far ?_ r4.out _; (with_reducible repeat (first | refine blk_drewN ?_ _ | refine blk_drew ?_ | refine blk_alloc ?_ _)); refine blk_far ?_ r4.out _; (with_reducible repeat (first | refine blk_drewN ?_ _ | refine blk_drew ?_ | refine blk_alloc ?_ _)); refine blk_far ?_ r4.out _; (with_reducible repeat (first | refine blk_drewN ?_ _ | refine blk_drew ?_ | refine blk_alloc ?_ _)); exact p9.out⟩,⟨by (with_reducible repeat (first | refine blk_drewN ?_ _ | refine blk_drew ?_ | refine blk_alloc ?_ _)); refine blk_put (cs:=#[.int .i64 ((rd_T58 l0_1 p0).f0),.int .i64 ((rd_T58 l0_1 p0).f1),.int .i64 ((rd_T58 l0_1 p0).f2),.int .i64 ((rd_T58 l0_1 p0).f3),.int .i64 0]) ?_ 4 _ rfl; (with_reducible repeat (first | refine blk_drewN ?_ _ | refine blk_drew ?_ | refine blk_alloc ?_ _)); refine blk_put (cs:=#[.int .i64 ((rd_T58 l0_1 p0).f0),.int .i64 ((rd_T58 l0_1 p0).f1),.int .i64 ((rd_T58 l0_1 p0).f2),.int .i64 0,.int .i64 0]) ?_ 3 _ rfl; (with_reducible repeat (first | refine blk_drewN ?_ _ | refine blk_drew ?_ | refine blk_alloc ?_ _)); refine blk_put (cs:=#[.int .i64 ((rd_T58 l0_1 p0).f0),.int .i64 ((rd_T58 l0_1 p0).f1),.int .i64 0,.int .i64 0,.int .i64 0]) ?_ 2 _ rfl; (with_reducible repeat (first | refine blk_drewN ?_ _ | refine blk_drew ?_ | refine blk_alloc ?_ _)); refine blk_put (cs:=#[.int .i64 ((rd_T58 l0_1 p0).f0),.int .i64 0,.int .i64 0,.int .i64 0,.int .i64 0]) ?_ 1 _ rfl; (with_reducible repeat (first | refine blk_drewN ?_ _ | refine blk_drew ?_ | refine blk_alloc ?_ _)); refine blk_put (cs:=#[.int .i64 0,.int .i64 0,.int .i64 0,.int .i64 0,.int .i64 0]) ?_ 0 _ rfl; (with_reducible repeat (first | refine blk_drewN ?_ _ | refine blk_drew ?_ | refine blk_alloc ?_ _)); exact p3.out⟩,⟨by repeat (first | (with_reducible first | exact HK.out | apply Kept.alloc | apply Kept.drewN | apply Kept.drew | refine Kept.setCell ?_ (.inr q4.out) _ | refine Kept.setCell ?_ (.inr r6.out) _) | exact HK.out)⟩,⟨by repeat (first | (with_reducible first | exact HB.out | apply below_alloc | apply pw_below_drewN | apply below_drew1 | refine below_set ?_ r0.out | refine below_set ?_ s1.out) | exact HB.out)⟩⟩
       case rest =>
        clear HC25
        try clear c1
        try clear p1
        try clear q1
        try clear hx1
        try clear c2
        try clear p2
        try clear c3
        try clear c4
        try clear c5
        try clear c5b0
        try clear c5b1
        try clear c6
        try clear c6b0
        try clear c6b1
        try clear p6
        try clear q6
        try clear hx6
        try clear c9
        try clear c11
        try clear c11b0
        try clear c12
        try clear c12b0
        try clear c13
        try clear c13b0
        try clear p14
        try clear q14
        try clear hx14
        try clear hf14
        try clear c21
        try clear c21b0
        try clear c23
        try clear c23b0
        try clear c24
        try clear c24b0
        try clear c28
        try clear c30
        try clear c30b0
        try clear c31
        try clear c31b0
        try clear c32
        try clear c32b0
        try clear c32b1
        try clear c33
        try clear c33b0
        try clear c34
        try clear c34b0
        try clear c35
        try clear c35b0
        try clear c36
        try clear c36b0
        try clear c37
        try clear c37b0
        try clear c37b1
        try clear c38
        try clear c43
        try clear c48
        try clear c52
        try clear g7
        try clear g8
        try clear j1
        try clear j2
        try clear P3
        try clear P4
        try clear j6
        try clear j7
        try clear j8
        try clear j9
        try clear k0
        try clear Q2
        try clear Q3
        try clear Q4
        try clear Q5
        try clear Q6
        try clear R2
        try clear R3
        try clear R4
        try clear R5
        try clear R6
        try clear S2
        try clear S3
        try clear S4
        try clear S5
        try clear S6
        try clear T2
        try clear T3
        try clear T4
        try clear T5
        try clear T6
        try clear z6
        try clear z7
        try clear g9
        try clear j0
        try clear j4
        try clear j5
        try clear P5
        try clear P6
        try clear k4
        try clear k5
        try clear k6
        try clear k7
        try clear k8
        try clear Q7
        try clear Q8
        try clear Q9
        try clear R0
        try clear R1
        try clear R7
        try clear R8
        try clear R9
        try clear S0
        try clear S1
        try clear S7
        try clear S8
        try clear S9
        try clear T0
        try clear T1
        try clear T7
        try clear T8
        try clear T9
        try clear U0
        try clear U1
        try clear z8
        try clear z9
        try clear m0
        try clear P7
        try clear P8
        try clear P9
        try clear Q0
        try clear Q1
        try clear r5
        try clear r9
        try clear s7
        try clear p1
        try clear p14
        try clear p2
        try clear p6
        try clear p628
        try clear p630
        try clear p631
        try clear p632
        try clear q1
        try clear q14
        try clear q628
        try clear q630
        try clear q631
        try clear q632
        obtain ⟨kq,k9,rfl,HA,HJ24,HO_1,p4,q0,p9,p3,HK,HB⟩:=hcut;cases kq with
        | zero => exact absurd HA.out (by simp [spec_l25Push.j3])
        | succ kj24 =>
         have H:=HA.out;clear HA;simp only [spec_l25Push.j3] at H
         by_cases c55 : k9 = true
         case neg =>
          replace c55:=Bool.eq_false_iff.mpr c55;subst c55;have H1 : (if 0 ≤ q3 then (if q3 < (r7.length : Int) then (if ((rd_T58 l0_1 p0).f1) = (rd r7 q3) then (if 0 ≤ p0 then (if p0 < (l1.length : Int) then (if (rd l1 p0) > 0 then (if 0 ≤ ((rd_T58 l0_1 p0).f0) then (if ((rd_T58 l0_1 p0).f0) < (q2.length : Int) then (if (rd q2 ((rd_T58 l0_1 p0).f0)) = 0 then (if ((rd_T58 l0_1 p0).f0) = a2 then (spec_l25Push.l2 kj24 l1 a2 a3 q2 r7 q3 (wrap64 (p0 + 1)) a0_0 l0_1) else (if r7.length < 17592186044416 then (spec_l25Push.l2 kj24 l1 a2 a3 (q2.set (((rd_T58 l0_1 p0).f0) : Int).toNat (wrap64 ((wrap64 (-p0)) - 1))) (r7 ++ [((rd_T58 l0_1 p0).f0)]) q3 (wrap64 (p0 + 1)) a0_0 l0_1) else (none))) else (spec_l25Push.l2 kj24 l1 a2 a3 q2 r7 q3 (wrap64 (p0 + 1)) a0_0 l0_1)) else (none)) else (none)) else (spec_l25Push.l2 kj24 l1 a2 a3 q2 r7 q3 (wrap64 (p0 + 1)) a0_0 l0_1)) else (none)) else (none)) else (spec_l25Push.l2 kj24 l1 a2 a3 q2 r7 q3 (wrap64 (p0 + 1)) a0_0 l0_1)) else (none)) else (none)) = some (r1,r2):=by rw [if_neg (show ¬ (false = true) by decide)] at H; exact H
          clear H;have H:=H1;clear H1
          by_cases c120 : 0 ≤ q3
          case neg =>
           rw [if_neg c120] at H;exact absurd H (by simp)
          rw [if_pos c120] at H;have c120b0 : decide (0 ≤ q3) = true:=decide_eq_true c120;clear c120
          by_cases c121 : q3 < (r7.length : Int)
          case neg =>
           rw [if_neg c121] at H;exact absurd H (by simp)
          rw [if_pos c121] at H;have c121b0 : decide (q3 < (r7.length : Int)) = true:=decide_eq_true c121;clear c121
          by_cases c122 : ((rd_T58 l0_1 p0).f1) = (rd r7 q3)
          case neg =>
           rw [if_neg c122] at H;have c122b0 : (((rd_T58 l0_1 p0).f1) == (rd r7 q3)) = false:=beq_eq_false_iff_ne.mpr c122;have c122b1 : (((rd_T58 l0_1 p0).f1) != (rd r7 q3)) = true:=bne_iff_ne.mpr c122;have H':=I H;clear H;have hnb155:=s5.out;have hnc155:=r4.out;have N5 : wc.cell? ⟨p8,0,none⟩ = some (.int .i64 ((rd_T58 l0_1 p0).f0)):=(blk_cell p3.out 0).trans rfl;have N6 : wc.cell? ⟨p8,1,none⟩ = some (.int .i64 ((rd_T58 l0_1 p0).f1)):=(blk_cell p3.out 1).trans rfl;have N7 : wc.cell? ⟨p8,2,none⟩ = some (.int .i64 ((rd_T58 l0_1 p0).f2)):=(blk_cell p3.out 2).trans rfl;have N8 : wc.cell? ⟨p8,3,none⟩ = some (.int .i64 ((rd_T58 l0_1 p0).f3)):=(blk_cell p3.out 3).trans rfl;have N9 : wc.cell? ⟨p8,4,none⟩ = some (.int .i64 ((rd_T58 l0_1 p0).f4)):=(blk_cell p3.out 4).trans rfl;have O0:=blk_frozen p3.out 0;have O1:=blk_frozen p3.out 1;have O2:=blk_frozen p3.out 2;have O3:=blk_frozen p3.out 3;have O4:=blk_frozen p3.out 4;obtain ⟨Ao157,co157,eo157⟩:=Kd.R_slice q0.out;subst eo157;have p644 : 0 ≤ (q3 : Int):=of_decide_eq_true (by first | (with_reducible assumption) | assumption);have q644 : q3 < (r7.length : Int):=of_decide_eq_true (by first | (with_reducible assumption) | assumption);obtain ⟨z2,e644,z5⟩:=Kd.at_int (Kd.R_reads' q0.out).2.2 q3 p644 q644;cases e644;replace p644:=eq_true p644;replace q644:=eq_true q644
           go_wp2
           repeat (go_quiet (fail); try go_wp2)
           go_roundg kj24
           case measure => have:=HK1.out; have:=HK2.out; have:=HK3.out; have:=HJ24.out; omega
           case rel => exact ⟨(q2),(r7),(wrap64 (p0 + 1)),(by first | rfl | (simp; done) | (simp [*]; done)),H',⟨by have:=HK1.out; have:=HK2.out; have:=HK3.out; have:=HJ24.out; omega⟩,⟨by (with_reducible repeat (first | apply Kd.R_alloc | apply Kd.R_drewN | apply Kd.R_drew)); exact HO_1.out⟩,⟨by (with_reducible repeat (first | apply Kd.R_alloc | apply Kd.R_drewN | apply Kd.R_drew)); exact p4.out⟩,⟨by (with_reducible repeat (first | apply Kd.R_alloc | apply Kd.R_drewN | apply Kd.R_drew)); exact q0.out⟩,⟨by (with_reducible repeat (first | refine blk_drewN ?_ _ | refine blk_drew ?_ | refine blk_alloc ?_ _)); exact p9.out⟩,⟨by repeat (first | (with_reducible first | exact HK.out | apply Kept.alloc | apply Kept.drewN | apply Kept.drew | refine Kept.setCell ?_ (.inr q4.out) _ | refine Kept.setCell ?_ (.inr r6.out) _) | exact HK.out)⟩,⟨by repeat (first | (with_reducible first | exact HB.out | apply below_alloc | apply pw_below_drewN | apply below_drew1 | refine below_set ?_ r0.out | refine below_set ?_ s1.out) | exact HB.out)⟩⟩
          rw [if_pos c122] at H;have c122b0 : (((rd_T58 l0_1 p0).f1) == (rd r7 q3)) = true:=beq_iff_eq.mpr c122;have c122b1 : (((rd_T58 l0_1 p0).f1) != (rd r7 q3)) = false:=bne_eq_false_iff_eq.mpr c122;clear c122
          by_cases c123 : 0 ≤ p0
          case neg =>
           rw [if_neg c123] at H;exact absurd H (by simp)
          rw [if_pos c123] at H;have c123b0 : decide (0 ≤ p0) = true:=decide_eq_true c123;clear c123
          by_cases c124 : p0 < (l1.length : Int)
          case neg =>
           rw [if_neg c124] at H;exact absurd H (by simp)
          rw [if_pos c124] at H;have c124b0 : decide (p0 < (l1.length : Int)) = true:=decide_eq_true c124;clear c124
          by_cases c125 : (rd l1 p0) > 0
          case neg =>
           rw [if_neg c125] at H;have c125b0 : decide (0 < (rd l1 p0)) = false:=decide_eq_false c125;clear c125;have H':=I H;clear H;have hnb151:=s5.out;have hnc151:=r4.out;have M5 : wc.cell? ⟨p8,0,none⟩ = some (.int .i64 ((rd_T58 l0_1 p0).f0)):=(blk_cell p3.out 0).trans rfl;have M6 : wc.cell? ⟨p8,1,none⟩ = some (.int .i64 ((rd_T58 l0_1 p0).f1)):=(blk_cell p3.out 1).trans rfl;have M7 : wc.cell? ⟨p8,2,none⟩ = some (.int .i64 ((rd_T58 l0_1 p0).f2)):=(blk_cell p3.out 2).trans rfl;have M8 : wc.cell? ⟨p8,3,none⟩ = some (.int .i64 ((rd_T58 l0_1 p0).f3)):=(blk_cell p3.out 3).trans rfl;have M9 : wc.cell? ⟨p8,4,none⟩ = some (.int .i64 ((rd_T58 l0_1 p0).f4)):=(blk_cell p3.out 4).trans rfl;have N0:=blk_frozen p3.out 0;have N1:=blk_frozen p3.out 1;have N2:=blk_frozen p3.out 2;have N3:=blk_frozen p3.out 3;have N4:=blk_frozen p3.out 4;obtain ⟨Ao153,co153,eo153⟩:=Kd.R_slice q0.out;subst eo153;have p644 : 0 ≤ (q3 : Int):=of_decide_eq_true (by first | (with_reducible assumption) | assumption);have q644 : q3 < (r7.length : Int):=of_decide_eq_true (by first | (with_reducible assumption) | assumption);obtain ⟨z2,e644,z5⟩:=Kd.at_int (Kd.R_reads' q0.out).2.2 q3 p644 q644;cases e644;replace p644:=eq_true p644;replace q644:=eq_true q644;obtain ⟨Ao154,co154,eo154⟩:=Kd.R_slice HO_1.out;subst eo154;have p645 : 0 ≤ (p0 : Int):=of_decide_eq_true (by first | (with_reducible assumption) | assumption);have q645 : p0 < (l1.length : Int):=of_decide_eq_true (by first | (with_reducible assumption) | assumption);obtain ⟨z1,e645,m1⟩:=Kd.at_int (Kd.R_reads' HO_1.out).2.2 p0 p645 q645;cases e645;replace p645:=eq_true p645;replace q645:=eq_true q645
           go_wp2
           repeat (go_quiet (fail); try go_wp2)
           go_roundg kj24
           case measure => have:=HK1.out; have:=HK2.out; have:=HK3.out; have:=HJ24.out; omega
           case rel => exact ⟨(q2),(r7),(wrap64 (p0 + 1)),(by first | rfl | (simp; done) | (simp [*]; done)),H',⟨by have:=HK1.out; have:=HK2.out; have:=HK3.out; have:=HJ24.out; omega⟩,⟨by (with_reducible repeat (first | apply Kd.R_alloc | apply Kd.R_drewN | apply Kd.R_drew)); exact HO_1.out⟩,⟨by (with_reducible repeat (first | apply Kd.R_alloc | apply Kd.R_drewN | apply Kd.R_drew)); exact p4.out⟩,⟨by (with_reducible repeat (first | apply Kd.R_alloc | apply Kd.R_drewN | apply Kd.R_drew)); exact q0.out⟩,⟨by (with_reducible repeat (first | refine blk_drewN ?_ _ | refine blk_drew ?_ | refine blk_alloc ?_ _)); exact p9.out⟩,⟨by repeat (first | (with_reducible first | exact HK.out | apply Kept.alloc | apply Kept.drewN | apply Kept.drew | refine Kept.setCell ?_ (.inr q4.out) _ | refine Kept.setCell ?_ (.inr r6.out) _) | exact HK.out)⟩,⟨by repeat (first | (with_reducible first | exact HB.out | apply below_alloc | apply pw_below_drewN | apply below_drew1 | refine below_set ?_ r0.out | refine below_set ?_ s1.out) | exact HB.out)⟩⟩
          rw [if_pos c125] at H;have c125b0 : decide (0 < (rd l1 p0)) = true:=decide_eq_true c125;clear c125
          by_cases c126 : 0 ≤ ((rd_T58 l0_1 p0).f0)
          case neg =>
           rw [if_neg c126] at H;exact absurd H (by simp)
          rw [if_pos c126] at H;have c126b0 : decide (0 ≤ ((rd_T58 l0_1 p0).f0)) = true:=decide_eq_true c126;clear c126
          by_cases c127 : ((rd_T58 l0_1 p0).f0) < (q2.length : Int)
          case neg =>
           rw [if_neg c127] at H;exact absurd H (by simp)
          rw [if_pos c127] at H;have c127b0 : decide (((rd_T58 l0_1 p0).f0) < (q2.length : Int)) = true:=decide_eq_true c127;clear c127
          by_cases c128 : (rd q2 ((rd_T58 l0_1 p0).f0)) = 0
          case neg =>
           rw [if_neg c128] at H;have c128b0 : ((rd q2 ((rd_T58 l0_1 p0).f0)) == 0) = false:=beq_eq_false_iff_ne.mpr c128;have c128b1 : ((rd q2 ((rd_T58 l0_1 p0).f0)) != 0) = true:=bne_iff_ne.mpr c128;have H':=I H;clear H;have hnb146:=s5.out;have hnc146:=r4.out;have L5 : wc.cell? ⟨p8,0,none⟩ = some (.int .i64 ((rd_T58 l0_1 p0).f0)):=(blk_cell p3.out 0).trans rfl;have L6 : wc.cell? ⟨p8,1,none⟩ = some (.int .i64 ((rd_T58 l0_1 p0).f1)):=(blk_cell p3.out 1).trans rfl;have L7 : wc.cell? ⟨p8,2,none⟩ = some (.int .i64 ((rd_T58 l0_1 p0).f2)):=(blk_cell p3.out 2).trans rfl;have L8 : wc.cell? ⟨p8,3,none⟩ = some (.int .i64 ((rd_T58 l0_1 p0).f3)):=(blk_cell p3.out 3).trans rfl;have L9 : wc.cell? ⟨p8,4,none⟩ = some (.int .i64 ((rd_T58 l0_1 p0).f4)):=(blk_cell p3.out 4).trans rfl;have M0:=blk_frozen p3.out 0;have M1:=blk_frozen p3.out 1;have M2:=blk_frozen p3.out 2;have M3:=blk_frozen p3.out 3;have M4:=blk_frozen p3.out 4;obtain ⟨Ao148,co148,eo148⟩:=Kd.R_slice q0.out;subst eo148;have p644 : 0 ≤ (q3 : Int):=of_decide_eq_true (by first | (with_reducible assumption) | assumption);have q644 : q3 < (r7.length : Int):=of_decide_eq_true (by first | (with_reducible assumption) | assumption);obtain ⟨z2,e644,z5⟩:=Kd.at_int (Kd.R_reads' q0.out).2.2 q3 p644 q644;cases e644;replace p644:=eq_true p644;replace q644:=eq_true q644;obtain ⟨Ao149,co149,eo149⟩:=Kd.R_slice HO_1.out;subst eo149;have p645 : 0 ≤ (p0 : Int):=of_decide_eq_true (by first | (with_reducible assumption) | assumption);have q645 : p0 < (l1.length : Int):=of_decide_eq_true (by first | (with_reducible assumption) | assumption);obtain ⟨z1,e645,m1⟩:=Kd.at_int (Kd.R_reads' HO_1.out).2.2 p0 p645 q645;cases e645;replace p645:=eq_true p645;replace q645:=eq_true q645;obtain ⟨Ao150,co150,eo150⟩:=Kd.R_slice p4.out;subst eo150;have p646 : 0 ≤ (((rd_T58 l0_1 p0).f0) : Int):=of_decide_eq_true (by first | (with_reducible assumption) | assumption);have q646 : ((rd_T58 l0_1 p0).f0) < (q2.length : Int):=of_decide_eq_true (by first | (with_reducible assumption) | assumption);obtain ⟨ad646,e646,m2⟩:=Kd.at_int (Kd.R_reads' p4.out).2.2 ((rd_T58 l0_1 p0).f0) p646 q646;cases e646;replace p646:=eq_true p646;replace q646:=eq_true q646
           go_wp2
           repeat (go_quiet (fail); try go_wp2)
           go_roundg kj24
           case measure => have:=HK1.out; have:=HK2.out; have:=HK3.out; have:=HJ24.out; omega
           case rel => exact ⟨(q2),(r7),(wrap64 (p0 + 1)),(by first | rfl | (simp; done) | (simp [*]; done)),H',⟨by have:=HK1.out; have:=HK2.out; have:=HK3.out; have:=HJ24.out; omega⟩,⟨by (with_reducible repeat (first | apply Kd.R_alloc | apply Kd.R_drewN | apply Kd.R_drew)); exact HO_1.out⟩,⟨by (with_reducible repeat (first | apply Kd.R_alloc | apply Kd.R_drewN | apply Kd.R_drew)); exact p4.out⟩,⟨by (with_reducible repeat (first | apply Kd.R_alloc | apply Kd.R_drewN | apply Kd.R_drew)); exact q0.out⟩,⟨by (with_reducible repeat (first | refine blk_drewN ?_ _ | refine blk_drew ?_ | refine blk_alloc ?_ _)); exact p9.out⟩,⟨by repeat (first | (with_reducible first | exact HK.out | apply Kept.alloc | apply Kept.drewN | apply Kept.drew | refine Kept.setCell ?_ (.inr q4.out) _ | refine Kept.setCell ?_ (.inr r6.out) _) | exact HK.out)⟩,⟨by repeat (first | (with_reducible first | exact HB.out | apply below_alloc | apply pw_below_drewN | apply below_drew1 | refine below_set ?_ r0.out | refine below_set ?_ s1.out) | exact HB.out)⟩⟩
          rw [if_pos c128] at H;have c128b0 : ((rd q2 ((rd_T58 l0_1 p0).f0)) == 0) = true:=beq_iff_eq.mpr c128;have c128b1 : ((rd q2 ((rd_T58 l0_1 p0).f0)) != 0) = false:=bne_eq_false_iff_eq.mpr c128;clear c128
          by_cases c129 : ((rd_T58 l0_1 p0).f0) = a2
          case pos =>
           rw [if_pos c129] at H;have c129b0 : (((rd_T58 l0_1 p0).f0) == a2) = true:=beq_iff_eq.mpr c129;have c129b1 : (((rd_T58 l0_1 p0).f0) != a2) = false:=bne_eq_false_iff_eq.mpr c129;clear c129;have H':=I H;clear H;have hnb130:=s5.out;have hnc130:=r4.out;have J3 : wc.cell? ⟨p8,0,none⟩ = some (.int .i64 ((rd_T58 l0_1 p0).f0)):=(blk_cell p3.out 0).trans rfl;have J4 : wc.cell? ⟨p8,1,none⟩ = some (.int .i64 ((rd_T58 l0_1 p0).f1)):=(blk_cell p3.out 1).trans rfl;have J5 : wc.cell? ⟨p8,2,none⟩ = some (.int .i64 ((rd_T58 l0_1 p0).f2)):=(blk_cell p3.out 2).trans rfl;have J6 : wc.cell? ⟨p8,3,none⟩ = some (.int .i64 ((rd_T58 l0_1 p0).f3)):=(blk_cell p3.out 3).trans rfl;have J7 : wc.cell? ⟨p8,4,none⟩ = some (.int .i64 ((rd_T58 l0_1 p0).f4)):=(blk_cell p3.out 4).trans rfl;have J8:=blk_frozen p3.out 0;have J9:=blk_frozen p3.out 1;have K0:=blk_frozen p3.out 2;have K1:=blk_frozen p3.out 3;have K2:=blk_frozen p3.out 4;obtain ⟨Ao132,co132,eo132⟩:=Kd.R_slice q0.out;subst eo132;have p644 : 0 ≤ (q3 : Int):=of_decide_eq_true (by first | (with_reducible assumption) | assumption);have q644 : q3 < (r7.length : Int):=of_decide_eq_true (by first | (with_reducible assumption) | assumption);obtain ⟨z2,e644,z5⟩:=Kd.at_int (Kd.R_reads' q0.out).2.2 q3 p644 q644;cases e644;replace p644:=eq_true p644;replace q644:=eq_true q644;obtain ⟨Ao133,co133,eo133⟩:=Kd.R_slice HO_1.out;subst eo133;have p645 : 0 ≤ (p0 : Int):=of_decide_eq_true (by first | (with_reducible assumption) | assumption);have q645 : p0 < (l1.length : Int):=of_decide_eq_true (by first | (with_reducible assumption) | assumption);obtain ⟨z1,e645,m1⟩:=Kd.at_int (Kd.R_reads' HO_1.out).2.2 p0 p645 q645;cases e645;replace p645:=eq_true p645;replace q645:=eq_true q645;obtain ⟨Ao134,co134,eo134⟩:=Kd.R_slice p4.out;subst eo134;have p646 : 0 ≤ (((rd_T58 l0_1 p0).f0) : Int):=of_decide_eq_true (by first | (with_reducible assumption) | assumption);have q646 : ((rd_T58 l0_1 p0).f0) < (q2.length : Int):=of_decide_eq_true (by first | (with_reducible assumption) | assumption);obtain ⟨ad646,e646,m2⟩:=Kd.at_int (Kd.R_reads' p4.out).2.2 ((rd_T58 l0_1 p0).f0) p646 q646;cases e646;replace p646:=eq_true p646;replace q646:=eq_true q646
           go_wp2
           repeat (go_quiet (fail); try go_wp2)
           go_roundg kj24
           case measure => have:=HK1.out; have:=HK2.out; have:=HK3.out; have:=HJ24.out; omega
           case rel => exact ⟨(q2),(r7),(wrap64 (p0 + 1)),(by first | rfl | (simp; done) | (simp [*]; done)),H',⟨by have:=HK1.out; have:=HK2.out; have:=HK3.out; have:=HJ24.out; omega⟩,⟨by (with_reducible repeat (first | apply Kd.R_alloc | apply Kd.R_drewN | apply Kd.R_drew)); exact HO_1.out⟩,⟨by (with_reducible repeat (first | apply Kd.R_alloc | apply Kd.R_drewN | apply Kd.R_drew)); exact p4.out⟩,⟨by (with_reducible repeat (first | apply Kd.R_alloc | apply Kd.R_drewN | apply Kd.R_drew)); exact q0.out⟩,⟨by (with_reducible repeat (first | refine blk_drewN ?_ _ | refine blk_drew ?_ | refine blk_alloc ?_ _)); exact p9.out⟩,⟨by repeat (first | (with_reducible first | exact HK.out | apply Kept.alloc | apply Kept.drewN | apply Kept.drew | refine Kept.setCell ?_ (.inr q4.out) _ | refine Kept.setCell ?_ (.inr r6.out) _) | exact HK.out)⟩,⟨by repeat (first | (with_reducible first | exact HB.out | apply below_alloc | apply pw_below_drewN | apply below_drew1 | refine below_set ?_ r0.out | refine below_set ?_ s1.out) | exact HB.out)⟩⟩
          rw [if_neg c129] at H;have c129b0 : (((rd_T58 l0_1 p0).f0) == a2) = false:=beq_eq_false_iff_ne.mpr c129;have c129b1 : (((rd_T58 l0_1 p0).f0) != a2) = true:=bne_iff_ne.mpr c129;obtain ⟨y647,hy647⟩ : ∃ y_ : List Int,y_ = (q2.set (((rd_T58 l0_1 p0).f0) : Int).toNat (wrap64 ((wrap64 (-p0)) - 1))):=⟨_,rfl⟩
          replace H : (if r7.length < 17592186044416 then (spec_l25Push.l2 kj24 l1 a2 a3 y647 (r7 ++ [((rd_T58 l0_1 p0).f0)]) q3 (wrap64 (p0 + 1)) a0_0 l0_1) else (none)) = some (r1,r2):=by first | (rw [hy647]; with_reducible exact H) | (have H2_:=(Option.bind_some _ _).symm.trans H; rw [hy647]; with_reducible exact H2_) | (have H2_:=(Option.bind_some _ _).symm.trans H; with_reducible exact H2_) | with_reducible exact H | (rw [hy647]; exact H) | exact H
          have K3:=I hy647;clear hy647
          by_cases c136 : r7.length < 17592186044416
          case neg =>
           rw [if_neg c136] at H;exact absurd H (by simp)
          rw [if_pos c136] at H;have F5:=I c136;clear c136;obtain ⟨y648,hy648⟩ : ∃ y_ : List Int,y_ = (r7 ++ [((rd_T58 l0_1 p0).f0)]):=⟨_,rfl⟩
          replace H : (spec_l25Push.l2 kj24 l1 a2 a3 y647 y648 q3 (wrap64 (p0 + 1)) a0_0 l0_1) = some (r1,r2):=by first | (rw [hy648]; with_reducible exact H) | (have H2_:=(Option.bind_some _ _).symm.trans H; rw [hy648]; with_reducible exact H2_) | (have H2_:=(Option.bind_some _ _).symm.trans H; with_reducible exact H2_) | with_reducible exact H | (rw [hy648]; exact H) | exact H
          have K4:=I hy648;clear hy648;have H':=I H;clear H;have hnb137:=s5.out;have hnc137:=r4.out;have K5 : wc.cell? ⟨p8,0,none⟩ = some (.int .i64 ((rd_T58 l0_1 p0).f0)):=(blk_cell p3.out 0).trans rfl;have K6 : wc.cell? ⟨p8,1,none⟩ = some (.int .i64 ((rd_T58 l0_1 p0).f1)):=(blk_cell p3.out 1).trans rfl;have K7 : wc.cell? ⟨p8,2,none⟩ = some (.int .i64 ((rd_T58 l0_1 p0).f2)):=(blk_cell p3.out 2).trans rfl;have K8 : wc.cell? ⟨p8,3,none⟩ = some (.int .i64 ((rd_T58 l0_1 p0).f3)):=(blk_cell p3.out 3).trans rfl;have K9 : wc.cell? ⟨p8,4,none⟩ = some (.int .i64 ((rd_T58 l0_1 p0).f4)):=(blk_cell p3.out 4).trans rfl;have L0:=blk_frozen p3.out 0;have L1:=blk_frozen p3.out 1;have L2:=blk_frozen p3.out 2;have L3:=blk_frozen p3.out 3;have L4:=blk_frozen p3.out 4;obtain ⟨Ao139,co139,eo139⟩:=Kd.R_slice q0.out;subst eo139;have p644 : 0 ≤ (q3 : Int):=of_decide_eq_true (by first | (with_reducible assumption) | assumption);have q644 : q3 < (r7.length : Int):=of_decide_eq_true (by first | (with_reducible assumption) | assumption);obtain ⟨z2,e644,z5⟩:=Kd.at_int (Kd.R_reads' q0.out).2.2 q3 p644 q644;cases e644;replace p644:=eq_true p644;replace q644:=eq_true q644;obtain ⟨Ao140,co140,eo140⟩:=Kd.R_slice HO_1.out;subst eo140;have p645 : 0 ≤ (p0 : Int):=of_decide_eq_true (by first | (with_reducible assumption) | assumption);have q645 : p0 < (l1.length : Int):=of_decide_eq_true (by first | (with_reducible assumption) | assumption);obtain ⟨z1,e645,m1⟩:=Kd.at_int (Kd.R_reads' HO_1.out).2.2 p0 p645 q645;cases e645;replace p645:=eq_true p645;replace q645:=eq_true q645;obtain ⟨Ao141,co141,eo141⟩:=Kd.R_slice p4.out;subst eo141;have p646 : 0 ≤ (((rd_T58 l0_1 p0).f0) : Int):=of_decide_eq_true (by first | (with_reducible assumption) | assumption);have q646 : ((rd_T58 l0_1 p0).f0) < (q2.length : Int):=of_decide_eq_true (by first | (with_reducible assumption) | assumption);obtain ⟨ad646,e646,m2⟩:=Kd.at_int (Kd.R_reads' p4.out).2.2 ((rd_T58 l0_1 p0).f0) p646 q646;cases e646;replace p646:=eq_true p646;replace q646:=eq_true q646;have p135 : 0 ≤ (((rd_T58 l0_1 p0).f0) : Int):=of_decide_eq_true (by first | (with_reducible assumption) | assumption);have q135 : (((rd_T58 l0_1 p0).f0) : Int) < ((q2.length : Int) : Int):=of_decide_eq_true (by first | (with_reducible assumption) | assumption);obtain ⟨go135,co135,eo135,gb135,gl135,cl135,HG135⟩:=Kd.R_form p4.out (by omega)
          (first | cases eo135 | (injection eo135 with ea_ en_ ec_; (first | subst ea_ | (injection ea_ with ea_; subst ea_)); subst ec_; clear en_))
          have GB135:=I gb135;have GG135:=I HG135;clear gb135 gl135 HG135;have HMgo135:=I (show (P1_ go135 ∨ w.heap.size ≤ go135) from (p4.out.1 _ rfl).1)
          (first | simp only [add_plain] at m2 | skip)
          obtain ⟨m3,hf135_0⟩:=Kd.R_celln 0 p4.out (((rd_T58 l0_1 p0).f0) : Int) p135 q135;replace p135:=eq_true p135;replace q135:=eq_true q135;have HP142:=Kd.R_putg p4.out (((rd_T58 l0_1 p0).f0) : Int) (wrap64 ((wrap64 (-p0)) - 1))
          go_wp2
          repeat (go_quiet (fail); try go_wp2_with (first | ((with_reducible refine gate_store (t:=3) (p:=126) rfl ?_); (try (rw [drewN_self wc]; generalize hq_ : World.drewN wc _ = wc; have n0_:=I (Kd.R_at hq_ HO_1.out); have n1_:=I (Kd.R_at hq_ p4.out); have n2_:=I (Kd.R_at hq_ q0.out); have n3_:=I (blk_at hq_ p9.out); have n4_:=I (blk_at hq_ p3.out); have n5_:=I (kept_at hq_ HK.out); have n6_:=I (below_at hq_ HB.out); clear hq_ HO_1 p4 q0 p9 p3 HK HB; have HO_1:=n0_; have p4:=n1_; have q0:=n2_; have p9:=n3_; have p3:=n4_; have HK:=n5_; have HB:=n6_; clear n0_ n1_ n2_ n3_ n4_ n5_ n6_; (try (have HP142:=Kd.R_putg p4.out (((rd_T58 l0_1 p0).f0) : Int) (wrap64 ((wrap64 (-p0)) - 1)))); (try (obtain ⟨m3,hf135_0⟩:=Kd.R_celln 0 p4.out (((rd_T58 l0_1 p0).f0) : Int) (of_eq_true p135) (of_eq_true q135))))); refine store_event (t:=3) (p:=126) (v:=?vo_w143) (w1:=(wc.setCell ⟨go135,(((rd_T58 l0_1 p0).f0) : Int).toNat,none⟩ (.int .i64 (wrap64 ((wrap64 (-p0)) - 1))))) ?hg ?ho ?hn ?hr ?_; (case ho => rfl); (case hg => rfl); (case hn => rfl); (case hr => first | (go_simp; done) | (go_simp; rfl)); intro w143 hw; have hg : wc.grownBy w143 (some go135):=(by rw [hw]; exact HP142.2); have hp_ : Kd.R (Kd.int .i64) 3 w143 w0.heap.size (fun k_ => (P1_ k_ ∨ w.heap.size ≤ k_) ∧ some k_ ≠ (.slice (some z1) l1.length co140 : Value).ownBlock ∧ some k_ ≠ (.slice (some z2) r7.length co139 : Value).ownBlock) (.slice (some ⟨go135,0,none⟩) q2.length co141) y647:=(by rw [hw,K3.out]; exact HP142.1); clear HP142; have n0_:=I (Kd.R_after (v:=(.slice (some ⟨go135,0,none⟩) q2.length co141)) (v1:=(.slice (some ⟨go135,0,none⟩) q2.length co141)) (ok:=(fun k_ => (P1_ k_ ∨ w.heap.size ≤ k_) ∧ some k_ ≠ (.slice (some z2) r7.length co139 : Value).ownBlock)) (by (with_reducible repeat (first | apply Kd.R_alloc | apply Kd.R_drewN | apply Kd.R_drew)); exact Kd.R_mono HO_1.out (fun _ hk => ⟨⟨hk.1,hk.2.2⟩,hk.2.1⟩)) hg (.inl rfl)); have n1_:=I (hp_); have n2_:=I (Kd.R_after (v:=(.slice (some ⟨go135,0,none⟩) q2.length co141)) (v1:=(.slice (some ⟨go135,0,none⟩) q2.length co141)) (ok:=(fun k_ => (P1_ k_ ∨ w.heap.size ≤ k_) ∧ some k_ ≠ (.slice (some z1) l1.length co140 : Value).ownBlock)) (by (with_reducible repeat (first | apply Kd.R_alloc | apply Kd.R_drewN | apply Kd.R_drew)); exact Kd.R_mono q0.out (fun _ hk => ⟨⟨hk.1,hk.2.1⟩,hk.2.2⟩)) hg (.inl rfl)); have n3_:=I (blk_grown (g:=q8) (o:=.cells #[.int .i64 a0_0,.slice (some s3) l0_1.length c0_1] 34 (0,0)) (by (with_reducible repeat (first | refine blk_drewN ?_ _ | refine blk_drew ?_ | refine blk_alloc ?_ _)); exact p9.out) hg (Kd.R_ne p4.out p9.out (by decide))); have n4_:=I (blk_grown (g:=p8) (o:=.cells #[.int .i64 ((rd_T58 l0_1 p0).f0),.int .i64 ((rd_T58 l0_1 p0).f1),.int .i64 ((rd_T58 l0_1 p0).f2),.int .i64 ((rd_T58 l0_1 p0).f3),.int .i64 ((rd_T58 l0_1 p0).f4)] 58 (0,0)) (by (with_reducible repeat (first | refine blk_drewN ?_ _ | refine blk_drew ?_ | refine blk_alloc ?_ _)); exact p3.out) hg (Kd.R_ne p4.out p3.out (by decide))); have n5_:=I ((by rw [hw]; exact below_set (HB.out) GB135.out : Below w0.heap.size w0 w143)); have n6_:=I (Kept.of_grown (S:=(fun k_ => P1_ k_)) hg (by repeat (first | (with_reducible first | exact HK.out | apply Kept.alloc | apply Kept.drewN | apply Kept.drew | refine Kept.setCell ?_ (.inr q4.out) _ | refine Kept.setCell ?_ (.inr r6.out) _) | exact HK.out)) (fun k_ e_ => (p4.out.1 k_ e_).1)); clear HO_1; clear p4; clear q0; clear p9; clear p3; clear HB; clear HK; have HO_1:=n0_; have p4:=n1_; have q0:=n2_; have p9:=n3_; have p3:=n4_; have HB:=n5_; have HK:=n6_; clear n0_ n1_ n2_ n3_ n4_ n5_ n6_; clear hg hw hp_; have e9 : w143.cell? ⟨p8,0,none⟩ = some (.int .i64 ((rd_T58 l0_1 p0).f0)):=(blk_cell p3.out 0).trans rfl; have f5 : w143.cell? ⟨p8,1,none⟩ = some (.int .i64 ((rd_T58 l0_1 p0).f1)):=(blk_cell p3.out 1).trans rfl; have f6 : w143.cell? ⟨p8,2,none⟩ = some (.int .i64 ((rd_T58 l0_1 p0).f2)):=(blk_cell p3.out 2).trans rfl; have f7 : w143.cell? ⟨p8,3,none⟩ = some (.int .i64 ((rd_T58 l0_1 p0).f3)):=(blk_cell p3.out 3).trans rfl; have f8 : w143.cell? ⟨p8,4,none⟩ = some (.int .i64 ((rd_T58 l0_1 p0).f4)):=(blk_cell p3.out 4).trans rfl; have f9:=blk_frozen p3.out 0; have g0:=blk_frozen p3.out 1; have g1:=blk_frozen p3.out 2; have g2:=blk_frozen p3.out 3; have g3:=blk_frozen p3.out 4) | ((with_reducible refine gate_builtin (b:=.append) (xs:=#[.tmp 127,.tmp 130]) rfl ?_); at_builtin; refine Kd.R_append (Kd.int .i64) (w0:=w0) w0.heap.size rfl (.tmp 127) (.tmp 130) 23 3 (.int .i64 0) 8 rfl Try.underlying23 info3 rfl (by decide) (by omega) (.slice (some z2) r7.length co139) r7 ((rd_T58 l0_1 p0).f0) [.int .i64 ((rd_T58 l0_1 p0).f0)] (fun k_ => (P1_ k_ ∨ w.heap.size ≤ k_) ∧ some k_ ≠ (.slice (some z1) l1.length co140 : Value).ownBlock ∧ some k_ ≠ (.slice (some ⟨go135,0,none⟩) q2.length co141 : Value).ownBlock) (fun _ => False) rfl rfl ?aP (fun _ hk => hk.elim) ?aF ?aO ?aB ?aS ?aL ?_; (case aP => exact rfl); (case aB => exact (by repeat (first | (with_reducible first | exact HB.out | apply below_alloc | apply pw_below_drewN | apply below_drew1 | refine below_set ?_ r0.out | refine below_set ?_ s1.out) | exact HB.out))); (case aF => exact (fun k_ hk => ⟨(.inr (Nat.le_trans (by first | exact HK.out.1 | exact (show Kept w _ (fun k_ => P1_ k_) from by repeat (first | (with_reducible first | exact HK.out | apply Kept.alloc | apply Kept.drewN | apply Kept.drew | refine Kept.setCell ?_ (.inr q4.out) _ | refine Kept.setCell ?_ (.inr r6.out) _) | exact HK.out)).1) hk)),Kd.fresh' (Kd.R_lt (by (with_reducible repeat (first | apply Kd.R_alloc | apply Kd.R_drewN | apply Kd.R_drew)); exact HO_1.out)) k_ hk,Kd.fresh' (Kd.R_lt (by (with_reducible repeat (first | apply Kd.R_alloc | apply Kd.R_drewN | apply Kd.R_drew)); exact p4.out)) k_ hk⟩)); (case aO => exact (by (with_reducible repeat (first | apply Kd.R_alloc | apply Kd.R_drewN | apply Kd.R_drew)); exact Kd.R_mono q0.out (fun _ hk => ⟨hk.1.1,⟨hk.1.2,hk.2⟩⟩))); (case aS => exact (below_size (by repeat (first | (with_reducible first | exact HB.out | apply below_alloc | apply pw_below_drewN | apply below_drew1 | refine below_set ?_ r0.out | refine below_set ?_ s1.out) | exact HB.out)))); (case aL => have:=F5.out; omega); intro v649 w145 ho hb hg hat; rw [← K4.out] at ho; have n0_:=I (Kd.R_after (ok:=(fun k_ => (P1_ k_ ∨ w.heap.size ≤ k_) ∧ some k_ ≠ (.slice (some ⟨go135,0,none⟩) q2.length co141 : Value).ownBlock)) (by (with_reducible repeat (first | apply Kd.R_alloc | apply Kd.R_drewN | apply Kd.R_drew)); exact Kd.R_mono HO_1.out (fun _ hk => ⟨⟨hk.1.1,hk.2⟩,hk.1.2⟩)) hg hat); have n1_:=I (Kd.R_after (ok:=(fun k_ => (P1_ k_ ∨ w.heap.size ≤ k_) ∧ some k_ ≠ (.slice (some z1) l1.length co140 : Value).ownBlock)) (by (with_reducible repeat (first | apply Kd.R_alloc | apply Kd.R_drewN | apply Kd.R_drew)); exact Kd.R_mono p4.out (fun _ hk => ⟨⟨hk.1,hk.2.1⟩,hk.2.2⟩)) hg hat); have n2_:=I (blk_grown (g:=q8) (o:=.cells #[.int .i64 a0_0,.slice (some s3) l0_1.length c0_1] 34 (0,0)) (by (with_reducible repeat (first | refine blk_drewN ?_ _ | refine blk_drew ?_ | refine blk_alloc ?_ _)); exact p9.out) hg (Kd.R_ne q0.out p9.out (by decide))); have n3_:=I (blk_grown (g:=p8) (o:=.cells #[.int .i64 ((rd_T58 l0_1 p0).f0),.int .i64 ((rd_T58 l0_1 p0).f1),.int .i64 ((rd_T58 l0_1 p0).f2),.int .i64 ((rd_T58 l0_1 p0).f3),.int .i64 ((rd_T58 l0_1 p0).f4)] 58 (0,0)) (by (with_reducible repeat (first | refine blk_drewN ?_ _ | refine blk_drew ?_ | refine blk_alloc ?_ _)); exact p3.out) hg (Kd.R_ne q0.out p3.out (by decide))); have n4_:=I (hb); have n5_:=I (Kept.of_grown (S:=(fun k_ => P1_ k_)) hg (by repeat (first | (with_reducible first | exact HK.out | apply Kept.alloc | apply Kept.drewN | apply Kept.drew | refine Kept.setCell ?_ (.inr q4.out) _ | refine Kept.setCell ?_ (.inr r6.out) _) | exact HK.out)) (fun k_ e_ => (q0.out.1 k_ e_).1.1)); have n6_:=I (ho); clear HO_1; clear p4; clear p9; clear p3; clear HB; clear HK; clear q0; have HO_1:=n0_; have p4:=n1_; have p9:=n2_; have p3:=n3_; have HB:=n4_; have HK:=n5_; have HO650:=n6_; clear n0_ n1_ n2_ n3_ n4_ n5_ n6_; clear ho hb hg hat)))
          go_roundg kj24
          case measure => have:=HK1.out; have:=HK2.out; have:=HK3.out; have:=HJ24.out; omega
          case rel => exact ⟨(y647),(y648),(wrap64 (p0 + 1)),(by first | rfl | (simp; done) | (simp [*]; done)),H',⟨by have:=HK1.out; have:=HK2.out; have:=HK3.out; have:=HJ24.out; omega⟩,⟨by (with_reducible repeat (first | apply Kd.R_alloc | apply Kd.R_drewN | apply Kd.R_drew)); exact Kd.R_mono HO_1.out (fun _ hk => ⟨hk.1.1,⟨hk.1.2,hk.2⟩⟩)⟩,⟨by (with_reducible repeat (first | apply Kd.R_alloc | apply Kd.R_drewN | apply Kd.R_drew)); exact Kd.R_mono p4.out (fun _ hk => ⟨hk.1.1,⟨hk.1.2,hk.2⟩⟩)⟩,⟨by (with_reducible repeat (first | apply Kd.R_alloc | apply Kd.R_drewN | apply Kd.R_drew)); exact HO650.out⟩,⟨by (with_reducible repeat (first | refine blk_drewN ?_ _ | refine blk_drew ?_ | refine blk_alloc ?_ _)); exact p9.out⟩,⟨by repeat (first | (with_reducible first | exact HK.out | apply Kept.alloc | apply Kept.drewN | apply Kept.drew | refine Kept.setCell ?_ (.inr q4.out) _ | refine Kept.setCell ?_ (.inr r6.out) _) | exact HK.out)⟩,⟨by repeat (first | (with_reducible first | exact HB.out | apply below_alloc | apply pw_below_drewN | apply below_drew1 | refine below_set ?_ r0.out | refine below_set ?_ s1.out) | exact HB.out)⟩⟩
         subst c55;have H1 : (if 0 ≤ ((rd_T58 l0_1 p0).f1) then (if ((rd_T58 l0_1 p0).f1) < (q2.length : Int) then ((some (q2.set (((rd_T58 l0_1 p0).f1) : Int).toNat (wrap64 (p0 + 1)) : List Int)).bind fun y633 => (if r7.length < 17592186044416 then ((some (r7 ++ [((rd_T58 l0_1 p0).f1)] : List Int)).bind fun y634 => (if 0 ≤ q3 then (if q3 < (y634.length : Int) then (if ((rd_T58 l0_1 p0).f1) = (rd y634 q3) then (if 0 ≤ p0 then (if p0 < (l1.length : Int) then (if (rd l1 p0) > 0 then (if 0 ≤ ((rd_T58 l0_1 p0).f0) then (if ((rd_T58 l0_1 p0).f0) < (q2.length : Int) then (if (rd y633 ((rd_T58 l0_1 p0).f0)) = 0 then (if ((rd_T58 l0_1 p0).f0) = a2 then (spec_l25Push.l2 kj24 l1 a2 a3 y633 y634 q3 (wrap64 (p0 + 1)) a0_0 l0_1) else (if y634.length < 17592186044416 then (spec_l25Push.l2 kj24 l1 a2 a3 (y633.set (((rd_T58 l0_1 p0).f0) : Int).toNat (wrap64 ((wrap64 (-p0)) - 1))) (y634 ++ [((rd_T58 l0_1 p0).f0)]) q3 (wrap64 (p0 + 1)) a0_0 l0_1) else (none))) else (spec_l25Push.l2 kj24 l1 a2 a3 y633 y634 q3 (wrap64 (p0 + 1)) a0_0 l0_1)) else (none)) else (none)) else (spec_l25Push.l2 kj24 l1 a2 a3 y633 y634 q3 (wrap64 (p0 + 1)) a0_0 l0_1)) else (none)) else (none)) else (spec_l25Push.l2 kj24 l1 a2 a3 y633 y634 q3 (wrap64 (p0 + 1)) a0_0 l0_1)) else (none)) else (none))) else (none))) else (none)) else (none)) = some (r1,r2):=by rw [if_pos rfl] at H; exact H
         clear H;have H:=H1;clear H1
         by_cases c56 : 0 ≤ ((rd_T58 l0_1 p0).f1)
         case neg =>
          rw [if_neg c56] at H;exact absurd H (by simp)
         rw [if_pos c56] at H;have c56b0 : decide (0 ≤ ((rd_T58 l0_1 p0).f1)) = true:=decide_eq_true c56;clear c56
         by_cases c57 : ((rd_T58 l0_1 p0).f1) < (q2.length : Int)
         case neg =>
          rw [if_neg c57] at H;exact absurd H (by simp)
         rw [if_pos c57] at H;have c57b0 : decide (((rd_T58 l0_1 p0).f1) < (q2.length : Int)) = true:=decide_eq_true c57;clear c57;obtain ⟨y633,hy633⟩ : ∃ y_ : List Int,y_ = (q2.set (((rd_T58 l0_1 p0).f1) : Int).toNat (wrap64 (p0 + 1))):=⟨_,rfl⟩
         replace H : (if r7.length < 17592186044416 then ((some (r7 ++ [((rd_T58 l0_1 p0).f1)] : List Int)).bind fun y634 => (if 0 ≤ q3 then (if q3 < (y634.length : Int) then (if ((rd_T58 l0_1 p0).f1) = (rd y634 q3) then (if 0 ≤ p0 then (if p0 < (l1.length : Int) then (if (rd l1 p0) > 0 then (if 0 ≤ ((rd_T58 l0_1 p0).f0) then (if ((rd_T58 l0_1 p0).f0) < (q2.length : Int) then (if (rd y633 ((rd_T58 l0_1 p0).f0)) = 0 then (if ((rd_T58 l0_1 p0).f0) = a2 then (spec_l25Push.l2 kj24 l1 a2 a3 y633 y634 q3 (wrap64 (p0 + 1)) a0_0 l0_1) else (if y634.length < 17592186044416 then (spec_l25Push.l2 kj24 l1 a2 a3 (y633.set (((rd_T58 l0_1 p0).f0) : Int).toNat (wrap64 ((wrap64 (-p0)) - 1))) (y634 ++ [((rd_T58 l0_1 p0).f0)]) q3 (wrap64 (p0 + 1)) a0_0 l0_1) else (none))) else (spec_l25Push.l2 kj24 l1 a2 a3 y633 y634 q3 (wrap64 (p0 + 1)) a0_0 l0_1)) else (none)) else (none)) else (spec_l25Push.l2 kj24 l1 a2 a3 y633 y634 q3 (wrap64 (p0 + 1)) a0_0 l0_1)) else (none)) else (none)) else (spec_l25Push.l2 kj24 l1 a2 a3 y633 y634 q3 (wrap64 (p0 + 1)) a0_0 l0_1)) else (none)) else (none))) else (none)) = some (r1,r2):=by first | (rw [hy633]; with_reducible exact H) | (have H2_:=(Option.bind_some _ _).symm.trans H; rw [hy633]; with_reducible exact H2_) | (have H2_:=(Option.bind_some _ _).symm.trans H; with_reducible exact H2_) | with_reducible exact H | (rw [hy633]; exact H) | exact H
         have u4:=I hy633;clear hy633
         by_cases c59 : r7.length < 17592186044416
         case neg =>
          rw [if_neg c59] at H;exact absurd H (by simp)
         rw [if_pos c59] at H;have v9:=I c59;clear c59;obtain ⟨y634,hy634⟩ : ∃ y_ : List Int,y_ = (r7 ++ [((rd_T58 l0_1 p0).f1)]):=⟨_,rfl⟩
         replace H : (if 0 ≤ q3 then (if q3 < (y634.length : Int) then (if ((rd_T58 l0_1 p0).f1) = (rd y634 q3) then (if 0 ≤ p0 then (if p0 < (l1.length : Int) then (if (rd l1 p0) > 0 then (if 0 ≤ ((rd_T58 l0_1 p0).f0) then (if ((rd_T58 l0_1 p0).f0) < (q2.length : Int) then (if (rd y633 ((rd_T58 l0_1 p0).f0)) = 0 then (if ((rd_T58 l0_1 p0).f0) = a2 then (spec_l25Push.l2 kj24 l1 a2 a3 y633 y634 q3 (wrap64 (p0 + 1)) a0_0 l0_1) else (if y634.length < 17592186044416 then (spec_l25Push.l2 kj24 l1 a2 a3 (y633.set (((rd_T58 l0_1 p0).f0) : Int).toNat (wrap64 ((wrap64 (-p0)) - 1))) (y634 ++ [((rd_T58 l0_1 p0).f0)]) q3 (wrap64 (p0 + 1)) a0_0 l0_1) else (none))) else (spec_l25Push.l2 kj24 l1 a2 a3 y633 y634 q3 (wrap64 (p0 + 1)) a0_0 l0_1)) else (none)) else (none)) else (spec_l25Push.l2 kj24 l1 a2 a3 y633 y634 q3 (wrap64 (p0 + 1)) a0_0 l0_1)) else (none)) else (none)) else (spec_l25Push.l2 kj24 l1 a2 a3 y633 y634 q3 (wrap64 (p0 + 1)) a0_0 l0_1)) else (none)) else (none)) = some (r1,r2):=by first | (rw [hy634]; with_reducible exact H) | (have H2_:=(Option.bind_some _ _).symm.trans H; rw [hy634]; with_reducible exact H2_) | (have H2_:=(Option.bind_some _ _).symm.trans H; with_reducible exact H2_) | with_reducible exact H | (rw [hy634]; exact H) | exact H
         have z0:=I hy634;clear hy634
         by_cases c60 : 0 ≤ q3
         case neg =>
          rw [if_neg c60] at H;exact absurd H (by simp)
         rw [if_pos c60] at H;have c60b0 : decide (0 ≤ q3) = true:=decide_eq_true c60;clear c60
         by_cases c61 : q3 < (y634.length : Int)
         case neg =>
          rw [if_neg c61] at H;exact absurd H (by simp)
         rw [if_pos c61] at H;have c61b0 : decide (q3 < (y634.length : Int)) = true:=decide_eq_true c61;clear c61
         by_cases c62 : ((rd_T58 l0_1 p0).f1) = (rd y634 q3)
         case neg =>
          rw [if_neg c62] at H;have c62b0 : (((rd_T58 l0_1 p0).f1) == (rd y634 q3)) = false:=beq_eq_false_iff_ne.mpr c62;have c62b1 : (((rd_T58 l0_1 p0).f1) != (rd y634 q3)) = true:=bne_iff_ne.mpr c62;have H':=I H;clear H;have hnb112:=s5.out;have hnc112:=r4.out;have I3 : wc.cell? ⟨p8,0,none⟩ = some (.int .i64 ((rd_T58 l0_1 p0).f0)):=(blk_cell p3.out 0).trans rfl;have I4 : wc.cell? ⟨p8,1,none⟩ = some (.int .i64 ((rd_T58 l0_1 p0).f1)):=(blk_cell p3.out 1).trans rfl;have I5 : wc.cell? ⟨p8,2,none⟩ = some (.int .i64 ((rd_T58 l0_1 p0).f2)):=(blk_cell p3.out 2).trans rfl;have I6 : wc.cell? ⟨p8,3,none⟩ = some (.int .i64 ((rd_T58 l0_1 p0).f3)):=(blk_cell p3.out 3).trans rfl;have I7 : wc.cell? ⟨p8,4,none⟩ = some (.int .i64 ((rd_T58 l0_1 p0).f4)):=(blk_cell p3.out 4).trans rfl;have I8:=blk_frozen p3.out 0;have I9:=blk_frozen p3.out 1;have J0:=blk_frozen p3.out 2;have J1:=blk_frozen p3.out 3;have J2:=blk_frozen p3.out 4;have p58 : 0 ≤ (((rd_T58 l0_1 p0).f1) : Int):=of_decide_eq_true (by first | (with_reducible assumption) | assumption);have q58 : (((rd_T58 l0_1 p0).f1) : Int) < ((q2.length : Int) : Int):=of_decide_eq_true (by first | (with_reducible assumption) | assumption);obtain ⟨go58,co58,eo58,gb58,gl58,cl58,HG58⟩:=Kd.R_form p4.out (by omega)
          (first | cases eo58 | (injection eo58 with ea_ en_ ec_; (first | subst ea_ | (injection ea_ with ea_; subst ea_)); subst ec_; clear en_))
          have GB58:=I gb58;have GG58:=I HG58;clear gb58 gl58 HG58;have HMgo58:=I (show (P1_ go58 ∨ w.heap.size ≤ go58) from (p4.out.1 _ rfl).1);obtain ⟨t3,hf58_0⟩:=Kd.R_celln 0 p4.out (((rd_T58 l0_1 p0).f1) : Int) p58 q58;replace p58:=eq_true p58;replace q58:=eq_true q58;have HP114:=Kd.R_putg p4.out (((rd_T58 l0_1 p0).f1) : Int) (wrap64 (p0 + 1))
          go_wp2_with (first | ((with_reducible refine gate_store (t:=3) (p:=86) rfl ?_); (try (rw [drewN_self wc]; generalize hq_ : World.drewN wc _ = wc; have n0_:=I (Kd.R_at hq_ HO_1.out); have n1_:=I (Kd.R_at hq_ p4.out); have n2_:=I (Kd.R_at hq_ q0.out); have n3_:=I (blk_at hq_ p9.out); have n4_:=I (blk_at hq_ p3.out); have n5_:=I (kept_at hq_ HK.out); have n6_:=I (below_at hq_ HB.out); clear hq_ HO_1 p4 q0 p9 p3 HK HB; have HO_1:=n0_; have p4:=n1_; have q0:=n2_; have p9:=n3_; have p3:=n4_; have HK:=n5_; have HB:=n6_; clear n0_ n1_ n2_ n3_ n4_ n5_ n6_; (try (have HP114:=Kd.R_putg p4.out (((rd_T58 l0_1 p0).f1) : Int) (wrap64 (p0 + 1)))); (try (obtain ⟨t3,hf58_0⟩:=Kd.R_celln 0 p4.out (((rd_T58 l0_1 p0).f1) : Int) (of_eq_true p58) (of_eq_true q58))))); refine store_event (t:=3) (p:=86) (v:=?vo_w115) (w1:=(wc.setCell ⟨go58,(((rd_T58 l0_1 p0).f1) : Int).toNat,none⟩ (.int .i64 (wrap64 (p0 + 1))))) ?hg ?ho ?hn ?hr ?_; (case ho => rfl); (case hg => rfl); (case hn => rfl); (case hr => first | (go_simp; done) | (go_simp; rfl)); intro w115 hw; have hg : wc.grownBy w115 (some go58):=(by rw [hw]; exact HP114.2); have hp_ : Kd.R (Kd.int .i64) 3 w115 w0.heap.size (fun k_ => (P1_ k_ ∨ w.heap.size ≤ k_) ∧ some k_ ≠ (q9 : Value).ownBlock ∧ some k_ ≠ (u12 : Value).ownBlock) (.slice (some ⟨go58,0,none⟩) q2.length co58) y633:=(by rw [hw,u4.out]; exact HP114.1); clear HP114; have n0_:=I (Kd.R_after (v:=(.slice (some ⟨go58,0,none⟩) q2.length co58)) (v1:=(.slice (some ⟨go58,0,none⟩) q2.length co58)) (ok:=(fun k_ => (P1_ k_ ∨ w.heap.size ≤ k_) ∧ some k_ ≠ (u12 : Value).ownBlock)) (by (with_reducible repeat (first | apply Kd.R_alloc | apply Kd.R_drewN | apply Kd.R_drew)); exact Kd.R_mono HO_1.out (fun _ hk => ⟨⟨hk.1,hk.2.2⟩,hk.2.1⟩)) hg (.inl rfl)); have n1_:=I (hp_); have n2_:=I (Kd.R_after (v:=(.slice (some ⟨go58,0,none⟩) q2.length co58)) (v1:=(.slice (some ⟨go58,0,none⟩) q2.length co58)) (ok:=(fun k_ => (P1_ k_ ∨ w.heap.size ≤ k_) ∧ some k_ ≠ (q9 : Value).ownBlock)) (by (with_reducible repeat (first | apply Kd.R_alloc | apply Kd.R_drewN | apply Kd.R_drew)); exact Kd.R_mono q0.out (fun _ hk => ⟨⟨hk.1,hk.2.1⟩,hk.2.2⟩)) hg (.inl rfl)); have n3_:=I (blk_grown (g:=q8) (o:=.cells #[.int .i64 a0_0,.slice (some s3) l0_1.length c0_1] 34 (0,0)) (by (with_reducible repeat (first | refine blk_drewN ?_ _ | refine blk_drew ?_ | refine blk_alloc ?_ _)); exact p9.out) hg (Kd.R_ne p4.out p9.out (by decide))); have n4_:=I (blk_grown (g:=p8) (o:=.cells #[.int .i64 ((rd_T58 l0_1 p0).f0),.int .i64 ((rd_T58 l0_1 p0).f1),.int .i64 ((rd_T58 l0_1 p0).f2),.int .i64 ((rd_T58 l0_1 p0).f3),.int .i64 ((rd_T58 l0_1 p0).f4)] 58 (0,0)) (by (with_reducible repeat (first | refine blk_drewN ?_ _ | refine blk_drew ?_ | refine blk_alloc ?_ _)); exact p3.out) hg (Kd.R_ne p4.out p3.out (by decide))); have n5_:=I ((by rw [hw]; exact below_set (HB.out) GB58.out : Below w0.heap.size w0 w115)); have n6_:=I (Kept.of_grown (S:=(fun k_ => P1_ k_)) hg (by repeat (first | (with_reducible first | exact HK.out | apply Kept.alloc | apply Kept.drewN | apply Kept.drew | refine Kept.setCell ?_ (.inr q4.out) _ | refine Kept.setCell ?_ (.inr r6.out) _) | exact HK.out)) (fun k_ e_ => (p4.out.1 k_ e_).1)); clear HO_1; clear p4; clear q0; clear p9; clear p3; clear HB; clear HK; have HO_1:=n0_; have p4:=n1_; have q0:=n2_; have p9:=n3_; have p3:=n4_; have HB:=n5_; have HK:=n6_; clear n0_ n1_ n2_ n3_ n4_ n5_ n6_; clear hg hw hp_; have c0 : w115.cell? ⟨p8,0,none⟩ = some (.int .i64 ((rd_T58 l0_1 p0).f0)):=(blk_cell p3.out 0).trans rfl; have d0 : w115.cell? ⟨p8,1,none⟩ = some (.int .i64 ((rd_T58 l0_1 p0).f1)):=(blk_cell p3.out 1).trans rfl; have d1 : w115.cell? ⟨p8,2,none⟩ = some (.int .i64 ((rd_T58 l0_1 p0).f2)):=(blk_cell p3.out 2).trans rfl; have d2 : w115.cell? ⟨p8,3,none⟩ = some (.int .i64 ((rd_T58 l0_1 p0).f3)):=(blk_cell p3.out 3).trans rfl; have d3 : w115.cell? ⟨p8,4,none⟩ = some (.int .i64 ((rd_T58 l0_1 p0).f4)):=(blk_cell p3.out 4).trans rfl; have d4:=blk_frozen p3.out 0; have d5:=blk_frozen p3.out 1; have d6:=blk_frozen p3.out 2; have d7:=blk_frozen p3.out 3; have d8:=blk_frozen p3.out 4) | ((with_reducible refine gate_builtin (b:=.append) (xs:=#[.tmp 87,.tmp 90]) rfl ?_); at_builtin; refine Kd.R_append (Kd.int .i64) (w0:=w0) w0.heap.size rfl (.tmp 87) (.tmp 90) 23 3 (.int .i64 0) 8 rfl Try.underlying23 info3 rfl (by decide) (by omega) u12 r7 ((rd_T58 l0_1 p0).f1) [.int .i64 ((rd_T58 l0_1 p0).f1)] (fun k_ => (P1_ k_ ∨ w.heap.size ≤ k_) ∧ some k_ ≠ (q9 : Value).ownBlock ∧ some k_ ≠ (.slice (some ⟨go58,0,none⟩) q2.length co58 : Value).ownBlock) (fun _ => False) rfl rfl ?aP (fun _ hk => hk.elim) ?aF ?aO ?aB ?aS ?aL ?_; (case aP => exact rfl); (case aB => exact (by repeat (first | (with_reducible first | exact HB.out | apply below_alloc | apply pw_below_drewN | apply below_drew1 | refine below_set ?_ r0.out | refine below_set ?_ s1.out) | exact HB.out))); (case aF => exact (fun k_ hk => ⟨(.inr (Nat.le_trans (by first | exact HK.out.1 | exact (show Kept w _ (fun k_ => P1_ k_) from by repeat (first | (with_reducible first | exact HK.out | apply Kept.alloc | apply Kept.drewN | apply Kept.drew | refine Kept.setCell ?_ (.inr q4.out) _ | refine Kept.setCell ?_ (.inr r6.out) _) | exact HK.out)).1) hk)),Kd.fresh' (Kd.R_lt (by (with_reducible repeat (first | apply Kd.R_alloc | apply Kd.R_drewN | apply Kd.R_drew)); exact HO_1.out)) k_ hk,Kd.fresh' (Kd.R_lt (by (with_reducible repeat (first | apply Kd.R_alloc | apply Kd.R_drewN | apply Kd.R_drew)); exact p4.out)) k_ hk⟩)); (case aO => exact (by (with_reducible repeat (first | apply Kd.R_alloc | apply Kd.R_drewN | apply Kd.R_drew)); exact Kd.R_mono q0.out (fun _ hk => ⟨hk.1.1,⟨hk.1.2,hk.2⟩⟩))); (case aS => exact (below_size (by repeat (first | (with_reducible first | exact HB.out | apply below_alloc | apply pw_below_drewN | apply below_drew1 | refine below_set ?_ r0.out | refine below_set ?_ s1.out) | exact HB.out)))); (case aL => have:=v9.out; omega); intro v635 w117 ho hb hg hat; rw [← z0.out] at ho; have n0_:=I (Kd.R_after (ok:=(fun k_ => (P1_ k_ ∨ w.heap.size ≤ k_) ∧ some k_ ≠ (.slice (some ⟨go58,0,none⟩) q2.length co58 : Value).ownBlock)) (by (with_reducible repeat (first | apply Kd.R_alloc | apply Kd.R_drewN | apply Kd.R_drew)); exact Kd.R_mono HO_1.out (fun _ hk => ⟨⟨hk.1.1,hk.2⟩,hk.1.2⟩)) hg hat); have n1_:=I (Kd.R_after (ok:=(fun k_ => (P1_ k_ ∨ w.heap.size ≤ k_) ∧ some k_ ≠ (q9 : Value).ownBlock)) (by (with_reducible repeat (first | apply Kd.R_alloc | apply Kd.R_drewN | apply Kd.R_drew)); exact Kd.R_mono p4.out (fun _ hk => ⟨⟨hk.1,hk.2.1⟩,hk.2.2⟩)) hg hat); have n2_:=I (blk_grown (g:=q8) (o:=.cells #[.int .i64 a0_0,.slice (some s3) l0_1.length c0_1] 34 (0,0)) (by (with_reducible repeat (first | refine blk_drewN ?_ _ | refine blk_drew ?_ | refine blk_alloc ?_ _)); exact p9.out) hg (Kd.R_ne q0.out p9.out (by decide))); have n3_:=I (blk_grown (g:=p8) (o:=.cells #[.int .i64 ((rd_T58 l0_1 p0).f0),.int .i64 ((rd_T58 l0_1 p0).f1),.int .i64 ((rd_T58 l0_1 p0).f2),.int .i64 ((rd_T58 l0_1 p0).f3),.int .i64 ((rd_T58 l0_1 p0).f4)] 58 (0,0)) (by (with_reducible repeat (first | refine blk_drewN ?_ _ | refine blk_drew ?_ | refine blk_alloc ?_ _)); exact p3.out) hg (Kd.R_ne q0.out p3.out (by decide))); have n4_:=I (hb); have n5_:=I (Kept.of_grown (S:=(fun k_ => P1_ k_)) hg (by repeat (first | (with_reducible first | exact HK.out | apply Kept.alloc | apply Kept.drewN | apply Kept.drew | refine Kept.setCell ?_ (.inr q4.out) _ | refine Kept.setCell ?_ (.inr r6.out) _) | exact HK.out)) (fun k_ e_ => (q0.out.1 k_ e_).1.1)); have n6_:=I (ho); clear HO_1; clear p4; clear p9; clear p3; clear HB; clear HK; clear q0; have HO_1:=n0_; have p4:=n1_; have p9:=n2_; have p3:=n3_; have HB:=n4_; have HK:=n5_; have HO636:=n6_; clear n0_ n1_ n2_ n3_ n4_ n5_ n6_; clear ho hb hg hat; have d9 : w117.cell? ⟨p8,0,none⟩ = some (.int .i64 ((rd_T58 l0_1 p0).f0)):=(blk_cell p3.out 0).trans rfl; have e0 : w117.cell? ⟨p8,1,none⟩ = some (.int .i64 ((rd_T58 l0_1 p0).f1)):=(blk_cell p3.out 1).trans rfl; have e1 : w117.cell? ⟨p8,2,none⟩ = some (.int .i64 ((rd_T58 l0_1 p0).f2)):=(blk_cell p3.out 2).trans rfl; have e2 : w117.cell? ⟨p8,3,none⟩ = some (.int .i64 ((rd_T58 l0_1 p0).f3)):=(blk_cell p3.out 3).trans rfl; have e3 : w117.cell? ⟨p8,4,none⟩ = some (.int .i64 ((rd_T58 l0_1 p0).f4)):=(blk_cell p3.out 4).trans rfl; have e4:=blk_frozen p3.out 0; have e5:=blk_frozen p3.out 1; have e6:=blk_frozen p3.out 2; have e7:=blk_frozen p3.out 3; have e8:=blk_frozen p3.out 4; obtain ⟨Ao119,co119,eo119⟩:=Kd.R_slice HO636.out; subst eo119; have p637 : 0 ≤ (q3 : Int):=of_decide_eq_true (by first | (with_reducible assumption) | assumption); have q637 : q3 < (y634.length : Int):=of_decide_eq_true (by first | (with_reducible assumption) | assumption); obtain ⟨t4,e637,t7⟩:=Kd.at_int (Kd.R_reads' HO636.out).2.2 q3 p637 q637; cases e637; replace p637:=eq_true p637; replace q637:=eq_true q637))
          repeat (go_quiet (fail); try go_wp2)
          go_roundg kj24
          case measure => have:=HK1.out; have:=HK2.out; have:=HK3.out; have:=HJ24.out; omega
          case rel => exact ⟨(y633),(y634),(wrap64 (p0 + 1)),(by first | rfl | (simp; done) | (simp [*]; done)),H',⟨by have:=HK1.out; have:=HK2.out; have:=HK3.out; have:=HJ24.out; omega⟩,⟨by (with_reducible repeat (first | apply Kd.R_alloc | apply Kd.R_drewN | apply Kd.R_drew)); exact Kd.R_mono HO_1.out (fun _ hk => ⟨hk.1.1,⟨hk.1.2,hk.2⟩⟩)⟩,⟨by (with_reducible repeat (first | apply Kd.R_alloc | apply Kd.R_drewN | apply Kd.R_drew)); exact Kd.R_mono p4.out (fun _ hk => ⟨hk.1.1,⟨hk.1.2,hk.2⟩⟩)⟩,⟨by (with_reducible repeat (first | apply Kd.R_alloc | apply Kd.R_drewN | apply Kd.R_drew)); exact HO636.out⟩,⟨by (with_reducible repeat (first | refine blk_drewN ?_ _ | refine blk_drew ?_ | refine blk_alloc ?_ _)); exact p9.out⟩,⟨by repeat (first | (with_reducible first | exact HK.out | apply Kept.alloc | apply Kept.drewN | apply Kept.drew | refine Kept.setCell ?_ (.inr q4.out) _ | refine Kept.setCell ?_ (.inr r6.out) _) | exact HK.out)⟩,⟨by repeat (first | (with_reducible first | exact HB.out | apply below_alloc | apply pw_below_drewN | apply below_drew1 | refine below_set ?_ r0.out | refine below_set ?_ s1.out) | exact HB.out)⟩⟩
         rw [if_pos c62] at H;have c62b0 : (((rd_T58 l0_1 p0).f1) == (rd y634 q3)) = true:=beq_iff_eq.mpr c62;have c62b1 : (((rd_T58 l0_1 p0).f1) != (rd y634 q3)) = false:=bne_eq_false_iff_eq.mpr c62;clear c62
         by_cases c63 : 0 ≤ p0
         case neg =>
          rw [if_neg c63] at H;exact absurd H (by simp)
         rw [if_pos c63] at H;have c63b0 : decide (0 ≤ p0) = true:=decide_eq_true c63;clear c63
         by_cases c64 : p0 < (l1.length : Int)
         case neg =>
          rw [if_neg c64] at H;exact absurd H (by simp)
         rw [if_pos c64] at H;have c64b0 : decide (p0 < (l1.length : Int)) = true:=decide_eq_true c64;clear c64
         by_cases c65 : (rd l1 p0) > 0
         case neg =>
          rw [if_neg c65] at H;have c65b0 : decide (0 < (rd l1 p0)) = false:=decide_eq_false c65;clear c65;have H':=I H;clear H;have hnb103:=s5.out;have hnc103:=r4.out;have H3 : wc.cell? ⟨p8,0,none⟩ = some (.int .i64 ((rd_T58 l0_1 p0).f0)):=(blk_cell p3.out 0).trans rfl;have H4 : wc.cell? ⟨p8,1,none⟩ = some (.int .i64 ((rd_T58 l0_1 p0).f1)):=(blk_cell p3.out 1).trans rfl;have H5 : wc.cell? ⟨p8,2,none⟩ = some (.int .i64 ((rd_T58 l0_1 p0).f2)):=(blk_cell p3.out 2).trans rfl;have H6 : wc.cell? ⟨p8,3,none⟩ = some (.int .i64 ((rd_T58 l0_1 p0).f3)):=(blk_cell p3.out 3).trans rfl;have H7 : wc.cell? ⟨p8,4,none⟩ = some (.int .i64 ((rd_T58 l0_1 p0).f4)):=(blk_cell p3.out 4).trans rfl;have H8:=blk_frozen p3.out 0;have H9:=blk_frozen p3.out 1;have I0:=blk_frozen p3.out 2;have I1:=blk_frozen p3.out 3;have I2:=blk_frozen p3.out 4;have p58 : 0 ≤ (((rd_T58 l0_1 p0).f1) : Int):=of_decide_eq_true (by first | (with_reducible assumption) | assumption);have q58 : (((rd_T58 l0_1 p0).f1) : Int) < ((q2.length : Int) : Int):=of_decide_eq_true (by first | (with_reducible assumption) | assumption);obtain ⟨go58,co58,eo58,gb58,gl58,cl58,HG58⟩:=Kd.R_form p4.out (by omega)
          (first | cases eo58 | (injection eo58 with ea_ en_ ec_; (first | subst ea_ | (injection ea_ with ea_; subst ea_)); subst ec_; clear en_))
          have GB58:=I gb58;have GG58:=I HG58;clear gb58 gl58 HG58;have HMgo58:=I (show (P1_ go58 ∨ w.heap.size ≤ go58) from (p4.out.1 _ rfl).1);obtain ⟨t3,hf58_0⟩:=Kd.R_celln 0 p4.out (((rd_T58 l0_1 p0).f1) : Int) p58 q58;replace p58:=eq_true p58;replace q58:=eq_true q58;have HP105:=Kd.R_putg p4.out (((rd_T58 l0_1 p0).f1) : Int) (wrap64 (p0 + 1))
          go_wp2_with (first | ((with_reducible refine gate_store (t:=3) (p:=86) rfl ?_); (try (rw [drewN_self wc]; generalize hq_ : World.drewN wc _ = wc; have n0_:=I (Kd.R_at hq_ HO_1.out); have n1_:=I (Kd.R_at hq_ p4.out); have n2_:=I (Kd.R_at hq_ q0.out); have n3_:=I (blk_at hq_ p9.out); have n4_:=I (blk_at hq_ p3.out); have n5_:=I (kept_at hq_ HK.out); have n6_:=I (below_at hq_ HB.out); clear hq_ HO_1 p4 q0 p9 p3 HK HB; have HO_1:=n0_; have p4:=n1_; have q0:=n2_; have p9:=n3_; have p3:=n4_; have HK:=n5_; have HB:=n6_; clear n0_ n1_ n2_ n3_ n4_ n5_ n6_; (try (have HP105:=Kd.R_putg p4.out (((rd_T58 l0_1 p0).f1) : Int) (wrap64 (p0 + 1)))); (try (obtain ⟨t3,hf58_0⟩:=Kd.R_celln 0 p4.out (((rd_T58 l0_1 p0).f1) : Int) (of_eq_true p58) (of_eq_true q58))))); refine store_event (t:=3) (p:=86) (v:=?vo_w106) (w1:=(wc.setCell ⟨go58,(((rd_T58 l0_1 p0).f1) : Int).toNat,none⟩ (.int .i64 (wrap64 (p0 + 1))))) ?hg ?ho ?hn ?hr ?_; (case ho => rfl); (case hg => rfl); (case hn => rfl); (case hr => first | (go_simp; done) | (go_simp; rfl)); intro w106 hw; have hg : wc.grownBy w106 (some go58):=(by rw [hw]; exact HP105.2); have hp_ : Kd.R (Kd.int .i64) 3 w106 w0.heap.size (fun k_ => (P1_ k_ ∨ w.heap.size ≤ k_) ∧ some k_ ≠ (q9 : Value).ownBlock ∧ some k_ ≠ (u12 : Value).ownBlock) (.slice (some ⟨go58,0,none⟩) q2.length co58) y633:=(by rw [hw,u4.out]; exact HP105.1); clear HP105; have n0_:=I (Kd.R_after (v:=(.slice (some ⟨go58,0,none⟩) q2.length co58)) (v1:=(.slice (some ⟨go58,0,none⟩) q2.length co58)) (ok:=(fun k_ => (P1_ k_ ∨ w.heap.size ≤ k_) ∧ some k_ ≠ (u12 : Value).ownBlock)) (by (with_reducible repeat (first | apply Kd.R_alloc | apply Kd.R_drewN | apply Kd.R_drew)); exact Kd.R_mono HO_1.out (fun _ hk => ⟨⟨hk.1,hk.2.2⟩,hk.2.1⟩)) hg (.inl rfl)); have n1_:=I (hp_); have n2_:=I (Kd.R_after (v:=(.slice (some ⟨go58,0,none⟩) q2.length co58)) (v1:=(.slice (some ⟨go58,0,none⟩) q2.length co58)) (ok:=(fun k_ => (P1_ k_ ∨ w.heap.size ≤ k_) ∧ some k_ ≠ (q9 : Value).ownBlock)) (by (with_reducible repeat (first | apply Kd.R_alloc | apply Kd.R_drewN | apply Kd.R_drew)); exact Kd.R_mono q0.out (fun _ hk => ⟨⟨hk.1,hk.2.1⟩,hk.2.2⟩)) hg (.inl rfl)); have n3_:=I (blk_grown (g:=q8) (o:=.cells #[.int .i64 a0_0,.slice (some s3) l0_1.length c0_1] 34 (0,0)) (by (with_reducible repeat (first | refine blk_drewN ?_ _ | refine blk_drew ?_ | refine blk_alloc ?_ _)); exact p9.out) hg (Kd.R_ne p4.out p9.out (by decide))); have n4_:=I (blk_grown (g:=p8) (o:=.cells #[.int .i64 ((rd_T58 l0_1 p0).f0),.int .i64 ((rd_T58 l0_1 p0).f1),.int .i64 ((rd_T58 l0_1 p0).f2),.int .i64 ((rd_T58 l0_1 p0).f3),.int .i64 ((rd_T58 l0_1 p0).f4)] 58 (0,0)) (by (with_reducible repeat (first | refine blk_drewN ?_ _ | refine blk_drew ?_ | refine blk_alloc ?_ _)); exact p3.out) hg (Kd.R_ne p4.out p3.out (by decide))); have n5_:=I ((by rw [hw]; exact below_set (HB.out) GB58.out : Below w0.heap.size w0 w106)); have n6_:=I (Kept.of_grown (S:=(fun k_ => P1_ k_)) hg (by repeat (first | (with_reducible first | exact HK.out | apply Kept.alloc | apply Kept.drewN | apply Kept.drew | refine Kept.setCell ?_ (.inr q4.out) _ | refine Kept.setCell ?_ (.inr r6.out) _) | exact HK.out)) (fun k_ e_ => (p4.out.1 k_ e_).1)); clear HO_1; clear p4; clear q0; clear p9; clear p3; clear HB; clear HK; have HO_1:=n0_; have p4:=n1_; have q0:=n2_; have p9:=n3_; have p3:=n4_; have HB:=n5_; have HK:=n6_; clear n0_ n1_ n2_ n3_ n4_ n5_ n6_; clear hg hw hp_; have n5 : w106.cell? ⟨p8,0,none⟩ = some (.int .i64 ((rd_T58 l0_1 p0).f0)):=(blk_cell p3.out 0).trans rfl; have n6 : w106.cell? ⟨p8,1,none⟩ = some (.int .i64 ((rd_T58 l0_1 p0).f1)):=(blk_cell p3.out 1).trans rfl; have n7 : w106.cell? ⟨p8,2,none⟩ = some (.int .i64 ((rd_T58 l0_1 p0).f2)):=(blk_cell p3.out 2).trans rfl; have n8 : w106.cell? ⟨p8,3,none⟩ = some (.int .i64 ((rd_T58 l0_1 p0).f3)):=(blk_cell p3.out 3).trans rfl; have n9 : w106.cell? ⟨p8,4,none⟩ = some (.int .i64 ((rd_T58 l0_1 p0).f4)):=(blk_cell p3.out 4).trans rfl; have a5:=blk_frozen p3.out 0; have a6:=blk_frozen p3.out 1; have a7:=blk_frozen p3.out 2; have a8:=blk_frozen p3.out 3; have a9:=blk_frozen p3.out 4) | ((with_reducible refine gate_builtin (b:=.append) (xs:=#[.tmp 87,.tmp 90]) rfl ?_); at_builtin; refine Kd.R_append (Kd.int .i64) (w0:=w0) w0.heap.size rfl (.tmp 87) (.tmp 90) 23 3 (.int .i64 0) 8 rfl Try.underlying23 info3 rfl (by decide) (by omega) u12 r7 ((rd_T58 l0_1 p0).f1) [.int .i64 ((rd_T58 l0_1 p0).f1)] (fun k_ => (P1_ k_ ∨ w.heap.size ≤ k_) ∧ some k_ ≠ (q9 : Value).ownBlock ∧ some k_ ≠ (.slice (some ⟨go58,0,none⟩) q2.length co58 : Value).ownBlock) (fun _ => False) rfl rfl ?aP (fun _ hk => hk.elim) ?aF ?aO ?aB ?aS ?aL ?_; (case aP => exact rfl); (case aB => exact (by repeat (first | (with_reducible first | exact HB.out | apply below_alloc | apply pw_below_drewN | apply below_drew1 | refine below_set ?_ r0.out | refine below_set ?_ s1.out) | exact HB.out))); (case aF => exact (fun k_ hk => ⟨(.inr (Nat.le_trans (by first | exact HK.out.1 | exact (show Kept w _ (fun k_ => P1_ k_) from by repeat (first | (with_reducible first | exact HK.out | apply Kept.alloc | apply Kept.drewN | apply Kept.drew | refine Kept.setCell ?_ (.inr q4.out) _ | refine Kept.setCell ?_ (.inr r6.out) _) | exact HK.out)).1) hk)),Kd.fresh' (Kd.R_lt (by (with_reducible repeat (first | apply Kd.R_alloc | apply Kd.R_drewN | apply Kd.R_drew)); exact HO_1.out)) k_ hk,Kd.fresh' (Kd.R_lt (by (with_reducible repeat (first | apply Kd.R_alloc | apply Kd.R_drewN | apply Kd.R_drew)); exact p4.out)) k_ hk⟩)); (case aO => exact (by (with_reducible repeat (first | apply Kd.R_alloc | apply Kd.R_drewN | apply Kd.R_drew)); exact Kd.R_mono q0.out (fun _ hk => ⟨hk.1.1,⟨hk.1.2,hk.2⟩⟩))); (case aS => exact (below_size (by repeat (first | (with_reducible first | exact HB.out | apply below_alloc | apply pw_below_drewN | apply below_drew1 | refine below_set ?_ r0.out | refine below_set ?_ s1.out) | exact HB.out)))); (case aL => have:=v9.out; omega); intro v635 w108 ho hb hg hat; rw [← z0.out] at ho; have n0_:=I (Kd.R_after (ok:=(fun k_ => (P1_ k_ ∨ w.heap.size ≤ k_) ∧ some k_ ≠ (.slice (some ⟨go58,0,none⟩) q2.length co58 : Value).ownBlock)) (by (with_reducible repeat (first | apply Kd.R_alloc | apply Kd.R_drewN | apply Kd.R_drew)); exact Kd.R_mono HO_1.out (fun _ hk => ⟨⟨hk.1.1,hk.2⟩,hk.1.2⟩)) hg hat); have n1_:=I (Kd.R_after (ok:=(fun k_ => (P1_ k_ ∨ w.heap.size ≤ k_) ∧ some k_ ≠ (q9 : Value).ownBlock)) (by (with_reducible repeat (first | apply Kd.R_alloc | apply Kd.R_drewN | apply Kd.R_drew)); exact Kd.R_mono p4.out (fun _ hk => ⟨⟨hk.1,hk.2.1⟩,hk.2.2⟩)) hg hat); have n2_:=I (blk_grown (g:=q8) (o:=.cells #[.int .i64 a0_0,.slice (some s3) l0_1.length c0_1] 34 (0,0)) (by (with_reducible repeat (first | refine blk_drewN ?_ _ | refine blk_drew ?_ | refine blk_alloc ?_ _)); exact p9.out) hg (Kd.R_ne q0.out p9.out (by decide))); have n3_:=I (blk_grown (g:=p8) (o:=.cells #[.int .i64 ((rd_T58 l0_1 p0).f0),.int .i64 ((rd_T58 l0_1 p0).f1),.int .i64 ((rd_T58 l0_1 p0).f2),.int .i64 ((rd_T58 l0_1 p0).f3),.int .i64 ((rd_T58 l0_1 p0).f4)] 58 (0,0)) (by (with_reducible repeat (first | refine blk_drewN ?_ _ | refine blk_drew ?_ | refine blk_alloc ?_ _)); exact p3.out) hg (Kd.R_ne q0.out p3.out (by decide))); have n4_:=I (hb); have n5_:=I (Kept.of_grown (S:=(fun k_ => P1_ k_)) hg (by repeat (first | (with_reducible first | exact HK.out | apply Kept.alloc | apply Kept.drewN | apply Kept.drew | refine Kept.setCell ?_ (.inr q4.out) _ | refine Kept.setCell ?_ (.inr r6.out) _) | exact HK.out)) (fun k_ e_ => (q0.out.1 k_ e_).1.1)); have n6_:=I (ho); clear HO_1; clear p4; clear p9; clear p3; clear HB; clear HK; clear q0; have HO_1:=n0_; have p4:=n1_; have p9:=n2_; have p3:=n3_; have HB:=n4_; have HK:=n5_; have HO636:=n6_; clear n0_ n1_ n2_ n3_ n4_ n5_ n6_; clear ho hb hg hat; have b0 : w108.cell? ⟨p8,0,none⟩ = some (.int .i64 ((rd_T58 l0_1 p0).f0)):=(blk_cell p3.out 0).trans rfl; have b1 : w108.cell? ⟨p8,1,none⟩ = some (.int .i64 ((rd_T58 l0_1 p0).f1)):=(blk_cell p3.out 1).trans rfl; have b2 : w108.cell? ⟨p8,2,none⟩ = some (.int .i64 ((rd_T58 l0_1 p0).f2)):=(blk_cell p3.out 2).trans rfl; have b3 : w108.cell? ⟨p8,3,none⟩ = some (.int .i64 ((rd_T58 l0_1 p0).f3)):=(blk_cell p3.out 3).trans rfl; have b4 : w108.cell? ⟨p8,4,none⟩ = some (.int .i64 ((rd_T58 l0_1 p0).f4)):=(blk_cell p3.out 4).trans rfl; have b5:=blk_frozen p3.out 0; have b6:=blk_frozen p3.out 1; have b7:=blk_frozen p3.out 2; have b8:=blk_frozen p3.out 3; have b9:=blk_frozen p3.out 4; obtain ⟨Ao110,co110,eo110⟩:=Kd.R_slice HO636.out; subst eo110; have p637 : 0 ≤ (q3 : Int):=of_decide_eq_true (by first | (with_reducible assumption) | assumption); have q637 : q3 < (y634.length : Int):=of_decide_eq_true (by first | (with_reducible assumption) | assumption); obtain ⟨t4,e637,t7⟩:=Kd.at_int (Kd.R_reads' HO636.out).2.2 q3 p637 q637; cases e637; replace p637:=eq_true p637; replace q637:=eq_true q637; obtain ⟨Ao111,co111,eo111⟩:=Kd.R_slice HO_1.out; subst eo111; have p638 : 0 ≤ (p0 : Int):=of_decide_eq_true (by first | (with_reducible assumption) | assumption); have q638 : p0 < (l1.length : Int):=of_decide_eq_true (by first | (with_reducible assumption) | assumption); obtain ⟨t5,e638,u7⟩:=Kd.at_int (Kd.R_reads' HO_1.out).2.2 p0 p638 q638; cases e638; replace p638:=eq_true p638; replace q638:=eq_true q638))
          repeat (go_quiet (fail); try go_wp2)
          go_roundg kj24
          case measure => have:=HK1.out; have:=HK2.out; have:=HK3.out; have:=HJ24.out; omega
          case rel => exact ⟨(y633),(y634),(wrap64 (p0 + 1)),(by first | rfl | (simp; done) | (simp [*]; done)),H',⟨by have:=HK1.out; have:=HK2.out; have:=HK3.out; have:=HJ24.out; omega⟩,⟨by (with_reducible repeat (first | apply Kd.R_alloc | apply Kd.R_drewN | apply Kd.R_drew)); exact Kd.R_mono HO_1.out (fun _ hk => ⟨hk.1.1,⟨hk.1.2,hk.2⟩⟩)⟩,⟨by (with_reducible repeat (first | apply Kd.R_alloc | apply Kd.R_drewN | apply Kd.R_drew)); exact Kd.R_mono p4.out (fun _ hk => ⟨hk.1.1,⟨hk.1.2,hk.2⟩⟩)⟩,⟨by (with_reducible repeat (first | apply Kd.R_alloc | apply Kd.R_drewN | apply Kd.R_drew)); exact HO636.out⟩,⟨by (with_reducible repeat (first | refine blk_drewN ?_ _ | refine blk_drew ?_ | refine blk_alloc ?_ _)); exact p9.out⟩,⟨by repeat (first | (with_reducible first | exact HK.out | apply Kept.alloc | apply Kept.drewN | apply Kept.drew | refine Kept.setCell ?_ (.inr q4.out) _ | refine Kept.setCell ?_ (.inr r6.out) _) | exact HK.out)⟩,⟨by repeat (first | (with_reducible first | exact HB.out | apply below_alloc | apply pw_below_drewN | apply below_drew1 | refine below_set ?_ r0.out | refine below_set ?_ s1.out) | exact HB.out)⟩⟩
         rw [if_pos c65] at H;have c65b0 : decide (0 < (rd l1 p0)) = true:=decide_eq_true c65;clear c65
         by_cases c66 : 0 ≤ ((rd_T58 l0_1 p0).f0)
         case neg =>
          rw [if_neg c66] at H;exact absurd H (by simp)
         rw [if_pos c66] at H;have c66b0 : decide (0 ≤ ((rd_T58 l0_1 p0).f0)) = true:=decide_eq_true c66;clear c66
         by_cases c67 : ((rd_T58 l0_1 p0).f0) < (q2.length : Int)
         case neg =>
          rw [if_neg c67] at H;exact absurd H (by simp)
         rw [if_pos c67] at H;have c67b0 : decide (((rd_T58 l0_1 p0).f0) < (q2.length : Int)) = true:=decide_eq_true c67;clear c67
         by_cases c68 : (rd y633 ((rd_T58 l0_1 p0).f0)) = 0
         case neg =>
          rw [if_neg c68] at H;have c68b0 : ((rd y633 ((rd_T58 l0_1 p0).f0)) == 0) = false:=beq_eq_false_iff_ne.mpr c68;have c68b1 : ((rd y633 ((rd_T58 l0_1 p0).f0)) != 0) = true:=bne_iff_ne.mpr c68;have H':=I H;clear H;have hnb94:=s5.out;have hnc94:=r4.out;have W2 : wc.cell? ⟨p8,0,none⟩ = some (.int .i64 ((rd_T58 l0_1 p0).f0)):=(blk_cell p3.out 0).trans rfl;have W3 : wc.cell? ⟨p8,1,none⟩ = some (.int .i64 ((rd_T58 l0_1 p0).f1)):=(blk_cell p3.out 1).trans rfl;have W4 : wc.cell? ⟨p8,2,none⟩ = some (.int .i64 ((rd_T58 l0_1 p0).f2)):=(blk_cell p3.out 2).trans rfl;have W5 : wc.cell? ⟨p8,3,none⟩ = some (.int .i64 ((rd_T58 l0_1 p0).f3)):=(blk_cell p3.out 3).trans rfl;have W6 : wc.cell? ⟨p8,4,none⟩ = some (.int .i64 ((rd_T58 l0_1 p0).f4)):=(blk_cell p3.out 4).trans rfl;have W7:=blk_frozen p3.out 0;have W8:=blk_frozen p3.out 1;have W9:=blk_frozen p3.out 2;have X0:=blk_frozen p3.out 3;have X1:=blk_frozen p3.out 4;have p58 : 0 ≤ (((rd_T58 l0_1 p0).f1) : Int):=of_decide_eq_true (by first | (with_reducible assumption) | assumption);have q58 : (((rd_T58 l0_1 p0).f1) : Int) < ((q2.length : Int) : Int):=of_decide_eq_true (by first | (with_reducible assumption) | assumption);obtain ⟨go58,co58,eo58,gb58,gl58,cl58,HG58⟩:=Kd.R_form p4.out (by omega)
          (first | cases eo58 | (injection eo58 with ea_ en_ ec_; (first | subst ea_ | (injection ea_ with ea_; subst ea_)); subst ec_; clear en_))
          have GB58:=I gb58;have GG58:=I HG58;clear gb58 gl58 HG58;have HMgo58:=I (show (P1_ go58 ∨ w.heap.size ≤ go58) from (p4.out.1 _ rfl).1);obtain ⟨t3,hf58_0⟩:=Kd.R_celln 0 p4.out (((rd_T58 l0_1 p0).f1) : Int) p58 q58;replace p58:=eq_true p58;replace q58:=eq_true q58;have HP96:=Kd.R_putg p4.out (((rd_T58 l0_1 p0).f1) : Int) (wrap64 (p0 + 1))
          go_wp2_with (first | ((with_reducible refine gate_store (t:=3) (p:=86) rfl ?_); (try (rw [drewN_self wc]; generalize hq_ : World.drewN wc _ = wc; have n0_:=I (Kd.R_at hq_ HO_1.out); have n1_:=I (Kd.R_at hq_ p4.out); have n2_:=I (Kd.R_at hq_ q0.out); have n3_:=I (blk_at hq_ p9.out); have n4_:=I (blk_at hq_ p3.out); have n5_:=I (kept_at hq_ HK.out); have n6_:=I (below_at hq_ HB.out); clear hq_ HO_1 p4 q0 p9 p3 HK HB; have HO_1:=n0_; have p4:=n1_; have q0:=n2_; have p9:=n3_; have p3:=n4_; have HK:=n5_; have HB:=n6_; clear n0_ n1_ n2_ n3_ n4_ n5_ n6_; (try (have HP96:=Kd.R_putg p4.out (((rd_T58 l0_1 p0).f1) : Int) (wrap64 (p0 + 1)))); (try (obtain ⟨t3,hf58_0⟩:=Kd.R_celln 0 p4.out (((rd_T58 l0_1 p0).f1) : Int) (of_eq_true p58) (of_eq_true q58))))); refine store_event (t:=3) (p:=86) (v:=?vo_w97) (w1:=(wc.setCell ⟨go58,(((rd_T58 l0_1 p0).f1) : Int).toNat,none⟩ (.int .i64 (wrap64 (p0 + 1))))) ?hg ?ho ?hn ?hr ?_; (case ho => rfl); (case hg => rfl); (case hn => rfl); (case hr => first | (go_simp; done) | (go_simp; rfl)); intro w97 hw; have hg : wc.grownBy w97 (some go58):=(by rw [hw]; exact HP96.2); have hp_ : Kd.R (Kd.int .i64) 3 w97 w0.heap.size (fun k_ => (P1_ k_ ∨ w.heap.size ≤ k_) ∧ some k_ ≠ (q9 : Value).ownBlock ∧ some k_ ≠ (u12 : Value).ownBlock) (.slice (some ⟨go58,0,none⟩) q2.length co58) y633:=(by rw [hw,u4.out]; exact HP96.1); clear HP96; have n0_:=I (Kd.R_after (v:=(.slice (some ⟨go58,0,none⟩) q2.length co58)) (v1:=(.slice (some ⟨go58,0,none⟩) q2.length co58)) (ok:=(fun k_ => (P1_ k_ ∨ w.heap.size ≤ k_) ∧ some k_ ≠ (u12 : Value).ownBlock)) (by (with_reducible repeat (first | apply Kd.R_alloc | apply Kd.R_drewN | apply Kd.R_drew)); exact Kd.R_mono HO_1.out (fun _ hk => ⟨⟨hk.1,hk.2.2⟩,hk.2.1⟩)) hg (.inl rfl)); have n1_:=I (hp_); have n2_:=I (Kd.R_after (v:=(.slice (some ⟨go58,0,none⟩) q2.length co58)) (v1:=(.slice (some ⟨go58,0,none⟩) q2.length co58)) (ok:=(fun k_ => (P1_ k_ ∨ w.heap.size ≤ k_) ∧ some k_ ≠ (q9 : Value).ownBlock)) (by (with_reducible repeat (first | apply Kd.R_alloc | apply Kd.R_drewN | apply Kd.R_drew)); exact Kd.R_mono q0.out (fun _ hk => ⟨⟨hk.1,hk.2.1⟩,hk.2.2⟩)) hg (.inl rfl)); have n3_:=I (blk_grown (g:=q8) (o:=.cells #[.int .i64 a0_0,.slice (some s3) l0_1.length c0_1] 34 (0,0)) (by (with_reducible repeat (first | refine blk_drewN ?_ _ | refine blk_drew ?_ | refine blk_alloc ?_ _)); exact p9.out) hg (Kd.R_ne p4.out p9.out (by decide))); have n4_:=I (blk_grown (g:=p8) (o:=.cells #[.int .i64 ((rd_T58 l0_1 p0).f0),.int .i64 ((rd_T58 l0_1 p0).f1),.int .i64 ((rd_T58 l0_1 p0).f2),.int .i64 ((rd_T58 l0_1 p0).f3),.int .i64 ((rd_T58 l0_1 p0).f4)] 58 (0,0)) (by (with_reducible repeat (first | refine blk_drewN ?_ _ | refine blk_drew ?_ | refine blk_alloc ?_ _)); exact p3.out) hg (Kd.R_ne p4.out p3.out (by decide))); have n5_:=I ((by rw [hw]; exact below_set (HB.out) GB58.out : Below w0.heap.size w0 w97)); have n6_:=I (Kept.of_grown (S:=(fun k_ => P1_ k_)) hg (by repeat (first | (with_reducible first | exact HK.out | apply Kept.alloc | apply Kept.drewN | apply Kept.drew | refine Kept.setCell ?_ (.inr q4.out) _ | refine Kept.setCell ?_ (.inr r6.out) _) | exact HK.out)) (fun k_ e_ => (p4.out.1 k_ e_).1)); clear HO_1; clear p4; clear q0; clear p9; clear p3; clear HB; clear HK; have HO_1:=n0_; have p4:=n1_; have q0:=n2_; have p9:=n3_; have p3:=n4_; have HB:=n5_; have HK:=n6_; clear n0_ n1_ n2_ n3_ n4_ n5_ n6_; clear hg hw hp_; have D4 : w97.cell? ⟨p8,0,none⟩ = some (.int .i64 ((rd_T58 l0_1 p0).f0)):=(blk_cell p3.out 0).trans rfl; have D5 : w97.cell? ⟨p8,1,none⟩ = some (.int .i64 ((rd_T58 l0_1 p0).f1)):=(blk_cell p3.out 1).trans rfl; have D6 : w97.cell? ⟨p8,2,none⟩ = some (.int .i64 ((rd_T58 l0_1 p0).f2)):=(blk_cell p3.out 2).trans rfl; have D7 : w97.cell? ⟨p8,3,none⟩ = some (.int .i64 ((rd_T58 l0_1 p0).f3)):=(blk_cell p3.out 3).trans rfl; have D8 : w97.cell? ⟨p8,4,none⟩ = some (.int .i64 ((rd_T58 l0_1 p0).f4)):=(blk_cell p3.out 4).trans rfl; have D9:=blk_frozen p3.out 0; have E0:=blk_frozen p3.out 1; have E1:=blk_frozen p3.out 2; have E2:=blk_frozen p3.out 3; have E3:=blk_frozen p3.out 4) | ((with_reducible refine gate_builtin (b:=.append) (xs:=#[.tmp 87,.tmp 90]) rfl ?_); at_builtin; refine Kd.R_append (Kd.int .i64) (w0:=w0) w0.heap.size rfl (.tmp 87) (.tmp 90) 23 3 (.int .i64 0) 8 rfl Try.underlying23 info3 rfl (by decide) (by omega) u12 r7 ((rd_T58 l0_1 p0).f1) [.int .i64 ((rd_T58 l0_1 p0).f1)] (fun k_ => (P1_ k_ ∨ w.heap.size ≤ k_) ∧ some k_ ≠ (q9 : Value).ownBlock ∧ some k_ ≠ (.slice (some ⟨go58,0,none⟩) q2.length co58 : Value).ownBlock) (fun _ => False) rfl rfl ?aP (fun _ hk => hk.elim) ?aF ?aO ?aB ?aS ?aL ?_; (case aP => exact rfl); (case aB => exact (by repeat (first | (with_reducible first | exact HB.out | apply below_alloc | apply pw_below_drewN | apply below_drew1 | refine below_set ?_ r0.out | refine below_set ?_ s1.out) | exact HB.out))); (case aF => exact (fun k_ hk => ⟨(.inr (Nat.le_trans (by first | exact HK.out.1 | exact (show Kept w _ (fun k_ => P1_ k_) from by repeat (first | (with_reducible first | exact HK.out | apply Kept.alloc | apply Kept.drewN | apply Kept.drew | refine Kept.setCell ?_ (.inr q4.out) _ | refine Kept.setCell ?_ (.inr r6.out) _) | exact HK.out)).1) hk)),Kd.fresh' (Kd.R_lt (by (with_reducible repeat (first | apply Kd.R_alloc | apply Kd.R_drewN | apply Kd.R_drew)); exact HO_1.out)) k_ hk,Kd.fresh' (Kd.R_lt (by (with_reducible repeat (first | apply Kd.R_alloc | apply Kd.R_drewN | apply Kd.R_drew)); exact p4.out)) k_ hk⟩)); (case aO => exact (by (with_reducible repeat (first | apply Kd.R_alloc | apply Kd.R_drewN | apply Kd.R_drew)); exact Kd.R_mono q0.out (fun _ hk => ⟨hk.1.1,⟨hk.1.2,hk.2⟩⟩))); (case aS => exact (below_size (by repeat (first | (with_reducible first | exact HB.out | apply below_alloc | apply pw_below_drewN | apply below_drew1 | refine below_set ?_ r0.out | refine below_set ?_ s1.out) | exact HB.out)))); (case aL => have:=v9.out; omega); intro v635 w99 ho hb hg hat; rw [← z0.out] at ho; have n0_:=I (Kd.R_after (ok:=(fun k_ => (P1_ k_ ∨ w.heap.size ≤ k_) ∧ some k_ ≠ (.slice (some ⟨go58,0,none⟩) q2.length co58 : Value).ownBlock)) (by (with_reducible repeat (first | apply Kd.R_alloc | apply Kd.R_drewN | apply Kd.R_drew)); exact Kd.R_mono HO_1.out (fun _ hk => ⟨⟨hk.1.1,hk.2⟩,hk.1.2⟩)) hg hat); have n1_:=I (Kd.R_after (ok:=(fun k_ => (P1_ k_ ∨ w.heap.size ≤ k_) ∧ some k_ ≠ (q9 : Value).ownBlock)) (by (with_reducible repeat (first | apply Kd.R_alloc | apply Kd.R_drewN | apply Kd.R_drew)); exact Kd.R_mono p4.out (fun _ hk => ⟨⟨hk.1,hk.2.1⟩,hk.2.2⟩)) hg hat); have n2_:=I (blk_grown (g:=q8) (o:=.cells #[.int .i64 a0_0,.slice (some s3) l0_1.length c0_1] 34 (0,0)) (by (with_reducible repeat (first | refine blk_drewN ?_ _ | refine blk_drew ?_ | refine blk_alloc ?_ _)); exact p9.out) hg (Kd.R_ne q0.out p9.out (by decide))); have n3_:=I (blk_grown (g:=p8) (o:=.cells #[.int .i64 ((rd_T58 l0_1 p0).f0),.int .i64 ((rd_T58 l0_1 p0).f1),.int .i64 ((rd_T58 l0_1 p0).f2),.int .i64 ((rd_T58 l0_1 p0).f3),.int .i64 ((rd_T58 l0_1 p0).f4)] 58 (0,0)) (by (with_reducible repeat (first | refine blk_drewN ?_ _ | refine blk_drew ?_ | refine blk_alloc ?_ _)); exact p3.out) hg (Kd.R_ne q0.out p3.out (by decide))); have n4_:=I (hb); have n5_:=I (Kept.of_grown (S:=(fun k_ => P1_ k_)) hg (by repeat (first | (with_reducible first | exact HK.out | apply Kept.alloc | apply Kept.drewN | apply Kept.drew | refine Kept.setCell ?_ (.inr q4.out) _ | refine Kept.setCell ?_ (.inr r6.out) _) | exact HK.out)) (fun k_ e_ => (q0.out.1 k_ e_).1.1)); have n6_:=I (ho); clear HO_1; clear p4; clear p9; clear p3; clear HB; clear HK; clear q0; have HO_1:=n0_; have p4:=n1_; have p9:=n2_; have p3:=n3_; have HB:=n4_; have HK:=n5_; have HO636:=n6_; clear n0_ n1_ n2_ n3_ n4_ n5_ n6_; clear ho hb hg hat; have m5 : w99.cell? ⟨p8,0,none⟩ = some (.int .i64 ((rd_T58 l0_1 p0).f0)):=(blk_cell p3.out 0).trans rfl; have m6 : w99.cell? ⟨p8,1,none⟩ = some (.int .i64 ((rd_T58 l0_1 p0).f1)):=(blk_cell p3.out 1).trans rfl; have m7 : w99.cell? ⟨p8,2,none⟩ = some (.int .i64 ((rd_T58 l0_1 p0).f2)):=(blk_cell p3.out 2).trans rfl; have m8 : w99.cell? ⟨p8,3,none⟩ = some (.int .i64 ((rd_T58 l0_1 p0).f3)):=(blk_cell p3.out 3).trans rfl; have m9 : w99.cell? ⟨p8,4,none⟩ = some (.int .i64 ((rd_T58 l0_1 p0).f4)):=(blk_cell p3.out 4).trans rfl; have n0:=blk_frozen p3.out 0; have n1:=blk_frozen p3.out 1; have n2:=blk_frozen p3.out 2; have n3:=blk_frozen p3.out 3; have n4:=blk_frozen p3.out 4; obtain ⟨Ao101,co101,eo101⟩:=Kd.R_slice HO636.out; subst eo101; have p637 : 0 ≤ (q3 : Int):=of_decide_eq_true (by first | (with_reducible assumption) | assumption); have q637 : q3 < (y634.length : Int):=of_decide_eq_true (by first | (with_reducible assumption) | assumption); obtain ⟨t4,e637,t7⟩:=Kd.at_int (Kd.R_reads' HO636.out).2.2 q3 p637 q637; cases e637; replace p637:=eq_true p637; replace q637:=eq_true q637; obtain ⟨Ao102,co102,eo102⟩:=Kd.R_slice HO_1.out; subst eo102; have p638 : 0 ≤ (p0 : Int):=of_decide_eq_true (by first | (with_reducible assumption) | assumption); have q638 : p0 < (l1.length : Int):=of_decide_eq_true (by first | (with_reducible assumption) | assumption); obtain ⟨t5,e638,u7⟩:=Kd.at_int (Kd.R_reads' HO_1.out).2.2 p0 p638 q638; cases e638; replace p638:=eq_true p638; replace q638:=eq_true q638; have p639 : 0 ≤ (((rd_T58 l0_1 p0).f0) : Int):=of_decide_eq_true (by first | (with_reducible assumption) | assumption); have q639 : ((rd_T58 l0_1 p0).f0) < (y633.length : Int):=(by have h_ : (((rd_T58 l0_1 p0).f0) : Int) < ((q2.length : Int) : Int):=of_decide_eq_true (by first | (with_reducible assumption) | assumption); first | (have e_:=(Kd.R_reads' p4.out).1; omega) | simpa only [u4.out,List.length_set] using h_); have ql639 : ((((rd_T58 l0_1 p0).f0) : Int) < ((q2.length : Int) : Int)) = True:=eq_true (of_decide_eq_true (by first | (with_reducible assumption) | assumption)); obtain ⟨v2,e639,s0⟩:=Kd.at_int (Kd.R_reads' p4.out).2.2 ((rd_T58 l0_1 p0).f0) p639 q639; obtain rfl : (⟨go58,0,none⟩ : Addr) = v2:=(by injection e639); (first | simp only [add_plain] at s0 | simp only [add_at] at s0 | simp only [Addr.add,Nat.zero_add] at s0 | skip); replace p639:=eq_true p639; replace q639:=eq_true q639))
          repeat (go_quiet (fail); try go_wp2)
          go_roundg kj24
          case measure => have:=HK1.out; have:=HK2.out; have:=HK3.out; have:=HJ24.out; omega
          case rel => exact ⟨(y633),(y634),(wrap64 (p0 + 1)),(by first | rfl | (simp; done) | (simp [*]; done)),H',⟨by have:=HK1.out; have:=HK2.out; have:=HK3.out; have:=HJ24.out; omega⟩,⟨by (with_reducible repeat (first | apply Kd.R_alloc | apply Kd.R_drewN | apply Kd.R_drew)); exact Kd.R_mono HO_1.out (fun _ hk => ⟨hk.1.1,⟨hk.1.2,hk.2⟩⟩)⟩,⟨by (with_reducible repeat (first | apply Kd.R_alloc | apply Kd.R_drewN | apply Kd.R_drew)); exact Kd.R_mono p4.out (fun _ hk => ⟨hk.1.1,⟨hk.1.2,hk.2⟩⟩)⟩,⟨by (with_reducible repeat (first | apply Kd.R_alloc | apply Kd.R_drewN | apply Kd.R_drew)); exact HO636.out⟩,⟨by (with_reducible repeat (first | refine blk_drewN ?_ _ | refine blk_drew ?_ | refine blk_alloc ?_ _)); exact p9.out⟩,⟨by repeat (first | (with_reducible first | exact HK.out | apply Kept.alloc | apply Kept.drewN | apply Kept.drew | refine Kept.setCell ?_ (.inr q4.out) _ | refine Kept.setCell ?_ (.inr r6.out) _) | exact HK.out)⟩,⟨by repeat (first | (with_reducible first | exact HB.out | apply below_alloc | apply pw_below_drewN | apply below_drew1 | refine below_set ?_ r0.out | refine below_set ?_ s1.out) | exact HB.out)⟩⟩
         rw [if_pos c68] at H;have c68b0 : ((rd y633 ((rd_T58 l0_1 p0).f0)) == 0) = true:=beq_iff_eq.mpr c68;have c68b1 : ((rd y633 ((rd_T58 l0_1 p0).f0)) != 0) = false:=bne_eq_false_iff_eq.mpr c68;clear c68
         by_cases c69 : ((rd_T58 l0_1 p0).f0) = a2
         case pos =>
          rw [if_pos c69] at H;have c69b0 : (((rd_T58 l0_1 p0).f0) == a2) = true:=beq_iff_eq.mpr c69;have c69b1 : (((rd_T58 l0_1 p0).f0) != a2) = false:=bne_eq_false_iff_eq.mpr c69;clear c69;have H':=I H;clear H;have hnb70:=s5.out;have hnc70:=r4.out;have U2 : wc.cell? ⟨p8,0,none⟩ = some (.int .i64 ((rd_T58 l0_1 p0).f0)):=(blk_cell p3.out 0).trans rfl;have U3 : wc.cell? ⟨p8,1,none⟩ = some (.int .i64 ((rd_T58 l0_1 p0).f1)):=(blk_cell p3.out 1).trans rfl;have U4 : wc.cell? ⟨p8,2,none⟩ = some (.int .i64 ((rd_T58 l0_1 p0).f2)):=(blk_cell p3.out 2).trans rfl;have U5 : wc.cell? ⟨p8,3,none⟩ = some (.int .i64 ((rd_T58 l0_1 p0).f3)):=(blk_cell p3.out 3).trans rfl;have U6 : wc.cell? ⟨p8,4,none⟩ = some (.int .i64 ((rd_T58 l0_1 p0).f4)):=(blk_cell p3.out 4).trans rfl;have U7:=blk_frozen p3.out 0;have U8:=blk_frozen p3.out 1;have U9:=blk_frozen p3.out 2;have V0:=blk_frozen p3.out 3;have V1:=blk_frozen p3.out 4;have p58 : 0 ≤ (((rd_T58 l0_1 p0).f1) : Int):=of_decide_eq_true (by first | (with_reducible assumption) | assumption);have q58 : (((rd_T58 l0_1 p0).f1) : Int) < ((q2.length : Int) : Int):=of_decide_eq_true (by first | (with_reducible assumption) | assumption);obtain ⟨go58,co58,eo58,gb58,gl58,cl58,HG58⟩:=Kd.R_form p4.out (by omega)
          (first | cases eo58 | (injection eo58 with ea_ en_ ec_; (first | subst ea_ | (injection ea_ with ea_; subst ea_)); subst ec_; clear en_))
          have GB58:=I gb58;have GG58:=I HG58;clear gb58 gl58 HG58;have HMgo58:=I (show (P1_ go58 ∨ w.heap.size ≤ go58) from (p4.out.1 _ rfl).1);obtain ⟨t3,hf58_0⟩:=Kd.R_celln 0 p4.out (((rd_T58 l0_1 p0).f1) : Int) p58 q58;replace p58:=eq_true p58;replace q58:=eq_true q58;have HP72:=Kd.R_putg p4.out (((rd_T58 l0_1 p0).f1) : Int) (wrap64 (p0 + 1))
          go_wp2_with (first | ((with_reducible refine gate_store (t:=3) (p:=86) rfl ?_); (try (rw [drewN_self wc]; generalize hq_ : World.drewN wc _ = wc; have n0_:=I (Kd.R_at hq_ HO_1.out); have n1_:=I (Kd.R_at hq_ p4.out); have n2_:=I (Kd.R_at hq_ q0.out); have n3_:=I (blk_at hq_ p9.out); have n4_:=I (blk_at hq_ p3.out); have n5_:=I (kept_at hq_ HK.out); have n6_:=I (below_at hq_ HB.out); clear hq_ HO_1 p4 q0 p9 p3 HK HB; have HO_1:=n0_; have p4:=n1_; have q0:=n2_; have p9:=n3_; have p3:=n4_; have HK:=n5_; have HB:=n6_; clear n0_ n1_ n2_ n3_ n4_ n5_ n6_; (try (have HP72:=Kd.R_putg p4.out (((rd_T58 l0_1 p0).f1) : Int) (wrap64 (p0 + 1)))); (try (obtain ⟨t3,hf58_0⟩:=Kd.R_celln 0 p4.out (((rd_T58 l0_1 p0).f1) : Int) (of_eq_true p58) (of_eq_true q58))))); refine store_event (t:=3) (p:=86) (v:=?vo_w73) (w1:=(wc.setCell ⟨go58,(((rd_T58 l0_1 p0).f1) : Int).toNat,none⟩ (.int .i64 (wrap64 (p0 + 1))))) ?hg ?ho ?hn ?hr ?_; (case ho => rfl); (case hg => rfl); (case hn => rfl); (case hr => first | (go_simp; done) | (go_simp; rfl)); intro w73 hw; have hg : wc.grownBy w73 (some go58):=(by rw [hw]; exact HP72.2); have hp_ : Kd.R (Kd.int .i64) 3 w73 w0.heap.size (fun k_ => (P1_ k_ ∨ w.heap.size ≤ k_) ∧ some k_ ≠ (q9 : Value).ownBlock ∧ some k_ ≠ (u12 : Value).ownBlock) (.slice (some ⟨go58,0,none⟩) q2.length co58) y633:=(by rw [hw,u4.out]; exact HP72.1); clear HP72; have n0_:=I (Kd.R_after (v:=(.slice (some ⟨go58,0,none⟩) q2.length co58)) (v1:=(.slice (some ⟨go58,0,none⟩) q2.length co58)) (ok:=(fun k_ => (P1_ k_ ∨ w.heap.size ≤ k_) ∧ some k_ ≠ (u12 : Value).ownBlock)) (by (with_reducible repeat (first | apply Kd.R_alloc | apply Kd.R_drewN | apply Kd.R_drew)); exact Kd.R_mono HO_1.out (fun _ hk => ⟨⟨hk.1,hk.2.2⟩,hk.2.1⟩)) hg (.inl rfl)); have n1_:=I (hp_); have n2_:=I (Kd.R_after (v:=(.slice (some ⟨go58,0,none⟩) q2.length co58)) (v1:=(.slice (some ⟨go58,0,none⟩) q2.length co58)) (ok:=(fun k_ => (P1_ k_ ∨ w.heap.size ≤ k_) ∧ some k_ ≠ (q9 : Value).ownBlock)) (by (with_reducible repeat (first | apply Kd.R_alloc | apply Kd.R_drewN | apply Kd.R_drew)); exact Kd.R_mono q0.out (fun _ hk => ⟨⟨hk.1,hk.2.1⟩,hk.2.2⟩)) hg (.inl rfl)); have n3_:=I (blk_grown (g:=q8) (o:=.cells #[.int .i64 a0_0,.slice (some s3) l0_1.length c0_1] 34 (0,0)) (by (with_reducible repeat (first | refine blk_drewN ?_ _ | refine blk_drew ?_ | refine blk_alloc ?_ _)); exact p9.out) hg (Kd.R_ne p4.out p9.out (by decide))); have n4_:=I (blk_grown (g:=p8) (o:=.cells #[.int .i64 ((rd_T58 l0_1 p0).f0),.int .i64 ((rd_T58 l0_1 p0).f1),.int .i64 ((rd_T58 l0_1 p0).f2),.int .i64 ((rd_T58 l0_1 p0).f3),.int .i64 ((rd_T58 l0_1 p0).f4)] 58 (0,0)) (by (with_reducible repeat (first | refine blk_drewN ?_ _ | refine blk_drew ?_ | refine blk_alloc ?_ _)); exact p3.out) hg (Kd.R_ne p4.out p3.out (by decide))); have n5_:=I ((by rw [hw]; exact below_set (HB.out) GB58.out : Below w0.heap.size w0 w73)); have n6_:=I (Kept.of_grown (S:=(fun k_ => P1_ k_)) hg (by repeat (first | (with_reducible first | exact HK.out | apply Kept.alloc | apply Kept.drewN | apply Kept.drew | refine Kept.setCell ?_ (.inr q4.out) _ | refine Kept.setCell ?_ (.inr r6.out) _) | exact HK.out)) (fun k_ e_ => (p4.out.1 k_ e_).1)); clear HO_1; clear p4; clear q0; clear p9; clear p3; clear HB; clear HK; have HO_1:=n0_; have p4:=n1_; have q0:=n2_; have p9:=n3_; have p3:=n4_; have HB:=n5_; have HK:=n6_; clear n0_ n1_ n2_ n3_ n4_ n5_ n6_; clear hg hw hp_; have l4 : w73.cell? ⟨p8,0,none⟩ = some (.int .i64 ((rd_T58 l0_1 p0).f0)):=(blk_cell p3.out 0).trans rfl; have l5 : w73.cell? ⟨p8,1,none⟩ = some (.int .i64 ((rd_T58 l0_1 p0).f1)):=(blk_cell p3.out 1).trans rfl; have l6 : w73.cell? ⟨p8,2,none⟩ = some (.int .i64 ((rd_T58 l0_1 p0).f2)):=(blk_cell p3.out 2).trans rfl; have l7 : w73.cell? ⟨p8,3,none⟩ = some (.int .i64 ((rd_T58 l0_1 p0).f3)):=(blk_cell p3.out 3).trans rfl; have l8 : w73.cell? ⟨p8,4,none⟩ = some (.int .i64 ((rd_T58 l0_1 p0).f4)):=(blk_cell p3.out 4).trans rfl; have l9:=blk_frozen p3.out 0; have o0:=blk_frozen p3.out 1; have o1:=blk_frozen p3.out 2; have o2:=blk_frozen p3.out 3; have o3:=blk_frozen p3.out 4) | ((with_reducible refine gate_builtin (b:=.append) (xs:=#[.tmp 87,.tmp 90]) rfl ?_); at_builtin; refine Kd.R_append (Kd.int .i64) (w0:=w0) w0.heap.size rfl (.tmp 87) (.tmp 90) 23 3 (.int .i64 0) 8 rfl Try.underlying23 info3 rfl (by decide) (by omega) u12 r7 ((rd_T58 l0_1 p0).f1) [.int .i64 ((rd_T58 l0_1 p0).f1)] (fun k_ => (P1_ k_ ∨ w.heap.size ≤ k_) ∧ some k_ ≠ (q9 : Value).ownBlock ∧ some k_ ≠ (.slice (some ⟨go58,0,none⟩) q2.length co58 : Value).ownBlock) (fun _ => False) rfl rfl ?aP (fun _ hk => hk.elim) ?aF ?aO ?aB ?aS ?aL ?_; (case aP => exact rfl); (case aB => exact (by repeat (first | (with_reducible first | exact HB.out | apply below_alloc | apply pw_below_drewN | apply below_drew1 | refine below_set ?_ r0.out | refine below_set ?_ s1.out) | exact HB.out))); (case aF => exact (fun k_ hk => ⟨(.inr (Nat.le_trans (by first | exact HK.out.1 | exact (show Kept w _ (fun k_ => P1_ k_) from by repeat (first | (with_reducible first | exact HK.out | apply Kept.alloc | apply Kept.drewN | apply Kept.drew | refine Kept.setCell ?_ (.inr q4.out) _ | refine Kept.setCell ?_ (.inr r6.out) _) | exact HK.out)).1) hk)),Kd.fresh' (Kd.R_lt (by (with_reducible repeat (first | apply Kd.R_alloc | apply Kd.R_drewN | apply Kd.R_drew)); exact HO_1.out)) k_ hk,Kd.fresh' (Kd.R_lt (by (with_reducible repeat (first | apply Kd.R_alloc | apply Kd.R_drewN | apply Kd.R_drew)); exact p4.out)) k_ hk⟩)); (case aO => exact (by (with_reducible repeat (first | apply Kd.R_alloc | apply Kd.R_drewN | apply Kd.R_drew)); exact Kd.R_mono q0.out (fun _ hk => ⟨hk.1.1,⟨hk.1.2,hk.2⟩⟩))); (case aS => exact (below_size (by repeat (first | (with_reducible first | exact HB.out | apply below_alloc | apply pw_below_drewN | apply below_drew1 | refine below_set ?_ r0.out | refine below_set ?_ s1.out) | exact HB.out)))); (case aL => have:=v9.out; omega); intro v635 w75 ho hb hg hat; rw [← z0.out] at ho; have n0_:=I (Kd.R_after (ok:=(fun k_ => (P1_ k_ ∨ w.heap.size ≤ k_) ∧ some k_ ≠ (.slice (some ⟨go58,0,none⟩) q2.length co58 : Value).ownBlock)) (by (with_reducible repeat (first | apply Kd.R_alloc | apply Kd.R_drewN | apply Kd.R_drew)); exact Kd.R_mono HO_1.out (fun _ hk => ⟨⟨hk.1.1,hk.2⟩,hk.1.2⟩)) hg hat); have n1_:=I (Kd.R_after (ok:=(fun k_ => (P1_ k_ ∨ w.heap.size ≤ k_) ∧ some k_ ≠ (q9 : Value).ownBlock)) (by (with_reducible repeat (first | apply Kd.R_alloc | apply Kd.R_drewN | apply Kd.R_drew)); exact Kd.R_mono p4.out (fun _ hk => ⟨⟨hk.1,hk.2.1⟩,hk.2.2⟩)) hg hat); have n2_:=I (blk_grown (g:=q8) (o:=.cells #[.int .i64 a0_0,.slice (some s3) l0_1.length c0_1] 34 (0,0)) (by (with_reducible repeat (first | refine blk_drewN ?_ _ | refine blk_drew ?_ | refine blk_alloc ?_ _)); exact p9.out) hg (Kd.R_ne q0.out p9.out (by decide))); have n3_:=I (blk_grown (g:=p8) (o:=.cells #[.int .i64 ((rd_T58 l0_1 p0).f0),.int .i64 ((rd_T58 l0_1 p0).f1),.int .i64 ((rd_T58 l0_1 p0).f2),.int .i64 ((rd_T58 l0_1 p0).f3),.int .i64 ((rd_T58 l0_1 p0).f4)] 58 (0,0)) (by (with_reducible repeat (first | refine blk_drewN ?_ _ | refine blk_drew ?_ | refine blk_alloc ?_ _)); exact p3.out) hg (Kd.R_ne q0.out p3.out (by decide))); have n4_:=I (hb); have n5_:=I (Kept.of_grown (S:=(fun k_ => P1_ k_)) hg (by repeat (first | (with_reducible first | exact HK.out | apply Kept.alloc | apply Kept.drewN | apply Kept.drew | refine Kept.setCell ?_ (.inr q4.out) _ | refine Kept.setCell ?_ (.inr r6.out) _) | exact HK.out)) (fun k_ e_ => (q0.out.1 k_ e_).1.1)); have n6_:=I (ho); clear HO_1; clear p4; clear p9; clear p3; clear HB; clear HK; clear q0; have HO_1:=n0_; have p4:=n1_; have p9:=n2_; have p3:=n3_; have HB:=n4_; have HK:=n5_; have HO636:=n6_; clear n0_ n1_ n2_ n3_ n4_ n5_ n6_; clear ho hb hg hat; have o4 : w75.cell? ⟨p8,0,none⟩ = some (.int .i64 ((rd_T58 l0_1 p0).f0)):=(blk_cell p3.out 0).trans rfl; have o5 : w75.cell? ⟨p8,1,none⟩ = some (.int .i64 ((rd_T58 l0_1 p0).f1)):=(blk_cell p3.out 1).trans rfl; have o6 : w75.cell? ⟨p8,2,none⟩ = some (.int .i64 ((rd_T58 l0_1 p0).f2)):=(blk_cell p3.out 2).trans rfl; have o7 : w75.cell? ⟨p8,3,none⟩ = some (.int .i64 ((rd_T58 l0_1 p0).f3)):=(blk_cell p3.out 3).trans rfl; have o8 : w75.cell? ⟨p8,4,none⟩ = some (.int .i64 ((rd_T58 l0_1 p0).f4)):=(blk_cell p3.out 4).trans rfl; have o9:=blk_frozen p3.out 0; have A0:=blk_frozen p3.out 1; have A1:=blk_frozen p3.out 2; have A2:=blk_frozen p3.out 3; have A3:=blk_frozen p3.out 4; obtain ⟨Ao77,co77,eo77⟩:=Kd.R_slice HO636.out; subst eo77; have p637 : 0 ≤ (q3 : Int):=of_decide_eq_true (by first | (with_reducible assumption) | assumption); have q637 : q3 < (y634.length : Int):=of_decide_eq_true (by first | (with_reducible assumption) | assumption); obtain ⟨t4,e637,t7⟩:=Kd.at_int (Kd.R_reads' HO636.out).2.2 q3 p637 q637; cases e637; replace p637:=eq_true p637; replace q637:=eq_true q637; obtain ⟨Ao78,co78,eo78⟩:=Kd.R_slice HO_1.out; subst eo78; have p638 : 0 ≤ (p0 : Int):=of_decide_eq_true (by first | (with_reducible assumption) | assumption); have q638 : p0 < (l1.length : Int):=of_decide_eq_true (by first | (with_reducible assumption) | assumption); obtain ⟨t5,e638,u7⟩:=Kd.at_int (Kd.R_reads' HO_1.out).2.2 p0 p638 q638; cases e638; replace p638:=eq_true p638; replace q638:=eq_true q638; have p639 : 0 ≤ (((rd_T58 l0_1 p0).f0) : Int):=of_decide_eq_true (by first | (with_reducible assumption) | assumption); have q639 : ((rd_T58 l0_1 p0).f0) < (y633.length : Int):=(by have h_ : (((rd_T58 l0_1 p0).f0) : Int) < ((q2.length : Int) : Int):=of_decide_eq_true (by first | (with_reducible assumption) | assumption); first | (have e_:=(Kd.R_reads' p4.out).1; omega) | simpa only [u4.out,List.length_set] using h_); have ql639 : ((((rd_T58 l0_1 p0).f0) : Int) < ((q2.length : Int) : Int)) = True:=eq_true (of_decide_eq_true (by first | (with_reducible assumption) | assumption)); obtain ⟨v2,e639,s0⟩:=Kd.at_int (Kd.R_reads' p4.out).2.2 ((rd_T58 l0_1 p0).f0) p639 q639; obtain rfl : (⟨go58,0,none⟩ : Addr) = v2:=(by injection e639); (first | simp only [add_plain] at s0 | simp only [add_at] at s0 | simp only [Addr.add,Nat.zero_add] at s0 | skip); replace p639:=eq_true p639; replace q639:=eq_true q639))
          repeat (go_quiet (fail); try go_wp2)
          go_roundg kj24
          case measure => have:=HK1.out; have:=HK2.out; have:=HK3.out; have:=HJ24.out; omega
          case rel => exact ⟨(y633),(y634),(wrap64 (p0 + 1)),(by first | rfl | (simp; done) | (simp [*]; done)),H',⟨by have:=HK1.out; have:=HK2.out; have:=HK3.out; have:=HJ24.out; omega⟩,⟨by (with_reducible repeat (first | apply Kd.R_alloc | apply Kd.R_drewN | apply Kd.R_drew)); exact Kd.R_mono HO_1.out (fun _ hk => ⟨hk.1.1,⟨hk.1.2,hk.2⟩⟩)⟩,⟨by (with_reducible repeat (first | apply Kd.R_alloc | apply Kd.R_drewN | apply Kd.R_drew)); exact Kd.R_mono p4.out (fun _ hk => ⟨hk.1.1,⟨hk.1.2,hk.2⟩⟩)⟩,⟨by (with_reducible repeat (first | apply Kd.R_alloc | apply Kd.R_drewN | apply Kd.R_drew)); exact HO636.out⟩,⟨by (with_reducible repeat (first | refine blk_drewN ?_ _ | refine blk_drew ?_ | refine blk_alloc ?_ _)); exact p9.out⟩,⟨by repeat (first | (with_reducible first | exact HK.out | apply Kept.alloc | apply Kept.drewN | apply Kept.drew | refine Kept.setCell ?_ (.inr q4.out) _ | refine Kept.setCell ?_ (.inr r6.out) _) | exact HK.out)⟩,⟨by repeat (first | (with_reducible first | exact HB.out | apply below_alloc | apply pw_below_drewN | apply below_drew1 | refine below_set ?_ r0.out | refine below_set ?_ s1.out) | exact HB.out)⟩⟩
         rw [if_neg c69] at H;have c69b0 : (((rd_T58 l0_1 p0).f0) == a2) = false:=beq_eq_false_iff_ne.mpr c69;have c69b1 : (((rd_T58 l0_1 p0).f0) != a2) = true:=bne_iff_ne.mpr c69;obtain ⟨y640,hy640⟩ : ∃ y_ : List Int,y_ = (y633.set (((rd_T58 l0_1 p0).f0) : Int).toNat (wrap64 ((wrap64 (-p0)) - 1))):=⟨_,rfl⟩
         replace H : (if y634.length < 17592186044416 then (spec_l25Push.l2 kj24 l1 a2 a3 y640 (y634 ++ [((rd_T58 l0_1 p0).f0)]) q3 (wrap64 (p0 + 1)) a0_0 l0_1) else (none)) = some (r1,r2):=by first | (rw [hy640]; with_reducible exact H) | (have H2_:=(Option.bind_some _ _).symm.trans H; rw [hy640]; with_reducible exact H2_) | (have H2_:=(Option.bind_some _ _).symm.trans H; with_reducible exact H2_) | with_reducible exact H | (rw [hy640]; exact H) | exact H
         have G9:=I hy640;clear hy640
         by_cases c80 : y634.length < 17592186044416
         case neg =>
          rw [if_neg c80] at H;exact absurd H (by simp)
         rw [if_pos c80] at H;have H0:=I c80;clear c80;obtain ⟨y641,hy641⟩ : ∃ y_ : List Int,y_ = (y634 ++ [((rd_T58 l0_1 p0).f0)]):=⟨_,rfl⟩
         replace H : (spec_l25Push.l2 kj24 l1 a2 a3 y640 y641 q3 (wrap64 (p0 + 1)) a0_0 l0_1) = some (r1,r2):=by first | (rw [hy641]; with_reducible exact H) | (have H2_:=(Option.bind_some _ _).symm.trans H; rw [hy641]; with_reducible exact H2_) | (have H2_:=(Option.bind_some _ _).symm.trans H; with_reducible exact H2_) | with_reducible exact H | (rw [hy641]; exact H) | exact H
         have H2:=I hy641;clear hy641;have H':=I H;clear H;have hnb81:=s5.out;have hnc81:=r4.out;have V2 : wc.cell? ⟨p8,0,none⟩ = some (.int .i64 ((rd_T58 l0_1 p0).f0)):=(blk_cell p3.out 0).trans rfl;have V3 : wc.cell? ⟨p8,1,none⟩ = some (.int .i64 ((rd_T58 l0_1 p0).f1)):=(blk_cell p3.out 1).trans rfl;have V4 : wc.cell? ⟨p8,2,none⟩ = some (.int .i64 ((rd_T58 l0_1 p0).f2)):=(blk_cell p3.out 2).trans rfl;have V5 : wc.cell? ⟨p8,3,none⟩ = some (.int .i64 ((rd_T58 l0_1 p0).f3)):=(blk_cell p3.out 3).trans rfl;have V6 : wc.cell? ⟨p8,4,none⟩ = some (.int .i64 ((rd_T58 l0_1 p0).f4)):=(blk_cell p3.out 4).trans rfl;have V7:=blk_frozen p3.out 0;have V8:=blk_frozen p3.out 1;have V9:=blk_frozen p3.out 2;have W0:=blk_frozen p3.out 3;have W1:=blk_frozen p3.out 4;have p58 : 0 ≤ (((rd_T58 l0_1 p0).f1) : Int):=of_decide_eq_true (by first | (with_reducible assumption) | assumption);have q58 : (((rd_T58 l0_1 p0).f1) : Int) < ((q2.length : Int) : Int):=of_decide_eq_true (by first | (with_reducible assumption) | assumption);obtain ⟨go58,co58,eo58,gb58,gl58,cl58,HG58⟩:=Kd.R_form p4.out (by omega)
         (first | cases eo58 | (injection eo58 with ea_ en_ ec_; (first | subst ea_ | (injection ea_ with ea_; subst ea_)); subst ec_; clear en_))
         have GB58:=I gb58;have GG58:=I HG58;clear gb58 gl58 HG58;have HMgo58:=I (show (P1_ go58 ∨ w.heap.size ≤ go58) from (p4.out.1 _ rfl).1);obtain ⟨t3,hf58_0⟩:=Kd.R_celln 0 p4.out (((rd_T58 l0_1 p0).f1) : Int) p58 q58;replace p58:=eq_true p58;replace q58:=eq_true q58;have HP83:=Kd.R_putg p4.out (((rd_T58 l0_1 p0).f1) : Int) (wrap64 (p0 + 1))
         go_wp2_with (first | ((with_reducible refine gate_store (t:=3) (p:=86) rfl ?_); (try (rw [drewN_self wc]; generalize hq_ : World.drewN wc _ = wc; have n0_:=I (Kd.R_at hq_ HO_1.out); have n1_:=I (Kd.R_at hq_ p4.out); have n2_:=I (Kd.R_at hq_ q0.out); have n3_:=I (blk_at hq_ p9.out); have n4_:=I (blk_at hq_ p3.out); have n5_:=I (kept_at hq_ HK.out); have n6_:=I (below_at hq_ HB.out); clear hq_ HO_1 p4 q0 p9 p3 HK HB; have HO_1:=n0_; have p4:=n1_; have q0:=n2_; have p9:=n3_; have p3:=n4_; have HK:=n5_; have HB:=n6_; clear n0_ n1_ n2_ n3_ n4_ n5_ n6_; (try (have HP83:=Kd.R_putg p4.out (((rd_T58 l0_1 p0).f1) : Int) (wrap64 (p0 + 1)))); (try (obtain ⟨t3,hf58_0⟩:=Kd.R_celln 0 p4.out (((rd_T58 l0_1 p0).f1) : Int) (of_eq_true p58) (of_eq_true q58))))); refine store_event (t:=3) (p:=86) (v:=?vo_w84) (w1:=(wc.setCell ⟨go58,(((rd_T58 l0_1 p0).f1) : Int).toNat,none⟩ (.int .i64 (wrap64 (p0 + 1))))) ?hg ?ho ?hn ?hr ?_; (case ho => rfl); (case hg => rfl); (case hn => rfl); (case hr => first | (go_simp; done) | (go_simp; rfl)); intro w84 hw; have hg : wc.grownBy w84 (some go58):=(by rw [hw]; exact HP83.2); have hp_ : Kd.R (Kd.int .i64) 3 w84 w0.heap.size (fun k_ => (P1_ k_ ∨ w.heap.size ≤ k_) ∧ some k_ ≠ (q9 : Value).ownBlock ∧ some k_ ≠ (u12 : Value).ownBlock) (.slice (some ⟨go58,0,none⟩) q2.length co58) y633:=(by rw [hw,u4.out]; exact HP83.1); clear HP83; have n0_:=I (Kd.R_after (v:=(.slice (some ⟨go58,0,none⟩) q2.length co58)) (v1:=(.slice (some ⟨go58,0,none⟩) q2.length co58)) (ok:=(fun k_ => (P1_ k_ ∨ w.heap.size ≤ k_) ∧ some k_ ≠ (u12 : Value).ownBlock)) (by (with_reducible repeat (first | apply Kd.R_alloc | apply Kd.R_drewN | apply Kd.R_drew)); exact Kd.R_mono HO_1.out (fun _ hk => ⟨⟨hk.1,hk.2.2⟩,hk.2.1⟩)) hg (.inl rfl)); have n1_:=I (hp_); have n2_:=I (Kd.R_after (v:=(.slice (some ⟨go58,0,none⟩) q2.length co58)) (v1:=(.slice (some ⟨go58,0,none⟩) q2.length co58)) (ok:=(fun k_ => (P1_ k_ ∨ w.heap.size ≤ k_) ∧ some k_ ≠ (q9 : Value).ownBlock)) (by (with_reducible repeat (first | apply Kd.R_alloc | apply Kd.R_drewN | apply Kd.R_drew)); exact Kd.R_mono q0.out (fun _ hk => ⟨⟨hk.1,hk.2.1⟩,hk.2.2⟩)) hg (.inl rfl)); have n3_:=I (blk_grown (g:=q8) (o:=.cells #[.int .i64 a0_0,.slice (some s3) l0_1.length c0_1] 34 (0,0)) (by (with_reducible repeat (first | refine blk_drewN ?_ _ | refine blk_drew ?_ | refine blk_alloc ?_ _)); exact p9.out) hg (Kd.R_ne p4.out p9.out (by decide))); have n4_:=I (blk_grown (g:=p8) (o:=.cells #[.int .i64 ((rd_T58 l0_1 p0).f0),.int .i64 ((rd_T58 l0_1 p0).f1),.int .i64 ((rd_T58 l0_1 p0).f2),.int .i64 ((rd_T58 l0_1 p0).f3),.int .i64 ((rd_T58 l0_1 p0).f4)] 58 (0,0)) (by (with_reducible repeat (first | refine blk_drewN ?_ _ | refine blk_drew ?_ | refine blk_alloc ?_ _)); exact p3.out) hg (Kd.R_ne p4.out p3.out (by decide))); have n5_:=I ((by rw [hw]; exact below_set (HB.out) GB58.out : Below w0.heap.size w0 w84)); have n6_:=I (Kept.of_grown (S:=(fun k_ => P1_ k_)) hg (by repeat (first | (with_reducible first | exact HK.out | apply Kept.alloc | apply Kept.drewN | apply Kept.drew | refine Kept.setCell ?_ (.inr q4.out) _ | refine Kept.setCell ?_ (.inr r6.out) _) | exact HK.out)) (fun k_ e_ => (p4.out.1 k_ e_).1)); clear HO_1; clear p4; clear q0; clear p9; clear p3; clear HB; clear HK; have HO_1:=n0_; have p4:=n1_; have q0:=n2_; have p9:=n3_; have p3:=n4_; have HB:=n5_; have HK:=n6_; clear n0_ n1_ n2_ n3_ n4_ n5_ n6_; clear hg hw hp_; have A4 : w84.cell? ⟨p8,0,none⟩ = some (.int .i64 ((rd_T58 l0_1 p0).f0)):=(blk_cell p3.out 0).trans rfl; have A5 : w84.cell? ⟨p8,1,none⟩ = some (.int .i64 ((rd_T58 l0_1 p0).f1)):=(blk_cell p3.out 1).trans rfl; have A6 : w84.cell? ⟨p8,2,none⟩ = some (.int .i64 ((rd_T58 l0_1 p0).f2)):=(blk_cell p3.out 2).trans rfl; have A7 : w84.cell? ⟨p8,3,none⟩ = some (.int .i64 ((rd_T58 l0_1 p0).f3)):=(blk_cell p3.out 3).trans rfl; have A8 : w84.cell? ⟨p8,4,none⟩ = some (.int .i64 ((rd_T58 l0_1 p0).f4)):=(blk_cell p3.out 4).trans rfl; have A9:=blk_frozen p3.out 0; have B0:=blk_frozen p3.out 1; have B1:=blk_frozen p3.out 2; have B2:=blk_frozen p3.out 3; have B3:=blk_frozen p3.out 4) | ((with_reducible refine gate_builtin (b:=.append) (xs:=#[.tmp 87,.tmp 90]) rfl ?_); at_builtin; refine Kd.R_append (Kd.int .i64) (w0:=w0) w0.heap.size rfl (.tmp 87) (.tmp 90) 23 3 (.int .i64 0) 8 rfl Try.underlying23 info3 rfl (by decide) (by omega) u12 r7 ((rd_T58 l0_1 p0).f1) [.int .i64 ((rd_T58 l0_1 p0).f1)] (fun k_ => (P1_ k_ ∨ w.heap.size ≤ k_) ∧ some k_ ≠ (q9 : Value).ownBlock ∧ some k_ ≠ (.slice (some ⟨go58,0,none⟩) q2.length co58 : Value).ownBlock) (fun _ => False) rfl rfl ?aP (fun _ hk => hk.elim) ?aF ?aO ?aB ?aS ?aL ?_; (case aP => exact rfl); (case aB => exact (by repeat (first | (with_reducible first | exact HB.out | apply below_alloc | apply pw_below_drewN | apply below_drew1 | refine below_set ?_ r0.out | refine below_set ?_ s1.out) | exact HB.out))); (case aF => exact (fun k_ hk => ⟨(.inr (Nat.le_trans (by first | exact HK.out.1 | exact (show Kept w _ (fun k_ => P1_ k_) from by repeat (first | (with_reducible first | exact HK.out | apply Kept.alloc | apply Kept.drewN | apply Kept.drew | refine Kept.setCell ?_ (.inr q4.out) _ | refine Kept.setCell ?_ (.inr r6.out) _) | exact HK.out)).1) hk)),Kd.fresh' (Kd.R_lt (by (with_reducible repeat (first | apply Kd.R_alloc | apply Kd.R_drewN | apply Kd.R_drew)); exact HO_1.out)) k_ hk,Kd.fresh' (Kd.R_lt (by (with_reducible repeat (first | apply Kd.R_alloc | apply Kd.R_drewN | apply Kd.R_drew)); exact p4.out)) k_ hk⟩)); (case aO => exact (by (with_reducible repeat (first | apply Kd.R_alloc | apply Kd.R_drewN | apply Kd.R_drew)); exact Kd.R_mono q0.out (fun _ hk => ⟨hk.1.1,⟨hk.1.2,hk.2⟩⟩))); (case aS => exact (below_size (by repeat (first | (with_reducible first | exact HB.out | apply below_alloc | apply pw_below_drewN | apply below_drew1 | refine below_set ?_ r0.out | refine below_set ?_ s1.out) | exact HB.out)))); (case aL => have:=v9.out; omega); intro v635 w86 ho hb hg hat; rw [← z0.out] at ho; have n0_:=I (Kd.R_after (ok:=(fun k_ => (P1_ k_ ∨ w.heap.size ≤ k_) ∧ some k_ ≠ (.slice (some ⟨go58,0,none⟩) q2.length co58 : Value).ownBlock)) (by (with_reducible repeat (first | apply Kd.R_alloc | apply Kd.R_drewN | apply Kd.R_drew)); exact Kd.R_mono HO_1.out (fun _ hk => ⟨⟨hk.1.1,hk.2⟩,hk.1.2⟩)) hg hat); have n1_:=I (Kd.R_after (ok:=(fun k_ => (P1_ k_ ∨ w.heap.size ≤ k_) ∧ some k_ ≠ (q9 : Value).ownBlock)) (by (with_reducible repeat (first | apply Kd.R_alloc | apply Kd.R_drewN | apply Kd.R_drew)); exact Kd.R_mono p4.out (fun _ hk => ⟨⟨hk.1,hk.2.1⟩,hk.2.2⟩)) hg hat); have n2_:=I (blk_grown (g:=q8) (o:=.cells #[.int .i64 a0_0,.slice (some s3) l0_1.length c0_1] 34 (0,0)) (by (with_reducible repeat (first | refine blk_drewN ?_ _ | refine blk_drew ?_ | refine blk_alloc ?_ _)); exact p9.out) hg (Kd.R_ne q0.out p9.out (by decide))); have n3_:=I (blk_grown (g:=p8) (o:=.cells #[.int .i64 ((rd_T58 l0_1 p0).f0),.int .i64 ((rd_T58 l0_1 p0).f1),.int .i64 ((rd_T58 l0_1 p0).f2),.int .i64 ((rd_T58 l0_1 p0).f3),.int .i64 ((rd_T58 l0_1 p0).f4)] 58 (0,0)) (by (with_reducible repeat (first | refine blk_drewN ?_ _ | refine blk_drew ?_ | refine blk_alloc ?_ _)); exact p3.out) hg (Kd.R_ne q0.out p3.out (by decide))); have n4_:=I (hb); have n5_:=I (Kept.of_grown (S:=(fun k_ => P1_ k_)) hg (by repeat (first | (with_reducible first | exact HK.out | apply Kept.alloc | apply Kept.drewN | apply Kept.drew | refine Kept.setCell ?_ (.inr q4.out) _ | refine Kept.setCell ?_ (.inr r6.out) _) | exact HK.out)) (fun k_ e_ => (q0.out.1 k_ e_).1.1)); have n6_:=I (ho); clear HO_1; clear p4; clear p9; clear p3; clear HB; clear HK; clear q0; have HO_1:=n0_; have p4:=n1_; have p9:=n2_; have p3:=n3_; have HB:=n4_; have HK:=n5_; have HO636:=n6_; clear n0_ n1_ n2_ n3_ n4_ n5_ n6_; clear ho hb hg hat; have B4 : w86.cell? ⟨p8,0,none⟩ = some (.int .i64 ((rd_T58 l0_1 p0).f0)):=(blk_cell p3.out 0).trans rfl; have B5 : w86.cell? ⟨p8,1,none⟩ = some (.int .i64 ((rd_T58 l0_1 p0).f1)):=(blk_cell p3.out 1).trans rfl; have B6 : w86.cell? ⟨p8,2,none⟩ = some (.int .i64 ((rd_T58 l0_1 p0).f2)):=(blk_cell p3.out 2).trans rfl; have B7 : w86.cell? ⟨p8,3,none⟩ = some (.int .i64 ((rd_T58 l0_1 p0).f3)):=(blk_cell p3.out 3).trans rfl; have B8 : w86.cell? ⟨p8,4,none⟩ = some (.int .i64 ((rd_T58 l0_1 p0).f4)):=(blk_cell p3.out 4).trans rfl; have B9:=blk_frozen p3.out 0; have C0:=blk_frozen p3.out 1; have C1:=blk_frozen p3.out 2; have C2:=blk_frozen p3.out 3; have C3:=blk_frozen p3.out 4; obtain ⟨Ao88,co88,eo88⟩:=Kd.R_slice HO636.out; subst eo88; have p637 : 0 ≤ (q3 : Int):=of_decide_eq_true (by first | (with_reducible assumption) | assumption); have q637 : q3 < (y634.length : Int):=of_decide_eq_true (by first | (with_reducible assumption) | assumption); obtain ⟨t4,e637,t7⟩:=Kd.at_int (Kd.R_reads' HO636.out).2.2 q3 p637 q637; cases e637; replace p637:=eq_true p637; replace q637:=eq_true q637; obtain ⟨Ao89,co89,eo89⟩:=Kd.R_slice HO_1.out; subst eo89; have p638 : 0 ≤ (p0 : Int):=of_decide_eq_true (by first | (with_reducible assumption) | assumption); have q638 : p0 < (l1.length : Int):=of_decide_eq_true (by first | (with_reducible assumption) | assumption); obtain ⟨t5,e638,u7⟩:=Kd.at_int (Kd.R_reads' HO_1.out).2.2 p0 p638 q638; cases e638; replace p638:=eq_true p638; replace q638:=eq_true q638; have p639 : 0 ≤ (((rd_T58 l0_1 p0).f0) : Int):=of_decide_eq_true (by first | (with_reducible assumption) | assumption); have q639 : ((rd_T58 l0_1 p0).f0) < (y633.length : Int):=(by have h_ : (((rd_T58 l0_1 p0).f0) : Int) < ((q2.length : Int) : Int):=of_decide_eq_true (by first | (with_reducible assumption) | assumption); first | (have e_:=(Kd.R_reads' p4.out).1; omega) | simpa only [u4.out,List.length_set] using h_); have ql639 : ((((rd_T58 l0_1 p0).f0) : Int) < ((q2.length : Int) : Int)) = True:=eq_true (of_decide_eq_true (by first | (with_reducible assumption) | assumption)); obtain ⟨v2,e639,s0⟩:=Kd.at_int (Kd.R_reads' p4.out).2.2 ((rd_T58 l0_1 p0).f0) p639 q639; obtain rfl : (⟨go58,0,none⟩ : Addr) = v2:=(by injection e639); (first | simp only [add_plain] at s0 | simp only [add_at] at s0 | simp only [Addr.add,Nat.zero_add] at s0 | skip); replace p639:=eq_true p639; replace q639:=eq_true q639; have p79 : 0 ≤ (((rd_T58 l0_1 p0).f0) : Int):=of_decide_eq_true (by first | (with_reducible assumption) | assumption); have q79 : (((rd_T58 l0_1 p0).f0) : Int) < ((q2.length : Int) : Int):=of_decide_eq_true (by first | (with_reducible assumption) | assumption); obtain ⟨F4,hf79_0⟩:=Kd.R_celln 0 p4.out (((rd_T58 l0_1 p0).f0) : Int) p79 q79; replace p79:=eq_true p79; replace q79:=eq_true q79; have n_:=I (Kd.R_mono (ok':=(fun k_ => (P1_ k_ ∨ w.heap.size ≤ k_) ∧ some k_ ≠ (.slice (some t5) l1.length co89 : Value).ownBlock ∧ some k_ ≠ (.slice (some t4) y634.length co88 : Value).ownBlock)) p4.out (fun k_ hk => ⟨hk.1.1,⟨hk.1.2,hk.2⟩⟩)); clear p4; have p4:=n_; clear n_; obtain ⟨hy90_,hz90_⟩:=Kd.R_celln 0 p4.out (((rd_T58 l0_1 p0).f0) : Int) (of_decide_eq_true (by first | (with_reducible assumption) | assumption)) (of_decide_eq_true (by first | (with_reducible assumption) | assumption)); have HP90:=Kd.R_putg p4.out (((rd_T58 l0_1 p0).f0) : Int) (wrap64 ((wrap64 (-p0)) - 1))))
         repeat (go_quiet (fail); try go_wp2_with (first | ((with_reducible refine gate_store (t:=3) (p:=126) rfl ?_); (try (rw [drewN_self w86]; generalize hq_ : World.drewN w86 _ = w86; have n0_:=I (Kd.R_at hq_ HO_1.out); have n1_:=I (Kd.R_at hq_ p4.out); have n2_:=I (Kd.R_at hq_ HO636.out); have n3_:=I (blk_at hq_ p9.out); have n4_:=I (blk_at hq_ p3.out); have n5_:=I (kept_at hq_ HK.out); have n6_:=I (below_at hq_ HB.out); clear hq_ HO_1 p4 HO636 p9 p3 HK HB; have HO_1:=n0_; have p4:=n1_; have HO636:=n2_; have p9:=n3_; have p3:=n4_; have HK:=n5_; have HB:=n6_; clear n0_ n1_ n2_ n3_ n4_ n5_ n6_; (try (have n_:=I (Kd.R_mono (ok':=(fun k_ => (P1_ k_ ∨ w.heap.size ≤ k_) ∧ some k_ ≠ (.slice (some t5) l1.length co89 : Value).ownBlock ∧ some k_ ≠ (.slice (some t4) y634.length co88 : Value).ownBlock)) p4.out (fun k_ hk => ⟨hk.1.1,⟨hk.1.2,hk.2⟩⟩)); clear p4; have p4:=n_; clear n_)); (try (obtain ⟨hy90_,hz90_⟩:=Kd.R_celln 0 p4.out (((rd_T58 l0_1 p0).f0) : Int) (of_decide_eq_true (by first | (with_reducible assumption) | assumption)) (of_decide_eq_true (by first | (with_reducible assumption) | assumption)))); (try (have HP90:=Kd.R_putg p4.out (((rd_T58 l0_1 p0).f0) : Int) (wrap64 ((wrap64 (-p0)) - 1)))); (try (obtain ⟨t3,hf58_0⟩:=Kd.R_celln 0 p4.out (((rd_T58 l0_1 p0).f1) : Int) (of_eq_true p58) (of_eq_true q58))))); refine store_event (t:=3) (p:=126) (v:=?vo_w91) (w1:=(w86.setCell ⟨go58,(((rd_T58 l0_1 p0).f0) : Int).toNat,none⟩ (.int .i64 (wrap64 ((wrap64 (-p0)) - 1))))) ?hg ?ho ?hn ?hr ?_; (case ho => rfl); (case hg => rfl); (case hn => rfl); (case hr => first | (go_simp; done) | (go_simp; rfl)); intro w91 hw; have hg : w86.grownBy w91 (some go58):=(by rw [hw]; exact HP90.2); have hp_ : Kd.R (Kd.int .i64) 3 w91 w0.heap.size (fun k_ => (P1_ k_ ∨ w.heap.size ≤ k_) ∧ some k_ ≠ (.slice (some t5) l1.length co89 : Value).ownBlock ∧ some k_ ≠ (.slice (some t4) y634.length co88 : Value).ownBlock) (.slice (some ⟨go58,0,none⟩) q2.length co58) y640:=(by rw [hw,G9.out]; exact HP90.1); clear HP90; have n0_:=I (Kd.R_after (v:=(.slice (some ⟨go58,0,none⟩) q2.length co58)) (v1:=(.slice (some ⟨go58,0,none⟩) q2.length co58)) (ok:=(fun k_ => (P1_ k_ ∨ w.heap.size ≤ k_) ∧ some k_ ≠ (.slice (some t4) y634.length co88 : Value).ownBlock)) (by (with_reducible repeat (first | apply Kd.R_alloc | apply Kd.R_drewN | apply Kd.R_drew)); exact Kd.R_mono HO_1.out (fun _ hk => ⟨⟨hk.1.1,hk.2⟩,hk.1.2⟩)) hg (.inl rfl)); have n1_:=I (hp_); have n2_:=I (blk_grown (g:=q8) (o:=.cells #[.int .i64 a0_0,.slice (some s3) l0_1.length c0_1] 34 (0,0)) (by (with_reducible repeat (first | refine blk_drewN ?_ _ | refine blk_drew ?_ | refine blk_alloc ?_ _)); exact p9.out) hg (Kd.R_ne p4.out p9.out (by decide))); have n3_:=I (blk_grown (g:=p8) (o:=.cells #[.int .i64 ((rd_T58 l0_1 p0).f0),.int .i64 ((rd_T58 l0_1 p0).f1),.int .i64 ((rd_T58 l0_1 p0).f2),.int .i64 ((rd_T58 l0_1 p0).f3),.int .i64 ((rd_T58 l0_1 p0).f4)] 58 (0,0)) (by (with_reducible repeat (first | refine blk_drewN ?_ _ | refine blk_drew ?_ | refine blk_alloc ?_ _)); exact p3.out) hg (Kd.R_ne p4.out p3.out (by decide))); have n4_:=I (Kd.R_after (v:=(.slice (some ⟨go58,0,none⟩) q2.length co58)) (v1:=(.slice (some ⟨go58,0,none⟩) q2.length co58)) (ok:=(fun k_ => (P1_ k_ ∨ w.heap.size ≤ k_) ∧ some k_ ≠ (.slice (some t5) l1.length co89 : Value).ownBlock)) (by (with_reducible repeat (first | apply Kd.R_alloc | apply Kd.R_drewN | apply Kd.R_drew)); exact Kd.R_mono HO636.out (fun _ hk => ⟨⟨hk.1,hk.2.1⟩,hk.2.2⟩)) hg (.inl rfl)); have n5_:=I ((by rw [hw]; exact below_set (HB.out) GB58.out : Below w0.heap.size w0 w91)); have n6_:=I (Kept.of_grown (S:=(fun k_ => P1_ k_)) hg (by repeat (first | (with_reducible first | exact HK.out | apply Kept.alloc | apply Kept.drewN | apply Kept.drew | refine Kept.setCell ?_ (.inr q4.out) _ | refine Kept.setCell ?_ (.inr r6.out) _) | exact HK.out)) (fun k_ e_ => (p4.out.1 k_ e_).1)); clear HO_1; clear p4; clear p9; clear p3; clear HO636; clear HB; clear HK; have HO_1:=n0_; have p4:=n1_; have p9:=n2_; have p3:=n3_; have HO636:=n4_; have HB:=n5_; have HK:=n6_; clear n0_ n1_ n2_ n3_ n4_ n5_ n6_; clear hg hw hp_; have C4 : w91.cell? ⟨p8,0,none⟩ = some (.int .i64 ((rd_T58 l0_1 p0).f0)):=(blk_cell p3.out 0).trans rfl; have C5 : w91.cell? ⟨p8,1,none⟩ = some (.int .i64 ((rd_T58 l0_1 p0).f1)):=(blk_cell p3.out 1).trans rfl; have C6 : w91.cell? ⟨p8,2,none⟩ = some (.int .i64 ((rd_T58 l0_1 p0).f2)):=(blk_cell p3.out 2).trans rfl; have C7 : w91.cell? ⟨p8,3,none⟩ = some (.int .i64 ((rd_T58 l0_1 p0).f3)):=(blk_cell p3.out 3).trans rfl; have C8 : w91.cell? ⟨p8,4,none⟩ = some (.int .i64 ((rd_T58 l0_1 p0).f4)):=(blk_cell p3.out 4).trans rfl; have C9:=blk_frozen p3.out 0; have D0:=blk_frozen p3.out 1; have D1:=blk_frozen p3.out 2; have D2:=blk_frozen p3.out 3; have D3:=blk_frozen p3.out 4) | ((with_reducible refine gate_builtin (b:=.append) (xs:=#[.tmp 127,.tmp 130]) rfl ?_); at_builtin; refine Kd.R_append (Kd.int .i64) (w0:=w0) w0.heap.size rfl (.tmp 127) (.tmp 130) 23 3 (.int .i64 0) 8 rfl Try.underlying23 info3 rfl (by decide) (by omega) (.slice (some t4) y634.length co88) y634 ((rd_T58 l0_1 p0).f0) [.int .i64 ((rd_T58 l0_1 p0).f0)] (fun k_ => (P1_ k_ ∨ w.heap.size ≤ k_) ∧ some k_ ≠ (.slice (some t5) l1.length co89 : Value).ownBlock ∧ some k_ ≠ (.slice (some ⟨go58,0,none⟩) q2.length co58 : Value).ownBlock) (fun _ => False) rfl rfl ?aP (fun _ hk => hk.elim) ?aF ?aO ?aB ?aS ?aL ?_; (case aP => exact rfl); (case aB => exact (by repeat (first | (with_reducible first | exact HB.out | apply below_alloc | apply pw_below_drewN | apply below_drew1 | refine below_set ?_ r0.out | refine below_set ?_ s1.out) | exact HB.out))); (case aF => exact (fun k_ hk => ⟨(.inr (Nat.le_trans (by first | exact HK.out.1 | exact (show Kept w _ (fun k_ => P1_ k_) from by repeat (first | (with_reducible first | exact HK.out | apply Kept.alloc | apply Kept.drewN | apply Kept.drew | refine Kept.setCell ?_ (.inr q4.out) _ | refine Kept.setCell ?_ (.inr r6.out) _) | exact HK.out)).1) hk)),Kd.fresh' (Kd.R_lt (by (with_reducible repeat (first | apply Kd.R_alloc | apply Kd.R_drewN | apply Kd.R_drew)); exact HO_1.out)) k_ hk,Kd.fresh' (Kd.R_lt (by (with_reducible repeat (first | apply Kd.R_alloc | apply Kd.R_drewN | apply Kd.R_drew)); exact p4.out)) k_ hk⟩)); (case aO => exact (by (with_reducible repeat (first | apply Kd.R_alloc | apply Kd.R_drewN | apply Kd.R_drew)); exact Kd.R_mono HO636.out (fun _ hk => ⟨hk.1.1,⟨hk.1.2,hk.2⟩⟩))); (case aS => exact (below_size (by repeat (first | (with_reducible first | exact HB.out | apply below_alloc | apply pw_below_drewN | apply below_drew1 | refine below_set ?_ r0.out | refine below_set ?_ s1.out) | exact HB.out)))); (case aL => have:=H0.out; omega); intro v642 w93 ho hb hg hat; rw [← H2.out] at ho; have n0_:=I (Kd.R_after (ok:=(fun k_ => (P1_ k_ ∨ w.heap.size ≤ k_) ∧ some k_ ≠ (.slice (some ⟨go58,0,none⟩) q2.length co58 : Value).ownBlock)) (by (with_reducible repeat (first | apply Kd.R_alloc | apply Kd.R_drewN | apply Kd.R_drew)); exact Kd.R_mono HO_1.out (fun _ hk => ⟨⟨hk.1.1,hk.2⟩,hk.1.2⟩)) hg hat); have n1_:=I (Kd.R_after (ok:=(fun k_ => (P1_ k_ ∨ w.heap.size ≤ k_) ∧ some k_ ≠ (.slice (some t5) l1.length co89 : Value).ownBlock)) (by (with_reducible repeat (first | apply Kd.R_alloc | apply Kd.R_drewN | apply Kd.R_drew)); exact Kd.R_mono p4.out (fun _ hk => ⟨⟨hk.1,hk.2.1⟩,hk.2.2⟩)) hg hat); have n2_:=I (blk_grown (g:=q8) (o:=.cells #[.int .i64 a0_0,.slice (some s3) l0_1.length c0_1] 34 (0,0)) (by (with_reducible repeat (first | refine blk_drewN ?_ _ | refine blk_drew ?_ | refine blk_alloc ?_ _)); exact p9.out) hg (Kd.R_ne HO636.out p9.out (by decide))); have n3_:=I (blk_grown (g:=p8) (o:=.cells #[.int .i64 ((rd_T58 l0_1 p0).f0),.int .i64 ((rd_T58 l0_1 p0).f1),.int .i64 ((rd_T58 l0_1 p0).f2),.int .i64 ((rd_T58 l0_1 p0).f3),.int .i64 ((rd_T58 l0_1 p0).f4)] 58 (0,0)) (by (with_reducible repeat (first | refine blk_drewN ?_ _ | refine blk_drew ?_ | refine blk_alloc ?_ _)); exact p3.out) hg (Kd.R_ne HO636.out p3.out (by decide))); have n4_:=I (hb); have n5_:=I (Kept.of_grown (S:=(fun k_ => P1_ k_)) hg (by repeat (first | (with_reducible first | exact HK.out | apply Kept.alloc | apply Kept.drewN | apply Kept.drew | refine Kept.setCell ?_ (.inr q4.out) _ | refine Kept.setCell ?_ (.inr r6.out) _) | exact HK.out)) (fun k_ e_ => (HO636.out.1 k_ e_).1.1)); have n6_:=I (ho); clear HO_1; clear p4; clear p9; clear p3; clear HB; clear HK; clear HO636; have HO_1:=n0_; have p4:=n1_; have p9:=n2_; have p3:=n3_; have HB:=n4_; have HK:=n5_; have HO643:=n6_; clear n0_ n1_ n2_ n3_ n4_ n5_ n6_; clear ho hb hg hat)))
         go_roundg kj24
         case measure => have:=HK1.out; have:=HK2.out; have:=HK3.out; have:=HJ24.out; omega
         case rel => exact ⟨(y640),(y641),(wrap64 (p0 + 1)),(by first | rfl | (simp; done) | (simp [*]; done)),H',⟨by have:=HK1.out; have:=HK2.out; have:=HK3.out; have:=HJ24.out; omega⟩,⟨by (with_reducible repeat (first | apply Kd.R_alloc | apply Kd.R_drewN | apply Kd.R_drew)); exact Kd.R_mono HO_1.out (fun _ hk => ⟨hk.1.1,⟨hk.1.2,hk.2⟩⟩)⟩,⟨by (with_reducible repeat (first | apply Kd.R_alloc | apply Kd.R_drewN | apply Kd.R_drew)); exact Kd.R_mono p4.out (fun _ hk => ⟨hk.1.1,⟨hk.1.2,hk.2⟩⟩)⟩,⟨by (with_reducible repeat (first | apply Kd.R_alloc | apply Kd.R_drewN | apply Kd.R_drew)); exact HO643.out⟩,⟨by (with_reducible repeat (first | refine blk_drewN ?_ _ | refine blk_drew ?_ | refine blk_alloc ?_ _)); exact p9.out⟩,⟨by repeat (first | (with_reducible first | exact HK.out | apply Kept.alloc | apply Kept.drewN | apply Kept.drew | refine Kept.setCell ?_ (.inr q4.out) _ | refine Kept.setCell ?_ (.inr r6.out) _) | exact HK.out)⟩,⟨by repeat (first | (with_reducible first | exact HB.out | apply below_alloc | apply pw_below_drewN | apply below_drew1 | refine below_set ?_ r0.out | refine below_set ?_ s1.out) | exact HB.out)⟩⟩
mutual
def spec_FlowOf.j0 : Nat → Int → Int → Bool → Int → List (S58) → Option (List Int)
 | 0,_,_,_,_,_ => none
 | k + 1,x1,x2,x32,x666000,x666001 => if x32 = true then (some ([] : List Int)) else (if 0 ≤ (x666001.length : Int) then (if ((x666001.length : Int) : Int).toNat ≤ 35184372088832 then (spec_FlowOf.l0 k x1 x2 (List.replicate ((x666001.length : Int) : Int).toNat 0) true x666000 x666001) else (none)) else (none))
def spec_FlowOf.l0 : Nat → Int → Int → List Int → Bool → Int → List (S58) → Option (List Int)
 | 0,_,_,_,_,_,_ => none
 | k + 1,x1,x2,x7,x8,x666000,x666001 => if x8 = true then ((spec_l25Push.f k x666000 x666001 x7 x1 x2).bind fun bt672 => (spec_FlowOf.l0 k x1 x2 bt672.1 bt672.2 x666000 x666001)) else (some x7)
end
def spec_FlowOf.f (k : Nat) (a0_0 : Int) (l0_1 : List (S58)) (a1 : Int) (a2 : Int) : Option (List Int):=(spec_l1Ok.f k a0_0 l0_1).bind fun t666 => (if t666 = true then ((spec_l1In.f a1 0 (wrap64 (a0_0 - 1))).bind fun t667 => (if t667 = true then ((spec_l1In.f a2 0 (wrap64 (a0_0 - 1))).bind fun t668 => (if t668 = true then (spec_FlowOf.j0 k a1 a2 (a1 == a2) a0_0 l0_1) else (spec_FlowOf.j0 k a1 a2 true a0_0 l0_1))) else (spec_FlowOf.j0 k a1 a2 true a0_0 l0_1))) else (spec_FlowOf.j0 k a1 a2 true a0_0 l0_1))
set_option maxHeartbeats 8000000 in
set_option maxRecDepth 100000 in
theorem spec_FlowOf.calls (k : Nat) (a0_0 : Int) (A0_1 : Option Addr) (c0_1 : Nat) (l0_1 : List (S58)) (a1 : Int) (a2 : Int) (r : List Int) (w : World) (hr0_1 : Kd.C k58 w A0_1 l0_1.length l0_1) (hc0_1 : l0_1.length ≤ c0_1) (h : spec_FlowOf.f k a0_0 l0_1 a1 a2 = some r) :
  Calls Try.prog 40 #[.agg #[.int .i64 a0_0,.slice A0_1 l0_1.length c0_1],.int .i64 a1,.int .i64 a2] w fun e w' => ∃ v0_ : Value,e = .returned (v0_) ∧ Kd.R (Kd.int .i64) 3 w' w.heap.size (fun _ => True) v0_ r ∧ Below w.heap.size w w':=by
 have hu34:=Try.underlying34;have HR0_1:=I hr0_1;have HC0_1:=I hc0_1;clear hr0_1 hc0_1;have HB:=I (Below.refl w.heap.size w);have H : ((spec_l1Ok.f k a0_0 l0_1).bind fun t666 => (if t666 = true then ((spec_l1In.f a1 0 (wrap64 (a0_0 - 1))).bind fun t667 => (if t667 = true then ((spec_l1In.f a2 0 (wrap64 (a0_0 - 1))).bind fun t668 => (if t668 = true then (spec_FlowOf.j0 k a1 a2 (a1 == a2) a0_0 l0_1) else (spec_FlowOf.j0 k a1 a2 true a0_0 l0_1))) else (spec_FlowOf.j0 k a1 a2 true a0_0 l0_1))) else (spec_FlowOf.j0 k a1 a2 true a0_0 l0_1))) = some r:=h;clear h;have HC4:=I H;clear H
 go_enter Try.func40,Try.ntmps40
 go_upto_region 1 with (first | ((with_reducible refine gate_dst (N:=3) rfl ?_); refine box_event ?hg (N:=3) ?hd (cs:=#[.int .i64 a0_0,.slice A0_1 l0_1.length c0_1]) (t:=34) ?hr ?_; (case hd => rfl); (case hg => rfl); (case hr => first | (go_simp; done) | (go_simp; rfl)); intro gb665 hg w5 hbox hb; have n0_:=I (below_step (by repeat (first | (with_reducible first | exact HB.out | apply below_alloc | apply pw_below_drewN | apply below_drew1) | exact HB.out)) hb); have n1_:=I (hbox); have n2_:=I ((by rw [hg]; exact (below_size (by repeat (first | (with_reducible first | exact HB.out | apply below_alloc | apply pw_below_drewN | apply below_drew1) | exact HB.out))) : w.heap.size ≤ gb665)); have n3_:=I ((by rw [hg]; exact (below_size (by repeat (first | (with_reducible first | exact HB.out | apply below_alloc | apply pw_below_drewN | apply below_drew1) | exact HB.out))) : w.heap.size ≤ gb665)); clear HB; have HB:=n0_; have BK665:=n1_; have GW665:=n2_; have GE665:=n3_; clear n0_ n1_ n2_ n3_; clear hb hbox hg))
 (try simp only [Act.put,J,U,O])
 go_cut [32] (fun v32 wc => ∃ (kq : Nat) (x32_3 : Bool),v32 = .bool x32_3 ∧ Aside0 (spec_FlowOf.j0 kq a1 a2 x32_3 a0_0 l0_1 = some r) ∧ Aside0 (kq ≤ k) ∧ Aside0 (wc.heap[gb665]? = some (.cells #[.int .i64 a0_0,(.slice A0_1 l0_1.length c0_1)] 34 (0,0))) ∧ Aside0 (Below w.heap.size w wc))
 case first =>
  have H:=HC4.out;clear HC4;replace H:=Option.bind_eq_some_iff.mp H;obtain ⟨t666,A60,H⟩:=H;replace H : (if t666 = true then ((spec_l1In.f a1 0 (wrap64 (a0_0 - 1))).bind fun t667 => (if t667 = true then ((spec_l1In.f a2 0 (wrap64 (a0_0 - 1))).bind fun t668 => (if t668 = true then (spec_FlowOf.j0 k a1 a2 (a1 == a2) a0_0 l0_1) else (spec_FlowOf.j0 k a1 a2 true a0_0 l0_1))) else (spec_FlowOf.j0 k a1 a2 true a0_0 l0_1))) else (spec_FlowOf.j0 k a1 a2 true a0_0 l0_1)) = some r:=H;have A6:=I A60;clear A60
  by_cases c7 : t666 = true
  case neg =>
   replace c7:=Bool.eq_false_iff.mpr c7;subst c7;have H1 : (spec_FlowOf.j0 k a1 a2 true a0_0 l0_1) = some r:=by rw [if_neg (show ¬ (false = true) by decide)] at H; exact H
   clear H;have H:=H1;clear H1;have H':=I H;clear H;have hcz21_0 : w5.cell? ⟨gb665,0,none⟩ = some (.int .i64 a0_0):=(blk_cell BK665.out 0).trans rfl;have hcz21_1 : w5.cell? ⟨gb665,1,none⟩ = some (.slice A0_1 l0_1.length c0_1):=(blk_cell BK665.out 1).trans rfl;have hfz21_0:=blk_frozen BK665.out 0;have hfz21_1:=blk_frozen BK665.out 1
   go_wp2_with (first | ((with_reducible refine gate_callee (f:=76) rfl ?_); refine goesL_ (some 10) rfl rfl Try.func76 (by kernel_rfl) rfl #[.agg #[.int .i64 a0_0,.slice A0_1 l0_1.length c0_1]] rfl (by (try simp only [List.map_toArray,List.map_cons,List.map_nil]); first | done | rfl | (simp only [List.length_drop,List.length_take]; rfl)) ?_; (with_reducible refine (spec_l1Ok.calls k a0_0 _ _ l0_1 false _ ?side1 ?side2 A6.out).mono ?_); (case side1 => repeat (first | exact (Kd.C_below HR0_1.out HB.out) | (with_reducible refine Kd.C_alloc ?_ _) | (with_reducible refine Kd.C_drewN ?_ _) | (with_reducible refine Kd.C_drew ?_))); (case side2 => exact HC0_1.out); rintro e w22 ⟨rfl,hb⟩; refine ⟨_,rfl,?_⟩; have n0_:=I (blk_below (g:=gb665) (o:=.cells #[.int .i64 a0_0,.slice A0_1 l0_1.length c0_1] 34 (0,0)) (by (with_reducible repeat (first | refine blk_drewN ?_ _ | refine blk_drew ?_ | refine blk_alloc ?_ _)); exact BK665.out) hb); have n1_:=I (below_step (by repeat (first | (with_reducible first | exact HB.out | apply below_alloc | apply pw_below_drewN | apply below_drew1 | refine below_set ?_ GE665.out) | exact HB.out)) hb); clear BK665; clear HB; have BK665:=n0_; have HB:=n1_; clear n0_ n1_; (try clear hb); (try clear hb2); (try clear hk); (try clear hi)))
   go_meet
   case rel => exact ⟨_,(true),(by first | rfl | (simp; done) | (simp [*]; done)),H',⟨by first | omega | exact Nat.le_refl _⟩,⟨by (with_reducible repeat (first | refine blk_drewN ?_ _ | refine blk_drew ?_ | refine blk_alloc ?_ _)); exact BK665.out⟩,⟨by repeat (first | (with_reducible first | exact HB.out | apply below_alloc | apply pw_below_drewN | apply below_drew1 | refine below_set ?_ GE665.out) | exact HB.out)⟩⟩
  subst c7;have H1 : ((spec_l1In.f a1 0 (wrap64 (a0_0 - 1))).bind fun t667 => (if t667 = true then ((spec_l1In.f a2 0 (wrap64 (a0_0 - 1))).bind fun t668 => (if t668 = true then (spec_FlowOf.j0 k a1 a2 (a1 == a2) a0_0 l0_1) else (spec_FlowOf.j0 k a1 a2 true a0_0 l0_1))) else (spec_FlowOf.j0 k a1 a2 true a0_0 l0_1))) = some r:=by rw [if_pos rfl] at H; exact H
  clear H;have H:=H1;clear H1;replace H:=Option.bind_eq_some_iff.mp H;obtain ⟨t667,A80,H⟩:=H;replace H : (if t667 = true then ((spec_l1In.f a2 0 (wrap64 (a0_0 - 1))).bind fun t668 => (if t668 = true then (spec_FlowOf.j0 k a1 a2 (a1 == a2) a0_0 l0_1) else (spec_FlowOf.j0 k a1 a2 true a0_0 l0_1))) else (spec_FlowOf.j0 k a1 a2 true a0_0 l0_1)) = some r:=H;have A8:=I A80;clear A80
  by_cases c9 : t667 = true
  case neg =>
   replace c9:=Bool.eq_false_iff.mpr c9;subst c9;have H1 : (spec_FlowOf.j0 k a1 a2 true a0_0 l0_1) = some r:=by rw [if_neg (show ¬ (false = true) by decide)] at H; exact H
   clear H;have H:=H1;clear H1;have H':=I H;clear H;have hcz18_0 : w5.cell? ⟨gb665,0,none⟩ = some (.int .i64 a0_0):=(blk_cell BK665.out 0).trans rfl;have hcz18_1 : w5.cell? ⟨gb665,1,none⟩ = some (.slice A0_1 l0_1.length c0_1):=(blk_cell BK665.out 1).trans rfl;have hfz18_0:=blk_frozen BK665.out 0;have hfz18_1:=blk_frozen BK665.out 1
   go_wp2_with (first | ((with_reducible refine gate_callee (f:=76) rfl ?_); refine goesL_ (some 10) rfl rfl Try.func76 (by kernel_rfl) rfl #[.agg #[.int .i64 a0_0,.slice A0_1 l0_1.length c0_1]] rfl (by (try simp only [List.map_toArray,List.map_cons,List.map_nil]); first | done | rfl | (simp only [List.length_drop,List.length_take]; rfl)) ?_; (with_reducible refine (spec_l1Ok.calls k a0_0 _ _ l0_1 true _ ?side1 ?side2 A6.out).mono ?_); (case side1 => repeat (first | exact (Kd.C_below HR0_1.out HB.out) | (with_reducible refine Kd.C_alloc ?_ _) | (with_reducible refine Kd.C_drewN ?_ _) | (with_reducible refine Kd.C_drew ?_))); (case side2 => exact HC0_1.out); rintro e w19 ⟨rfl,hb⟩; refine ⟨_,rfl,?_⟩; have n0_:=I (blk_below (g:=gb665) (o:=.cells #[.int .i64 a0_0,.slice A0_1 l0_1.length c0_1] 34 (0,0)) (by (with_reducible repeat (first | refine blk_drewN ?_ _ | refine blk_drew ?_ | refine blk_alloc ?_ _)); exact BK665.out) hb); have n1_:=I (below_step (by repeat (first | (with_reducible first | exact HB.out | apply below_alloc | apply pw_below_drewN | apply below_drew1 | refine below_set ?_ GE665.out) | exact HB.out)) hb); clear BK665; clear HB; have BK665:=n0_; have HB:=n1_; clear n0_ n1_; (try clear hb); (try clear hb2); (try clear hk); (try clear hi); have hcz20_0 : w19.cell? ⟨gb665,0,none⟩ = some (.int .i64 a0_0):=(blk_cell BK665.out 0).trans rfl; have hcz20_1 : w19.cell? ⟨gb665,1,none⟩ = some (.slice A0_1 l0_1.length c0_1):=(blk_cell BK665.out 1).trans rfl; have hfz20_0:=blk_frozen BK665.out 0; have hfz20_1:=blk_frozen BK665.out 1) | (go_at_call 90; (with_reducible refine (spec_l1In.calls a1 0 (wrap64 (a0_0 - 1)) false _ A8.out).mono ?_); rintro e w' ⟨rfl,⟨nd,rfl⟩⟩))
   go_meet
   case rel => exact ⟨_,(true),(by first | rfl | (simp; done) | (simp [*]; done)),H',⟨by first | omega | exact Nat.le_refl _⟩,⟨by (with_reducible repeat (first | refine blk_drewN ?_ _ | refine blk_drew ?_ | refine blk_alloc ?_ _)); exact BK665.out⟩,⟨by repeat (first | (with_reducible first | exact HB.out | apply below_alloc | apply pw_below_drewN | apply below_drew1 | refine below_set ?_ GE665.out) | exact HB.out)⟩⟩
  subst c9;have H1 : ((spec_l1In.f a2 0 (wrap64 (a0_0 - 1))).bind fun t668 => (if t668 = true then (spec_FlowOf.j0 k a1 a2 (a1 == a2) a0_0 l0_1) else (spec_FlowOf.j0 k a1 a2 true a0_0 l0_1))) = some r:=by rw [if_pos rfl] at H; exact H
  clear H;have H:=H1;clear H1;replace H:=Option.bind_eq_some_iff.mp H;obtain ⟨t668,A100,H⟩:=H;replace H : (if t668 = true then (spec_FlowOf.j0 k a1 a2 (a1 == a2) a0_0 l0_1) else (spec_FlowOf.j0 k a1 a2 true a0_0 l0_1)) = some r:=H;have A10:=I A100;clear A100
  by_cases c11 : t668 = true
  case pos =>
   subst c11;have H1 : (spec_FlowOf.j0 k a1 a2 (a1 == a2) a0_0 l0_1) = some r:=by rw [if_pos rfl] at H; exact H
   clear H;have H:=H1;clear H1;have H':=I H;clear H;have hcz12_0 : w5.cell? ⟨gb665,0,none⟩ = some (.int .i64 a0_0):=(blk_cell BK665.out 0).trans rfl;have hcz12_1 : w5.cell? ⟨gb665,1,none⟩ = some (.slice A0_1 l0_1.length c0_1):=(blk_cell BK665.out 1).trans rfl;have hfz12_0:=blk_frozen BK665.out 0;have hfz12_1:=blk_frozen BK665.out 1
   go_wp2_with (first | ((with_reducible refine gate_callee (f:=76) rfl ?_); refine goesL_ (some 10) rfl rfl Try.func76 (by kernel_rfl) rfl #[.agg #[.int .i64 a0_0,.slice A0_1 l0_1.length c0_1]] rfl (by (try simp only [List.map_toArray,List.map_cons,List.map_nil]); first | done | rfl | (simp only [List.length_drop,List.length_take]; rfl)) ?_; (with_reducible refine (spec_l1Ok.calls k a0_0 _ _ l0_1 true _ ?side1 ?side2 A6.out).mono ?_); (case side1 => repeat (first | exact (Kd.C_below HR0_1.out HB.out) | (with_reducible refine Kd.C_alloc ?_ _) | (with_reducible refine Kd.C_drewN ?_ _) | (with_reducible refine Kd.C_drew ?_))); (case side2 => exact HC0_1.out); rintro e w13 ⟨rfl,hb⟩; refine ⟨_,rfl,?_⟩; have n0_:=I (blk_below (g:=gb665) (o:=.cells #[.int .i64 a0_0,.slice A0_1 l0_1.length c0_1] 34 (0,0)) (by (with_reducible repeat (first | refine blk_drewN ?_ _ | refine blk_drew ?_ | refine blk_alloc ?_ _)); exact BK665.out) hb); have n1_:=I (below_step (by repeat (first | (with_reducible first | exact HB.out | apply below_alloc | apply pw_below_drewN | apply below_drew1 | refine below_set ?_ GE665.out) | exact HB.out)) hb); clear BK665; clear HB; have BK665:=n0_; have HB:=n1_; clear n0_ n1_; (try clear hb); (try clear hb2); (try clear hk); (try clear hi); have hcz14_0 : w13.cell? ⟨gb665,0,none⟩ = some (.int .i64 a0_0):=(blk_cell BK665.out 0).trans rfl; have hcz14_1 : w13.cell? ⟨gb665,1,none⟩ = some (.slice A0_1 l0_1.length c0_1):=(blk_cell BK665.out 1).trans rfl; have hfz14_0:=blk_frozen BK665.out 0; have hfz14_1:=blk_frozen BK665.out 1) | (go_at_call 90; (with_reducible refine (spec_l1In.calls a1 0 (wrap64 (a0_0 - 1)) true _ A8.out).mono ?_); rintro e w' ⟨rfl,⟨nd,rfl⟩⟩) | (go_at_call 90; (with_reducible refine (spec_l1In.calls a2 0 (wrap64 (a0_0 - 1)) true _ A10.out).mono ?_); rintro e w' ⟨rfl,⟨nd,rfl⟩⟩))
   go_meet
   case rel => exact ⟨_,((a1 == a2)),(by first | rfl | (simp; done) | (simp [*]; done)),H',⟨by first | omega | exact Nat.le_refl _⟩,⟨by (with_reducible repeat (first | refine blk_drewN ?_ _ | refine blk_drew ?_ | refine blk_alloc ?_ _)); exact BK665.out⟩,⟨by repeat (first | (with_reducible first | exact HB.out | apply below_alloc | apply pw_below_drewN | apply below_drew1 | refine below_set ?_ GE665.out) | exact HB.out)⟩⟩
  replace c11:=Bool.eq_false_iff.mpr c11;subst c11;have H1 : (spec_FlowOf.j0 k a1 a2 true a0_0 l0_1) = some r:=by rw [if_neg (show ¬ (false = true) by decide)] at H; exact H
  clear H;have H:=H1;clear H1;have H':=I H;clear H;have hcz15_0 : w5.cell? ⟨gb665,0,none⟩ = some (.int .i64 a0_0):=(blk_cell BK665.out 0).trans rfl;have hcz15_1 : w5.cell? ⟨gb665,1,none⟩ = some (.slice A0_1 l0_1.length c0_1):=(blk_cell BK665.out 1).trans rfl;have hfz15_0:=blk_frozen BK665.out 0;have hfz15_1:=blk_frozen BK665.out 1
  go_wp2_with (first | ((with_reducible refine gate_callee (f:=76) rfl ?_); refine goesL_ (some 10) rfl rfl Try.func76 (by kernel_rfl) rfl #[.agg #[.int .i64 a0_0,.slice A0_1 l0_1.length c0_1]] rfl (by (try simp only [List.map_toArray,List.map_cons,List.map_nil]); first | done | rfl | (simp only [List.length_drop,List.length_take]; rfl)) ?_; (with_reducible refine (spec_l1Ok.calls k a0_0 _ _ l0_1 true _ ?side1 ?side2 A6.out).mono ?_); (case side1 => repeat (first | exact (Kd.C_below HR0_1.out HB.out) | (with_reducible refine Kd.C_alloc ?_ _) | (with_reducible refine Kd.C_drewN ?_ _) | (with_reducible refine Kd.C_drew ?_))); (case side2 => exact HC0_1.out); rintro e w16 ⟨rfl,hb⟩; refine ⟨_,rfl,?_⟩; have n0_:=I (blk_below (g:=gb665) (o:=.cells #[.int .i64 a0_0,.slice A0_1 l0_1.length c0_1] 34 (0,0)) (by (with_reducible repeat (first | refine blk_drewN ?_ _ | refine blk_drew ?_ | refine blk_alloc ?_ _)); exact BK665.out) hb); have n1_:=I (below_step (by repeat (first | (with_reducible first | exact HB.out | apply below_alloc | apply pw_below_drewN | apply below_drew1 | refine below_set ?_ GE665.out) | exact HB.out)) hb); clear BK665; clear HB; have BK665:=n0_; have HB:=n1_; clear n0_ n1_; (try clear hb); (try clear hb2); (try clear hk); (try clear hi); have hcz17_0 : w16.cell? ⟨gb665,0,none⟩ = some (.int .i64 a0_0):=(blk_cell BK665.out 0).trans rfl; have hcz17_1 : w16.cell? ⟨gb665,1,none⟩ = some (.slice A0_1 l0_1.length c0_1):=(blk_cell BK665.out 1).trans rfl; have hfz17_0:=blk_frozen BK665.out 0; have hfz17_1:=blk_frozen BK665.out 1) | (go_at_call 90; (with_reducible refine (spec_l1In.calls a1 0 (wrap64 (a0_0 - 1)) true _ A8.out).mono ?_); rintro e w' ⟨rfl,⟨nd,rfl⟩⟩) | (go_at_call 90; (with_reducible refine (spec_l1In.calls a2 0 (wrap64 (a0_0 - 1)) false _ A10.out).mono ?_); rintro e w' ⟨rfl,⟨nd,rfl⟩⟩))
  go_meet
  case rel => exact ⟨_,(true),(by first | rfl | (simp; done) | (simp [*]; done)),H',⟨by first | omega | exact Nat.le_refl _⟩,⟨by (with_reducible repeat (first | refine blk_drewN ?_ _ | refine blk_drew ?_ | refine blk_alloc ?_ _)); exact BK665.out⟩,⟨by repeat (first | (with_reducible first | exact HB.out | apply below_alloc | apply pw_below_drewN | apply below_drew1 | refine below_set ?_ GE665.out) | exact HB.out)⟩⟩
 case rest =>
  clear HC4
  try clear c1
  try clear p2
  try clear c4
  try clear p6
  try clear c7
  try clear c9
  try clear c11
  try clear hcz12_0
  try clear hcz12_1
  try clear hcz14_0
  try clear hcz14_1
  try clear hcz15_0
  try clear hcz15_1
  try clear hcz17_0
  try clear hcz17_1
  try clear hcz18_0
  try clear hcz18_1
  try clear hcz20_0
  try clear hcz20_1
  try clear hcz21_0
  try clear hcz21_1
  try clear hfz12_0
  try clear hfz12_1
  try clear hfz14_0
  try clear hfz14_1
  try clear hfz15_0
  try clear hfz15_1
  try clear hfz17_0
  try clear hfz17_1
  try clear hfz18_0
  try clear hfz18_1
  try clear hfz20_0
  try clear hfz20_1
  try clear hfz21_0
  try clear hfz21_1
  obtain ⟨kq,x32_3,rfl,HA,HJ3,BK665,HB⟩:=hcut;cases kq with
  | zero => exact absurd HA.out (by simp [spec_FlowOf.j0])
  | succ kj3 =>
   have H:=HA.out;clear HA;simp only [spec_FlowOf.j0] at H
   by_cases c23 : x32_3 = true
   case pos =>
    subst c23;have H1 : (some ([] : List Int)) = some r:=by rw [if_pos rfl] at H; exact H
    clear H;have H:=H1;clear H1;obtain rfl:=Option.some.inj H
    go_wp2
    go_ret;exact ⟨_,by first | rfl | (simp [errW_none,errW_some] <;> rfl) | (simp [*,errW_none,errW_some] <;> rfl),by first | exact Kd.R_nil _ _ _ _ _ | exact Kd.N_nil _ _ _ _ _ | exact Kd.V_nil _ _ _ _ _ | exact Kd.Q_nil _ _ _ _ _ | exact Kd.S_nil _ _ _ _ _,by repeat (first | (with_reducible first | exact HB.out | apply below_alloc | apply pw_below_drewN | apply below_drew1 | refine below_set ?_ GE665.out) | exact HB.out)⟩
   replace c23:=Bool.eq_false_iff.mpr c23;subst c23;have H1 : (if 0 ≤ (l0_1.length : Int) then (if ((l0_1.length : Int) : Int).toNat ≤ 35184372088832 then (spec_FlowOf.l0 kj3 a1 a2 (List.replicate ((l0_1.length : Int) : Int).toNat 0) true a0_0 l0_1) else (none)) else (none)) = some r:=by rw [if_neg (show ¬ (false = true) by decide)] at H; exact H
   clear H;have H:=H1;clear H1
   by_cases c24 : 0 ≤ (l0_1.length : Int)
   case neg =>
    rw [if_neg c24] at H;exact absurd H (by simp)
   rw [if_pos c24] at H;have c24b0:=eq_true c24;have c24b1 : decide (0 ≤ (l0_1.length : Int)) = true:=decide_eq_true c24;clear c24
   by_cases c25 : ((l0_1.length : Int) : Int).toNat ≤ 35184372088832
   case neg =>
    rw [if_neg c25] at H;exact absurd H (by simp)
   rw [if_pos c25] at H;have c25b0:=eq_true c25;have c25b1 : decide (((l0_1.length : Int) : Int).toNat ≤ 35184372088832) = true:=decide_eq_true c25;clear c25;obtain ⟨y669,hy669⟩ : ∃ y_ : List Int,y_ = (List.replicate ((l0_1.length : Int) : Int).toNat 0):=⟨_,rfl⟩
   replace H : (spec_FlowOf.l0 kj3 a1 a2 y669 true a0_0 l0_1) = some r:=by first | (rw [hy669]; with_reducible exact H) | (have H2_:=(Option.bind_some _ _).symm.trans H; rw [hy669]; with_reducible exact H2_) | (have H2_:=(Option.bind_some _ _).symm.trans H; with_reducible exact H2_) | with_reducible exact H | (rw [hy669]; exact H) | exact H
   have Ny669:=I hy669;clear hy669;have H':=I H;clear H;have hcz26_0 : wc.cell? ⟨gb665,0,none⟩ = some (.int .i64 a0_0):=(blk_cell BK665.out 0).trans rfl;have hcz26_1 : wc.cell? ⟨gb665,1,none⟩ = some (.slice A0_1 l0_1.length c0_1):=(blk_cell BK665.out 1).trans rfl;have hfz26_0:=blk_frozen BK665.out 0;have hfz26_1:=blk_frozen BK665.out 1
   go_wp2_with (first | ((with_reducible refine gate_dst (N:=36) rfl ?_); refine Kd.R_make (Kd.int .i64) _ 3 rfl (N:=36) rfl 23 _ _ rfl (l0_1.length : Int) (by first | rfl | (go_simp; done) | (go_simp; rfl)) (by first | rfl | (go_simp; done) | (go_simp; rfl)) Try.underlying23 (.int .i64 0) 8 info3 rfl (by decide) (by omega) 0 (ok:=fun _ => True) (okp:=fun _ => True) rfl (fun _ hk => hk) trivial (of_decide_eq_true (by first | (with_reducible assumption) | assumption)) (Nat.le_trans (Nat.mul_le_mul_right _ (of_decide_eq_true (by first | (with_reducible assumption) | assumption) : (l0_1.length : Int).toNat ≤ 35184372088832)) (by omega)) (Below.refl _ _) (Nat.le_refl _) ?_; intro v670 w27 ho28 hb hg_ hnew_; clear hg_ hnew_; (first | rw [← Ny669.out] at ho28 | (simp only [Int.reduceToNat] at ho28; rw [← Ny669.out] at ho28)); have n0_:=I (Kd.R_lower ho28 (below_size (by repeat (first | (with_reducible first | exact HB.out | apply below_alloc | apply pw_below_drewN | apply below_drew1 | refine below_set ?_ GE665.out) | exact HB.out)))); have n1_:=I (blk_below (g:=gb665) (o:=.cells #[.int .i64 a0_0,.slice A0_1 l0_1.length c0_1] 34 (0,0)) (by (with_reducible repeat (first | refine blk_drewN ?_ _ | refine blk_drew ?_ | refine blk_alloc ?_ _)); exact BK665.out) hb); have n2_:=I (below_step (by repeat (first | (with_reducible first | exact HB.out | apply below_alloc | apply pw_below_drewN | apply below_drew1 | refine below_set ?_ GE665.out) | exact HB.out)) hb); clear BK665; clear HB; have HO671:=n0_; have BK665:=n1_; have HB:=n2_; clear n0_ n1_ n2_; clear hb ho28))
   go_loopg [7,8] kj3 (fun kq v7 v8 w' => ∃ (x7_2 : List Int) (x8_2 : Bool),v8 = .bool x8_2 ∧ Aside0 (spec_FlowOf.l0 kq a1 a2 x7_2 x8_2 a0_0 l0_1 = some r) ∧ Aside0 (kq ≤ kj3) ∧ Aside0 (Kd.R (Kd.int .i64) 3 w' w.heap.size (fun _ => True) v7 x7_2) ∧ Aside0 (w'.heap[gb665]? = some (.cells #[.int .i64 a0_0,(.slice A0_1 l0_1.length c0_1)] 34 (0,0))) ∧ Aside0 (Below w.heap.size w w'))
   case atStart => exact ⟨(y669),(true),(by first | rfl | (simp; done) | (simp [*]; done)),H',⟨Nat.le_refl _⟩,⟨by (with_reducible repeat (first | apply Kd.R_alloc | apply Kd.R_drewN | apply Kd.R_drew)); exact HO671.out⟩,⟨by (with_reducible repeat (first | refine blk_drewN ?_ _ | refine blk_drew ?_ | refine blk_alloc ?_ _)); exact BK665.out⟩,⟨by repeat (first | (with_reducible first | exact HB.out | apply below_alloc | apply pw_below_drewN | apply below_drew1 | refine below_set ?_ GE665.out) | exact HB.out)⟩⟩
   case round =>
    clear H'
    try clear c1
    try clear c2
    try clear p2
    try clear c4
    try clear p6
    try clear c7
    try clear c9
    try clear c11
    try clear c23
    try clear c24
    try clear c24b0
    try clear c24b1
    try clear c25
    try clear c25b0
    try clear c25b1
    try clear hcz12_0
    try clear hcz12_1
    try clear hcz14_0
    try clear hcz14_1
    try clear hcz15_0
    try clear hcz15_1
    try clear hcz17_0
    try clear hcz17_1
    try clear hcz18_0
    try clear hcz18_1
    try clear hcz20_0
    try clear hcz20_1
    try clear hcz21_0
    try clear hcz21_1
    try clear hcz26_0
    try clear hcz26_1
    try clear hfz12_0
    try clear hfz12_1
    try clear hfz14_0
    try clear hfz14_1
    try clear hfz15_0
    try clear hfz15_1
    try clear hfz17_0
    try clear hfz17_1
    try clear hfz18_0
    try clear hfz18_1
    try clear hfz20_0
    try clear hfz20_1
    try clear hfz21_0
    try clear hfz21_1
    try clear hfz26_0
    try clear hfz26_1
    try clear p2
    try clear p6
    obtain ⟨x7_2,x8_2,rfl,HA,HK2,HO_7,BK665,HB⟩:=hrel;cases gk with
    | zero => exact absurd HA.out (by simp [spec_FlowOf.l0])
    | succ k2 =>
     have H:=HA.out;clear HA;simp only [spec_FlowOf.l0] at H
     by_cases c29 : x8_2 = true
     case neg =>
      replace c29:=Bool.eq_false_iff.mpr c29;subst c29;have H1 : (some x7_2) = some r:=by rw [if_neg (show ¬ (false = true) by decide)] at H; exact H
      clear H;have H:=H1;clear H1;obtain rfl:=Option.some.inj H
      go_wp2
      go_ret;exact ⟨_,by first | rfl | (simp [errW_none,errW_some] <;> rfl) | (simp [*,errW_none,errW_some] <;> rfl),by (with_reducible repeat (first | apply Kd.R_alloc | apply Kd.R_drewN | apply Kd.R_drew)); exact HO_7.out,by repeat (first | (with_reducible first | exact HB.out | apply below_alloc | apply pw_below_drewN | apply below_drew1 | refine below_set ?_ GE665.out) | exact HB.out)⟩
     subst c29;have H1 : ((spec_l25Push.f k2 a0_0 l0_1 x7_2 a1 a2).bind fun bt672 => (spec_FlowOf.l0 k2 a1 a2 bt672.1 bt672.2 a0_0 l0_1)) = some r:=by rw [if_pos rfl] at H; exact H
     clear H;have H:=H1;clear H1;replace H:=Option.bind_eq_some_iff.mp H;obtain ⟨⟨t672,t675⟩,A300,H⟩:=H;replace H : (spec_FlowOf.l0 k2 a1 a2 t672 t675 a0_0 l0_1) = some r:=H;have A30:=I A300;clear A300;have H':=I H;clear H;have hcz31_0 : wr.cell? ⟨gb665,0,none⟩ = some (.int .i64 a0_0):=(blk_cell BK665.out 0).trans rfl;have hcz31_1 : wr.cell? ⟨gb665,1,none⟩ = some (.slice A0_1 l0_1.length c0_1):=(blk_cell BK665.out 1).trans rfl;have hfz31_0:=blk_frozen BK665.out 0;have hfz31_1:=blk_frozen BK665.out 1;obtain ⟨Ao32,co32,eo32⟩:=Kd.R_slice HO_7.out;subst eo32
     go_wp2_with (first | ((with_reducible refine gate_callee (f:=95) rfl ?_); refine goesL_ (some 43) rfl rfl Try.func95 (by kernel_rfl) rfl #[.agg #[.int .i64 a0_0,.slice A0_1 l0_1.length c0_1],.slice Ao32 x7_2.length co32,.int .i64 a1,.int .i64 a2] rfl (by (try simp only [List.map_toArray,List.map_cons,List.map_nil]); first | done | rfl | (simp only [List.length_drop,List.length_take]; rfl)) ?_; (with_reducible refine (spec_l25Push.calls k2 a0_0 _ _ l0_1 (fun k_ => some k_ = (.slice Ao32 x7_2.length co32 : Value).ownBlock) (.slice Ao32 x7_2.length co32) x7_2 a1 a2 t672 t675 w _ ?side1 ?side2 ?side3 ?side4 A30.out).mono ?_); (case side1 => repeat (first | (with_reducible first | exact HB.out | apply below_alloc | apply pw_below_drewN | apply below_drew1 | refine below_set ?_ GE665.out) | exact HB.out)); (case side2 => exact Kd.C_kept_came k58_heap HR0_1.out (by repeat (first | (with_reducible first | exact HB.out | apply below_alloc | apply pw_below_drewN | apply below_drew1 | refine below_set ?_ GE665.out) | exact HB.out)) (fun k_ hs_ => (fun e_ => Kd.R_base HO_7.out k_ e_.symm) hs_)); (case side3 => exact HC0_1.out); (case side4 => exact Kd.R_tight rfl HO_7.out); rintro e w33 ⟨v673,rfl,ho0,hb,hkp⟩; refine ⟨_,rfl,?_⟩; have n0_:=I (blk_kept (by (with_reducible repeat (first | refine blk_drewN ?_ _ | refine blk_drew ?_ | refine blk_alloc ?_ _)); exact BK665.out) hkp (fun hs_ => (fun e_ => (Kd.R_ne HO_7.out BK665.out (by decide)) e_) hs_)); have n1_:=I (Kd.R_mono (ok':=fun k_ => True) ho0 (fun k_ hk_ => trivial)); have n2_:=I (hb); clear BK665; clear HB; clear HO_7; have BK665:=n0_; have HO674:=n1_; have HB:=n2_; clear n0_ n1_ n2_; (try clear hb); (try clear hkp); (try clear ho0)))
     go_roundg k2
     case measure => have:=HJ3.out; have:=HK2.out; omega
     case rel => exact ⟨(t672),(t675),(by first | rfl | (simp; done) | (simp [*]; done)),H',⟨by have:=HJ3.out; have:=HK2.out; omega⟩,⟨by (with_reducible repeat (first | apply Kd.R_alloc | apply Kd.R_drewN | apply Kd.R_drew)); exact HO674.out⟩,⟨by (with_reducible repeat (first | refine blk_drewN ?_ _ | refine blk_drew ?_ | refine blk_alloc ?_ _)); exact BK665.out⟩,⟨by repeat (first | (with_reducible first | exact HB.out | apply below_alloc | apply pw_below_drewN | apply below_drew1 | refine below_set ?_ GE665.out) | exact HB.out)⟩⟩
def impl_within.f (a0 : Int) (a1 : Int) (a2 : Int) : Option (Bool):=if a0 ≥ a1 then (some (decide (a0 ≤ a2))) else (some false)
set_option maxHeartbeats 8000000 in
set_option maxRecDepth 100000 in
theorem impl_within.calls (a0 : Int) (a1 : Int) (a2 : Int) (r : Bool) (w : World) (h : impl_within.f a0 a1 a2 = some r) :
  Calls Try.prog 82 #[.int .i64 a0,.int .i64 a1,.int .i64 a2] w fun e w' => e = .returned (.bool r) ∧ Drawn0 w w':=by
 have H : (if a0 ≥ a1 then (some (decide (a0 ≤ a2))) else (some false)) = some r:=h;clear h
 by_cases c4 : a0 ≥ a1
 case pos =>
  rw [if_pos c4] at H;have c4b0 : decide (a1 ≤ a0) = true:=decide_eq_true c4;clear c4;obtain rfl:=Option.some.inj H
  go_enter Try.func82,Try.ntmps82
  go_wp2
  go_ret;exact ⟨by first | rfl | (simp; done) | (simp [*]; done),by repeat (first | exact Drawn0.refl _ | apply Drawn0.step)⟩
 rw [if_neg c4] at H;have c4b0 : decide (a1 ≤ a0) = false:=decide_eq_false c4;clear c4;obtain rfl:=Option.some.inj H
 go_enter Try.func82,Try.ntmps82
 go_wp2
 go_ret;exact ⟨by first | rfl | (simp; done) | (simp [*]; done),by repeat (first | exact Drawn0.refl _ | apply Drawn0.step)⟩
end Go.Proofs.Ytlhmljngjdfbpaa.Pr
end
