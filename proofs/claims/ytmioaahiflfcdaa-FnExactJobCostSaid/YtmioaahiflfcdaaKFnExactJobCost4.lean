/- For the statement FnExactJobCost of this seat: it is proved here, with no further conditions (part 5 of its texts: words, walks of the functions, the plain law, the row). -/
import Derived.Deep.RegionLaw
import Derived.Test.YtmioaahiflfcdaaKFnExactJobCost3
section
namespace Go.Proofs.Ytmioaahiflfcdaa.Pr
open Go.RowKit Go.Proofs.YtmioaahiflfcdaaW.PrintWords Go.Proofs.YtmioaahiflfcdaaW.PrintLast Go.Proofs.YtmioaahiflfcdaaW.PrintMore
attribute [local go_sem] max2_int min2_int max_two min_two max_three min_three max_four min_four
set_option linter.unusedVariables false
set_option linter.unusedSimpArgs false
open List renaming setIfInBounds_toArray → U,set_cons_zero → V,set_cons_succ → Z
open Go.Proofs.YtmioaahiflfcdaaW.PrintWords.Aside0 renaming mk → zx
mutual
def spec_l8Order.l0 : Nat → List Int → Int → Int → Option (Bool)
 | 0,_,_,_ => none
 | k + 1,x0,x1,x5 => if x5 < (x0.length : Int) then (if 0 ≤ x5 then ((spec_l1In.f (rd x0 x5) 0 (wrap64 (x1 - 1))).bind fun t561 => (if t561 = true then (spec_l8Order.l1 k x0 x1 x5 0) else (some false))) else (none)) else (some ((x0.length : Int) == x1))
def spec_l8Order.l1 : Nat → List Int → Int → Int → Int → Option (Bool)
 | 0,_,_,_,_ => none
 | k + 1,x0,x1,x5,x6 => if x6 < x5 then (if 0 ≤ x6 then (if x6 < (x0.length : Int) then (if 0 ≤ x5 then (if x5 < (x0.length : Int) then (if (rd x0 x6) = (rd x0 x5) then (some false) else (spec_l8Order.l1 k x0 x1 x5 (wrap64 (x6 + 1)))) else (none)) else (none)) else (none)) else (none)) else (spec_l8Order.l0 k x0 x1 (wrap64 (x5 + 1)))
end
def spec_l8Order.f (k : Nat) (l0 : List Int) (a1 : Int) : Option (Bool):=spec_l8Order.l0 k l0 a1 0
set_option maxHeartbeats 8000000 in
set_option maxRecDepth 100000 in
theorem spec_l8Order.calls (k : Nat) (A0 : Option Addr) (c0 : Nat) (l0 : List Int) (a1 : Int) (r : Bool) (w : World) (hr0 : Kd.C (Kd.int .i64) w A0 l0.length l0) (hc0 : l0.length ≤ c0) (h : spec_l8Order.f k l0 a1 = some r) :
  Calls Try.prog 44 #[.slice A0 l0.length c0,.int .i64 a1] w fun e w' => e = .returned (.bool r) ∧ Drawn0 w w':=by
 have HR0:=zx hr0;have HC0:=zx hc0;clear hr0 hc0;have H : (spec_l8Order.l0 k l0 a1 0) = some r:=h;clear h;have H':=zx H;clear H
 go_enter Try.func44,Try.ntmps44
 go_wp2
 repeat (go_quiet (fail); try go_wp2)
 go_loopg [5] k (fun kq v5 w' => ∃ (x5_1 : Int),v5 = .int .i64 x5_1 ∧ Aside0 (spec_l8Order.l0 kq l0 a1 x5_1 = some r) ∧ Aside0 (kq ≤ k) ∧ Drawn0 w w')
 case atStart => exact ⟨(0),(by first | rfl | (simp; done) | (simp [*]; done)),H',⟨Nat.le_refl _⟩,by repeat (first | exact Drawn0.refl _ | apply Drawn0.step)⟩
 case round =>
  clear H'
  try clear p2
  obtain ⟨x5_1,rfl,HA,HK1,⟨m1,rfl⟩⟩:=hrel;cases gk with
  | zero => exact absurd HA.out (by simp [spec_l8Order.l0])
  | succ k1 =>
   have H:=HA.out;clear HA;simp only [spec_l8Order.l0] at H
   by_cases c3 : x5_1 < (l0.length : Int)
   case neg =>
    rw [if_neg c3] at H;have c3b0 : decide (x5_1 < (l0.length : Int)) = false:=decide_eq_false c3;clear c3;obtain rfl:=Option.some.inj H
    go_wp2
    repeat (go_quiet (fail); try go_wp2)
    go_ret;exact ⟨by first | rfl | (simp; done) | (simp [*]; done),by repeat (first | exact Drawn0.refl _ | apply Drawn0.step)⟩
   rw [if_pos c3] at H;have c3b0 : decide (x5_1 < (l0.length : Int)) = true:=decide_eq_true c3;clear c3
   by_cases c4 : 0 ≤ x5_1
   case neg =>
    rw [if_neg c4] at H;exact absurd H (by simp)
   rw [if_pos c4] at H;have c4b0 : decide (0 ≤ x5_1) = true:=decide_eq_true c4;clear c4;replace H:=Option.bind_eq_some_iff.mp H;obtain ⟨t561,A50,H⟩:=H;replace H : (if t561 = true then (spec_l8Order.l1 k1 l0 a1 x5_1 0) else (some false)) = some r:=H;have A5:=zx A50;clear A50
   by_cases c6 : t561 = true
   case neg =>
    replace c6:=Bool.eq_false_iff.mpr c6;subst c6;have H1 : (some false) = some r:=by rw [if_neg (show ¬ (false = true) by decide)] at H; exact H
    clear H;have H:=H1;clear H1;obtain rfl:=Option.some.inj H;have p560 : 0 ≤ (x5_1 : Int):=of_decide_eq_true (by first | (with_reducible assumption) | assumption);have q560 : x5_1 < (l0.length : Int):=of_decide_eq_true (by first | (with_reducible assumption) | assumption);obtain ⟨ad560,e560,hx560_0⟩:=Kd.at_int HR0.out x5_1 p560 q560;cases e560;replace p560:=eq_true p560;replace q560:=eq_true q560
    go_wp2_with (first | (go_at_call 60; (with_reducible refine (spec_l1In.calls (rd l0 x5_1) 0 (wrap64 (a1 - 1)) false _ A5.out).mono ?_); rintro e w' ⟨rfl,⟨nd,rfl⟩⟩; (try first | exact ⟨rfl,_,World.drewN_drewN _ _ _⟩ | exact ⟨rfl,_,Eq.trans (World.drewN_drewN _ _ _) (congrArg (World.drewN _) (Nat.add_assoc _ _ _))⟩)))
    repeat (go_quiet (first | (go_at_call 60; (with_reducible refine (spec_l1In.calls (rd l0 x5_1) 0 (wrap64 (a1 - 1)) false _ A5.out).mono ?_); rintro e w' ⟨rfl,⟨nd,rfl⟩⟩; (try first | exact ⟨rfl,_,World.drewN_drewN _ _ _⟩ | exact ⟨rfl,_,Eq.trans (World.drewN_drewN _ _ _) (congrArg (World.drewN _) (Nat.add_assoc _ _ _))⟩))); try go_wp2_with (first | (go_at_call 60; (with_reducible refine (spec_l1In.calls (rd l0 x5_1) 0 (wrap64 (a1 - 1)) false _ A5.out).mono ?_); rintro e w' ⟨rfl,⟨nd,rfl⟩⟩; (try first | exact ⟨rfl,_,World.drewN_drewN _ _ _⟩ | exact ⟨rfl,_,Eq.trans (World.drewN_drewN _ _ _) (congrArg (World.drewN _) (Nat.add_assoc _ _ _))⟩))))
    go_ret;exact ⟨by first | rfl | (simp; done) | (simp [*]; done),by repeat (first | exact Drawn0.refl _ | apply Drawn0.step)⟩
   subst c6;have H1 : (spec_l8Order.l1 k1 l0 a1 x5_1 0) = some r:=by rw [if_pos rfl] at H; exact H
   clear H;have H:=H1;clear H1;have H':=zx H;clear H;have p560 : 0 ≤ (x5_1 : Int):=of_decide_eq_true (by first | (with_reducible assumption) | assumption);have q560 : x5_1 < (l0.length : Int):=of_decide_eq_true (by first | (with_reducible assumption) | assumption);obtain ⟨ad560,e560,hx560_0⟩:=Kd.at_int HR0.out x5_1 p560 q560;cases e560;replace p560:=eq_true p560;replace q560:=eq_true q560
   go_wp2_with (first | (go_at_call 60; (with_reducible refine (spec_l1In.calls (rd l0 x5_1) 0 (wrap64 (a1 - 1)) true _ A5.out).mono ?_); rintro e w' ⟨rfl,⟨nd,rfl⟩⟩; (try first | exact ⟨rfl,_,World.drewN_drewN _ _ _⟩ | exact ⟨rfl,_,Eq.trans (World.drewN_drewN _ _ _) (congrArg (World.drewN _) (Nat.add_assoc _ _ _))⟩)))
   repeat (go_quiet (first | (go_at_call 60; (with_reducible refine (spec_l1In.calls (rd l0 x5_1) 0 (wrap64 (a1 - 1)) true _ A5.out).mono ?_); rintro e w' ⟨rfl,⟨nd,rfl⟩⟩; (try first | exact ⟨rfl,_,World.drewN_drewN _ _ _⟩ | exact ⟨rfl,_,Eq.trans (World.drewN_drewN _ _ _) (congrArg (World.drewN _) (Nat.add_assoc _ _ _))⟩))); try go_wp2_with (first | (go_at_call 60; (with_reducible refine (spec_l1In.calls (rd l0 x5_1) 0 (wrap64 (a1 - 1)) true _ A5.out).mono ?_); rintro e w' ⟨rfl,⟨nd,rfl⟩⟩; (try first | exact ⟨rfl,_,World.drewN_drewN _ _ _⟩ | exact ⟨rfl,_,Eq.trans (World.drewN_drewN _ _ _) (congrArg (World.drewN _) (Nat.add_assoc _ _ _))⟩))))
   go_loopg [6] k1 (fun kq v6 w' => ∃ (x6_2 : Int),v6 = .int .i64 x6_2 ∧ Aside0 (spec_l8Order.l1 kq l0 a1 x5_1 x6_2 = some r) ∧ Aside0 (kq ≤ k1) ∧ Drawn0 w w')
   case atStart => exact ⟨(0),(by first | rfl | (simp; done) | (simp [*]; done)),H',⟨Nat.le_refl _⟩,by repeat (first | exact Drawn0.refl _ | apply Drawn0.step)⟩
   case round =>
    clear H'
    try clear p2
    try clear c3
    try clear c3b0
    try clear c4
    try clear c4b0
    try clear p5
    try clear q5
    try clear hx5
    try clear c6
    try clear p6
    try clear hx560_0
    try clear p2
    try clear p560
    try clear q560
    obtain ⟨x6_2,rfl,HA,HK2,⟨m2,rfl⟩⟩:=hrel;cases gk with
    | zero => exact absurd HA.out (by simp [spec_l8Order.l1])
    | succ k2 =>
     have H:=HA.out;clear HA;simp only [spec_l8Order.l1] at H
     by_cases c7 : x6_2 < x5_1
     case neg =>
      rw [if_neg c7] at H;have c7b0 : decide (x6_2 < x5_1) = false:=decide_eq_false c7;clear c7;have H':=zx H;clear H
      go_wp2
      repeat (go_quiet (fail); try go_wp2)
      go_roundg k2
      case measure => have:=HK1.out; have:=HK2.out; omega
      case rel => exact ⟨(wrap64 (x5_1 + 1)),(by first | rfl | (simp; done) | (simp [*]; done)),H',⟨by have:=HK1.out; have:=HK2.out; omega⟩,by repeat (first | exact Drawn0.refl _ | apply Drawn0.step)⟩
     rw [if_pos c7] at H;have c7b0 : decide (x6_2 < x5_1) = true:=decide_eq_true c7;clear c7
     by_cases c8 : 0 ≤ x6_2
     case neg =>
      rw [if_neg c8] at H;exact absurd H (by simp)
     rw [if_pos c8] at H;have c8b0 : decide (0 ≤ x6_2) = true:=decide_eq_true c8;clear c8
     by_cases c9 : x6_2 < (l0.length : Int)
     case neg =>
      rw [if_neg c9] at H;exact absurd H (by simp)
     rw [if_pos c9] at H;have c9b0 : decide (x6_2 < (l0.length : Int)) = true:=decide_eq_true c9;clear c9
     by_cases c10 : 0 ≤ x5_1
     case neg =>
      rw [if_neg c10] at H;exact absurd H (by simp)
     rw [if_pos c10] at H;have c10b0 : decide (0 ≤ x5_1) = true:=decide_eq_true c10;clear c10
     by_cases c11 : x5_1 < (l0.length : Int)
     case neg =>
      rw [if_neg c11] at H;exact absurd H (by simp)
     rw [if_pos c11] at H;have c11b0 : decide (x5_1 < (l0.length : Int)) = true:=decide_eq_true c11;clear c11
     by_cases c12 : (rd l0 x6_2) = (rd l0 x5_1)
     case pos =>
      rw [if_pos c12] at H;have c12b0 : ((rd l0 x6_2) == (rd l0 x5_1)) = true:=beq_iff_eq.mpr c12;have c12b1 : ((rd l0 x6_2) != (rd l0 x5_1)) = false:=bne_eq_false_iff_eq.mpr c12;clear c12;obtain rfl:=Option.some.inj H;have p562 : 0 ≤ (x6_2 : Int):=of_decide_eq_true (by first | (with_reducible assumption) | assumption);have q562 : x6_2 < (l0.length : Int):=of_decide_eq_true (by first | (with_reducible assumption) | assumption);obtain ⟨ad562,e562,hx562_0⟩:=Kd.at_int HR0.out x6_2 p562 q562;obtain rfl : ad560 = ad562:=(by injection e562)
      replace p562:=eq_true p562;replace q562:=eq_true q562;have p563 : 0 ≤ (x5_1 : Int):=of_decide_eq_true (by first | (with_reducible assumption) | assumption);have q563 : x5_1 < (l0.length : Int):=of_decide_eq_true (by first | (with_reducible assumption) | assumption);obtain ⟨ad563,e563,hx563_0⟩:=Kd.at_int HR0.out x5_1 p563 q563;obtain rfl : ad560 = ad563:=(by injection e563)
      replace p563:=eq_true p563;replace q563:=eq_true q563
      go_wp2
      repeat (go_quiet (fail); try go_wp2)
      go_ret;exact ⟨by first | rfl | (simp; done) | (simp [*]; done),by repeat (first | exact Drawn0.refl _ | apply Drawn0.step)⟩
     rw [if_neg c12] at H;have c12b0 : ((rd l0 x6_2) == (rd l0 x5_1)) = false:=beq_eq_false_iff_ne.mpr c12;have c12b1 : ((rd l0 x6_2) != (rd l0 x5_1)) = true:=bne_iff_ne.mpr c12;have H':=zx H;clear H;have p562 : 0 ≤ (x6_2 : Int):=of_decide_eq_true (by first | (with_reducible assumption) | assumption);have q562 : x6_2 < (l0.length : Int):=of_decide_eq_true (by first | (with_reducible assumption) | assumption);obtain ⟨ad562,e562,hx562_0⟩:=Kd.at_int HR0.out x6_2 p562 q562;obtain rfl : ad560 = ad562:=(by injection e562)
     replace p562:=eq_true p562;replace q562:=eq_true q562;have p563 : 0 ≤ (x5_1 : Int):=of_decide_eq_true (by first | (with_reducible assumption) | assumption);have q563 : x5_1 < (l0.length : Int):=of_decide_eq_true (by first | (with_reducible assumption) | assumption);obtain ⟨ad563,e563,hx563_0⟩:=Kd.at_int HR0.out x5_1 p563 q563;obtain rfl : ad560 = ad563:=(by injection e563)
     replace p563:=eq_true p563;replace q563:=eq_true q563
     go_wp2
     repeat (go_quiet (fail); try go_wp2)
     go_roundg k2
     case measure => have:=HK1.out; have:=HK2.out; omega
     case rel => exact ⟨(wrap64 (x6_2 + 1)),(by first | rfl | (simp; done) | (simp [*]; done)),H',⟨by have:=HK1.out; have:=HK2.out; omega⟩,by repeat (first | exact Drawn0.refl _ | apply Drawn0.step)⟩
def spec_JobCost.j0 : Nat → List Int → List Int → List Int → Bool → Int → List (S80) → Option (Int)
 | 0,_,_,_,_,_,_ => none
 | k + 1,x1,x2,x3,x20,x565000,x565001 => if x20 = true then (some (-1)) else ((spec_ManyAll.f k x565000 x565001 x1 x2).bind fun t567 => ((spec_l27Cost.f k t567 x3).bind fun t570 => (some t570)))
def spec_JobCost.f (k : Nat) (a0_0 : Int) (l0_1 : List (S80)) (l1 : List Int) (l2 : List Int) (l3 : List Int) : Option (Int):=(spec_l27Ok.f k a0_0 l0_1 l1 l2).bind fun t565 => (if t565 = true then ((spec_l8Order.f k l3 (l1.length : Int)).bind fun t566 => (spec_JobCost.j0 k l1 l2 l3 (!t566) a0_0 l0_1)) else (spec_JobCost.j0 k l1 l2 l3 true a0_0 l0_1))
set_option maxHeartbeats 8000000 in
set_option maxRecDepth 100000 in
theorem spec_JobCost.calls (k : Nat) (a0_0 : Int) (A0_1 : Option Addr) (c0_1 : Nat) (l0_1 : List (S80)) (A1 : Option Addr) (c1 : Nat) (l1 : List Int) (A2 : Option Addr) (c2 : Nat) (l2 : List Int) (A3 : Option Addr) (c3 : Nat) (l3 : List Int) (r : Int) (w : World) (hr0_1 : Kd.C k80 w A0_1 l0_1.length l0_1) (hc0_1 : l0_1.length ≤ c0_1) (hr1 : Kd.C (Kd.int .i64) w A1 l1.length l1) (hc1 : l1.length ≤ c1) (hr2 : Kd.C (Kd.int .i64) w A2 l2.length l2) (hc2 : l2.length ≤ c2) (hr3 : Kd.C (Kd.int .i64) w A3 l3.length l3) (hc3 : l3.length ≤ c3) (h : spec_JobCost.f k a0_0 l0_1 l1 l2 l3 = some r) :
  Calls Try.prog 21 #[.agg #[.int .i64 a0_0,.slice A0_1 l0_1.length c0_1],.slice A1 l1.length c1,.slice A2 l2.length c2,.slice A3 l3.length c3] w fun e w' => e = .returned (.int .i64 r) ∧ Below w.heap.size w w':=by
 have hu25:=Try.underlying25;have HR0_1:=zx hr0_1;have HC0_1:=zx hc0_1;clear hr0_1 hc0_1;have HR1:=zx hr1;have HC1:=zx hc1;clear hr1 hc1;have HR2:=zx hr2;have HC2:=zx hc2;clear hr2 hc2;have HR3:=zx hr3;have HC3:=zx hc3;clear hr3 hc3;have HB:=zx (Below.refl w.heap.size w);have H : ((spec_l27Ok.f k a0_0 l0_1 l1 l2).bind fun t565 => (if t565 = true then ((spec_l8Order.f k l3 (l1.length : Int)).bind fun t566 => (spec_JobCost.j0 k l1 l2 l3 (!t566) a0_0 l0_1)) else (spec_JobCost.j0 k l1 l2 l3 true a0_0 l0_1))) = some r:=h;clear h;have HC5:=zx H;clear H
 go_enter Try.func21,Try.ntmps21
 go_upto_region 1 with (first | ((with_reducible refine gate_dst (N:=4) rfl ?_); (try (refine gate_guard (by rfl) ?_; dsimp only)); refine box_event ?hg (N:=4) ?hd (cs:=#[.int .i64 a0_0,.slice A0_1 l0_1.length c0_1]) (t:=25) ?hr ?_; (case hd => rfl); (case hg => rfl); (case hr => first | (go_simp; done) | (go_simp; rfl)); intro gb564 hg w6 hbox hb; have n0_:=zx (below_step (by repeat (first | (with_reducible first | exact HB.out | apply below_alloc | apply pw_below_drewN | apply below_drew1) | exact HB.out)) hb); have n1_:=zx (hbox); have n2_:=zx ((by rw [hg]; exact (below_size (by repeat (first | (with_reducible first | exact HB.out | apply below_alloc | apply pw_below_drewN | apply below_drew1) | exact HB.out))) : w.heap.size ≤ gb564)); have n3_:=zx ((by rw [hg]; exact (below_size (by repeat (first | (with_reducible first | exact HB.out | apply below_alloc | apply pw_below_drewN | apply below_drew1) | exact HB.out))) : w.heap.size ≤ gb564)); clear HB; have HB:=n0_; have BK564:=n1_; have GW564:=n2_; have GE564:=n3_; clear n0_ n1_ n2_ n3_; clear hb hbox hg))
 (try simp only [Act.put,U,V,Z])
 go_cut [20] (fun v20 wc => ∃ (kq : Nat) (x20_4 : Bool),v20 = .bool x20_4 ∧ Aside0 (spec_JobCost.j0 kq l1 l2 l3 x20_4 a0_0 l0_1 = some r) ∧ Aside0 (kq ≤ k) ∧ Aside0 (wc.heap[gb564]? = some (.cells #[.int .i64 a0_0,(.slice A0_1 l0_1.length c0_1)] 25 (0,0))) ∧ Aside0 (Below w.heap.size w wc))
 case first =>
  have H:=HC5.out;clear HC5;replace H:=Option.bind_eq_some_iff.mp H;obtain ⟨t565,A70,H⟩:=H;replace H : (if t565 = true then ((spec_l8Order.f k l3 (l1.length : Int)).bind fun t566 => (spec_JobCost.j0 k l1 l2 l3 (!t566) a0_0 l0_1)) else (spec_JobCost.j0 k l1 l2 l3 true a0_0 l0_1)) = some r:=H;have A7:=zx A70;clear A70
  by_cases c8 : t565 = true
  case neg =>
   replace c8:=Bool.eq_false_iff.mpr c8;subst c8;have H1 : (spec_JobCost.j0 k l1 l2 l3 true a0_0 l0_1) = some r:=by rw [if_neg (show ¬ (false = true) by decide)] at H; exact H
   clear H;have H:=H1;clear H1;have H':=zx H;clear H;have hcz12_0 : w6.cell? ⟨gb564,0,none⟩ = some (.int .i64 a0_0):=(blk_cell BK564.out 0).trans rfl;have hcz12_1 : w6.cell? ⟨gb564,1,none⟩ = some (.slice A0_1 l0_1.length c0_1):=(blk_cell BK564.out 1).trans rfl;have hfz12_0:=blk_frozen BK564.out 0;have hfz12_1:=blk_frozen BK564.out 1
   go_wp2_with (first | ((with_reducible refine gate_callee (f:=35) rfl ?_); refine goesL_ (some 12) rfl rfl Try.func35 (by kernel_rfl) rfl #[.agg #[.int .i64 a0_0,.slice A0_1 l0_1.length c0_1],.slice A1 l1.length c1,.slice A2 l2.length c2] rfl (by (try simp only [List.map_toArray,List.map_cons,List.map_nil]); first | done | rfl | (simp only [List.length_drop,List.length_take]; rfl)) ?_; (with_reducible refine (spec_l27Ok.calls k a0_0 _ _ l0_1 _ _ l1 _ _ l2 false _ ?side1 ?side2 ?side3 ?side4 ?side5 ?side6 A7.out).mono ?_); (case side1 => repeat (first | exact (Kd.C_below HR0_1.out HB.out) | (with_reducible refine Kd.C_alloc ?_ _) | (with_reducible refine Kd.C_drewN ?_ _) | (with_reducible refine Kd.C_drew ?_))); (case side2 => exact HC0_1.out); (case side3 => repeat (first | exact (Kd.C_below HR1.out HB.out) | (with_reducible refine Kd.C_alloc ?_ _) | (with_reducible refine Kd.C_drewN ?_ _) | (with_reducible refine Kd.C_drew ?_))); (case side4 => exact HC1.out); (case side5 => repeat (first | exact (Kd.C_below HR2.out HB.out) | (with_reducible refine Kd.C_alloc ?_ _) | (with_reducible refine Kd.C_drewN ?_ _) | (with_reducible refine Kd.C_drew ?_))); (case side6 => exact HC2.out); rintro e w13 ⟨rfl,hb⟩; refine ⟨_,rfl,?_⟩; have n0_:=zx (blk_below (g:=gb564) (o:=.cells #[.int .i64 a0_0,.slice A0_1 l0_1.length c0_1] 25 (0,0)) (by (with_reducible repeat (first | refine blk_drewN ?_ _ | refine blk_drew ?_ | refine blk_alloc ?_ _)); exact BK564.out) hb); have n1_:=zx (below_step (by repeat (first | (with_reducible first | exact HB.out | apply below_alloc | apply pw_below_drewN | apply below_drew1 | refine below_set ?_ GE564.out) | exact HB.out)) hb); clear BK564; clear HB; have BK564:=n0_; have HB:=n1_; clear n0_ n1_; (try clear hb); (try clear hb2); (try clear hk); (try clear hi)))
   go_meet
   case rel => exact ⟨_,(true),(by first | rfl | (simp; done) | (simp [*]; done)),H',⟨by first | omega | exact Nat.le_refl _⟩,⟨by (with_reducible repeat (first | refine blk_drewN ?_ _ | refine blk_drew ?_ | refine blk_alloc ?_ _)); exact BK564.out⟩,⟨by repeat (first | (with_reducible first | exact HB.out | apply below_alloc | apply pw_below_drewN | apply below_drew1 | refine below_set ?_ GE564.out) | exact HB.out)⟩⟩
  subst c8;have H1 : ((spec_l8Order.f k l3 (l1.length : Int)).bind fun t566 => (spec_JobCost.j0 k l1 l2 l3 (!t566) a0_0 l0_1)) = some r:=by rw [if_pos rfl] at H; exact H
  clear H;have H:=H1;clear H1;replace H:=Option.bind_eq_some_iff.mp H;obtain ⟨t566,A90,H⟩:=H;replace H : (spec_JobCost.j0 k l1 l2 l3 (!t566) a0_0 l0_1) = some r:=H;have A9:=zx A90;clear A90;have H':=zx H;clear H;have hcz10_0 : w6.cell? ⟨gb564,0,none⟩ = some (.int .i64 a0_0):=(blk_cell BK564.out 0).trans rfl;have hcz10_1 : w6.cell? ⟨gb564,1,none⟩ = some (.slice A0_1 l0_1.length c0_1):=(blk_cell BK564.out 1).trans rfl;have hfz10_0:=blk_frozen BK564.out 0;have hfz10_1:=blk_frozen BK564.out 1
  go_wp2_with (first | ((with_reducible refine gate_callee (f:=35) rfl ?_); refine goesL_ (some 12) rfl rfl Try.func35 (by kernel_rfl) rfl #[.agg #[.int .i64 a0_0,.slice A0_1 l0_1.length c0_1],.slice A1 l1.length c1,.slice A2 l2.length c2] rfl (by (try simp only [List.map_toArray,List.map_cons,List.map_nil]); first | done | rfl | (simp only [List.length_drop,List.length_take]; rfl)) ?_; (with_reducible refine (spec_l27Ok.calls k a0_0 _ _ l0_1 _ _ l1 _ _ l2 true _ ?side1 ?side2 ?side3 ?side4 ?side5 ?side6 A7.out).mono ?_); (case side1 => repeat (first | exact (Kd.C_below HR0_1.out HB.out) | (with_reducible refine Kd.C_alloc ?_ _) | (with_reducible refine Kd.C_drewN ?_ _) | (with_reducible refine Kd.C_drew ?_))); (case side2 => exact HC0_1.out); (case side3 => repeat (first | exact (Kd.C_below HR1.out HB.out) | (with_reducible refine Kd.C_alloc ?_ _) | (with_reducible refine Kd.C_drewN ?_ _) | (with_reducible refine Kd.C_drew ?_))); (case side4 => exact HC1.out); (case side5 => repeat (first | exact (Kd.C_below HR2.out HB.out) | (with_reducible refine Kd.C_alloc ?_ _) | (with_reducible refine Kd.C_drewN ?_ _) | (with_reducible refine Kd.C_drew ?_))); (case side6 => exact HC2.out); rintro e w11 ⟨rfl,hb⟩; refine ⟨_,rfl,?_⟩; have n0_:=zx (blk_below (g:=gb564) (o:=.cells #[.int .i64 a0_0,.slice A0_1 l0_1.length c0_1] 25 (0,0)) (by (with_reducible repeat (first | refine blk_drewN ?_ _ | refine blk_drew ?_ | refine blk_alloc ?_ _)); exact BK564.out) hb); have n1_:=zx (below_step (by repeat (first | (with_reducible first | exact HB.out | apply below_alloc | apply pw_below_drewN | apply below_drew1 | refine below_set ?_ GE564.out) | exact HB.out)) hb); clear BK564; clear HB; have BK564:=n0_; have HB:=n1_; clear n0_ n1_; (try clear hb); (try clear hb2); (try clear hk); (try clear hi)) | (go_at_call 44; (with_reducible refine (spec_l8Order.calls k _ _ l3 (l1.length : Int) t566 _ ?side1 ?side2 A9.out).mono ?_); (case side1 => repeat (first | exact (Kd.C_below HR3.out HB.out) | (with_reducible refine Kd.C_alloc ?_ _) | (with_reducible refine Kd.C_drewN ?_ _) | (with_reducible refine Kd.C_drew ?_))); (case side2 => exact HC3.out); rintro e w' ⟨rfl,⟨nd,rfl⟩⟩))
  go_meet
  case rel => exact ⟨_,(!t566),(by first | rfl | (simp; done) | (simp [*]; done)),H',⟨by first | omega | exact Nat.le_refl _⟩,⟨by (with_reducible repeat (first | refine blk_drewN ?_ _ | refine blk_drew ?_ | refine blk_alloc ?_ _)); exact BK564.out⟩,⟨by repeat (first | (with_reducible first | exact HB.out | apply below_alloc | apply pw_below_drewN | apply below_drew1 | refine below_set ?_ GE564.out) | exact HB.out)⟩⟩
 case rest =>
  clear HC5
  try clear c1
  try clear c2
  try clear p2
  try clear c3
  try clear c8
  try clear hcz10_0
  try clear hcz10_1
  try clear hcz12_0
  try clear hcz12_1
  try clear hfz10_0
  try clear hfz10_1
  try clear hfz12_0
  try clear hfz12_1
  obtain ⟨kq,x20_4,rfl,HA,HJ4,BK564,HB⟩:=hcut;cases kq with
  | zero => exact absurd HA.out (by simp [spec_JobCost.j0])
  | succ kj4 =>
   have H:=HA.out;clear HA;simp only [spec_JobCost.j0] at H
   by_cases c14 : x20_4 = true
   case pos =>
    subst c14;have H1 : (some (-1)) = some r:=by rw [if_pos rfl] at H; exact H
    clear H;have H:=H1;clear H1;obtain rfl:=Option.some.inj H
    go_wp2
    go_ret;exact ⟨by first | rfl | (simp [errW_none,errW_some] <;> rfl) | (simp [*,errW_none,errW_some] <;> rfl),by repeat (first | (with_reducible first | exact HB.out | apply below_alloc | apply pw_below_drewN | apply below_drew1 | refine below_set ?_ GE564.out) | exact HB.out)⟩
   replace c14:=Bool.eq_false_iff.mpr c14;subst c14;have H1 : ((spec_ManyAll.f kj4 a0_0 l0_1 l1 l2).bind fun t567 => ((spec_l27Cost.f kj4 t567 l3).bind fun t570 => (some t570))) = some r:=by rw [if_neg (show ¬ (false = true) by decide)] at H; exact H
   clear H;have H:=H1;clear H1;replace H:=Option.bind_eq_some_iff.mp H;obtain ⟨t567,A150,H⟩:=H;replace H : ((spec_l27Cost.f kj4 t567 l3).bind fun t570 => (some t570)) = some r:=H;have A15:=zx A150;clear A150;replace H:=Option.bind_eq_some_iff.mp H;obtain ⟨t570,A160,H⟩:=H;replace H : (some t570) = some r:=H;have A16:=zx A160;clear A160;obtain rfl:=Option.some.inj H;have hcz17_0 : wc.cell? ⟨gb564,0,none⟩ = some (.int .i64 a0_0):=(blk_cell BK564.out 0).trans rfl;have hcz17_1 : wc.cell? ⟨gb564,1,none⟩ = some (.slice A0_1 l0_1.length c0_1):=(blk_cell BK564.out 1).trans rfl;have hfz17_0:=blk_frozen BK564.out 0;have hfz17_1:=blk_frozen BK564.out 1
   go_wp2_with (first | ((with_reducible refine gate_callee (f:=37) rfl ?_); refine goesL_ (some 24) rfl rfl Try.func37 (by kernel_rfl) rfl #[.agg #[.int .i64 a0_0,.slice A0_1 l0_1.length c0_1],.slice A1 l1.length c1,.slice A2 l2.length c2] rfl (by (try simp only [List.map_toArray,List.map_cons,List.map_nil]); first | done | rfl | (simp only [List.length_drop,List.length_take]; rfl)) ?_; (with_reducible refine (spec_ManyAll.calls kj4 a0_0 _ _ l0_1 _ _ l1 _ _ l2 t567 _ ?side1 ?side2 ?side3 ?side4 ?side5 ?side6 A15.out).mono ?_); (case side1 => repeat (first | exact (Kd.C_below HR0_1.out HB.out) | (with_reducible refine Kd.C_alloc ?_ _) | (with_reducible refine Kd.C_drewN ?_ _) | (with_reducible refine Kd.C_drew ?_))); (case side2 => exact HC0_1.out); (case side3 => repeat (first | exact (Kd.C_below HR1.out HB.out) | (with_reducible refine Kd.C_alloc ?_ _) | (with_reducible refine Kd.C_drewN ?_ _) | (with_reducible refine Kd.C_drew ?_))); (case side4 => exact HC1.out); (case side5 => repeat (first | exact (Kd.C_below HR2.out HB.out) | (with_reducible refine Kd.C_alloc ?_ _) | (with_reducible refine Kd.C_drewN ?_ _) | (with_reducible refine Kd.C_drew ?_))); (case side6 => exact HC2.out); rintro e w18 ⟨v568,rfl,ho0,hb⟩; refine ⟨_,rfl,?_⟩; have n0_:=zx (Kd.S_lower ho0 (below_size (by repeat (first | (with_reducible first | exact HB.out | apply below_alloc | apply pw_below_drewN | apply below_drew1 | refine below_set ?_ GE564.out) | exact HB.out)))); have n1_:=zx (blk_below (g:=gb564) (o:=.cells #[.int .i64 a0_0,.slice A0_1 l0_1.length c0_1] 25 (0,0)) (by (with_reducible repeat (first | refine blk_drewN ?_ _ | refine blk_drew ?_ | refine blk_alloc ?_ _)); exact BK564.out) hb); have n2_:=zx (below_step (by repeat (first | (with_reducible first | exact HB.out | apply below_alloc | apply pw_below_drewN | apply below_drew1 | refine below_set ?_ GE564.out) | exact HB.out)) hb); clear BK564; clear HB; have HO569:=n0_; have BK564:=n1_; have HB:=n2_; clear n0_ n1_ n2_; (try clear hb); (try clear hb2); (try clear hk); (try clear hi); (try clear ho0); obtain ⟨Ao19,co19,eo19⟩:=Kd.S_slice HO569.out; subst eo19) | ((with_reducible refine gate_callee (f:=45) rfl ?_); refine goesL_ (some 26) rfl rfl Try.func45 (by kernel_rfl) rfl #[.slice Ao19 t567.length co19,.slice A3 l3.length c3] rfl (by (try simp only [List.map_toArray,List.map_cons,List.map_nil]); first | done | rfl | (simp only [List.length_drop,List.length_take]; rfl)) ?_; (with_reducible refine (spec_l27Cost.calls kj4 _ _ t567 _ _ l3 t570 _ ?side1 ?side2 ?side3 ?side4 A16.out).mono ?_); (case side1 => repeat (first | exact (Kd.S_reads' HO569.out).2.2 | (with_reducible refine Kd.C_alloc ?_ _) | (with_reducible refine Kd.C_drewN ?_ _) | (with_reducible refine Kd.C_drew ?_))); (case side2 => exact (Kd.S_reads' HO569.out).2.1); (case side3 => repeat (first | exact (Kd.C_below HR3.out HB.out) | (with_reducible refine Kd.C_alloc ?_ _) | (with_reducible refine Kd.C_drewN ?_ _) | (with_reducible refine Kd.C_drew ?_))); (case side4 => exact HC3.out); rintro e w' ⟨rfl,⟨nd,rfl⟩⟩; refine ⟨_,rfl,?_⟩))
   go_ret;exact ⟨by first | rfl | (simp [errW_none,errW_some] <;> rfl) | (simp [*,errW_none,errW_some] <;> rfl),by repeat (first | (with_reducible first | exact HB.out | apply below_alloc | apply pw_below_drewN | apply below_drew1 | refine below_set ?_ GE564.out) | exact HB.out)⟩
def impl_within.f (a0 : Int) (a1 : Int) (a2 : Int) : Option (Bool):=if a0 ≥ a1 then (some (decide (a0 ≤ a2))) else (some false)
set_option maxHeartbeats 8000000 in
set_option maxRecDepth 100000 in
theorem impl_within.calls (a0 : Int) (a1 : Int) (a2 : Int) (r : Bool) (w : World) (h : impl_within.f a0 a1 a2 = some r) :
  Calls Try.prog 54 #[.int .i64 a0,.int .i64 a1,.int .i64 a2] w fun e w' => e = .returned (.bool r) ∧ Drawn0 w w':=by
 have H : (if a0 ≥ a1 then (some (decide (a0 ≤ a2))) else (some false)) = some r:=h;clear h
 by_cases c4 : a0 ≥ a1
 case pos =>
  rw [if_pos c4] at H;have c4b0 : decide (a1 ≤ a0) = true:=decide_eq_true c4;clear c4;obtain rfl:=Option.some.inj H
  go_enter Try.func54,Try.ntmps54
  go_wp2
  go_ret;exact ⟨by first | rfl | (simp; done) | (simp [*]; done),by repeat (first | exact Drawn0.refl _ | apply Drawn0.step)⟩
 rw [if_neg c4] at H;have c4b0 : decide (a1 ≤ a0) = false:=decide_eq_false c4;clear c4;obtain rfl:=Option.some.inj H
 go_enter Try.func54,Try.ntmps54
 go_wp2
 go_ret;exact ⟨by first | rfl | (simp; done) | (simp [*]; done),by repeat (first | exact Drawn0.refl _ | apply Drawn0.step)⟩
def idxI {α : Type} (p : α → Bool) (l : List α) : Int:=match l.findIdx? p with | some i => (i : Int) | none => -1
theorem idxI_hit {α : Type} {p : α → Bool} {l : List α} (k : Nat) (hk : k < l.length) (h : p l[k] = true) (hne : ∀ j (hj : j < k),p (l[j]'(by omega)) = false) : idxI p l = k:=by
 have : l.findIdx? p = some k:=by
  rw [List.findIdx?_eq_some_iff_getElem];exact ⟨hk,h,fun j hj => by rw [hne j hj]; simp⟩
 simp [idxI,this]
theorem idxI_miss {α : Type} {p : α → Bool} {l : List α} (h : ∀ x ∈ l,p x = false) : idxI p l = -1:=by
 have : l.findIdx? p = none:=by
  rw [List.findIdx?_eq_none_iff];exact h
 simp [idxI,this]
theorem idxI_any {α : Type} (p : α → Bool) (l : List α) : decide (idxI p l ≥ 0) = l.any p:=by
 cases h : l.findIdx? p with
 | none =>
  rw [List.findIdx?_eq_none_iff] at h;simp only [idxI,List.findIdx?_eq_none_iff.2 h];rw [eq_comm]
  simpa using h
 | some i =>
  have h':=h;rw [List.findIdx?_eq_some_iff_getElem] at h';obtain ⟨hi,hp,_⟩:=h';simp only [idxI,h];have : l.any p = true:=List.any_eq_true.2 ⟨_,List.getElem_mem hi,hp⟩;rw [this];simp
set_option maxHeartbeats 8000000 in
set_option maxRecDepth 100000 in
theorem slices_IndexFunc_int_int.calls (p : Int → Bool) (g : Nat) (lb : Array Value) (eg : ∀ args w,(callFunc g args).run Try.prog w = .ok (.enter g args) w) (A0 : Option Addr) (c0 : Nat) (l0 : List Int) (w : World) (hr0 : Kd.C (Kd.int .i64) w A0 l0.length l0) (_hc0 : l0.length ≤ c0)
  (hp : ∀ (W : World) (x : Int),x ∈ l0 → Below w.heap.size w W → Calls Try.prog g (#[.int .i64 x] ++ lb) W fun e w' => e = .returned (.bool (p x)) ∧ Below W.heap.size W w') :
  Calls Try.prog 82 #[.slice A0 l0.length c0,.func (.func g) #[] lb] w fun e w' => e = .returned (.int .i64 (idxI p l0)) ∧ Below w.heap.size w w':=by
 have HR0:=zx hr0;have hlen:=hr0.2.1;clear hr0
 go_enter Try.func82,Try.ntmps82
 go_wp2
 go_loopg [5,8] l0.length (fun gg _ s8 wr => ∃ x : Int,s8 = .int .i64 x ∧ Aside0 (0 ≤ x) ∧ Aside0 (x ≤ (l0.length : Int)) ∧ Aside0 ((l0.length : Int) - x ≤ gg) ∧ Aside0 (Below w.heap.size w wr) ∧ Aside0 (∀ j (hl : j < l0.length),(j : Int) < x → p l0[j] = false))
 case atStart => exact ⟨0,rfl,⟨by omega⟩,⟨by omega⟩,⟨by omega⟩,⟨Below.refl _ w⟩,⟨fun j hj h => absurd h (by omega)⟩⟩
 case round =>
  obtain ⟨x,rfl,X0,X1,X2,BW,AA⟩:=hrel
  by_cases c2 : x < (l0.length : Int)
  case neg =>
   have c2b0 : decide (x < (l0.length : Int)) = false:=decide_eq_false c2;have E1:=zx c2;clear c2 hp
   go_wp2
   go_ret;refine ⟨?_,BW.out⟩;rw [idxI_miss (fun y hy => by
    obtain ⟨j,hj,rfl⟩:=List.getElem_of_mem hy;have h1:=E1.out;exact AA.out j hj (by omega))]
   rfl
  have c2b0 : decide (x < (l0.length : Int)) = true:=decide_eq_true c2;have h0:=X0.out;have hg:=X2.out;have hlt : x.toNat < l0.length:=by omega
  obtain ⟨ad,e,hx⟩:=Kd.at_int (Kd.C_below HR0.out BW.out) x h0 c2;cases e;have hw : wrap64 (x + 1) = x + 1:=by unfold wrap64; omega
  have HW:=zx hw;clear hw;have hcall:=hp wr l0[x.toNat] (List.getElem_mem hlt) BW.out;clear hp;have hrd : rd l0 x = l0[x.toNat]:=by simp [rd,hlt]
  rw [← hrd] at hcall;have B : Aside0 (∀ h : x.toNat < l0.length,rd l0 x = l0[x.toNat]):=⟨fun _ => hrd⟩
  clear hrd;generalize hy : rd l0 x = y at hx hcall B;clear hy;have p108:=eq_true h0;have q108:=eq_true c2;have E0:=zx h0;have E1:=zx c2;have E2:=zx hg;have E3:=zx hlt;clear h0 hg hlt c2;cases hq : p y with
  | true =>
   rw [hq] at hcall;have HQ:=zx hq;clear hq
   go_wp2_with (go_at_fn g; refine hcall.mono ?_; rintro e w' ⟨rfl,hb'⟩)
   go_ret;refine ⟨?_,below_then BW.out BW.out.size hb'⟩;have h0:=E0.out;rw [idxI_hit x.toNat E3.out (by rw [← B.out E3.out]; exact HQ.out) (fun j hj => AA.out j _ (by omega))];rw [Int.toNat_of_nonneg h0];rfl
  | false =>
   rw [hq] at hcall;have HQ:=zx hq;clear hq
   go_wp2_with (go_at_fn g; refine hcall.mono ?_; rintro e w' ⟨rfl,hb'⟩)
   have h0:=E0.out;have h1:=E1.out;have h2:=E2.out;go_roundg (l0.length - (x.toNat + 1))
   case measure => omega
   case rel =>
    refine ⟨x + 1,by first | rfl | rw [HW.out],⟨by omega⟩,⟨by omega⟩,⟨by omega⟩,⟨below_then BW.out BW.out.size hb'⟩,⟨fun j hj hl => ?_⟩⟩
    by_cases e : (j : Int) = x
    case neg => exact AA.out j hj (by omega)
    have e' : j = x.toNat:=by omega
    subst e';rw [← B.out E3.out]; exact HQ.out
set_option maxHeartbeats 8000000 in
theorem slices_ContainsFunc_int_int.calls (p : Int → Bool) (g : Nat) (lb : Array Value) (eg : ∀ args w,(callFunc g args).run Try.prog w = .ok (.enter g args) w) (A0 : Option Addr) (c0 : Nat) (l0 : List Int) (w : World) (hr0 : Kd.C (Kd.int .i64) w A0 l0.length l0) (hc0 : l0.length ≤ c0)
  (hp : ∀ (W : World) (x : Int),x ∈ l0 → Below w.heap.size w W → Calls Try.prog g (#[.int .i64 x] ++ lb) W fun e w' => e = .returned (.bool (p x)) ∧ Below W.heap.size W w') :
  Calls Try.prog 73 #[.slice A0 l0.length c0,.func (.func g) #[] lb] w fun e w' => e = .returned (.bool (l0.any p)) ∧ Below w.heap.size w w':=by
 rw [← idxI_any];have hcall:=slices_IndexFunc_int_int.calls p g lb eg A0 c0 l0 w hr0 hc0 hp;clear hp eg hr0
 go_enter Try.func73,Try.ntmps73
 go_wp2_with (go_at_call 82; refine hcall.mono ?_; rintro e w' ⟨rfl,hb'⟩)
 go_ret;exact ⟨rfl,hb'⟩
def okN (n v : Int) : Bool:=decide (0 ≤ v) && decide (v ≤ n - 1)
theorem okN_within (n x : Int) : impl_within.f x 0 (n - 1) = some (okN n x):=by
 unfold impl_within.f okN
 by_cases h : x ≥ 0
 case pos => rw [if_pos h]; simp [show (0 : Int) ≤ x from h]
 rw [if_neg h]; simp [show ¬ (0 : Int) ≤ x from h]
def impl_Net_has.f (a0_0 : Int) (_l0_1 : List S80) (l1 : List Int) : Option Bool:=if -9223372036854775807 ≤ a0_0 then if a0_0 ≤ 9223372036854775807 then some (l1.all (okN a0_0)) else none else none
set_option maxHeartbeats 8000000 in
set_option maxRecDepth 100000 in
theorem has_closure (x n : Int) (g : Nat) (v : Value) (w : World) (hn : -9223372036854775807 ≤ n) (hn2 : n ≤ 9223372036854775807) (hb : w.heap[g]? = some (.cells #[.int .i64 n,v] 25 (0,0))) :
  Calls Try.prog 74 #[.int .i64 x,.pointer (some ⟨g,0,none⟩)] w fun e w' => e = .returned (.bool (!okN n x)) ∧ Below w.heap.size w w':=by
 have hcell : w.cell? ⟨g,0,none⟩ = some (.int .i64 n):=(blk_cell hb 0).trans rfl;have hcall:=impl_within.calls x 0 (n - 1) (okN n x) w (okN_within n x);have hu:=Try.underlying25;generalize okN n x = b at hcall;clear hb
 go_enter Try.func74,Try.ntmps74
 go_wp2_with (go_at_call 54; refine hcall.mono ?_; rintro e w' ⟨rfl,⟨nd,rfl⟩⟩)
 go_ret;exact ⟨rfl,pw_below_drewN (Below.refl _ _) _⟩
set_option maxHeartbeats 8000000 in
set_option maxRecDepth 100000 in
theorem impl_Net_has.calls (a0_0 : Int) (A0_1 : Option Addr) (c0_1 : Nat) (l0_1 : List S80) (A1 : Option Addr) (c1 : Nat) (l1 : List Int) (r : Bool) (w : World) (_hr0_1 : Kd.C k80 w A0_1 l0_1.length l0_1) (_hc0_1 : l0_1.length ≤ c0_1) (hr1 : Kd.C (Kd.int .i64) w A1 l1.length l1) (hc1 : l1.length ≤ c1) (h : impl_Net_has.f a0_0 l0_1 l1 = some r) :
  Calls Try.prog 55 #[.agg #[.int .i64 a0_0,.slice A0_1 l0_1.length c0_1],.slice A1 l1.length c1] w fun e w' => e = .returned (.bool r) ∧ Below w.heap.size w w':=by
 have hn : -9223372036854775807 ≤ a0_0:=by
  apply Decidable.byContradiction
  intro c
  unfold impl_Net_has.f at h
  rw [if_neg c] at h;exact absurd h (by simp)
 have hn2 : a0_0 ≤ 9223372036854775807:=by
  apply Decidable.byContradiction
  intro c
  unfold impl_Net_has.f at h
  rw [if_pos hn,if_neg c] at h;exact absurd h (by simp)
 have hr : l1.all (okN a0_0) = r:=by
  unfold impl_Net_has.f at h
  rw [if_pos hn,if_pos hn2] at h;exact Option.some.inj h
 clear h;have hr' : (!(l1.any fun v => !okN a0_0 v)) = r:=by
  rw [← hr,List.not_any_eq_all_not]
  congr 1
  funext v
  simp
 have hcall:=slices_ContainsFunc_int_int.calls (fun v => !okN a0_0 v) 74 #[.pointer (some ⟨w.heap.size,0,none⟩)] (enters_of Try.func74 (by kernel_rfl) rfl) A1 c1 l1 (w.alloc (.cells #[.int .i64 a0_0,.slice A0_1 l0_1.length c0_1] 25)) (Kd.C_below hr1 (below_alloc (Below.refl _ _) _)) hc1
  (fun W x _ hB => has_closure x a0_0 w.heap.size (.slice A0_1 l0_1.length c0_1) W hn hn2 ((hB.block w.heap.size (by simp)).trans (heap_alloc_new w _)))
 have HN:=zx hn;have HR:=zx hr';clear hr1 hr hr' hn hn2;generalize l1.any (fun v => !okN a0_0 v) = b at hcall HR
 go_enter Try.func55,Try.ntmps55
 go_wp2_with (go_at_call 73; refine hcall.mono ?_; rintro e w' ⟨rfl,hb'⟩)
 go_ret;exact ⟨by rw [← HR.out]; rfl,below_then (below_alloc (Below.refl _ _) _) (by simp) hb'⟩
theorem rd_at_T {l : List S80} {k : Int} (h : k.toNat < l.length) : rd_T80 l k = l[k.toNat]:=by
 simp [rd_T80,h]
def encA (x : S80) : Value:=.agg #[.int .i64 x.f0,.int .i64 x.f1,.int .i64 x.f2,.int .i64 x.f3,.int .i64 x.f4]
set_option maxHeartbeats 8000000 in
set_option maxRecDepth 100000 in
theorem slices_IndexFunc_Arc.calls (p : S80 → Bool) (g : Nat) (lb : Array Value) (eg : ∀ args w,(callFunc g args).run Try.prog w = .ok (.enter g args) w) (A0 : Option Addr) (c0 : Nat) (l0 : List S80) (w : World) (hr0 : Kd.C k80 w A0 l0.length l0) (_hc0 : l0.length ≤ c0)
  (hp : ∀ (W : World) (x : S80),x ∈ l0 → Below w.heap.size w W → Calls Try.prog g (#[encA x] ++ lb) W fun e w' => e = .returned (.bool (p x)) ∧ Below W.heap.size W w') :
  Calls Try.prog 76 #[.slice A0 l0.length c0,.func (.func g) #[] lb] w fun e w' => e = .returned (.int .i64 (idxI p l0)) ∧ Below w.heap.size w w':=by
 have HR0:=zx hr0;have hlen:=hr0.2.1;clear hr0;have hu:=Try.underlying80
 go_enter Try.func76,Try.ntmps76
 go_wp2
 go_loopg [5,8] l0.length (fun gg _ s8 wr => ∃ x : Int,s8 = .int .i64 x ∧ Aside0 (0 ≤ x) ∧ Aside0 (x ≤ (l0.length : Int)) ∧ Aside0 ((l0.length : Int) - x ≤ gg) ∧ Aside0 (Below w.heap.size w wr) ∧ Aside0 (∀ j (hl : j < l0.length),(j : Int) < x → p l0[j] = false))
 case atStart => exact ⟨0,rfl,⟨by omega⟩,⟨by omega⟩,⟨by omega⟩,⟨Below.refl _ w⟩,⟨fun j hj h => absurd h (by omega)⟩⟩
 case round =>
  obtain ⟨x,rfl,X0,X1,X2,BW,AA⟩:=hrel
  by_cases c2 : x < (l0.length : Int)
  case neg =>
   have c2b0 : decide (x < (l0.length : Int)) = false:=decide_eq_false c2;have E1:=zx c2;clear c2 hp
   go_wp2
   go_ret;refine ⟨?_,BW.out⟩;rw [idxI_miss (fun y hy => by
    obtain ⟨j,hj,rfl⟩:=List.getElem_of_mem hy;have h1:=E1.out;exact AA.out j hj (by omega))]
   rfl
  have c2b0 : decide (x < (l0.length : Int)) = true:=decide_eq_true c2;have h0:=X0.out;have hg:=X2.out;have hlt : x.toNat < l0.length:=by omega
  obtain ⟨ad,e,hx0,hx1,hx2,hx3,hx4⟩:=at_T80 (Kd.C_below HR0.out BW.out) x h0 c2;cases e;have hw : wrap64 (x + 1) = x + 1:=by unfold wrap64; omega
  have HW:=zx hw;clear hw;have hcall:=hp wr l0[x.toNat] (List.getElem_mem hlt) BW.out;clear hp;have hrd : rd_T80 l0 x = l0[x.toNat]:=rd_at_T hlt;rw [← hrd] at hcall;have B : Aside0 (∀ h : x.toNat < l0.length,rd_T80 l0 x = l0[x.toNat]):=⟨fun _ => hrd⟩
  clear hrd;generalize hy : rd_T80 l0 x = y at hx0 hx1 hx2 hx3 hx4 hcall B;clear hy
  unfold encA at hcall
  have p108:=eq_true h0;have q108:=eq_true c2;have E0:=zx h0;have E1:=zx c2;have E2:=zx hg;have E3:=zx hlt;clear h0 hg hlt c2;cases hq : p y with
  | true =>
   rw [hq] at hcall;have HQ:=zx hq;clear hq
   go_wp2_with (go_at_fn g; refine hcall.mono ?_; rintro e w' ⟨rfl,hb'⟩)
   go_ret;refine ⟨?_,below_then BW.out BW.out.size hb'⟩;have h0:=E0.out;rw [idxI_hit x.toNat E3.out (by rw [← B.out E3.out]; exact HQ.out) (fun j hj => AA.out j _ (by omega))];rw [Int.toNat_of_nonneg h0];rfl
  | false =>
   rw [hq] at hcall;have HQ:=zx hq;clear hq
   go_wp2_with (go_at_fn g; refine hcall.mono ?_; rintro e w' ⟨rfl,hb'⟩)
   have h0:=E0.out;have h1:=E1.out;have h2:=E2.out;go_roundg (l0.length - (x.toNat + 1))
   case measure => omega
   case rel =>
    refine ⟨x + 1,by first | rfl | rw [HW.out],⟨by omega⟩,⟨by omega⟩,⟨by omega⟩,⟨below_then BW.out BW.out.size hb'⟩,⟨fun j hj hl => ?_⟩⟩
    by_cases e : (j : Int) = x
    case neg => exact AA.out j hj (by omega)
    have e' : j = x.toNat:=by omega
    subst e';rw [← B.out E3.out]; exact HQ.out
set_option maxHeartbeats 8000000 in
theorem slices_ContainsFunc_Arc.calls (p : S80 → Bool) (g : Nat) (lb : Array Value) (eg : ∀ args w,(callFunc g args).run Try.prog w = .ok (.enter g args) w) (A0 : Option Addr) (c0 : Nat) (l0 : List S80) (w : World) (hr0 : Kd.C k80 w A0 l0.length l0) (hc0 : l0.length ≤ c0)
  (hp : ∀ (W : World) (x : S80),x ∈ l0 → Below w.heap.size w W → Calls Try.prog g (#[encA x] ++ lb) W fun e w' => e = .returned (.bool (p x)) ∧ Below W.heap.size W w') :
  Calls Try.prog 64 #[.slice A0 l0.length c0,.func (.func g) #[] lb] w fun e w' => e = .returned (.bool (l0.any p)) ∧ Below w.heap.size w w':=by
 rw [← idxI_any];have hcall:=slices_IndexFunc_Arc.calls p g lb eg A0 c0 l0 w hr0 hc0 hp;clear hp eg hr0;have hu:=Try.underlying80
 go_enter Try.func64,Try.ntmps64
 go_wp2_with (go_at_call 76; refine hcall.mono ?_; rintro e w' ⟨rfl,hb'⟩)
 go_ret;exact ⟨rfl,hb'⟩
def impl_costOk.f (a0 : Int) : Option (Bool):=(impl_within.f a0 0 99).bind fun t221 => (some t221)
set_option maxHeartbeats 8000000 in
set_option maxRecDepth 100000 in
theorem impl_costOk.calls (a0 : Int) (r : Bool) (w : World) (h : impl_costOk.f a0 = some r) :
  Calls Try.prog 66 #[.int .i64 a0] w fun e w' => e = .returned (.bool r) ∧ Drawn0 w w':=by
 have H : ((impl_within.f a0 0 99).bind fun t221 => (some t221)) = some r:=h;clear h;replace H:=Option.bind_eq_some_iff.mp H;obtain ⟨t221,A20,H⟩:=H;replace H : (some t221) = some r:=H;have A2:=zx A20;clear A20;obtain rfl:=Option.some.inj H
 go_enter Try.func66,Try.ntmps66
 go_wp2_with (first | ((with_reducible refine gate_callee (f:=54) rfl ?_); refine goesL_ (some 4) rfl rfl Try.func54 (by kernel_rfl) rfl #[.int .i64 a0,.int .i64 0,.int .i64 99] rfl (by (try simp only [List.map_toArray,List.map_cons,List.map_nil]); first | done | rfl | (simp only [List.length_drop,List.length_take]; rfl)) ?_; (with_reducible refine (impl_within.calls a0 0 99 t221 _ A2.out).mono ?_); rintro e w' ⟨rfl,⟨nd,rfl⟩⟩; refine ⟨_,rfl,?_⟩))
 go_ret;exact ⟨by first | rfl | (simp; done) | (simp [*]; done),by repeat (first | exact Drawn0.refl _ | apply Drawn0.step)⟩
def okC (c : Int) : Bool:=decide (0 ≤ c) && decide (c ≤ 99)
theorem okC_costOk (c : Int) : impl_costOk.f c = some (okC c):=by
 unfold impl_costOk.f impl_within.f okC
 by_cases h : c ≥ 0
 case pos => rw [if_pos h]; simp [show (0 : Int) ≤ c from h]
 rw [if_neg h]; simp [show ¬ (0 : Int) ≤ c from h]
def okArc (n : Int) (a : S80) : Bool:=okN n a.f0 && okN n a.f1 && !(a.f0 == a.f1) && okC a.f2 && okC a.f3 && okN 10 a.f4
def netOkB (n : Int) (l : List S80) : Bool:=decide (1 ≤ n) && decide (n ≤ 8) && decide ((l.length : Int) ≤ 16) && l.all (okArc n)
def impl_NetOk.f (a0_0 : Int) (l0_1 : List S80) : Option Bool:=some (decide (1 ≤ a0_0) && decide (a0_0 ≤ 8) && decide ((l0_1.length : Int) ≤ 16) && l0_1.all (okArc a0_0))
theorem heap_alloc_at {W : World} {o : Obj} {k : Nat} (h : k = W.heap.size) : (W.alloc o).heap[k]? = some o:=by subst h; exact heap_alloc_new W o
theorem two_reads (W : World) (b : Nat) (x y : Int) (h : W.heap[b]? = some (.cells #[.int .i64 x,.int .i64 y] 3 (0,0))) : Kd.C (Kd.int .i64) W (some ⟨b,0,none⟩) [x,y].length [x,y] :=
 Kd.C_of_reads (d:=(0 : Int)) (h1:=fun _ => rfl) ⟨rfl,by simp,fun _ => ⟨_,rfl,fun j hj => by
  have h0 : W.cell? ⟨b,0,none⟩ = some (.int .i64 x):=(blk_cell h 0).trans rfl;have h1 : W.cell? ⟨b,1,none⟩ = some (.int .i64 y):=(blk_cell h 1).trans rfl
  match j,hj with
  | 0,_ => rw [add_plain]; exact h0
  | 1,_ => rw [add_plain]; exact h1⟩⟩
set_option maxHeartbeats 8000000 in
set_option maxRecDepth 100000 in
theorem NetOk_closure (x : S80) (n : Int) (g : Nat) (A : Option Addr) (c : Nat) (l : List S80) (w : World) (hn : 1 ≤ n) (hn2 : n ≤ 8) (hr : Kd.C k80 w A l.length l) (hc : l.length ≤ c) (hb : w.heap[g]? = some (.cells #[.int .i64 n,.slice A l.length c] 25 (0,0))) :
  Calls Try.prog 65 #[encA x,.pointer (some ⟨g,0,none⟩)] w fun e w' => e = .returned (.bool (!okArc n x)) ∧ Below w.heap.size w w':=by
 have hcell : w.cell? ⟨g,0,none⟩ = some (.int .i64 n):=(blk_cell hb 0).trans rfl;have hcell1 : w.cell? ⟨g,1,none⟩ = some (.slice A l.length c):=(blk_cell hb 1).trans rfl;have hhas:=fun (W : World) (a0 : Nat) (h1 : Below w.heap.size w W) (h2 : W.heap[a0]? = some (.cells #[.int .i64 x.f0,.int .i64 x.f1] 3 (0,0))) => impl_Net_has.calls n A c l (some ⟨a0,0,none⟩) 2 [x.f0,x.f1] ([x.f0,x.f1].all (okN n)) W (Kd.C_below hr h1) hc (two_reads W a0 x.f0 x.f1 h2) (by simp) (by unfold impl_Net_has.f; rw [if_pos (by omega),if_pos (by omega)])
 have hbl:=World.block_lt_of_cell? _ _ hcell;have hu:=Try.underlying25;have hu2:=Try.underlying80;have hc2:=fun (W : World) => impl_costOk.calls x.f2 (okC x.f2) W (okC_costOk x.f2)
 have hc3:=fun (W : World) => impl_costOk.calls x.f3 (okC x.f3) W (okC_costOk x.f3)
 have hload:=fun (W : World) => impl_within.calls x.f4 0 9 (okN 10 x.f4) W (okN_within 10 x.f4)
 clear hb hr
 unfold encA
 have hall : [x.f0,x.f1].all (okN n) = (okN n x.f0 && okN n x.f1):=by simp
 rw [hall] at hhas;clear hall
 unfold okArc
 generalize hA : (okN n x.f0 && okN n x.f1) = b1 at hhas;clear hA;generalize okN 10 x.f4 = b5 at hload;generalize okC x.f2 = b2 at hc2;generalize okC x.f3 = b3 at hc3;have HB:=zx (Below.refl w.heap.size w);have HN:=zx hn;have HC:=zx hc;clear hn hn2 hc;have bcell : ∀ {W w1 : World},Below W.heap.size W w1 → (∀ b o,b < W.heap.size → w1.cell? ⟨b,o,none⟩ = W.cell? ⟨b,o,none⟩):=fun hb b o h => hb.cell (p:=⟨b,o,none⟩) h
 have HCELL:=zx @bcell;clear bcell;have hcN:=hbl;cases b1 with
 | false =>
  go_enter Try.func65,Try.ntmps65
  go_wp2_with (go_at_call 55; refine (hhas _ _ ?h1 ?h2).mono ?_; (case h1 => repeat (first | exact Below.refl _ _ | apply below_alloc)); (case h2 => exact heap_alloc_at (by simp)); rintro e w1 ⟨rfl,hb'⟩)
  go_ret;exact ⟨rfl,below_then (below_alloc (below_alloc (Below.refl _ _) _) _) (by simp; omega) hb'⟩
 | true =>
  by_cases hft : x.f0 = x.f1
  case pos =>
   have e1 : (x.f0 == x.f1) = true:=by simpa using hft
   clear hft;rw [e1]
   go_enter Try.func65,Try.ntmps65
   go_wp2_with (go_at_call 55; refine (hhas _ _ ?h1 ?h2).mono ?_; (case h1 => repeat (first | exact Below.refl _ _ | apply below_alloc)); (case h2 => exact heap_alloc_at (by simp)); rintro e w1 ⟨rfl,hb'⟩; have hc1:=HCELL.out hb'; have HB1:=zx hb'; clear hb')
   go_ret;exact ⟨rfl,by repeat (first | apply pw_below_drewN | exact below_then (below_alloc (below_alloc (Below.refl _ _) _) _) (by simp; omega) HB1.out)⟩
  have e1 : (x.f0 == x.f1) = false:=by simpa using hft
  clear hft;rw [e1];cases b2 with
  | false =>
   go_enter Try.func65,Try.ntmps65
   go_wp2_with (first | (go_at_call 55; refine (hhas _ _ ?h1 ?h2).mono ?_; (case h1 => repeat (first | exact Below.refl _ _ | apply below_alloc)); (case h2 => exact heap_alloc_at (by simp)); rintro e w1 ⟨rfl,hb'⟩; have hc1:=HCELL.out hb'; have HB1:=zx hb'; clear hb') | (go_at_call 66; (with_reducible refine (hc2 _).mono ?_); rintro e w2 ⟨rfl,⟨nd2,rfl⟩⟩))
   go_ret;exact ⟨rfl,by repeat (first | apply pw_below_drewN | exact below_then (below_alloc (below_alloc (Below.refl _ _) _) _) (by simp; omega) HB1.out)⟩
  | true =>
   cases b3 with
   | false =>
    go_enter Try.func65,Try.ntmps65
    go_wp2_with (first | (go_at_call 55; refine (hhas _ _ ?h1 ?h2).mono ?_; (case h1 => repeat (first | exact Below.refl _ _ | apply below_alloc)); (case h2 => exact heap_alloc_at (by simp)); rintro e w1 ⟨rfl,hb'⟩; have hc1:=HCELL.out hb'; have HB1:=zx hb'; clear hb') | (go_at_call 66; (with_reducible refine (hc2 _).mono ?_); rintro e w2 ⟨rfl,⟨nd2,rfl⟩⟩) | (go_at_call 66; (with_reducible refine (hc3 _).mono ?_); rintro e w3 ⟨rfl,⟨nd3,rfl⟩⟩))
    go_ret;exact ⟨rfl,by repeat (first | apply pw_below_drewN | exact below_then (below_alloc (below_alloc (Below.refl _ _) _) _) (by simp; omega) HB1.out)⟩
   | true =>
    go_enter Try.func65,Try.ntmps65
    go_wp2_with (first | (go_at_call 55; refine (hhas _ _ ?h1 ?h2).mono ?_; (case h1 => repeat (first | exact Below.refl _ _ | apply below_alloc)); (case h2 => exact heap_alloc_at (by simp)); rintro e w1 ⟨rfl,hb'⟩; have hc1:=HCELL.out hb'; have HB1:=zx hb'; clear hb') | (go_at_call 66; (with_reducible refine (hc2 _).mono ?_); rintro e w2 ⟨rfl,⟨nd2,rfl⟩⟩) | (go_at_call 66; (with_reducible refine (hc3 _).mono ?_); rintro e w3 ⟨rfl,⟨nd3,rfl⟩⟩) | (go_at_call 54; refine (hload _).mono ?_; rintro e w4 ⟨rfl,⟨nd4,rfl⟩⟩))
    go_ret;exact ⟨by cases b5 <;> rfl,by repeat (first | apply pw_below_drewN | exact below_then (below_alloc (below_alloc (Below.refl _ _) _) _) (by simp; omega) HB1.out)⟩
set_option maxHeartbeats 8000000 in
set_option maxRecDepth 100000 in
theorem impl_NetOk.calls (a0_0 : Int) (A0_1 : Option Addr) (c0_1 : Nat) (l0_1 : List S80) (r : Bool) (w : World) (hr0_1 : Kd.C k80 w A0_1 l0_1.length l0_1) (hc0_1 : l0_1.length ≤ c0_1) (h : impl_NetOk.f a0_0 l0_1 = some r) :
  Calls Try.prog 38 #[.agg #[.int .i64 a0_0,.slice A0_1 l0_1.length c0_1]] w fun e w' => e = .returned (.bool r) ∧ Below w.heap.size w w':=by
 have hw1:=fun (W : World) => impl_within.calls a0_0 1 8 (decide (1 ≤ a0_0) && decide (a0_0 ≤ 8)) W (by
  unfold impl_within.f
  by_cases h : a0_0 ≥ 1
  case pos => rw [if_pos h]; simp [show (1 : Int) ≤ a0_0 from h]
  rw [if_neg h]; simp [show ¬ (1 : Int) ≤ a0_0 from h])
 obtain rfl:=Option.some.inj h;clear h;have hu:=Try.underlying25
 by_cases hn : 1 ≤ a0_0 ∧ a0_0 ≤ 8
 case neg =>
  have e0 : (decide (1 ≤ a0_0) && decide (a0_0 ≤ 8)) = false:=by
   rw [Bool.and_eq_false_iff]
   by_cases h1 : 1 ≤ a0_0
   case neg => exact .inl (decide_eq_false h1)
   exact .inr (decide_eq_false (fun h2 => hn ⟨h1,h2⟩))
  rw [e0] at hw1 ⊢;clear hn e0
  go_enter Try.func38,Try.ntmps38
  go_wp2_with (first | (go_at_call 54; refine (hw1 _).mono ?_; rintro e w1 ⟨rfl,⟨nd,rfl⟩⟩))
  go_ret;exact ⟨by simp,pw_below_drewN (below_alloc (Below.refl _ _) _) _⟩
 obtain ⟨hn1,hn2⟩:=hn;rw [decide_eq_true hn1,decide_eq_true hn2] at hw1;rw [decide_eq_true hn1,decide_eq_true hn2];have hbox:=fun (nd : Nat) => slices_ContainsFunc_Arc.calls (fun v => !okArc a0_0 v) 65 #[.pointer (some ⟨w.heap.size,0,none⟩)] (enters_of Try.func65 (by kernel_rfl) rfl) A0_1 c0_1 l0_1 ((w.alloc (.cells #[.int .i64 a0_0,.slice A0_1 l0_1.length c0_1] 25)).drewN nd) (Kd.C_below hr0_1 (pw_below_drewN (below_alloc (Below.refl _ _) _) nd)) hc0_1
  (fun W x _ hB => NetOk_closure x a0_0 w.heap.size A0_1 c0_1 l0_1 W hn1 hn2 (Kd.C_below hr0_1 (below_then (pw_below_drewN (below_alloc (Below.refl _ _) _) nd) (by simp) hB)) hc0_1 ((hB.block w.heap.size (by simp)).trans (heap_alloc_new w _)))
 have hall : (!(l0_1.any fun v => !okArc a0_0 v)) = l0_1.all (okArc a0_0):=by
  rw [List.not_any_eq_all_not]
  congr 1
  funext v
  simp
 rw [← hall];clear hall hr0_1 hc0_1 hn1 hn2;generalize (l0_1.any fun v => !okArc a0_0 v) = b at hbox
 by_cases hl : (l0_1.length : Int) ≤ 16
 case neg =>
  have e1 : decide ((l0_1.length : Int) ≤ 16) = false:=decide_eq_false hl;have e2 : decide (l0_1.length ≤ 16) = false:=decide_eq_false (by omega);rw [e1];clear hl
  go_enter Try.func38,Try.ntmps38
  go_wp2_with (first | (go_at_call 54; refine (hw1 _).mono ?_; rintro e w1 ⟨rfl,⟨nd,rfl⟩⟩))
  go_ret;exact ⟨rfl,pw_below_drewN (below_alloc (Below.refl _ _) _) _⟩
 have e1 : decide ((l0_1.length : Int) ≤ 16) = true:=decide_eq_true hl;have e2 : decide (l0_1.length ≤ 16) = true:=decide_eq_true (by omega);rw [e1];clear hl
 go_enter Try.func38,Try.ntmps38
 go_wp2_with (first | (go_at_call 54; refine (hw1 _).mono ?_; rintro e w1 ⟨rfl,⟨nd,rfl⟩⟩) | (go_at_call 64; refine (hbox _).mono ?_; rintro e w2 ⟨rfl,hb'⟩))
 go_ret;exact ⟨by cases b <;> rfl,below_then (pw_below_drewN (below_alloc (Below.refl _ _) _) _) (by simp) hb'⟩
def impl_nodesIn.f (a0_0 : Int) (l0_1 : List (S80)) (l1 : List Int) : Option (Bool):=(impl_NetOk.f a0_0 l0_1).bind fun t223 => (if t223 = true then ((impl_Net_has.f a0_0 l0_1 l1).bind fun t224 => (some t224)) else (some false))
set_option maxHeartbeats 8000000 in
set_option maxRecDepth 100000 in
theorem impl_nodesIn.calls (a0_0 : Int) (A0_1 : Option Addr) (c0_1 : Nat) (l0_1 : List (S80)) (A1 : Option Addr) (c1 : Nat) (l1 : List Int) (r : Bool) (w : World) (hr0_1 : Kd.C k80 w A0_1 l0_1.length l0_1) (hc0_1 : l0_1.length ≤ c0_1) (hr1 : Kd.C (Kd.int .i64) w A1 l1.length l1) (hc1 : l1.length ≤ c1) (h : impl_nodesIn.f a0_0 l0_1 l1 = some r) :
  Calls Try.prog 48 #[.agg #[.int .i64 a0_0,.slice A0_1 l0_1.length c0_1],.slice A1 l1.length c1] w fun e w' => e = .returned (.bool r) ∧ Below w.heap.size w w':=by
 have hu25:=Try.underlying25;have HR0_1:=zx hr0_1;have HC0_1:=zx hc0_1;clear hr0_1 hc0_1;have HR1:=zx hr1;have HC1:=zx hc1;clear hr1 hc1;have HB:=zx (Below.refl w.heap.size w);have H : ((impl_NetOk.f a0_0 l0_1).bind fun t223 => (if t223 = true then ((impl_Net_has.f a0_0 l0_1 l1).bind fun t224 => (some t224)) else (some false))) = some r:=h;clear h;replace H:=Option.bind_eq_some_iff.mp H;obtain ⟨t223,A30,H⟩:=H;replace H : (if t223 = true then ((impl_Net_has.f a0_0 l0_1 l1).bind fun t224 => (some t224)) else (some false)) = some r:=H;have A3:=zx A30;clear A30
 by_cases c4 : t223 = true
 case neg =>
  replace c4:=Bool.eq_false_iff.mpr c4;subst c4;have H1 : (some false) = some r:=by rw [if_neg (show ¬ (false = true) by decide)] at H; exact H
  clear H;have H:=H1;clear H1;obtain rfl:=Option.some.inj H
  go_enter Try.func48,Try.ntmps48
  go_wp2_with (first | ((with_reducible refine gate_dst (N:=2) rfl ?_); refine box_event ?hg (N:=2) ?hd (cs:=#[.int .i64 a0_0,.slice A0_1 l0_1.length c0_1]) (t:=25) ?hr ?_; (case hd => rfl); (case hg => rfl); (case hr => first | (go_simp; done) | (go_simp; rfl)); intro gb222 hg w11 hbox hb; have n0_:=zx (below_step (by repeat (first | (with_reducible first | exact HB.out | apply below_alloc | apply pw_below_drewN | apply below_drew1) | exact HB.out)) hb); have n1_:=zx (hbox); have n2_:=zx ((by rw [hg]; exact (below_size (by repeat (first | (with_reducible first | exact HB.out | apply below_alloc | apply pw_below_drewN | apply below_drew1) | exact HB.out))) : w.heap.size ≤ gb222)); have n3_:=zx ((by rw [hg]; exact (below_size (by repeat (first | (with_reducible first | exact HB.out | apply below_alloc | apply pw_below_drewN | apply below_drew1) | exact HB.out))) : w.heap.size ≤ gb222)); clear HB; have HB:=n0_; have BK222:=n1_; have GW222:=n2_; have GE222:=n3_; clear n0_ n1_ n2_ n3_; clear hb hbox hg; have hcz12_0 : w11.cell? ⟨gb222,0,none⟩ = some (.int .i64 a0_0):=(blk_cell BK222.out 0).trans rfl; have hcz12_1 : w11.cell? ⟨gb222,1,none⟩ = some (.slice A0_1 l0_1.length c0_1):=(blk_cell BK222.out 1).trans rfl; have hfz12_0:=blk_frozen BK222.out 0; have hfz12_1:=blk_frozen BK222.out 1) | ((with_reducible refine gate_callee (f:=38) rfl ?_); refine goesL_ (some 6) rfl rfl Try.func38 (by kernel_rfl) rfl #[.agg #[.int .i64 a0_0,.slice A0_1 l0_1.length c0_1]] rfl (by (try simp only [List.map_toArray,List.map_cons,List.map_nil]); first | done | rfl | (simp only [List.length_drop,List.length_take]; rfl)) ?_; (with_reducible refine (impl_NetOk.calls a0_0 _ _ l0_1 false _ ?side1 ?side2 A3.out).mono ?_); (case side1 => repeat (first | exact (Kd.C_below HR0_1.out HB.out) | (with_reducible refine Kd.C_alloc ?_ _) | (with_reducible refine Kd.C_drewN ?_ _) | (with_reducible refine Kd.C_drew ?_))); (case side2 => exact HC0_1.out); rintro e w13 ⟨rfl,hb⟩; refine ⟨_,rfl,?_⟩; have n0_:=zx (blk_below (g:=gb222) (o:=.cells #[.int .i64 a0_0,.slice A0_1 l0_1.length c0_1] 25 (0,0)) (by (with_reducible repeat (first | refine blk_drewN ?_ _ | refine blk_drew ?_ | refine blk_alloc ?_ _)); exact BK222.out) hb); have n1_:=zx (below_step (by repeat (first | (with_reducible first | exact HB.out | apply below_alloc | apply pw_below_drewN | apply below_drew1 | refine below_set ?_ GE222.out) | exact HB.out)) hb); clear BK222; clear HB; have BK222:=n0_; have HB:=n1_; clear n0_ n1_; (try clear hb); (try clear hb2); (try clear hk); (try clear hi)))
  go_ret;exact ⟨by first | rfl | (simp [errW_none,errW_some] <;> rfl) | (simp [*,errW_none,errW_some] <;> rfl),by repeat (first | (with_reducible first | exact HB.out | apply below_alloc | apply pw_below_drewN | apply below_drew1 | refine below_set ?_ GE222.out) | exact HB.out)⟩
 subst c4;have H1 : ((impl_Net_has.f a0_0 l0_1 l1).bind fun t224 => (some t224)) = some r:=by rw [if_pos rfl] at H; exact H
 clear H;have H:=H1;clear H1;replace H:=Option.bind_eq_some_iff.mp H;obtain ⟨t224,A50,H⟩:=H;replace H : (some t224) = some r:=H;have A5:=zx A50;clear A50;obtain rfl:=Option.some.inj H
 go_enter Try.func48,Try.ntmps48
 go_wp2_with (first | ((with_reducible refine gate_dst (N:=2) rfl ?_); refine box_event ?hg (N:=2) ?hd (cs:=#[.int .i64 a0_0,.slice A0_1 l0_1.length c0_1]) (t:=25) ?hr ?_; (case hd => rfl); (case hg => rfl); (case hr => first | (go_simp; done) | (go_simp; rfl)); intro gb222 hg w6 hbox hb; have n0_:=zx (below_step (by repeat (first | (with_reducible first | exact HB.out | apply below_alloc | apply pw_below_drewN | apply below_drew1) | exact HB.out)) hb); have n1_:=zx (hbox); have n2_:=zx ((by rw [hg]; exact (below_size (by repeat (first | (with_reducible first | exact HB.out | apply below_alloc | apply pw_below_drewN | apply below_drew1) | exact HB.out))) : w.heap.size ≤ gb222)); have n3_:=zx ((by rw [hg]; exact (below_size (by repeat (first | (with_reducible first | exact HB.out | apply below_alloc | apply pw_below_drewN | apply below_drew1) | exact HB.out))) : w.heap.size ≤ gb222)); clear HB; have HB:=n0_; have BK222:=n1_; have GW222:=n2_; have GE222:=n3_; clear n0_ n1_ n2_ n3_; clear hb hbox hg; have hcz7_0 : w6.cell? ⟨gb222,0,none⟩ = some (.int .i64 a0_0):=(blk_cell BK222.out 0).trans rfl; have hcz7_1 : w6.cell? ⟨gb222,1,none⟩ = some (.slice A0_1 l0_1.length c0_1):=(blk_cell BK222.out 1).trans rfl; have hfz7_0:=blk_frozen BK222.out 0; have hfz7_1:=blk_frozen BK222.out 1) | ((with_reducible refine gate_callee (f:=38) rfl ?_); refine goesL_ (some 6) rfl rfl Try.func38 (by kernel_rfl) rfl #[.agg #[.int .i64 a0_0,.slice A0_1 l0_1.length c0_1]] rfl (by (try simp only [List.map_toArray,List.map_cons,List.map_nil]); first | done | rfl | (simp only [List.length_drop,List.length_take]; rfl)) ?_; (with_reducible refine (impl_NetOk.calls a0_0 _ _ l0_1 true _ ?side1 ?side2 A3.out).mono ?_); (case side1 => repeat (first | exact (Kd.C_below HR0_1.out HB.out) | (with_reducible refine Kd.C_alloc ?_ _) | (with_reducible refine Kd.C_drewN ?_ _) | (with_reducible refine Kd.C_drew ?_))); (case side2 => exact HC0_1.out); rintro e w8 ⟨rfl,hb⟩; refine ⟨_,rfl,?_⟩; have n0_:=zx (blk_below (g:=gb222) (o:=.cells #[.int .i64 a0_0,.slice A0_1 l0_1.length c0_1] 25 (0,0)) (by (with_reducible repeat (first | refine blk_drewN ?_ _ | refine blk_drew ?_ | refine blk_alloc ?_ _)); exact BK222.out) hb); have n1_:=zx (below_step (by repeat (first | (with_reducible first | exact HB.out | apply below_alloc | apply pw_below_drewN | apply below_drew1 | refine below_set ?_ GE222.out) | exact HB.out)) hb); clear BK222; clear HB; have BK222:=n0_; have HB:=n1_; clear n0_ n1_; (try clear hb); (try clear hb2); (try clear hk); (try clear hi); have hcz9_0 : w8.cell? ⟨gb222,0,none⟩ = some (.int .i64 a0_0):=(blk_cell BK222.out 0).trans rfl; have hcz9_1 : w8.cell? ⟨gb222,1,none⟩ = some (.slice A0_1 l0_1.length c0_1):=(blk_cell BK222.out 1).trans rfl; have hfz9_0:=blk_frozen BK222.out 0; have hfz9_1:=blk_frozen BK222.out 1) | (go_at_call 55; (with_reducible refine (impl_Net_has.calls a0_0 _ _ l0_1 _ _ l1 t224 _ ?side1 ?side2 ?side3 ?side4 A5.out).mono ?_); (case side1 => repeat (first | exact (Kd.C_below HR0_1.out HB.out) | (with_reducible refine Kd.C_alloc ?_ _) | (with_reducible refine Kd.C_drewN ?_ _) | (with_reducible refine Kd.C_drew ?_))); (case side2 => exact HC0_1.out); (case side3 => repeat (first | exact (Kd.C_below HR1.out HB.out) | (with_reducible refine Kd.C_alloc ?_ _) | (with_reducible refine Kd.C_drewN ?_ _) | (with_reducible refine Kd.C_drew ?_))); (case side4 => exact HC1.out); rintro e w10 ⟨rfl,hb⟩; have n0_:=zx (blk_below (g:=gb222) (o:=.cells #[.int .i64 a0_0,.slice A0_1 l0_1.length c0_1] 25 (0,0)) (by (with_reducible repeat (first | refine blk_drewN ?_ _ | refine blk_drew ?_ | refine blk_alloc ?_ _)); exact BK222.out) hb); have n1_:=zx (below_step (by repeat (first | (with_reducible first | exact HB.out | apply below_alloc | apply pw_below_drewN | apply below_drew1 | refine below_set ?_ GE222.out) | exact HB.out)) hb); clear BK222; clear HB; have BK222:=n0_; have HB:=n1_; clear n0_ n1_; (try clear hb); (try clear hb2); (try clear hk); (try clear hi)))
 go_ret;exact ⟨by first | rfl | (simp [errW_none,errW_some] <;> rfl) | (simp [*,errW_none,errW_some] <;> rfl),by repeat (first | (with_reducible first | exact HB.out | apply below_alloc | apply pw_below_drewN | apply below_drew1 | refine below_set ?_ GE222.out) | exact HB.out)⟩
def impl_jobsOk.f (a0_0 : Int) (l0_1 : List (S80)) (l1 : List Int) (l2 : List Int) : Option (Bool):=(impl_within.f (l1.length : Int) 1 5).bind fun t226 => (if t226 = true then (if (l2.length : Int) = (l1.length : Int) then ((impl_nodesIn.f a0_0 l0_1 l1).bind fun t227 => (if t227 = true then ((impl_Net_has.f a0_0 l0_1 l2).bind fun t228 => (some t228)) else (some false))) else (some false)) else (some false))
set_option maxHeartbeats 8000000 in
set_option maxRecDepth 100000 in
theorem impl_jobsOk.calls (a0_0 : Int) (A0_1 : Option Addr) (c0_1 : Nat) (l0_1 : List (S80)) (A1 : Option Addr) (c1 : Nat) (l1 : List Int) (A2 : Option Addr) (c2 : Nat) (l2 : List Int) (r : Bool) (w : World) (hr0_1 : Kd.C k80 w A0_1 l0_1.length l0_1) (hc0_1 : l0_1.length ≤ c0_1) (hr1 : Kd.C (Kd.int .i64) w A1 l1.length l1) (hc1 : l1.length ≤ c1) (hr2 : Kd.C (Kd.int .i64) w A2 l2.length l2) (hc2 : l2.length ≤ c2) (h : impl_jobsOk.f a0_0 l0_1 l1 l2 = some r) :
  Calls Try.prog 28 #[.agg #[.int .i64 a0_0,.slice A0_1 l0_1.length c0_1],.slice A1 l1.length c1,.slice A2 l2.length c2] w fun e w' => e = .returned (.bool r) ∧ Below w.heap.size w w':=by
 have hu25:=Try.underlying25;have HR0_1:=zx hr0_1;have HC0_1:=zx hc0_1;clear hr0_1 hc0_1;have HR1:=zx hr1;have HC1:=zx hc1;clear hr1 hc1;have HR2:=zx hr2;have HC2:=zx hc2;clear hr2 hc2;have HB:=zx (Below.refl w.heap.size w);have H : ((impl_within.f (l1.length : Int) 1 5).bind fun t226 => (if t226 = true then (if (l2.length : Int) = (l1.length : Int) then ((impl_nodesIn.f a0_0 l0_1 l1).bind fun t227 => (if t227 = true then ((impl_Net_has.f a0_0 l0_1 l2).bind fun t228 => (some t228)) else (some false))) else (some false)) else (some false))) = some r:=h;clear h;replace H:=Option.bind_eq_some_iff.mp H;obtain ⟨t226,A40,H⟩:=H;replace H : (if t226 = true then (if (l2.length : Int) = (l1.length : Int) then ((impl_nodesIn.f a0_0 l0_1 l1).bind fun t227 => (if t227 = true then ((impl_Net_has.f a0_0 l0_1 l2).bind fun t228 => (some t228)) else (some false))) else (some false)) else (some false)) = some r:=H;have A4:=zx A40;clear A40
 by_cases c5 : t226 = true
 case neg =>
  replace c5:=Bool.eq_false_iff.mpr c5;subst c5;have H1 : (some false) = some r:=by rw [if_neg (show ¬ (false = true) by decide)] at H; exact H
  clear H;have H:=H1;clear H1;obtain rfl:=Option.some.inj H
  go_enter Try.func28,Try.ntmps28
  go_wp2_with (first | ((with_reducible refine gate_dst (N:=3) rfl ?_); (try (refine gate_guard (by rfl) ?_; dsimp only)); refine box_event ?hg (N:=3) ?hd (cs:=#[.int .i64 a0_0,.slice A0_1 l0_1.length c0_1]) (t:=25) ?hr ?_; (case hd => rfl); (case hg => rfl); (case hr => first | (go_simp; done) | (go_simp; rfl)); intro gb225 hg w19 hbox hb; have n0_:=zx (below_step (by repeat (first | (with_reducible first | exact HB.out | apply below_alloc | apply pw_below_drewN | apply below_drew1) | exact HB.out)) hb); have n1_:=zx (hbox); have n2_:=zx ((by rw [hg]; exact (below_size (by repeat (first | (with_reducible first | exact HB.out | apply below_alloc | apply pw_below_drewN | apply below_drew1) | exact HB.out))) : w.heap.size ≤ gb225)); have n3_:=zx ((by rw [hg]; exact (below_size (by repeat (first | (with_reducible first | exact HB.out | apply below_alloc | apply pw_below_drewN | apply below_drew1) | exact HB.out))) : w.heap.size ≤ gb225)); clear HB; have HB:=n0_; have BK225:=n1_; have GW225:=n2_; have GE225:=n3_; clear n0_ n1_ n2_ n3_; clear hb hbox hg) | ((with_reducible refine gate_callee (f:=54) rfl ?_); refine goesL_ (some 9) rfl rfl Try.func54 (by kernel_rfl) rfl #[.int .i64 (l1.length : Int),.int .i64 1,.int .i64 5] rfl (by (try simp only [List.map_toArray,List.map_cons,List.map_nil]); first | done | rfl | (simp only [List.length_drop,List.length_take]; rfl)) ?_; (with_reducible refine (impl_within.calls (l1.length : Int) 1 5 false _ A4.out).mono ?_); rintro e w' ⟨rfl,⟨nd,rfl⟩⟩; refine ⟨_,rfl,?_⟩))
  go_ret;exact ⟨by first | rfl | (simp [errW_none,errW_some] <;> rfl) | (simp [*,errW_none,errW_some] <;> rfl),by repeat (first | (with_reducible first | exact HB.out | apply below_alloc | apply pw_below_drewN | apply below_drew1 | refine below_set ?_ GE225.out) | exact HB.out)⟩
 subst c5;have H1 : (if (l2.length : Int) = (l1.length : Int) then ((impl_nodesIn.f a0_0 l0_1 l1).bind fun t227 => (if t227 = true then ((impl_Net_has.f a0_0 l0_1 l2).bind fun t228 => (some t228)) else (some false))) else (some false)) = some r:=by rw [if_pos rfl] at H; exact H
 clear H;have H:=H1;clear H1
 by_cases c6 : (l2.length : Int) = (l1.length : Int)
 case neg =>
  rw [if_neg c6] at H;have c6b0 : ((l2.length : Int) == (l1.length : Int)) = false:=beq_eq_false_iff_ne.mpr c6;have c6b1 : ((l2.length : Int) != (l1.length : Int)) = true:=bne_iff_ne.mpr c6;have c6b2 : (l2.length == l1.length) = false:=by first | simpa using c6 | (simp at c6 ⊢; omega)
  obtain rfl:=Option.some.inj H
  go_enter Try.func28,Try.ntmps28
  go_wp2_with (first | ((with_reducible refine gate_dst (N:=3) rfl ?_); (try (refine gate_guard (by rfl) ?_; dsimp only)); refine box_event ?hg (N:=3) ?hd (cs:=#[.int .i64 a0_0,.slice A0_1 l0_1.length c0_1]) (t:=25) ?hr ?_; (case hd => rfl); (case hg => rfl); (case hr => first | (go_simp; done) | (go_simp; rfl)); intro gb225 hg w18 hbox hb; have n0_:=zx (below_step (by repeat (first | (with_reducible first | exact HB.out | apply below_alloc | apply pw_below_drewN | apply below_drew1) | exact HB.out)) hb); have n1_:=zx (hbox); have n2_:=zx ((by rw [hg]; exact (below_size (by repeat (first | (with_reducible first | exact HB.out | apply below_alloc | apply pw_below_drewN | apply below_drew1) | exact HB.out))) : w.heap.size ≤ gb225)); have n3_:=zx ((by rw [hg]; exact (below_size (by repeat (first | (with_reducible first | exact HB.out | apply below_alloc | apply pw_below_drewN | apply below_drew1) | exact HB.out))) : w.heap.size ≤ gb225)); clear HB; have HB:=n0_; have BK225:=n1_; have GW225:=n2_; have GE225:=n3_; clear n0_ n1_ n2_ n3_; clear hb hbox hg) | ((with_reducible refine gate_callee (f:=54) rfl ?_); refine goesL_ (some 9) rfl rfl Try.func54 (by kernel_rfl) rfl #[.int .i64 (l1.length : Int),.int .i64 1,.int .i64 5] rfl (by (try simp only [List.map_toArray,List.map_cons,List.map_nil]); first | done | rfl | (simp only [List.length_drop,List.length_take]; rfl)) ?_; (with_reducible refine (impl_within.calls (l1.length : Int) 1 5 true _ A4.out).mono ?_); rintro e w' ⟨rfl,⟨nd,rfl⟩⟩; refine ⟨_,rfl,?_⟩))
  go_ret;exact ⟨by first | rfl | (simp [errW_none,errW_some] <;> rfl) | (simp [*,errW_none,errW_some] <;> rfl),by repeat (first | (with_reducible first | exact HB.out | apply below_alloc | apply pw_below_drewN | apply below_drew1 | refine below_set ?_ GE225.out) | exact HB.out)⟩
 rw [if_pos c6] at H;have c6b0 : ((l2.length : Int) == (l1.length : Int)) = true:=beq_iff_eq.mpr c6;have c6b1 : ((l2.length : Int) != (l1.length : Int)) = false:=bne_eq_false_iff_eq.mpr c6;have c6b2 : (l2.length == l1.length) = true:=by first | simpa using c6 | (simp at c6 ⊢; omega)
 clear c6;replace H:=Option.bind_eq_some_iff.mp H;obtain ⟨t227,A70,H⟩:=H;replace H : (if t227 = true then ((impl_Net_has.f a0_0 l0_1 l2).bind fun t228 => (some t228)) else (some false)) = some r:=H;have A7:=zx A70;clear A70
 by_cases c8 : t227 = true
 case neg =>
  replace c8:=Bool.eq_false_iff.mpr c8;subst c8;have H1 : (some false) = some r:=by rw [if_neg (show ¬ (false = true) by decide)] at H; exact H
  clear H;have H:=H1;clear H1;obtain rfl:=Option.some.inj H
  go_enter Try.func28,Try.ntmps28
  go_wp2_with (first | ((with_reducible refine gate_dst (N:=3) rfl ?_); (try (refine gate_guard (by rfl) ?_; dsimp only)); refine box_event ?hg (N:=3) ?hd (cs:=#[.int .i64 a0_0,.slice A0_1 l0_1.length c0_1]) (t:=25) ?hr ?_; (case hd => rfl); (case hg => rfl); (case hr => first | (go_simp; done) | (go_simp; rfl)); intro gb225 hg w15 hbox hb; have n0_:=zx (below_step (by repeat (first | (with_reducible first | exact HB.out | apply below_alloc | apply pw_below_drewN | apply below_drew1) | exact HB.out)) hb); have n1_:=zx (hbox); have n2_:=zx ((by rw [hg]; exact (below_size (by repeat (first | (with_reducible first | exact HB.out | apply below_alloc | apply pw_below_drewN | apply below_drew1) | exact HB.out))) : w.heap.size ≤ gb225)); have n3_:=zx ((by rw [hg]; exact (below_size (by repeat (first | (with_reducible first | exact HB.out | apply below_alloc | apply pw_below_drewN | apply below_drew1) | exact HB.out))) : w.heap.size ≤ gb225)); clear HB; have HB:=n0_; have BK225:=n1_; have GW225:=n2_; have GE225:=n3_; clear n0_ n1_ n2_ n3_; clear hb hbox hg) | ((with_reducible refine gate_callee (f:=54) rfl ?_); refine goesL_ (some 9) rfl rfl Try.func54 (by kernel_rfl) rfl #[.int .i64 (l1.length : Int),.int .i64 1,.int .i64 5] rfl (by (try simp only [List.map_toArray,List.map_cons,List.map_nil]); first | done | rfl | (simp only [List.length_drop,List.length_take]; rfl)) ?_; (with_reducible refine (impl_within.calls (l1.length : Int) 1 5 true _ A4.out).mono ?_); rintro e w' ⟨rfl,⟨nd,rfl⟩⟩; refine ⟨_,rfl,?_⟩; have hcz16_0 : w15.cell? ⟨gb225,0,none⟩ = some (.int .i64 a0_0):=(blk_cell BK225.out 0).trans rfl; have hcz16_1 : w15.cell? ⟨gb225,1,none⟩ = some (.slice A0_1 l0_1.length c0_1):=(blk_cell BK225.out 1).trans rfl; have hfz16_0:=blk_frozen BK225.out 0; have hfz16_1:=blk_frozen BK225.out 1) | (go_at_call 48; (with_reducible refine (impl_nodesIn.calls a0_0 _ _ l0_1 _ _ l1 false _ ?side1 ?side2 ?side3 ?side4 A7.out).mono ?_); (case side1 => repeat (first | exact (Kd.C_below HR0_1.out (by repeat (first | (with_reducible first | exact HB.out | apply below_alloc | apply pw_below_drewN | apply below_drew1 | refine below_set ?_ GE225.out) | exact HB.out))) | (with_reducible refine Kd.C_alloc ?_ _) | (with_reducible refine Kd.C_drewN ?_ _) | (with_reducible refine Kd.C_drew ?_))); (case side2 => exact HC0_1.out); (case side3 => repeat (first | exact (Kd.C_below HR1.out (by repeat (first | (with_reducible first | exact HB.out | apply below_alloc | apply pw_below_drewN | apply below_drew1 | refine below_set ?_ GE225.out) | exact HB.out))) | (with_reducible refine Kd.C_alloc ?_ _) | (with_reducible refine Kd.C_drewN ?_ _) | (with_reducible refine Kd.C_drew ?_))); (case side4 => exact HC1.out); rintro e w17 ⟨rfl,hb⟩; have n0_:=zx (blk_below (g:=gb225) (o:=.cells #[.int .i64 a0_0,.slice A0_1 l0_1.length c0_1] 25 (0,0)) (by (with_reducible repeat (first | refine blk_drewN ?_ _ | refine blk_drew ?_ | refine blk_alloc ?_ _)); exact BK225.out) hb); have n1_:=zx (below_step (by repeat (first | (with_reducible first | exact HB.out | apply below_alloc | apply pw_below_drewN | apply below_drew1 | refine below_set ?_ GE225.out) | exact HB.out)) hb); clear BK225; clear HB; have BK225:=n0_; have HB:=n1_; clear n0_ n1_; (try clear hb); (try clear hb2); (try clear hk); (try clear hi)))
  go_ret;exact ⟨by first | rfl | (simp [errW_none,errW_some] <;> rfl) | (simp [*,errW_none,errW_some] <;> rfl),by repeat (first | (with_reducible first | exact HB.out | apply below_alloc | apply pw_below_drewN | apply below_drew1 | refine below_set ?_ GE225.out) | exact HB.out)⟩
 subst c8;have H1 : ((impl_Net_has.f a0_0 l0_1 l2).bind fun t228 => (some t228)) = some r:=by rw [if_pos rfl] at H; exact H
 clear H;have H:=H1;clear H1;replace H:=Option.bind_eq_some_iff.mp H;obtain ⟨t228,A90,H⟩:=H;replace H : (some t228) = some r:=H;have A9:=zx A90;clear A90;obtain rfl:=Option.some.inj H
 go_enter Try.func28,Try.ntmps28
 go_wp2_with (first | ((with_reducible refine gate_dst (N:=3) rfl ?_); (try (refine gate_guard (by rfl) ?_; dsimp only)); refine box_event ?hg (N:=3) ?hd (cs:=#[.int .i64 a0_0,.slice A0_1 l0_1.length c0_1]) (t:=25) ?hr ?_; (case hd => rfl); (case hg => rfl); (case hr => first | (go_simp; done) | (go_simp; rfl)); intro gb225 hg w10 hbox hb; have n0_:=zx (below_step (by repeat (first | (with_reducible first | exact HB.out | apply below_alloc | apply pw_below_drewN | apply below_drew1) | exact HB.out)) hb); have n1_:=zx (hbox); have n2_:=zx ((by rw [hg]; exact (below_size (by repeat (first | (with_reducible first | exact HB.out | apply below_alloc | apply pw_below_drewN | apply below_drew1) | exact HB.out))) : w.heap.size ≤ gb225)); have n3_:=zx ((by rw [hg]; exact (below_size (by repeat (first | (with_reducible first | exact HB.out | apply below_alloc | apply pw_below_drewN | apply below_drew1) | exact HB.out))) : w.heap.size ≤ gb225)); clear HB; have HB:=n0_; have BK225:=n1_; have GW225:=n2_; have GE225:=n3_; clear n0_ n1_ n2_ n3_; clear hb hbox hg) | ((with_reducible refine gate_callee (f:=54) rfl ?_); refine goesL_ (some 9) rfl rfl Try.func54 (by kernel_rfl) rfl #[.int .i64 (l1.length : Int),.int .i64 1,.int .i64 5] rfl (by (try simp only [List.map_toArray,List.map_cons,List.map_nil]); first | done | rfl | (simp only [List.length_drop,List.length_take]; rfl)) ?_; (with_reducible refine (impl_within.calls (l1.length : Int) 1 5 true _ A4.out).mono ?_); rintro e w' ⟨rfl,⟨nd,rfl⟩⟩; refine ⟨_,rfl,?_⟩; have hcz11_0 : w10.cell? ⟨gb225,0,none⟩ = some (.int .i64 a0_0):=(blk_cell BK225.out 0).trans rfl; have hcz11_1 : w10.cell? ⟨gb225,1,none⟩ = some (.slice A0_1 l0_1.length c0_1):=(blk_cell BK225.out 1).trans rfl; have hfz11_0:=blk_frozen BK225.out 0; have hfz11_1:=blk_frozen BK225.out 1) | (go_at_call 48; (with_reducible refine (impl_nodesIn.calls a0_0 _ _ l0_1 _ _ l1 true _ ?side1 ?side2 ?side3 ?side4 A7.out).mono ?_); (case side1 => repeat (first | exact (Kd.C_below HR0_1.out (by repeat (first | (with_reducible first | exact HB.out | apply below_alloc | apply pw_below_drewN | apply below_drew1 | refine below_set ?_ GE225.out) | exact HB.out))) | (with_reducible refine Kd.C_alloc ?_ _) | (with_reducible refine Kd.C_drewN ?_ _) | (with_reducible refine Kd.C_drew ?_))); (case side2 => exact HC0_1.out); (case side3 => repeat (first | exact (Kd.C_below HR1.out (by repeat (first | (with_reducible first | exact HB.out | apply below_alloc | apply pw_below_drewN | apply below_drew1 | refine below_set ?_ GE225.out) | exact HB.out))) | (with_reducible refine Kd.C_alloc ?_ _) | (with_reducible refine Kd.C_drewN ?_ _) | (with_reducible refine Kd.C_drew ?_))); (case side4 => exact HC1.out); rintro e w12 ⟨rfl,hb⟩; have n0_:=zx (blk_below (g:=gb225) (o:=.cells #[.int .i64 a0_0,.slice A0_1 l0_1.length c0_1] 25 (0,0)) (by (with_reducible repeat (first | refine blk_drewN ?_ _ | refine blk_drew ?_ | refine blk_alloc ?_ _)); exact BK225.out) hb); have n1_:=zx (below_step (by repeat (first | (with_reducible first | exact HB.out | apply below_alloc | apply pw_below_drewN | apply below_drew1 | refine below_set ?_ GE225.out) | exact HB.out)) hb); clear BK225; clear HB; have BK225:=n0_; have HB:=n1_; clear n0_ n1_; (try clear hb); (try clear hb2); (try clear hk); (try clear hi); have hcz13_0 : w12.cell? ⟨gb225,0,none⟩ = some (.int .i64 a0_0):=(blk_cell BK225.out 0).trans rfl; have hcz13_1 : w12.cell? ⟨gb225,1,none⟩ = some (.slice A0_1 l0_1.length c0_1):=(blk_cell BK225.out 1).trans rfl; have hfz13_0:=blk_frozen BK225.out 0; have hfz13_1:=blk_frozen BK225.out 1) | (go_at_call 55; (with_reducible refine (impl_Net_has.calls a0_0 _ _ l0_1 _ _ l2 t228 _ ?side1 ?side2 ?side3 ?side4 A9.out).mono ?_); (case side1 => repeat (first | exact (Kd.C_below HR0_1.out HB.out) | (with_reducible refine Kd.C_alloc ?_ _) | (with_reducible refine Kd.C_drewN ?_ _) | (with_reducible refine Kd.C_drew ?_))); (case side2 => exact HC0_1.out); (case side3 => repeat (first | exact (Kd.C_below HR2.out HB.out) | (with_reducible refine Kd.C_alloc ?_ _) | (with_reducible refine Kd.C_drewN ?_ _) | (with_reducible refine Kd.C_drew ?_))); (case side4 => exact HC2.out); rintro e w14 ⟨rfl,hb⟩; have n0_:=zx (blk_below (g:=gb225) (o:=.cells #[.int .i64 a0_0,.slice A0_1 l0_1.length c0_1] 25 (0,0)) (by (with_reducible repeat (first | refine blk_drewN ?_ _ | refine blk_drew ?_ | refine blk_alloc ?_ _)); exact BK225.out) hb); have n1_:=zx (below_step (by repeat (first | (with_reducible first | exact HB.out | apply below_alloc | apply pw_below_drewN | apply below_drew1 | refine below_set ?_ GE225.out) | exact HB.out)) hb); clear BK225; clear HB; have BK225:=n0_; have HB:=n1_; clear n0_ n1_; (try clear hb); (try clear hb2); (try clear hk); (try clear hi)))
 go_ret;exact ⟨by first | rfl | (simp [errW_none,errW_some] <;> rfl) | (simp [*,errW_none,errW_some] <;> rfl),by repeat (first | (with_reducible first | exact HB.out | apply below_alloc | apply pw_below_drewN | apply below_drew1 | refine below_set ?_ GE225.out) | exact HB.out)⟩
end Go.Proofs.Ytmioaahiflfcdaa.Pr
end
section
set_option linter.unusedVariables false
set_option linter.unusedSimpArgs false
namespace Go.Proofs.YtmioaahiflfcdaaW.PrintWords
open Go.RowKit
section
variable {P : Program} {ops : Array Oper} {rest : List Oper} {o : Oper} {a : Act} {Q : Exit → Act → World → Prop}
theorem put_event {W : World} (hgd : o.guard = none) (hN : o.dst = none) {t : TypeId} {p x : Operand} (ho : o.op = .store t p x) {g : Nat} {e : TypeId} {cur : Array Value} (hh : W.heap[g]? = some (.cells cur e (0,0))) (k : Nat) (cur' : Array Value) (u : Value) (seg : List Value)
  (haddr : a.eval p = .pointer (some ⟨g,k,none⟩)) (hx : a.eval x = u) (hu : u.cells.toList = seg) (ht : (P.info? t).map (·.size) = some seg.length) (hfit : k + seg.length ≤ cur.size) (h1 : ∀ q ∈ seg,q.oneCell' = true) (hc : cur'.toList = cur.toList.take k ++ seg ++ cur.toList.drop (k + seg.length))
  (h : ∀ w1,w1.heap[g]? = some (.cells cur' e (0,0)) → W.grownBy w1 (some g) → wpList P ops Q rest a w1) : wpList P ops Q (o :: rest) a W:=by
 obtain ⟨c2,hh2,hs2,hl2⟩:=setCells_row seg k W cur hh hfit;obtain ⟨s1,s2,s3,s4⟩:=setCells_same g seg k W;have e2 : c2 = cur':=by
  apply Array.toList_inj.1
  rw [hl2,hc]
 subst e2;have hrun:=run_store_run (P:=P) (w:=W) t u seg hh hu ht hfit h1;refine wpList_plain hgd fun K hK => ?_
 unfold Oper.wp execOp
 simp only [ho,haddr,hx,Sem.run_bind,Sem.run_pure,Result.andThen_ok,hrun]
 show K (a.put o.dst undef) _
 rw [hN];exact hK a _ (h _ hh2 ⟨s1,s2,s3,by rw [s4]; exact Nat.le_refl _,fun i _ hi => setCells_far seg k i (fun he => hi (by rw [he]))⟩)
theorem run_copy_sz (w : World) (dT sT ty elem : TypeId) (sz : Nat) (b o dLen dCap : Nat) (a : Addr) (sLen sCap : Nat) (cs : List Value)
  (hu : P.underlying dT = some (.slice elem)) (hs : (P.info? elem).map (·.size) = some sz) (hn : cs.length = Nat.min sLen dLen * sz)
  (hsrc : ∀ j v,cs[j]? = some v → w.cell? (a.add j) = some v) (hc : ∀ j,j < cs.length → (w.cell? ⟨b,o + j,none⟩).isSome = true) (hf : ∀ j,j < cs.length → w.frozen? ⟨b,o + j,none⟩ = false) (h1 : ∀ v ∈ cs,v.oneCell' = true) :
  (Builtin.copy_ #[dT,sT] ty #[.slice (some ⟨b,o,none⟩) dLen dCap,.slice (some a) sLen sCap]).run P w = .ok (goInt (Nat.min sLen dLen)) (w.setCells b o cs):=by
 have hl:=run_loadCells_list (P:=P) w a cs hsrc;have hst:=run_storeCells_cells (P:=P) b o cs 0 w (by simpa using hc) (by simpa using hf) h1;cases hq : P.info? elem with
 | none => simp [hq] at hs
 | some i =>
  have hi : i.size = sz:=by simpa [hq] using hs
  simp [Builtin.copy_,run_underlying hu,Builtin.lenOf,Builtin.firstCells,sizeOf,typeInfo,hq,hi,← hn,hl,hst]
theorem run_copy_none_sz (w : World) (dT sT ty elem : TypeId) (sz : Nat) (d a : Option Addr) (dLen dCap sLen sCap : Nat) (hu : P.underlying dT = some (.slice elem)) (hs : (P.info? elem).map (·.size) = some sz) (hn : Nat.min sLen dLen = 0) :
  (Builtin.copy_ #[dT,sT] ty #[.slice d dLen dCap,.slice a sLen sCap]).run P w = .ok (goInt 0) w:=by
 cases hq : P.info? elem with
 | none => simp [hq] at hs
 | some i =>
  have hn' : min sLen dLen = 0:=hn;cases d <;> cases a <;> simp [Builtin.copy_,run_underlying hu,Builtin.lenOf,Builtin.firstCells,sizeOf,typeInfo,hq,hn',loadCells,loadCellsFrom,storeCells]
theorem copy_run {W : World} (sz : Nat) (d s : Operand) (dT sT : TypeId) (ho : o.op = .call { callee:=.builtin .copy,args:=#[d,s],argTypes:=#[dT,sT] }) (elem : TypeId) (hu : P.underlying dT = some (.slice elem)) (hsz : (P.info? elem).map (·.size) = some sz)
  (dp sp : Option Addr) (dLen dCap sLen sCap : Nat) (hd : a.eval d = .slice dp dLen dCap) (hs : a.eval s = .slice sp sLen sCap)
  (g off : Nat) (cur : Array Value) (t : TypeId) (hg : W.heap[g]? = some (.cells cur t (0,0))) (cs : List Value) (k : Nat) (hk : Nat.min sLen dLen = k) (hn : cs.length = k * sz)
  (hpos : 0 < cs.length → dp = some ⟨g,off,none⟩ ∧ ∃ ad,sp = some ad ∧ ∀ j v,cs[j]? = some v → W.cell? (ad.add j) = some v)
  (hfit : off + cs.length ≤ cur.size) (h1 : ∀ v ∈ cs,v.oneCell' = true) (hz : 0 < sz) :
  ∃ w',(execOp a.eval o).run P W = .ok (.value (goInt k)) w' ∧ (∃ cur',w'.heap[g]? = some (.cells cur' t (0,0)) ∧ cur'.size = cur.size ∧ cur'.toList = cur.toList.take off ++ cs ++ cur.toList.drop (off + cs.length)) ∧ W.grownBy w' (some g):=by
 subst hk
 by_cases h0 : Nat.min sLen dLen = 0
 case pos =>
  obtain rfl : cs = []:=List.eq_nil_of_length_eq_zero (by rw [hn,h0,Nat.zero_mul]);have hrun:=run_copy_none_sz (P:=P) W dT sT o.type elem sz dp sp dLen dCap sLen sCap hu hsz h0;refine ⟨W,by simp [execOp,ho,resolve,invoke,builtin,hd,hs,hrun,Result.andThen,h0],⟨cur,hg,rfl,by simp⟩,⟨rfl,rfl,rfl,Nat.le_refl _,fun _ _ _ => rfl⟩⟩
 have hp : 0 < cs.length:=by rw [hn]; exact Nat.mul_pos (by omega) hz
 obtain ⟨rfl,ad,rfl,hsrc⟩:=hpos hp;obtain ⟨c2,hh2,hs2,hl2⟩:=setCells_row cs off W cur hg hfit;obtain ⟨s1,s2,s3,s4⟩:=setCells_same g cs off W;have hrun:=run_copy_sz (P:=P) W dT sT o.type elem sz g off dLen dCap ad sLen sCap cs hu hsz hn hsrc (fun j hj => by rw [cell_of_row W g _ cur t (0,0) hg]; simp; omega) (fun j _ => blk_frozen hg _) h1;exact ⟨_,by simp [execOp,ho,resolve,invoke,builtin,hd,hs,hrun,Result.andThen],⟨c2,hh2,hs2,hl2⟩,⟨s1,s2,s3,by rw [s4]; exact Nat.le_refl _,fun k _ hk => setCells_far cs off k (fun he => hk (by rw [he]))⟩⟩
theorem copy_event {W : World} (hgd : o.guard = none) (sz : Nat) (d s : Operand) (dT sT : TypeId) (ho : o.op = .call { callee:=.builtin .copy,args:=#[d,s],argTypes:=#[dT,sT] }) (elem : TypeId) (hu : P.underlying dT = some (.slice elem)) (hsz : (P.info? elem).map (·.size) = some sz)
  (dp sp : Option Addr) (dLen dCap sLen sCap : Nat) (hd : a.eval d = .slice dp dLen dCap) (hs : a.eval s = .slice sp sLen sCap)
  (g off : Nat) (cur : Array Value) (t : TypeId) (hg : W.heap[g]? = some (.cells cur t (0,0))) (cs : List Value) (k : Nat) (hk : Nat.min sLen dLen = k) (hn : cs.length = k * sz)
  (hpos : 0 < cs.length → dp = some ⟨g,off,none⟩ ∧ ∃ ad,sp = some ad ∧ ∀ j v,cs[j]? = some v → W.cell? (ad.add j) = some v)
  (hfit : off + cs.length ≤ cur.size) (h1 : ∀ v ∈ cs,v.oneCell' = true) (hz : 0 < sz)
  (h : ∀ w',(∃ cur',w'.heap[g]? = some (.cells cur' t (0,0)) ∧ cur'.size = cur.size ∧ cur'.toList = cur.toList.take off ++ cs ++ cur.toList.drop (off + cs.length)) → W.grownBy w' (some g) → wpList P ops Q rest (a.put o.dst (goInt k)) w') : wpList P ops Q (o :: rest) a W:=by
 obtain ⟨w',hr,h2,h3⟩:=copy_run sz d s dT sT ho elem hu hsz dp sp dLen dCap sLen sCap hd hs g off cur t hg cs k hk hn hpos hfit h1 hz;refine wpList_plain hgd fun K hK => ?_
 unfold Oper.wp
 rw [hr];exact hK _ _ (h w' h2 h3)
theorem copy_step {W : World} {K : Act → World → Prop} {E : Prop} (hgd : o.guard = none) (sz : Nat) (d s : Operand) (dT sT : TypeId) (ho : o.op = .call { callee:=.builtin .copy,args:=#[d,s],argTypes:=#[dT,sT] }) (elem : TypeId) (hu : P.underlying dT = some (.slice elem)) (hsz : (P.info? elem).map (·.size) = some sz)
  (dp sp : Option Addr) (dLen dCap sLen sCap : Nat) (hd : a.eval d = .slice dp dLen dCap) (hs : a.eval s = .slice sp sLen sCap)
  (g off : Nat) (cur : Array Value) (t : TypeId) (hg : W.heap[g]? = some (.cells cur t (0,0))) (cs : List Value) (k : Nat) (hk : Nat.min sLen dLen = k) (hn : cs.length = k * sz)
  (hpos : 0 < cs.length → dp = some ⟨g,off,none⟩ ∧ ∃ ad,sp = some ad ∧ ∀ j v,cs[j]? = some v → W.cell? (ad.add j) = some v)
  (hfit : off + cs.length ≤ cur.size) (h1 : ∀ v ∈ cs,v.oneCell' = true) (hz : 0 < sz)
  (h : ∀ w',(∃ cur',w'.heap[g]? = some (.cells cur' t (0,0)) ∧ cur'.size = cur.size ∧ cur'.toList = cur.toList.take off ++ cs ++ cur.toList.drop (off + cs.length)) → W.grownBy w' (some g) → K (a.put o.dst (goInt k)) w') : if Region.wanted o (yielded ops a.tmps) = true then Oper.wp P o a W K Q else E:=by
 obtain ⟨w',hr,h2,h3⟩:=copy_run sz d s dT sT ho elem hu hsz dp sp dLen dCap sLen sCap hd hs g off cur t hg cs k hk hn hpos hfit h1 hz;rw [if_pos (show Region.wanted o (yielded ops a.tmps) = true by simp [Region.wanted,hgd])]
 unfold Oper.wp
 rw [hr];exact h w' h2 h3
theorem made_take (z : Array Value) (m n : Nat) (h : m ≤ n) : (madeCells z n).toList.take m = (madeCells z m).toList:=by
 apply List.ext_getElem
 ·simp [size_madeCells]; omega
 ·intro i h1 h2;simp [madeCells]
theorem made_mem (z : Array Value) (n : Nat) (hz : 0 < z.size) : ∀ v ∈ (madeCells z n).toList,v ∈ z.toList:=by
 intro v hv;simp only [madeCells,Array.toList_map,List.mem_map] at hv;obtain ⟨i,_,rfl⟩:=hv;have h : i % z.size < z.size:=Nat.mod_lt _ hz;rw [getElem!_pos z _ h];exact Array.getElem_mem_toList h
theorem made_append (z : Array Value) (sz m n : Nat) (hz : z.size = sz) : (madeCells z (m * sz)).toList ++ (madeCells z (n * sz)).toList = (madeCells z ((m + n) * sz)).toList:=by
 apply List.ext_getElem
 ·simp [size_madeCells,Nat.add_mul]
 ·intro i h1 h2
  by_cases c : i < m * sz
  case pos =>
   rw [List.getElem_append_left (by simpa [size_madeCells] using c)];simp [madeCells]
  rw [List.getElem_append_right (by simpa [size_madeCells] using Nat.le_of_not_lt c)];have e : (i - m * sz) % sz = i % sz:=by
   have : i = (i - m * sz) + m * sz:=by omega
   conv => rhs; rw [this,Nat.add_mul_mod_self_right]
  simp [madeCells,size_madeCells,hz,e]
theorem make_event {W : World} (hgd : o.guard = none) {cs : Array Value} {t : TypeId} {n : Nat}
  (hrun : (execOp a.eval o).run P W = .ok (.value (.slice (some ⟨W.heap.size,0,none⟩) n n)) (W.alloc (.cells cs t)))
  (h : ∀ g,g = W.heap.size → ∀ w1,w1.heap[g]? = some (.cells cs t (0,0)) → Below W.heap.size W w1 → wpList P ops Q rest (a.put o.dst (.slice (some ⟨g,0,none⟩) n n)) w1) : wpList P ops Q (o :: rest) a W :=
 Kd.event_run hgd hrun (h _ rfl _ (blk_new W _) (below_alloc (Below.refl _ _) _))
end
end Go.Proofs.YtmioaahiflfcdaaW.PrintWords
end
section
namespace Go.Proofs.Ytmioaahiflfcdaa.Pr
open Go.RowKit Go.Proofs.YtmioaahiflfcdaaW.PrintWords Go.Proofs.YtmioaahiflfcdaaW.PrintLast Go.Proofs.YtmioaahiflfcdaaW.PrintMore
attribute [local go_sem] max2_int min2_int max_two min_two max_three min_three max_four min_four
set_option linter.unusedVariables false
set_option linter.unusedSimpArgs false
open List renaming setIfInBounds_toArray → U,set_cons_zero → V,set_cons_succ → Z
open Go.Proofs.YtmioaahiflfcdaaW.PrintWords.Aside0 renaming mk → zx
def impl_Net_back.l0 : Nat → List (S80) → Int → Int → Int → List (S80) → Option (Int × (List (S80)))
 | 0,_,_,_,_,_ => none
 | k + 1,x14,x15,x16,x235000,x235001 => if x16 < x15 then (if 0 ≤ x16 then (if x16 < (x14.length : Int) then (if x235001.length < 3518437208883 then (impl_Net_back.l0 k x14 x15 (wrap64 (x16 + 1)) x235000 (x235001 ++ [(⟨(rd_T80 x14 x16).f1,(rd_T80 x14 x16).f0,(rd_T80 x14 x16).f2,(rd_T80 x14 x16).f3,(rd_T80 x14 x16).f4⟩ : S80)])) else (none)) else (none)) else (none)) else (some (x235000,x235001))
def impl_Net_back.f (k : Nat) (a0_0 : Int) (l0_1 : List (S80)) : Option (Int × (List (S80))):=if 0 ≤ (l0_1.length : Int) then (if ((l0_1.length : Int) : Int).toNat ≤ 7036874417766 then (impl_Net_back.l0 k l0_1 (l0_1.length : Int) 0 a0_0 (([] : List (S80)))) else (none)) else (none)
def impl_Net_back.T1 : Bool × List (List Nat × List Nat):=(true,[([],[]),([0],[0]),([],[]),([2],[2]),([3],[3]),([4],[4]),([1,5],[1,5]),([],[]),([7,6,0,1,2,3,4,5,6,7],[6,7])])
def impl_Net_back.B1 : List Nat:=[0,1,0,4,12,28,63,0,255]
theorem impl_Net_back.tab1 : rtab .any (opsOf Try.f39 1) = impl_Net_back.T1:=by kernel_rfl
theorem impl_Net_back.bits1 : waitsOk impl_Net_back.T1.2 impl_Net_back.B1 = true:=by kernel_rfl
set_option maxHeartbeats 8000000 in
set_option maxRecDepth 100000 in
theorem impl_Net_back.calls (k : Nat) (a0_0 : Int) (A0_1 : Option Addr) (c0_1 : Nat) (l0_1 : List (S80)) (r1 : Int) (r2 : List (S80)) (w : World) (hr0_1 : Kd.C k80 w A0_1 l0_1.length l0_1) (hc0_1 : l0_1.length ≤ c0_1) (h : impl_Net_back.f k a0_0 l0_1 = some (r1,r2)) :
  Calls Try.prog 39 #[.agg #[.int .i64 a0_0,.slice A0_1 l0_1.length c0_1]] w fun e w' => ∃ v1_ : Value,e = .returned (.agg #[.int .i64 r1,v1_]) ∧ Kd.R k80 80 w' w.heap.size (fun _ => True) v1_ r2 ∧ Below w.heap.size w w':=by
 have hu25:=Try.underlying25;have hu80:=Try.underlying80;have HR0_1:=zx hr0_1;have HC0_1:=zx hc0_1;clear hr0_1 hc0_1;have HB:=zx (Below.refl w.heap.size w);have H : (if 0 ≤ (l0_1.length : Int) then (if ((l0_1.length : Int) : Int).toNat ≤ 7036874417766 then (impl_Net_back.l0 k l0_1 (l0_1.length : Int) 0 a0_0 (([] : List (S80)))) else (none)) else (none)) = some (r1,r2):=h;clear h
 by_cases c2 : 0 ≤ (l0_1.length : Int)
 case neg =>
  rw [if_neg c2] at H;exact absurd H (by simp)
 rw [if_pos c2] at H;have c2b0:=eq_true c2;have c2b1 : decide (0 ≤ (l0_1.length : Int)) = true:=decide_eq_true c2;clear c2
 by_cases c3 : ((l0_1.length : Int) : Int).toNat ≤ 7036874417766
 case neg =>
  rw [if_neg c3] at H;exact absurd H (by simp)
 rw [if_pos c3] at H;have c3b0:=eq_true c3;have c3b1 : decide (((l0_1.length : Int) : Int).toNat ≤ 7036874417766) = true:=decide_eq_true c3;clear c3;obtain ⟨y231,hy231⟩ : ∃ y_ : List (S80),y_ = (([] : List (S80))):=⟨_,rfl⟩
 replace H : (impl_Net_back.l0 k l0_1 (l0_1.length : Int) 0 a0_0 y231) = some (r1,r2):=by first | (rw [hy231]; with_reducible exact H) | (have H2_:=(Option.bind_some _ _).symm.trans H; rw [hy231]; with_reducible exact H2_) | (have H2_:=(Option.bind_some _ _).symm.trans H; with_reducible exact H2_) | with_reducible exact H | (rw [hy231]; exact H) | exact H
 have Ny231:=zx hy231;clear hy231;have H':=zx H;clear H
 go_enter Try.func39,Try.ntmps39
 try go_wp2_with (first | ((with_reducible refine gate_dst (N:=1) rfl ?_); refine box_event ?hg (N:=1) ?hd (cs:=#[.int .i64 a0_0,.slice A0_1 l0_1.length c0_1]) (t:=25) ?hr ?_; (case hd => rfl); (case hg => rfl); (case hr => first | (go_simp; done) | (go_simp; rfl)); intro gb229 hg w4 hbox hb; have n0_:=zx (below_step (by repeat (first | (with_reducible first | exact HB.out | apply below_alloc | apply pw_below_drewN | apply below_drew1) | exact HB.out)) hb); have n1_:=zx (hbox); have n2_:=zx ((by rw [hg]; exact (below_size (by repeat (first | (with_reducible first | exact HB.out | apply below_alloc | apply pw_below_drewN | apply below_drew1) | exact HB.out))) : w.heap.size ≤ gb229)); have n3_:=zx ((by rw [hg]; exact (below_size (by repeat (first | (with_reducible first | exact HB.out | apply below_alloc | apply pw_below_drewN | apply below_drew1) | exact HB.out))) : w.heap.size ≤ gb229)); clear HB; have HB:=n0_; have BK229:=n1_; have GW229:=n2_; have GE229:=n3_; clear n0_ n1_ n2_ n3_; clear hb hbox hg) | ((with_reducible refine gate_dst (N:=2) rfl ?_); refine box_event ?hg (N:=2) ?hd (cs:=#[.int .i64 0,.slice none 0 0]) (t:=25) ?hr ?_; (case hd => rfl); (case hg => rfl); (case hr => first | (go_simp; done) | (go_simp; rfl)); intro gb230 hg w5 hbox hb; have n0_:=zx (blk_below (g:=gb229) (o:=.cells #[.int .i64 a0_0,.slice A0_1 l0_1.length c0_1] 25 (0,0)) (by (with_reducible repeat (first | refine blk_drewN ?_ _ | refine blk_drew ?_ | refine blk_alloc ?_ _)); exact BK229.out) hb); have n1_:=zx (below_step (by repeat (first | (with_reducible first | exact HB.out | apply below_alloc | apply pw_below_drewN | apply below_drew1 | refine below_set ?_ GE229.out) | exact HB.out)) hb); have n2_:=zx (hbox); have n3_:=zx ((by rw [hg]; exact (below_size (by repeat (first | (with_reducible first | exact HB.out | apply below_alloc | apply pw_below_drewN | apply below_drew1 | refine below_set ?_ GE229.out) | exact HB.out))) : w.heap.size ≤ gb230)); have n4_:=zx ((by rw [hg]; exact (below_size (by repeat (first | (with_reducible first | exact HB.out | apply below_alloc | apply pw_below_drewN | apply below_drew1 | refine below_set ?_ GE229.out) | exact HB.out))) : w.heap.size ≤ gb230)); have n5_:=zx ((by rw [hg]; exact Nat.ne_of_lt (blk_lt (g:=gb229) (o:=.cells #[.int .i64 a0_0,.slice A0_1 l0_1.length c0_1] 25 (0,0)) (by (with_reducible repeat (first | refine blk_drewN ?_ _ | refine blk_drew ?_ | refine blk_alloc ?_ _)); exact BK229.out)) : gb229 ≠ gb230)); have n6_:=zx ((by rw [hg]; exact Nat.ne_of_gt (blk_lt (g:=gb229) (o:=.cells #[.int .i64 a0_0,.slice A0_1 l0_1.length c0_1] 25 (0,0)) (by (with_reducible repeat (first | refine blk_drewN ?_ _ | refine blk_drew ?_ | refine blk_alloc ?_ _)); exact BK229.out)) : gb230 ≠ gb229)); clear BK229; clear HB; have BK229:=n0_; have HB:=n1_; have BK230:=n2_; have GW230:=n3_; have GE230:=n4_; have NB229_230:=n5_; have NB230_229:=n6_; clear n0_ n1_ n2_ n3_ n4_ n5_ n6_; clear hb hbox hg))
 have n0_:=zx (blk_drew BK229.out);have n1_:=zx (blk_drew BK230.out);have n2_:=zx (below_drew1 HB.out);clear BK229;clear BK230;clear HB;have BK229:=n0_;have BK230:=n1_;have HB:=n2_;clear n0_ n1_ n2_;refine start_ (n:=9) (S:=fun w' => True) (ds:=[]) #[false,false,false,false,false,false,false,false,false] (by kernel_rfl) rfl rfl trivial (fun hHeld => ?_); refine with_tabW impl_Net_back.tab1 impl_Net_back.bits1 (fun HT_ HW_ => ?_);generalize w5.drew = w6 at BK229 BK230 HB hHeld ⊢;refine pure_ (i:=0) (N:=some 6) (v:=?_) (a':=?_) #[true,false,false,false,false,false,false,false,false] rfl rfl (any_of HT_.out (by kernel_rfl)) (fun _ _ _ h => h) (Or.inl ⟨by rfl,?_⟩) ?_ ?_;rotate_left
 ·intro w';go_simp;with_reducible rfl
 rotate_left
 ·simp only [Act.put,U,V,Z,i64_w,i32_w];rfl
 refine pure_ (i:=2) (N:=some 8) (v:=?_) (a':=?_) #[true,false,true,false,false,false,false,false,false] rfl rfl (any_of HT_.out (by kernel_rfl)) (fun _ _ _ h => h) (Or.inl ⟨by rfl,?_⟩) ?_ ?_;rotate_left
 ·intro w';go_simp;with_reducible rfl
 rotate_left
 ·simp only [Act.put,U,V,Z,i64_w,i32_w];rfl
 refine inv_at [1,3,4,5,6,7,8] (fun a0_ b a w' => ∃ (v232 : Value) (gb234 : Nat) (m6_ : Value) (m7_ : Value),a = putSel a0_ b [(1,7,.int .i64 a0_0),(3,9,.slice A0_1 l0_1.length c0_1),(4,10,.int .i64 (l0_1.length : Int)),(5,11,v232),(6,12,m6_),(7,3,m7_)] ∧ (w'.heap[gb229]? = some (.cells #[.int .i64 a0_0,.slice A0_1 l0_1.length c0_1] 25 (0,0))) ∧ (w'.heap[gb230]? = some (.cells #[.int .i64 0,.slice none 0 0] 25 (0,0))) ∧ (Below w.heap.size w w') ∧ (b 5 = true → Kd.R k80 80 w' w.heap.size (fun _ => True) v232 y231) ∧ (b 7 = true → b 8 = false → w'.heap[gb234]? = some (.cells #[.int .i64 0,.slice none 0 0] 25 (0,0))) ∧ (b 7 = true → w.heap.size ≤ gb234) ∧ (b 7 = true → w.heap.size ≤ gb234) ∧ (b 7 = true → gb229 ≠ gb234) ∧ (b 7 = true → gb234 ≠ gb229) ∧ (b 7 = true → gb230 ≠ gb234) ∧ (b 7 = true → gb234 ≠ gb230) ∧ (b 8 = true → w'.heap[gb234]? = some (.cells #[.int .i64 a0_0,v232] 25 (0,0))) ∧ (b 6 = true → (m6_ : Value) = .agg #[.int .i64 a0_0,v232]) ∧ (b 7 = true → (m7_ : Value) = .pointer (some ⟨gb234,0,none⟩))) HT_.out HW_.out (by kernel_rfl) (by kernel_rfl) ?_ ?_ ?_
 ·exact ⟨.bool false,0,.bool false,.bool false,by simp only [putSel,Bool.false_eq_true,if_false],BK229.out,BK230.out,HB.out,fun h_ => absurd h_ (by decide),fun h_ => absurd h_ (by decide),fun h_ => absurd h_ (by decide),fun h_ => absurd h_ (by decide),fun h_ => absurd h_ (by decide),fun h_ => absurd h_ (by decide),fun h_ => absurd h_ (by decide),fun h_ => absurd h_ (by decide),fun h_ => absurd h_ (by decide),fun h_ => absurd h_ (by decide),fun h_ => absurd h_ (by decide)⟩
 ·skip
  clear BK229 BK230 HB;refine steps_cons ?_ ?_
  ·rintro b a w' ⟨v232,gb234,m6_,m7_,ha,Q_BK229,Q_BK230,Q_HB,Q_HO233,Q_BK234,Q_GW234,Q_GE234,Q_NB229_234,Q_NB234_229,Q_NB230_234,Q_NB234_230,Q_BK234_e8,Q_X6_,Q_X7_⟩ hb_ hon hoff;refine ⟨_,rfl,fun K hK => ?_⟩;have e6 : a.tmps[6]? = some (.pointer (some ⟨gb229,0,none⟩)):=by rw [ha]; exact (putSel_off rfl).trans rfl
   replace ha:=zx ha;have BK229:=zx Q_BK229;have BK230:=zx Q_BK230;have HB:=zx Q_HB;have hc0_ : w'.cell? ⟨gb229,0,none⟩ = some (.int .i64 a0_0):=(blk_cell BK229.out 0).trans rfl;have hc1_ : w'.cell? ⟨gb229,1,none⟩ = some (.slice A0_1 l0_1.length c0_1):=(blk_cell BK229.out 1).trans rfl;refine value_ (w1:=w') (v:=.int .i64 a0_0) (by rfl) rfl ?_ ?_
   ·go_simp
    (try simp only [i64_w])
    try rfl
   refine hK.out _ _ ⟨v232,gb234,m6_,m7_,(by rw [ha.out]; exact putSel_upk 0 hb_ rfl rfl rfl),Q_BK229,Q_BK230,Q_HB,Q_HO233,Q_BK234,Q_GW234,Q_GE234,Q_NB229_234,Q_NB234_229,Q_NB230_234,Q_NB234_230,fun h0_ => absurd ((hoff 8 (by kernel_rfl)).symm.trans h0_) (by decide),fun h0_ => absurd ((hoff 6 (by kernel_rfl)).symm.trans h0_) (by decide),Q_X7_⟩
  refine steps_cons ?_ ?_
  ·rintro b a w' ⟨v232,gb234,m6_,m7_,ha,Q_BK229,Q_BK230,Q_HB,Q_HO233,Q_BK234,Q_GW234,Q_GE234,Q_NB229_234,Q_NB234_229,Q_NB230_234,Q_NB234_230,Q_BK234_e8,Q_X6_,Q_X7_⟩ hb_ hon hoff;refine ⟨_,rfl,fun K hK => ?_⟩;have e8 : a.tmps[8]? = some (.pointer (some ⟨gb229,1,none⟩)):=by rw [ha]; exact (putSel_off rfl).trans rfl
   replace ha:=zx ha;have BK229:=zx Q_BK229;have BK230:=zx Q_BK230;have HB:=zx Q_HB;have hc0_ : w'.cell? ⟨gb229,0,none⟩ = some (.int .i64 a0_0):=(blk_cell BK229.out 0).trans rfl;have hc1_ : w'.cell? ⟨gb229,1,none⟩ = some (.slice A0_1 l0_1.length c0_1):=(blk_cell BK229.out 1).trans rfl;refine value_ (w1:=w') (v:=.slice A0_1 l0_1.length c0_1) (by rfl) rfl ?_ ?_
   ·go_simp
    (try simp only [i64_w])
    try rfl
   refine hK.out _ _ ⟨v232,gb234,m6_,m7_,(by rw [ha.out]; exact putSel_upk 1 hb_ rfl rfl rfl),Q_BK229,Q_BK230,Q_HB,fun h0_ => absurd ((hoff 5 (by kernel_rfl)).symm.trans h0_) (by decide),Q_BK234,Q_GW234,Q_GE234,Q_NB229_234,Q_NB234_229,Q_NB230_234,Q_NB234_230,fun h0_ => absurd ((hoff 8 (by kernel_rfl)).symm.trans h0_) (by decide),fun h0_ => absurd ((hoff 6 (by kernel_rfl)).symm.trans h0_) (by decide),Q_X7_⟩
  refine steps_cons ?_ ?_
  ·rintro b a w' ⟨v232,gb234,m6_,m7_,ha,Q_BK229,Q_BK230,Q_HB,Q_HO233,Q_BK234,Q_GW234,Q_GE234,Q_NB229_234,Q_NB234_229,Q_NB230_234,Q_NB234_230,Q_BK234_e8,Q_X6_,Q_X7_⟩ hb_ hon hoff;refine ⟨_,rfl,fun K hK => ?_⟩;have e9 : a.tmps[9]? = some (.slice A0_1 l0_1.length c0_1):=by rw [ha]; exact putSel_on (e:=(3,9,.slice A0_1 l0_1.length c0_1)) 1 rfl rfl (hon 3 (by kernel_rfl)) rfl
   replace ha:=zx ha;have BK229:=zx Q_BK229;have BK230:=zx Q_BK230;have HB:=zx Q_HB;refine value_ (w1:=w') (v:=.int .i64 (l0_1.length : Int)) (by rfl) rfl ?_ ?_
   ·go_simp
    (try simp only [i64_w])
    try rfl
   refine hK.out _ _ ⟨v232,gb234,m6_,m7_,(by rw [ha.out]; exact putSel_upk 2 hb_ rfl rfl rfl),Q_BK229,Q_BK230,Q_HB,fun h0_ => absurd ((hoff 5 (by kernel_rfl)).symm.trans h0_) (by decide),Q_BK234,Q_GW234,Q_GE234,Q_NB229_234,Q_NB234_229,Q_NB230_234,Q_NB234_230,fun h0_ => absurd ((hoff 8 (by kernel_rfl)).symm.trans h0_) (by decide),fun h0_ => absurd ((hoff 6 (by kernel_rfl)).symm.trans h0_) (by decide),Q_X7_⟩
  refine steps_cons ?_ ?_
  ·rintro b a w' ⟨v232,gb234,m6_,m7_,ha,Q_BK229,Q_BK230,Q_HB,Q_HO233,Q_BK234,Q_GW234,Q_GE234,Q_NB229_234,Q_NB234_229,Q_NB230_234,Q_NB234_230,Q_BK234_e8,Q_X6_,Q_X7_⟩ hb_ hon hoff;refine ⟨_,rfl,fun K hK => ?_⟩;have e10 : a.tmps[10]? = some (.int .i64 (l0_1.length : Int)):=by rw [ha]; exact putSel_on (e:=(4,10,.int .i64 (l0_1.length : Int))) 2 rfl rfl (hon 4 (by kernel_rfl)) rfl
   replace ha:=zx ha;have BK229:=zx Q_BK229;have BK230:=zx Q_BK230;have HB:=zx Q_HB;refine Kd.R_make0_step k80 _ 80 (by rfl) (N:=11) rfl 23 _ _ rfl (l0_1.length : Int) (by first | rfl | (go_simp; done) | (go_simp; rfl)) (by first | rfl | (go_simp; done) | (go_simp; rfl)) Try.underlying23 (.agg #[(.int .i64 0),(.int .i64 0),(.int .i64 0),(.int .i64 0),(.int .i64 0)]) 40 info80 rfl (by decide) (by omega) z80 (ok:=fun _ => True) (okp:=fun _ => True) (k80_mkM _ _ _ z80 ) (fun _ hk => hk) trivial (of_decide_eq_true (by first | (with_reducible assumption) | assumption)) (Nat.le_trans (Nat.mul_le_mul_right _ (of_decide_eq_true (by first | (with_reducible assumption) | assumption) : (l0_1.length : Int).toNat ≤ 7036874417766)) (by omega)) (Below.refl _ _) (Nat.le_refl _) ?_;intro v232 w7 ho8 hb hg_ hnew_;clear hg_ hnew_
   (first | rw [← Ny231.out] at ho8 | (simp only [Int.reduceToNat] at ho8; rw [← Ny231.out] at ho8))
   have n0_:=zx (Kd.R_lower ho8 (below_size (by repeat (first | (with_reducible first | exact HB.out | apply below_alloc | apply pw_below_drewN | apply below_drew1 | refine below_set ?_ GE229.out | refine below_set ?_ GE230.out) | exact HB.out))));have n1_:=zx (blk_below (g:=gb229) (o:=.cells #[.int .i64 a0_0,.slice A0_1 l0_1.length c0_1] 25 (0,0)) (by (with_reducible repeat (first | refine blk_drewN ?_ _ | refine blk_drew ?_ | refine blk_alloc ?_ _)); exact BK229.out) hb);have n2_:=zx (blk_below (g:=gb230) (o:=.cells #[.int .i64 0,.slice none 0 0] 25 (0,0)) (by (with_reducible repeat (first | refine blk_drewN ?_ _ | refine blk_drew ?_ | refine blk_alloc ?_ _)); exact BK230.out) hb);have n3_:=zx (below_step (by repeat (first | (with_reducible first | exact HB.out | apply below_alloc | apply pw_below_drewN | apply below_drew1 | refine below_set ?_ GE229.out | refine below_set ?_ GE230.out) | exact HB.out)) hb);have z_BK234:=fun (h0_ : b 7 = true) (h1_ : b 8 = false) => (show w7.heap[gb234]? = some (.cells #[.int .i64 0,.slice none 0 0] 25 (0,0)) from by first | exact (blk_below (g:=gb234) (o:=.cells #[.int .i64 0,.slice none 0 0] 25 (0,0)) (by (with_reducible repeat (first | refine blk_drewN ?_ _ | refine blk_drew ?_ | refine blk_alloc ?_ _)); exact (Q_BK234 h0_ h1_)) hb))
   clear BK229;clear BK230;clear HB;have HO233:=n0_;have BK229:=n1_;have BK230:=n2_;have HB:=n3_;clear n0_ n1_ n2_ n3_;clear hb ho8;obtain ⟨Ao9,co9,eo9⟩:=Kd.R_slice HO233.out
   (first | subst eo9 | (injection eo9 with f1_ f2_ f3_; have f4_:=f1_.symm; have f5_:=f3_.symm; clear f1_ f2_ f3_; subst f4_; subst f5_))
   refine hK.out _ _ ⟨.slice Ao9 y231.length co9,gb234,m6_,m7_,(by rw [ha.out]; exact putSel_upk 3 hb_ rfl rfl rfl),(by (with_reducible repeat (first | refine blk_drewN ?_ _ | refine blk_drew ?_ | refine blk_alloc ?_ _)); exact BK229.out),(by (with_reducible repeat (first | refine blk_drewN ?_ _ | refine blk_drew ?_ | refine blk_alloc ?_ _)); exact BK230.out),(by repeat (first | (with_reducible first | exact HB.out | apply below_alloc | apply pw_below_drewN | apply below_drew1 | refine below_set ?_ GE229.out | refine below_set ?_ GE230.out) | exact HB.out)),fun _ => (by (with_reducible repeat (first | apply Kd.R_alloc | apply Kd.R_drewN | apply Kd.R_drew)); exact HO233.out),z_BK234,Q_GW234,Q_GE234,Q_NB229_234,Q_NB234_229,Q_NB230_234,Q_NB234_230,fun h0_ => absurd ((hoff 8 (by kernel_rfl)).symm.trans h0_) (by decide),fun h0_ => absurd ((hoff 6 (by kernel_rfl)).symm.trans h0_) (by decide),Q_X7_⟩
  refine steps_cons ?_ ?_
  ·rintro b a w' ⟨v232,gb234,m6_,m7_,ha,Q_BK229,Q_BK230,Q_HB,Q_HO233,Q_BK234,Q_GW234,Q_GE234,Q_NB229_234,Q_NB234_229,Q_NB230_234,Q_NB234_230,Q_BK234_e8,Q_X6_,Q_X7_⟩ hb_ hon hoff;refine ⟨_,rfl,fun K hK => ?_⟩;have e7 : a.tmps[7]? = some (.int .i64 a0_0):=by rw [ha]; exact putSel_on (e:=(1,7,.int .i64 a0_0)) 0 rfl rfl (hon 1 (by kernel_rfl)) rfl
   have e11 : a.tmps[11]? = some (v232):=by rw [ha]; exact putSel_on (e:=(5,11,v232)) 3 rfl rfl (hon 5 (by kernel_rfl)) rfl
   replace ha:=zx ha;have BK229:=zx Q_BK229;have BK230:=zx Q_BK230;have HB:=zx Q_HB;have HO233:=zx (Q_HO233 (hon 5 (by kernel_rfl)));obtain ⟨Ao6_0,co6_0,eo_⟩:=Kd.R_slice HO233.out;subst eo_;refine value_ (w1:=w') (v:=.agg #[.int .i64 a0_0,.slice Ao6_0 y231.length co6_0]) (by rfl) rfl ?_ ?_
   ·go_simp
    (try simp only [i64_w])
    try rfl
   refine hK.out _ _ ⟨.slice Ao6_0 y231.length co6_0,gb234,(.agg #[.int .i64 a0_0,.slice Ao6_0 y231.length co6_0]),m7_,(by rw [ha.out]; exact putSel_upk 4 hb_ rfl rfl rfl),Q_BK229,Q_BK230,Q_HB,Q_HO233,Q_BK234,Q_GW234,Q_GE234,Q_NB229_234,Q_NB234_229,Q_NB230_234,Q_NB234_230,fun h0_ => absurd ((hoff 8 (by kernel_rfl)).symm.trans h0_) (by decide),fun _ => rfl,Q_X7_⟩
  refine steps_cons ?_ ?_
  ·rintro b a w' ⟨v232,gb234,m6_,m7_,ha,Q_BK229,Q_BK230,Q_HB,Q_HO233,Q_BK234,Q_GW234,Q_GE234,Q_NB229_234,Q_NB234_229,Q_NB230_234,Q_NB234_230,Q_BK234_e8,Q_X6_,Q_X7_⟩ hb_ hon hoff;refine ⟨_,rfl,fun K hK => ?_⟩;replace ha:=zx ha;have BK229:=zx Q_BK229;have BK230:=zx Q_BK230;have HB:=zx Q_HB;refine box_step ?hg (N:=3) ?hd (cs:=#[.int .i64 0,.slice none 0 0]) (t:=25) ?hr ?_; (case hd => rfl); (case hg => rfl); (case hr => first | (go_simp; done) | (go_simp; rfl));intro gb234 hg w7 hbox hb;have n0_:=zx (blk_below (g:=gb229) (o:=.cells #[.int .i64 a0_0,.slice A0_1 l0_1.length c0_1] 25 (0,0)) (by (with_reducible repeat (first | refine blk_drewN ?_ _ | refine blk_drew ?_ | refine blk_alloc ?_ _)); exact BK229.out) hb);have n1_:=zx (blk_below (g:=gb230) (o:=.cells #[.int .i64 0,.slice none 0 0] 25 (0,0)) (by (with_reducible repeat (first | refine blk_drewN ?_ _ | refine blk_drew ?_ | refine blk_alloc ?_ _)); exact BK230.out) hb);have n2_:=zx (below_step (by repeat (first | (with_reducible first | exact HB.out | apply below_alloc | apply pw_below_drewN | apply below_drew1 | refine below_set ?_ GE229.out | refine below_set ?_ GE230.out) | exact HB.out)) hb);have n3_:=zx (hbox);have n4_:=zx ((by rw [hg]; exact (below_size (by repeat (first | (with_reducible first | exact HB.out | apply below_alloc | apply pw_below_drewN | apply below_drew1 | refine below_set ?_ GE229.out | refine below_set ?_ GE230.out) | exact HB.out))) : w.heap.size ≤ gb234));have n5_:=zx ((by rw [hg]; exact (below_size (by repeat (first | (with_reducible first | exact HB.out | apply below_alloc | apply pw_below_drewN | apply below_drew1 | refine below_set ?_ GE229.out | refine below_set ?_ GE230.out) | exact HB.out))) : w.heap.size ≤ gb234));have n6_:=zx ((by rw [hg]; exact Nat.ne_of_lt (blk_lt (g:=gb229) (o:=.cells #[.int .i64 a0_0,.slice A0_1 l0_1.length c0_1] 25 (0,0)) (by (with_reducible repeat (first | refine blk_drewN ?_ _ | refine blk_drew ?_ | refine blk_alloc ?_ _)); exact BK229.out)) : gb229 ≠ gb234));have n7_:=zx ((by rw [hg]; exact Nat.ne_of_gt (blk_lt (g:=gb229) (o:=.cells #[.int .i64 a0_0,.slice A0_1 l0_1.length c0_1] 25 (0,0)) (by (with_reducible repeat (first | refine blk_drewN ?_ _ | refine blk_drew ?_ | refine blk_alloc ?_ _)); exact BK229.out)) : gb234 ≠ gb229));have n8_:=zx ((by rw [hg]; exact Nat.ne_of_lt (blk_lt (g:=gb230) (o:=.cells #[.int .i64 0,.slice none 0 0] 25 (0,0)) (by (with_reducible repeat (first | refine blk_drewN ?_ _ | refine blk_drew ?_ | refine blk_alloc ?_ _)); exact BK230.out)) : gb230 ≠ gb234));have n9_:=zx ((by rw [hg]; exact Nat.ne_of_gt (blk_lt (g:=gb230) (o:=.cells #[.int .i64 0,.slice none 0 0] 25 (0,0)) (by (with_reducible repeat (first | refine blk_drewN ?_ _ | refine blk_drew ?_ | refine blk_alloc ?_ _)); exact BK230.out)) : gb234 ≠ gb230))
   have z_HO233:=fun (h0_ : b 5 = true) => (show Kd.R k80 80 w7 w.heap.size (fun _ => True) v232 y231 from by first | exact (Kd.R_below (by (with_reducible repeat (first | apply Kd.R_alloc | apply Kd.R_drewN | apply Kd.R_drew)); exact (Q_HO233 h0_)) hb) | exact Kd.R_mono (Kd.R_below (by (with_reducible repeat (first | apply Kd.R_alloc | apply Kd.R_drewN | apply Kd.R_drew)); exact (Q_HO233 h0_)) hb) (fun _ h_ => by first | trivial | exact h_ | exact h_.1))
   clear BK229;clear BK230;clear HB;have BK229:=n0_;have BK230:=n1_;have HB:=n2_;have BK234:=n3_;have GW234:=n4_;have GE234:=n5_;have NB229_234:=n6_;have NB234_229:=n7_;have NB230_234:=n8_;have NB234_230:=n9_;clear n0_ n1_ n2_ n3_ n4_ n5_ n6_ n7_ n8_ n9_;clear hb hbox hg;refine hK.out _ _ ⟨v232,gb234,m6_,(.pointer (some ⟨gb234,0,none⟩)),(by rw [ha.out]; exact putSel_upk 5 hb_ rfl rfl rfl),(by (with_reducible repeat (first | refine blk_drewN ?_ _ | refine blk_drew ?_ | refine blk_alloc ?_ _)); exact BK229.out),(by (with_reducible repeat (first | refine blk_drewN ?_ _ | refine blk_drew ?_ | refine blk_alloc ?_ _)); exact BK230.out),(by repeat (first | (with_reducible first | exact HB.out | apply below_alloc | apply pw_below_drewN | apply below_drew1 | refine below_set ?_ GE229.out | refine below_set ?_ GE230.out | refine below_set ?_ GE234.out) | exact HB.out)),z_HO233,fun _ _ => (by (with_reducible repeat (first | refine blk_drewN ?_ _ | refine blk_drew ?_ | refine blk_alloc ?_ _)); exact BK234.out),fun _ => GW234.out,fun _ => GE234.out,fun _ => NB229_234.out,fun _ => NB234_229.out,fun _ => NB230_234.out,fun _ => NB234_230.out,fun h0_ => absurd ((hoff 8 (by kernel_rfl)).symm.trans h0_) (by decide),Q_X6_,fun _ => rfl⟩
  refine steps_cons ?_ ?_
  ·rintro b a w' ⟨v232,gb234,m6_,m7_,ha,Q_BK229,Q_BK230,Q_HB,Q_HO233,Q_BK234,Q_GW234,Q_GE234,Q_NB229_234,Q_NB234_229,Q_NB230_234,Q_NB234_230,Q_BK234_e8,Q_X6_,Q_X7_⟩ hb_ hon hoff;refine ⟨_,rfl,fun K hK => ?_⟩;have e3 : a.tmps[3]? = some (m7_):=by rw [ha]; exact putSel_on (e:=(7,3,m7_)) 5 rfl rfl (hon 7 (by kernel_rfl)) rfl
   rw [Q_X7_ (hon 7 (by kernel_rfl))] at e3;have e12 : a.tmps[12]? = some (m6_):=by rw [ha]; exact putSel_on (e:=(6,12,m6_)) 4 rfl rfl (hon 6 (by kernel_rfl)) rfl
   rw [Q_X6_ (hon 6 (by kernel_rfl))] at e12;replace ha:=zx ha;have BK229:=zx Q_BK229;have BK230:=zx Q_BK230;have HB:=zx Q_HB;have HO233:=zx (Q_HO233 (hon 5 (by kernel_rfl)));have BK234:=zx (Q_BK234 (hon 7 (by kernel_rfl)) hb_);have GW234:=zx (Q_GW234 (hon 7 (by kernel_rfl)));have GE234:=zx (Q_GE234 (hon 7 (by kernel_rfl)));have NB229_234:=zx (Q_NB229_234 (hon 7 (by kernel_rfl)));have NB234_229:=zx (Q_NB234_229 (hon 7 (by kernel_rfl)));have NB230_234:=zx (Q_NB230_234 (hon 7 (by kernel_rfl)));have NB234_230:=zx (Q_NB234_230 (hon 7 (by kernel_rfl)));obtain ⟨Ao12,co12,eo12⟩:=Kd.R_slice HO233.out
   (first | subst eo12 | (injection eo12 with f1_ f2_ f3_; have f4_:=f1_.symm; have f5_:=f3_.symm; clear f1_ f2_ f3_; subst f4_; subst f5_))
   have hs13 : w'.cell? ⟨gb234,0,none⟩ = some (.int .i64 0):=(blk_cell BK234.out 0).trans rfl;have hfs13:=blk_frozen BK234.out 0;have hns13_0:=NB229_234.out;have hns13_1:=NB230_234.out;have hms13_0:=NB234_229.out;have hms13_1:=NB234_230.out;have hs14 : w'.cell? ⟨gb234,1,none⟩ = some (.slice none 0 0):=(blk_cell BK234.out 1).trans rfl;have hfs14:=blk_frozen BK234.out 1;have hns14_0:=NB229_234.out;have hns14_1:=NB230_234.out;have hms14_0:=NB234_229.out;have hms14_1:=NB234_230.out;refine skip_ (w1:=?_) (by rfl) rfl ?_ ?_;rotate_left
   ·go_simp;rfl
   refine hK.out _ _ ⟨.slice Ao12 y231.length co12,gb234,m6_,m7_,(by rw [ha.out]; exact putSel_none (v:=undef) rfl),(by (with_reducible repeat (first | refine blk_drewN ?_ _ | refine blk_drew ?_ | refine blk_alloc ?_ _)); refine blk_far ?_ NB229_234.out _; (with_reducible repeat (first | refine blk_drewN ?_ _ | refine blk_drew ?_ | refine blk_alloc ?_ _)); refine blk_far ?_ NB229_234.out _; (with_reducible repeat (first | refine blk_drewN ?_ _ | refine blk_drew ?_ | refine blk_alloc ?_ _)); exact BK229.out),(by (with_reducible repeat (first | refine blk_drewN ?_ _ | refine blk_drew ?_ | refine blk_alloc ?_ _)); refine blk_far ?_ NB230_234.out _; (with_reducible repeat (first | refine blk_drewN ?_ _ | refine blk_drew ?_ | refine blk_alloc ?_ _)); refine blk_far ?_ NB230_234.out _; (with_reducible repeat (first | refine blk_drewN ?_ _ | refine blk_drew ?_ | refine blk_alloc ?_ _)); exact BK230.out),(by repeat (first | (with_reducible first | exact HB.out | apply below_alloc | apply pw_below_drewN | apply below_drew1 | refine below_set ?_ GE229.out | refine below_set ?_ GE230.out | refine below_set ?_ GE234.out) | exact HB.out)),fun _ => (by (with_reducible repeat (first | apply Kd.R_alloc | apply Kd.R_drewN | apply Kd.R_drew)); exact Kd.R_mono (Kd.R_far (p:=⟨gb234,1,none⟩) (Kd.R_far (p:=⟨gb234,0,none⟩) (Kd.R_types HO233.out BK234.out (by decide)) (fun _ hk => hk.2) (.int .i64 a0_0)) (fun _ hk => hk.2) (.slice Ao12 y231.length co12)) (fun _ hk => trivial)),fun _ h1_ => absurd ((up_self b 8).symm.trans h1_) (by decide),fun _ => GW234.out,fun _ => GE234.out,fun _ => NB229_234.out,fun _ => NB234_229.out,fun _ => NB230_234.out,fun _ => NB234_230.out,fun _ => (by (with_reducible repeat (first | refine blk_drewN ?_ _ | refine blk_drew ?_ | refine blk_alloc ?_ _)); refine blk_put (cs:=#[.int .i64 a0_0,.slice none 0 0]) ?_ 1 _ rfl; (with_reducible repeat (first | refine blk_drewN ?_ _ | refine blk_drew ?_ | refine blk_alloc ?_ _)); refine blk_put (cs:=#[.int .i64 0,.slice none 0 0]) ?_ 0 _ rfl; (with_reducible repeat (first | refine blk_drewN ?_ _ | refine blk_drew ?_ | refine blk_alloc ?_ _)); exact BK234.out),Q_X6_,Q_X7_⟩
  exact steps_nil
 rintro b a w13 hall ⟨v232,gb234,m6_,m7_,ha,Q_BK229,Q_BK230,Q_HB,Q_HO233,Q_BK234,Q_GW234,Q_GE234,Q_NB229_234,Q_NB234_229,Q_NB230_234,Q_NB234_230,Q_BK234_e8,Q_X6_,Q_X7_⟩;clear BK229 BK230 HB;have hb1_:=hall 1 (by kernel_rfl);have hb3_:=hall 3 (by kernel_rfl);have hb4_:=hall 4 (by kernel_rfl);have hb5_:=hall 5 (by kernel_rfl);have hb6_:=hall 6 (by kernel_rfl);have hb7_:=hall 7 (by kernel_rfl);have hb8_:=hall 8 (by kernel_rfl);subst ha;obtain rfl:=Q_X6_ hb6_;obtain rfl:=Q_X7_ hb7_;simp only [putSel,hb1_,hb3_,hb4_,hb5_,hb6_,hb7_,hb8_,if_true,Act.put,U,V,Z];have BK229:=zx Q_BK229;clear Q_BK229;have BK230:=zx Q_BK230;clear Q_BK230;have HB:=zx Q_HB;clear Q_HB;have HO233:=zx (Q_HO233 hb5_);clear Q_HO233;clear Q_BK234;have GW234:=zx (Q_GW234 hb7_);clear Q_GW234;have GE234:=zx (Q_GE234 hb7_);clear Q_GE234;have NB229_234:=zx (Q_NB229_234 hb7_);clear Q_NB229_234;have NB234_229:=zx (Q_NB234_229 hb7_);clear Q_NB234_229;have NB230_234:=zx (Q_NB230_234 hb7_);clear Q_NB230_234;have NB234_230:=zx (Q_NB234_230 hb7_);clear Q_NB234_230;have BK234:=zx (Q_BK234_e8 hb8_);clear Q_BK234_e8;clear hall hb1_ hb3_ hb4_ hb5_ hb6_ hb7_ hb8_;obtain ⟨Ao14,co14,eo14⟩:=Kd.R_slice HO233.out
 (first | subst eo14 | (injection eo14 with f1_ f2_ f3_; have f4_:=f1_.symm; have f5_:=f3_.symm; clear f1_ f2_ f3_; subst f4_; subst f5_))
 have hnb15:=NB229_230.out;have hnc15:=NB230_229.out;have hnb16:=NB229_234.out;have hnc16:=NB234_229.out;have hcz17_0 : w13.cell? ⟨gb229,0,none⟩ = some (.int .i64 a0_0):=(blk_cell BK229.out 0).trans rfl;have hcz17_1 : w13.cell? ⟨gb229,1,none⟩ = some (.slice A0_1 l0_1.length c0_1):=(blk_cell BK229.out 1).trans rfl;have hfz17_0:=blk_frozen BK229.out 0;have hfz17_1:=blk_frozen BK229.out 1
 try go_wp2
 go_loopg [16] k (fun kq v16 w' => ∃ (x16_1 : Int) (x235001_1 : List (S80)) (u235001 : Value),v16 = .int .i64 x16_1 ∧ Aside0 (impl_Net_back.l0 kq l0_1 (l0_1.length : Int) x16_1 a0_0 x235001_1 = some (r1,r2)) ∧ Aside0 (kq ≤ k) ∧ Aside0 (Kd.R k80 80 w' w.heap.size (fun _ => True) u235001 x235001_1) ∧ Aside0 (w'.heap[gb229]? = some (.cells #[.int .i64 a0_0,(.slice A0_1 l0_1.length c0_1)] 25 (0,0))) ∧ Aside0 (w'.heap[gb230]? = some (.cells #[.int .i64 0,(.slice none 0 0)] 25 (0,0))) ∧ Aside0 (w'.heap[gb234]? = some (.cells #[.int .i64 a0_0,u235001] 25 (0,0))) ∧ Aside0 (Below w.heap.size w w'))
 case atStart => exact ⟨(0),(y231),(.slice Ao14 y231.length co14),(by first | rfl | (simp; done) | (simp [*]; done)),H',⟨Nat.le_refl _⟩,⟨by (with_reducible repeat (first | apply Kd.R_alloc | apply Kd.R_drewN | apply Kd.R_drew)); exact HO233.out⟩,⟨by (with_reducible repeat (first | refine blk_drewN ?_ _ | refine blk_drew ?_ | refine blk_alloc ?_ _)); exact BK229.out⟩,⟨by (with_reducible repeat (first | refine blk_drewN ?_ _ | refine blk_drew ?_ | refine blk_alloc ?_ _)); exact BK230.out⟩,⟨by (with_reducible repeat (first | refine blk_drewN ?_ _ | refine blk_drew ?_ | refine blk_alloc ?_ _)); exact BK234.out⟩,⟨by repeat (first | (with_reducible first | exact HB.out | apply below_alloc | apply pw_below_drewN | apply below_drew1 | refine below_set ?_ GE229.out | refine below_set ?_ GE230.out | refine below_set ?_ GE234.out) | exact HB.out)⟩⟩
 case round =>
  clear H'
  try clear c1
  try clear c2
  try clear c2b0
  try clear c2b1
  try clear p2
  try clear c3
  try clear c3b0
  try clear c3b1
  try clear c15
  try clear c16
  try clear hcz17_0
  try clear hcz17_1
  try clear hfz17_0
  try clear hfz17_1
  obtain ⟨x16_1,x235001_1,u235001,rfl,HA,HK1,HO_235001,BK229,BK230,BK234,HB⟩:=hrel;cases gk with
  | zero => exact absurd HA.out (by simp [impl_Net_back.l0])
  | succ k1 =>
   have H:=HA.out;clear HA;simp only [impl_Net_back.l0] at H
   by_cases c18 : x16_1 < (l0_1.length : Int)
   case neg =>
    rw [if_neg c18] at H;have c18b0 : decide (x16_1 < (l0_1.length : Int)) = false:=decide_eq_false c18;clear c18;simp only [Option.some.injEq,Prod.mk.injEq] at H;obtain ⟨rfl,rfl⟩:=H;have hnb33:=NB234_229.out;have hnc33:=NB229_234.out;have hnb34:=NB234_230.out;have hnc34:=NB230_234.out;have hcz35_0 : wr.cell? ⟨gb234,0,none⟩ = some (.int .i64 a0_0):=(blk_cell BK234.out 0).trans rfl;have hcz35_1 : wr.cell? ⟨gb234,1,none⟩ = some (u235001):=(blk_cell BK234.out 1).trans rfl;have hfz35_0:=blk_frozen BK234.out 0;have hfz35_1:=blk_frozen BK234.out 1;have hnb36:=NB230_229.out;have hnc36:=NB229_230.out;have hcz37_0 : wr.cell? ⟨gb230,0,none⟩ = some (.int .i64 0):=(blk_cell BK230.out 0).trans rfl;have hcz37_1 : wr.cell? ⟨gb230,1,none⟩ = some (.slice none 0 0):=(blk_cell BK230.out 1).trans rfl;have hfz37_0:=blk_frozen BK230.out 0;have hfz37_1:=blk_frozen BK230.out 1;obtain ⟨Ao38,co38,eo38⟩:=Kd.R_slice HO_235001.out;subst eo38
    go_wp2
    refine bodyPost_ret (results_cell_row rfl _ _ gb230 25 #[.int .i64 a0_0,.slice Ao38 x235001_1.length co38] (0,0) _ rfl (by (with_reducible repeat (first | refine blk_drewN ?_ _ | refine blk_drew ?_ | refine blk_alloc ?_ _)); refine blk_put (cs:=#[.int .i64 a0_0,.slice none 0 0]) ?_ 1 _ rfl; (with_reducible repeat (first | refine blk_drewN ?_ _ | refine blk_drew ?_ | refine blk_alloc ?_ _)); refine blk_put (cs:=#[.int .i64 0,.slice none 0 0]) ?_ 0 _ rfl; (with_reducible repeat (first | refine blk_drewN ?_ _ | refine blk_drew ?_ | refine blk_alloc ?_ _)); exact BK230.out) Try.underlying25 rfl (by kernel_rfl)) rfl ?_;exact ⟨_,by first | rfl | (simp [errW_none,errW_some] <;> rfl) | (simp [*,errW_none,errW_some] <;> rfl),by (with_reducible repeat (first | apply Kd.R_alloc | apply Kd.R_drewN | apply Kd.R_drew)); exact Kd.R_mono (Kd.R_far (p:=⟨gb230,1,none⟩) (Kd.R_far (p:=⟨gb230,0,none⟩) (Kd.R_types HO_235001.out BK230.out (by decide)) (fun _ hk => hk.2) (.int .i64 a0_0)) (fun _ hk => hk.2) (.slice Ao38 x235001_1.length co38)) (fun _ hk => trivial),by repeat (first | (with_reducible first | exact HB.out | apply below_alloc | apply pw_below_drewN | apply below_drew1 | refine below_set ?_ GE229.out | refine below_set ?_ GE230.out | refine below_set ?_ GE234.out) | exact HB.out)⟩
   rw [if_pos c18] at H;have c18b0 : decide (x16_1 < (l0_1.length : Int)) = true:=decide_eq_true c18;clear c18
   by_cases c19 : 0 ≤ x16_1
   case neg =>
    rw [if_neg c19] at H;exact absurd H (by simp)
   rw [if_pos c19] at H;have c19b0 : decide (0 ≤ x16_1) = true:=decide_eq_true c19;clear c19
   by_cases c20 : x16_1 < (l0_1.length : Int)
   case neg =>
    rw [if_neg c20] at H;exact absurd H (by simp)
   rw [if_pos c20] at H;have c20b0 : decide (x16_1 < (l0_1.length : Int)) = true:=decide_eq_true c20;clear c20
   by_cases c21 : x235001_1.length < 3518437208883
   case neg =>
    rw [if_neg c21] at H;exact absurd H (by simp)
   rw [if_pos c21] at H;have LMc21:=zx c21;clear c21;obtain ⟨y237,hy237⟩ : ∃ y_ : List (S80),y_ = (x235001_1 ++ [(⟨(rd_T80 l0_1 x16_1).f1,(rd_T80 l0_1 x16_1).f0,(rd_T80 l0_1 x16_1).f2,(rd_T80 l0_1 x16_1).f3,(rd_T80 l0_1 x16_1).f4⟩ : S80)]):=⟨_,rfl⟩
   replace H : (impl_Net_back.l0 k1 l0_1 (l0_1.length : Int) (wrap64 (x16_1 + 1)) a0_0 y237) = some (r1,r2):=by first | (rw [hy237]; with_reducible exact H) | (have H2_:=(Option.bind_some _ _).symm.trans H; rw [hy237]; with_reducible exact H2_) | (have H2_:=(Option.bind_some _ _).symm.trans H; with_reducible exact H2_) | with_reducible exact H | (rw [hy237]; exact H) | exact H
   have Ny237:=zx hy237;clear hy237;have H':=zx H;clear H;have p235 : 0 ≤ (x16_1 : Int):=of_decide_eq_true (by first | (with_reducible assumption) | assumption);have q235 : x16_1 < (l0_1.length : Int):=of_decide_eq_true (by first | (with_reducible assumption) | assumption);obtain ⟨ad235,e235,hx235_0,hx235_1,hx235_2,hx235_3,hx235_4⟩:=at_T80 HR0_1.out x16_1 p235 q235;cases e235;replace hx235_0:=(HB.out.cell (World.block_lt_of_cell? w _ hx235_0)).trans hx235_0;replace hx235_1:=(HB.out.cell (World.block_lt_of_cell? w _ hx235_1)).trans hx235_1;replace hx235_2:=(HB.out.cell (World.block_lt_of_cell? w _ hx235_2)).trans hx235_2;replace hx235_3:=(HB.out.cell (World.block_lt_of_cell? w _ hx235_3)).trans hx235_3;replace hx235_4:=(HB.out.cell (World.block_lt_of_cell? w _ hx235_4)).trans hx235_4;replace p235:=eq_true p235;replace q235:=eq_true q235
   go_wp2_with (first | ((with_reducible refine gate_dst (N:=5) rfl ?_); refine box_event ?hg (N:=5) ?hd (cs:=#[.int .i64 0,.int .i64 0,.int .i64 0,.int .i64 0,.int .i64 0]) (t:=80) ?hr ?_; (case hd => rfl); (case hg => rfl); (case hr => first | (go_simp; done) | (go_simp; rfl)); intro gz hg w22 hbox hb; have n0_:=zx (Kd.R_below (Kd.R_elderB HO_235001.out gz (Nat.le_of_eq hg.symm)) hb); have n1_:=zx (blk_below BK229.out hb); have n2_:=zx (blk_below BK230.out hb); have n3_:=zx (blk_below BK234.out hb); have n4_:=zx (below_step HB.out hb); have n5_:=zx hbox; have n6_:=zx (show w.heap.size ≤ gz by rw [hg]; exact below_size HB.out); have n7_:=zx (show gb229 ≠ gz by rw [hg]; exact Nat.ne_of_lt (blk_lt BK229.out)); have n8_:=zx (show gb230 ≠ gz by rw [hg]; exact Nat.ne_of_lt (blk_lt BK230.out)); have n9_:=zx (show gb234 ≠ gz by rw [hg]; exact Nat.ne_of_lt (blk_lt BK234.out)); clear HO_235001 BK229 BK230 BK234 HB hb hbox hg) | ((with_reducible refine gate_store (t:=80) (p:=5) (v:=.tmp 19) rfl ?_); refine put_event rfl rfl rfl n5_.out 0 #[.int .i64 (rd_T80 l0_1 x16_1).f0,.int .i64 (rd_T80 l0_1 x16_1).f1,.int .i64 (rd_T80 l0_1 x16_1).f2,.int .i64 (rd_T80 l0_1 x16_1).f3,.int .i64 (rd_T80 l0_1 x16_1).f4] (.agg #[.int .i64 (rd_T80 l0_1 x16_1).f0,.int .i64 (rd_T80 l0_1 x16_1).f1,.int .i64 (rd_T80 l0_1 x16_1).f2,.int .i64 (rd_T80 l0_1 x16_1).f3,.int .i64 (rd_T80 l0_1 x16_1).f4]) [.int .i64 (rd_T80 l0_1 x16_1).f0,.int .i64 (rd_T80 l0_1 x16_1).f1,.int .i64 (rd_T80 l0_1 x16_1).f2,.int .i64 (rd_T80 l0_1 x16_1).f3,.int .i64 (rd_T80 l0_1 x16_1).f4] (by first | rfl | (go_simp; done) | (go_simp; rfl)) (by first | rfl | (go_simp; done) | (go_simp; rfl)) rfl (by kernel_rfl) (by simp) (by simp [Value.oneCell']) rfl ?_; intro w23 hc hg; have p0_:=zx (Kd.R_grown n0_.out hg (fun k hk e => hk.2 (Option.some.inj e))); have p1_:=zx (blk_grown n1_.out hg (by simpa using n7_.out)); have p2_:=zx (blk_grown n2_.out hg (by simpa using n8_.out)); have p3_:=zx (blk_grown n3_.out hg (by simpa using n9_.out)); have p4_:=zx (pw_below_grown n4_.out _ (below_size n4_.out) hg (fun k hk => by obtain rfl : gz = k:=Option.some.inj hk; exact n6_.out)); clear n0_ n1_ n2_ n3_ n4_ n5_; have n0_:=p0_; have n1_:=p1_; have n2_:=p2_; have n3_:=p3_; have n4_:=p4_; have n5_:=zx hc; clear p0_ p1_ p2_ p3_ p4_ hc hg; have hz0 : w23.cell? ⟨gz,0,none⟩ = some (.int .i64 (rd_T80 l0_1 x16_1).f0):=(blk_cell n5_.out 0).trans rfl; have hz1 : w23.cell? ⟨gz,1,none⟩ = some (.int .i64 (rd_T80 l0_1 x16_1).f1):=(blk_cell n5_.out 1).trans rfl) | ((with_reducible refine gate_store (t:=3) (p:=24) (v:=.tmp 21) rfl ?_); clear hz0 hz1; refine put_event rfl rfl rfl n5_.out 0 #[.int .i64 (rd_T80 l0_1 x16_1).f1,.int .i64 (rd_T80 l0_1 x16_1).f1,.int .i64 (rd_T80 l0_1 x16_1).f2,.int .i64 (rd_T80 l0_1 x16_1).f3,.int .i64 (rd_T80 l0_1 x16_1).f4] (.int .i64 (rd_T80 l0_1 x16_1).f1) [.int .i64 (rd_T80 l0_1 x16_1).f1] (by first | rfl | (go_simp; done) | (go_simp; rfl)) (by first | rfl | (go_simp; done) | (go_simp; rfl)) rfl (by kernel_rfl) (by simp) (by simp [Value.oneCell']) rfl ?_; intro w24 hc hg; have p0_:=zx (Kd.R_grown n0_.out hg (fun k hk e => hk.2 (Option.some.inj e))); have p1_:=zx (blk_grown n1_.out hg (by simpa using n7_.out)); have p2_:=zx (blk_grown n2_.out hg (by simpa using n8_.out)); have p3_:=zx (blk_grown n3_.out hg (by simpa using n9_.out)); have p4_:=zx (pw_below_grown n4_.out _ (below_size n4_.out) hg (fun k hk => by obtain rfl : gz = k:=Option.some.inj hk; exact n6_.out)); clear n0_ n1_ n2_ n3_ n4_ n5_; have n0_:=p0_; have n1_:=p1_; have n2_:=p2_; have n3_:=p3_; have n4_:=p4_; have n5_:=zx hc; clear p0_ p1_ p2_ p3_ p4_ hc hg) | ((with_reducible refine gate_store (t:=3) (p:=25) (v:=.tmp 23) rfl ?_); refine put_event rfl rfl rfl n5_.out 1 #[.int .i64 (rd_T80 l0_1 x16_1).f1,.int .i64 (rd_T80 l0_1 x16_1).f0,.int .i64 (rd_T80 l0_1 x16_1).f2,.int .i64 (rd_T80 l0_1 x16_1).f3,.int .i64 (rd_T80 l0_1 x16_1).f4] (.int .i64 (rd_T80 l0_1 x16_1).f0) [.int .i64 (rd_T80 l0_1 x16_1).f0] (by first | rfl | (go_simp; done) | (go_simp; rfl)) (by first | rfl | (go_simp; done) | (go_simp; rfl)) rfl (by kernel_rfl) (by simp) (by simp [Value.oneCell']) rfl ?_; intro w25 hc hg; have p0_:=zx (Kd.R_grown n0_.out hg (fun k hk e => hk.2 (Option.some.inj e))); have p1_:=zx (blk_grown n1_.out hg (by simpa using n7_.out)); have p2_:=zx (blk_grown n2_.out hg (by simpa using n8_.out)); have p3_:=zx (blk_grown n3_.out hg (by simpa using n9_.out)); have p4_:=zx (pw_below_grown n4_.out _ (below_size n4_.out) hg (fun k hk => by obtain rfl : gz = k:=Option.some.inj hk; exact n6_.out)); clear n0_ n1_ n2_ n3_ n4_ n5_; have n0_:=p0_; have n1_:=p1_; have n2_:=p2_; have n3_:=p3_; have n4_:=p4_; have n5_:=zx hc; clear p0_ p1_ p2_ p3_ p4_ hc hg; have hz0 : w25.cell? ⟨gz,0,none⟩ = some (.int .i64 (rd_T80 l0_1 x16_1).f1):=(blk_cell n5_.out 0).trans rfl; have hz1 : w25.cell? ⟨gz,1,none⟩ = some (.int .i64 (rd_T80 l0_1 x16_1).f0):=(blk_cell n5_.out 1).trans rfl; have hz2 : w25.cell? ⟨gz,2,none⟩ = some (.int .i64 (rd_T80 l0_1 x16_1).f2):=(blk_cell n5_.out 2).trans rfl; have hz3 : w25.cell? ⟨gz,3,none⟩ = some (.int .i64 (rd_T80 l0_1 x16_1).f3):=(blk_cell n5_.out 3).trans rfl; have hz4 : w25.cell? ⟨gz,4,none⟩ = some (.int .i64 (rd_T80 l0_1 x16_1).f4):=(blk_cell n5_.out 4).trans rfl; have hy1 : w25.cell? ⟨gb234,1,none⟩ = some u235001:=(blk_cell n3_.out 1).trans rfl) | ((with_reducible refine gate_builtin (b:=.append) (xs:=#[.tmp 27,.tmp 29]) rfl ?_); at_builtin; refine Kd.R_append k80 (w0:=w) w.heap.size rfl (.tmp 27) (.tmp 29) 23 80 (.agg #[(.int .i64 0),(.int .i64 0),(.int .i64 0),(.int .i64 0),(.int .i64 0)]) 40 rfl Try.underlying23 info80 rfl (by decide) (by omega) u235001 x235001_1 (⟨(rd_T80 l0_1 x16_1).f1,(rd_T80 l0_1 x16_1).f0,(rd_T80 l0_1 x16_1).f2,(rd_T80 l0_1 x16_1).f3,(rd_T80 l0_1 x16_1).f4⟩ : S80) [.int .i64 ((rd_T80 l0_1 x16_1).f1),.int .i64 ((rd_T80 l0_1 x16_1).f0),.int .i64 ((rd_T80 l0_1 x16_1).f2),.int .i64 ((rd_T80 l0_1 x16_1).f3),.int .i64 ((rd_T80 l0_1 x16_1).f4)] (fun _ => True) (fun _ => False) rfl (by first | (go_simp; done) | (go_simp; rfl)) ?aP (fun _ hk => hk.elim) (fun _ _ => trivial) ?aO ?aB ?aS ?aL ?_; (case aP => exact k80_mkM _ _ _ (⟨(rd_T80 l0_1 x16_1).f1,(rd_T80 l0_1 x16_1).f0,(rd_T80 l0_1 x16_1).f2,(rd_T80 l0_1 x16_1).f3,(rd_T80 l0_1 x16_1).f4⟩ : S80)); (case aB => exact n4_.out); (case aO => exact Kd.R_mono n0_.out (fun _ _ => trivial)); (case aS => exact below_size n4_.out); (case aL => have:=LMc21.out; omega); intro v798 w30 ho hb hg hat; rw [← Ny237.out] at ho; have m1_:=zx (blk_grown n1_.out hg (Kd.R_ne n0_.out n1_.out (by decide))); have m2_:=zx (blk_grown n2_.out hg (Kd.R_ne n0_.out n2_.out (by decide))); have m3_:=zx (blk_grown n3_.out hg (Kd.R_ne n0_.out n3_.out (by decide))); have m0_:=zx (Kd.R_types ho m3_.out (by decide)); have m4_:=zx hb; clear n0_ n1_ n2_ n3_ n4_ n5_ n6_ n7_ n8_ n9_ hz0 hz1 hz2 hz3 hz4 hy1 ho hb hg hat; obtain ⟨Ao31,co31,eo31⟩:=Kd.R_slice m0_.out; subst eo31) | ((with_reducible refine gate_store (t:=23) (p:=31) (v:=.tmp 30) rfl ?_); refine put_event rfl rfl rfl m3_.out 1 #[.int .i64 a0_0,.slice Ao31 y237.length co31] (.slice Ao31 y237.length co31) [.slice Ao31 y237.length co31] (by first | rfl | (go_simp; done) | (go_simp; rfl)) (by first | rfl | (go_simp; done) | (go_simp; rfl)) rfl (by kernel_rfl) (by simp) (by simp [Value.oneCell']) rfl ?_; intro w31 hc hg; have k0_:=zx (Kd.R_grown m0_.out hg (fun k hk e => hk.2 (Option.some.inj e))); have k1_:=zx (blk_grown m1_.out hg (by simpa using NB229_234.out)); have k2_:=zx (blk_grown m2_.out hg (by simpa using NB230_234.out)); have k3_:=zx hc; have k4_:=zx (pw_below_grown m4_.out _ (below_size m4_.out) hg (fun k hk => by obtain rfl : gb234 = k:=Option.some.inj hk; exact GE234.out)); clear m0_ m1_ m2_ m3_ m4_ hc hg))
   go_roundg k1
   case measure => have:=HK1.out; omega
   case rel => exact ⟨(wrap64 (x16_1 + 1)),(y237),(.slice Ao31 y237.length co31),(by first | rfl | (simp; done) | (simp [*]; done)),H',⟨by have:=HK1.out; omega⟩,⟨Kd.R_mono k0_.out (fun _ _ => trivial)⟩,k1_,k2_,k3_,k4_⟩
def impl_costs.l0 : Nat → List Int → List (S101) → Int → Int → Option (List Int)
 | 0,_,_,_,_ => none
 | k + 1,x3,x9,x10,x11 => if x11 < x10 then (if 0 ≤ x11 then (if x11 < (x9.length : Int) then (if x3.length < 17592186044416 then (impl_costs.l0 k (x3 ++ [(rd_T101 x9 x11).f0]) x9 x10 (wrap64 (x11 + 1))) else (none)) else (none)) else (none)) else (some x3)
def impl_costs.f (k : Nat) (l0 : List (S101)) : Option (List Int):=if 0 ≤ (l0.length : Int) then (if ((l0.length : Int) : Int).toNat ≤ 35184372088832 then (impl_costs.l0 k (([] : List Int)) l0 (l0.length : Int) 0) else (none)) else (none)
set_option maxHeartbeats 8000000 in
set_option maxRecDepth 100000 in
theorem impl_costs.calls (k : Nat) (A0 : Option Addr) (c0 : Nat) (l0 : List (S101)) (r : List Int) (w : World) (hr0 : Kd.C k101 w A0 l0.length l0) (hc0 : l0.length ≤ c0) (h : impl_costs.f k l0 = some r) :
  Calls Try.prog 71 #[.slice A0 l0.length c0] w fun e w' => ∃ v0_ : Value,e = .returned (v0_) ∧ Kd.R (Kd.int .i64) 3 w' w.heap.size (fun _ => True) v0_ r ∧ Below w.heap.size w w':=by
 have hu101:=Try.underlying101;have HR0:=zx hr0;have HC0:=zx hc0;clear hr0 hc0;have HB:=zx (Below.refl w.heap.size w);have H : (if 0 ≤ (l0.length : Int) then (if ((l0.length : Int) : Int).toNat ≤ 35184372088832 then (impl_costs.l0 k (([] : List Int)) l0 (l0.length : Int) 0) else (none)) else (none)) = some r:=h;clear h
 by_cases c2 : 0 ≤ (l0.length : Int)
 case neg =>
  rw [if_neg c2] at H;exact absurd H (by simp)
 rw [if_pos c2] at H;have c2b0:=eq_true c2;have c2b1 : decide (0 ≤ (l0.length : Int)) = true:=decide_eq_true c2;clear c2
 by_cases c3 : ((l0.length : Int) : Int).toNat ≤ 35184372088832
 case neg =>
  rw [if_neg c3] at H;exact absurd H (by simp)
 rw [if_pos c3] at H;have c3b0:=eq_true c3;have c3b1 : decide (((l0.length : Int) : Int).toNat ≤ 35184372088832) = true:=decide_eq_true c3;clear c3;obtain ⟨y240,hy240⟩ : ∃ y_ : List Int,y_ = (([] : List Int)):=⟨_,rfl⟩
 replace H : (impl_costs.l0 k y240 l0 (l0.length : Int) 0) = some r:=by first | (rw [hy240]; with_reducible exact H) | (have H2_:=(Option.bind_some _ _).symm.trans H; rw [hy240]; with_reducible exact H2_) | (have H2_:=(Option.bind_some _ _).symm.trans H; with_reducible exact H2_) | with_reducible exact H | (rw [hy240]; exact H) | exact H
 have Ny240:=zx hy240;clear hy240;have H':=zx H;clear H
 go_enter Try.func71,Try.ntmps71
 go_wp2_with (first | ((with_reducible refine gate_dst (N:=8) rfl ?_); refine Kd.R_make0 (Kd.int .i64) _ 3 rfl (N:=8) rfl 26 _ _ rfl (l0.length : Int) (by first | rfl | (go_simp; done) | (go_simp; rfl)) (by first | rfl | (go_simp; done) | (go_simp; rfl)) Try.underlying26 (.int .i64 0) 8 info3 rfl (by decide) (by omega) 0 (ok:=fun _ => True) (okp:=fun _ => True) rfl (fun _ hk => hk) trivial (of_decide_eq_true (by first | (with_reducible assumption) | assumption)) (Nat.le_trans (Nat.mul_le_mul_right _ (of_decide_eq_true (by first | (with_reducible assumption) | assumption) : (l0.length : Int).toNat ≤ 35184372088832)) (by omega)) (Below.refl _ _) (Nat.le_refl _) ?_; intro v241 w4 ho5 hb hg_ hnew_; clear hg_ hnew_; (first | rw [← Ny240.out] at ho5 | (simp only [Int.reduceToNat] at ho5; rw [← Ny240.out] at ho5)); have n0_:=zx (Kd.R_lower ho5 (below_size (by repeat (first | (with_reducible first | exact HB.out | apply below_alloc | apply pw_below_drewN | apply below_drew1) | exact HB.out)))); have n1_:=zx (below_step (by repeat (first | (with_reducible first | exact HB.out | apply below_alloc | apply pw_below_drewN | apply below_drew1) | exact HB.out)) hb); clear HB; have HO242:=n0_; have HB:=n1_; clear n0_ n1_; clear hb ho5))
 go_loopg [3,11] k (fun kq v3 v11 w' => ∃ (x3_1 : List Int) (x11_1 : Int),v11 = .int .i64 x11_1 ∧ Aside0 (impl_costs.l0 kq x3_1 l0 (l0.length : Int) x11_1 = some r) ∧ Aside0 (kq ≤ k) ∧ Aside0 (Kd.R (Kd.int .i64) 3 w' w.heap.size (fun _ => True) v3 x3_1) ∧ Aside0 (Below w.heap.size w w'))
 case atStart => exact ⟨(y240),(0),(by first | rfl | (simp; done) | (simp [*]; done)),H',⟨Nat.le_refl _⟩,⟨by (with_reducible repeat (first | apply Kd.R_alloc | apply Kd.R_drewN | apply Kd.R_drew)); exact HO242.out⟩,⟨by repeat (first | (with_reducible first | exact HB.out | apply below_alloc | apply pw_below_drewN | apply below_drew1) | exact HB.out)⟩⟩
 case round =>
  clear H'
  try clear c2
  try clear c2b0
  try clear c2b1
  try clear p2
  try clear c3
  try clear c3b0
  try clear c3b1
  obtain ⟨x3_1,x11_1,rfl,HA,HK1,HO_3,HB⟩:=hrel;cases gk with
  | zero => exact absurd HA.out (by simp [impl_costs.l0])
  | succ k1 =>
   have H:=HA.out;clear HA;simp only [impl_costs.l0] at H
   by_cases c6 : x11_1 < (l0.length : Int)
   case neg =>
    rw [if_neg c6] at H;have c6b0 : decide (x11_1 < (l0.length : Int)) = false:=decide_eq_false c6;clear c6;obtain rfl:=Option.some.inj H
    go_wp2
    go_ret;exact ⟨_,by first | rfl | (simp [errW_none,errW_some] <;> rfl) | (simp [*,errW_none,errW_some] <;> rfl),by (with_reducible repeat (first | apply Kd.R_alloc | apply Kd.R_drewN | apply Kd.R_drew)); exact HO_3.out,by repeat (first | (with_reducible first | exact HB.out | apply below_alloc | apply pw_below_drewN | apply below_drew1) | exact HB.out)⟩
   rw [if_pos c6] at H;have c6b0 : decide (x11_1 < (l0.length : Int)) = true:=decide_eq_true c6;clear c6
   by_cases c7 : 0 ≤ x11_1
   case neg =>
    rw [if_neg c7] at H;exact absurd H (by simp)
   rw [if_pos c7] at H;have c7b0 : decide (0 ≤ x11_1) = true:=decide_eq_true c7;clear c7
   by_cases c8 : x11_1 < (l0.length : Int)
   case neg =>
    rw [if_neg c8] at H;exact absurd H (by simp)
   rw [if_pos c8] at H;have c8b0 : decide (x11_1 < (l0.length : Int)) = true:=decide_eq_true c8;clear c8
   by_cases c9 : x3_1.length < 17592186044416
   case neg =>
    rw [if_neg c9] at H;exact absurd H (by simp)
   rw [if_pos c9] at H;have LMc9:=zx c9;clear c9;obtain ⟨y245,hy245⟩ : ∃ y_ : List Int,y_ = (x3_1 ++ [(rd_T101 l0 x11_1).f0]):=⟨_,rfl⟩
   replace H : (impl_costs.l0 k1 y245 l0 (l0.length : Int) (wrap64 (x11_1 + 1))) = some r:=by first | (rw [hy245]; with_reducible exact H) | (have H2_:=(Option.bind_some _ _).symm.trans H; rw [hy245]; with_reducible exact H2_) | (have H2_:=(Option.bind_some _ _).symm.trans H; with_reducible exact H2_) | with_reducible exact H | (rw [hy245]; exact H) | exact H
   have Ny245:=zx hy245;clear hy245;have H':=zx H;clear H;have p243 : 0 ≤ (x11_1 : Int):=of_decide_eq_true (by first | (with_reducible assumption) | assumption);have q243 : x11_1 < (l0.length : Int):=of_decide_eq_true (by first | (with_reducible assumption) | assumption);obtain ⟨ad243,e243,hx243_0,hx243_1⟩:=at_T101 HR0.out x11_1 p243 q243;cases e243;replace hx243_0:=(HB.out.cell (World.block_lt_of_cell? w _ hx243_0)).trans hx243_0;replace hx243_1:=(HB.out.cell (World.block_lt_of_cell? w _ hx243_1)).trans hx243_1;replace p243:=eq_true p243;replace q243:=eq_true q243
   go_wp2_with (first | ((with_reducible refine gate_dst (N:=5) rfl ?_); refine box_event ?hg (N:=5) ?hd (cs:=#[.int .i64 0,.int .i64 0]) (t:=101) ?hr ?_; (case hd => rfl); (case hg => rfl); (case hr => first | (go_simp; done) | (go_simp; rfl)); intro gb244 hg w10 hbox hb; have n0_:=zx (Kd.R_below (by (with_reducible repeat (first | apply Kd.R_alloc | apply Kd.R_drewN | apply Kd.R_drew)); exact HO_3.out) hb); have n1_:=zx (below_step (by repeat (first | (with_reducible first | exact HB.out | apply below_alloc | apply pw_below_drewN | apply below_drew1) | exact HB.out)) hb); have n2_:=zx (hbox); have n3_:=zx ((by rw [hg]; exact (below_size (by repeat (first | (with_reducible first | exact HB.out | apply below_alloc | apply pw_below_drewN | apply below_drew1) | exact HB.out))) : w.heap.size ≤ gb244)); have n4_:=zx ((by rw [hg]; exact (below_size (by repeat (first | (with_reducible first | exact HB.out | apply below_alloc | apply pw_below_drewN | apply below_drew1) | exact HB.out))) : w.heap.size ≤ gb244)); clear HO_3; clear HB; have HO_3:=n0_; have HB:=n1_; have BK244:=n2_; have GW244:=n3_; have GE244:=n4_; clear n0_ n1_ n2_ n3_ n4_; clear hb hbox hg; have hcz11_0 : w10.cell? ⟨gb244,0,none⟩ = some (.int .i64 0):=(blk_cell BK244.out 0).trans rfl; have hcz11_1 : w10.cell? ⟨gb244,1,none⟩ = some (.int .i64 0):=(blk_cell BK244.out 1).trans rfl; have hfz11_0:=blk_frozen BK244.out 0; have hfz11_1:=blk_frozen BK244.out 1) | ((with_reducible refine gate_builtin (b:=.append) (xs:=#[.tmp 15,.tmp 18]) rfl ?_); at_builtin; refine Kd.R_append (Kd.int .i64) (w0:=w) w.heap.size rfl (.tmp 15) (.tmp 18) 26 3 (.int .i64 0) 8 rfl Try.underlying26 info3 rfl (by decide) (by omega) u3 x3_1 ((rd_T101 l0 x11_1).f0) [.int .i64 ((rd_T101 l0 x11_1).f0)] (fun _ => True) (fun _ => False) rfl (by first | (go_simp; done) | (go_simp; rfl)) ?aP (fun _ hk => hk.elim) ?aF ?aO ?aB ?aS ?aL ?_; (case aP => exact rfl); (case aB => exact (by repeat (first | (with_reducible first | exact HB.out | apply below_alloc | apply pw_below_drewN | apply below_drew1 | refine below_set ?_ GE244.out) | exact HB.out))); (case aF => exact (fun _ _ => trivial)); (case aO => exact (by (with_reducible repeat (first | apply Kd.R_alloc | apply Kd.R_drewN | apply Kd.R_drew)); exact Kd.R_mono (Kd.R_far (p:=⟨gb244,1,none⟩) (Kd.R_far (p:=⟨gb244,0,none⟩) (Kd.R_types HO_3.out BK244.out (by decide)) (fun _ hk => hk.2) (.int .i64 ((rd_T101 l0 x11_1).f0))) (fun _ hk => hk.2) (.int .i64 ((rd_T101 l0 x11_1).f1))) (fun _ hk => trivial))); (case aS => exact (below_size (by repeat (first | (with_reducible first | exact HB.out | apply below_alloc | apply pw_below_drewN | apply below_drew1 | refine below_set ?_ GE244.out) | exact HB.out)))); (case aL => have:=LMc9.out; omega); intro v246 w12 ho hb hg hat; rw [← Ny245.out] at ho; have n0_:=zx (blk_grown (g:=gb244) (o:=.cells #[.int .i64 ((rd_T101 l0 x11_1).f0),.int .i64 ((rd_T101 l0 x11_1).f1)] 101 (0,0)) (by (with_reducible repeat (first | refine blk_drewN ?_ _ | refine blk_drew ?_ | refine blk_alloc ?_ _)); refine blk_put (cs:=#[.int .i64 ((rd_T101 l0 x11_1).f0),.int .i64 0]) ?_ 1 _ rfl; (with_reducible repeat (first | refine blk_drewN ?_ _ | refine blk_drew ?_ | refine blk_alloc ?_ _)); refine blk_put (cs:=#[.int .i64 0,.int .i64 0]) ?_ 0 _ rfl; (with_reducible repeat (first | refine blk_drewN ?_ _ | refine blk_drew ?_ | refine blk_alloc ?_ _)); exact BK244.out) hg (Kd.R_ne HO_3.out BK244.out (by decide))); have n1_:=zx (hb); have n2_:=zx (ho); clear BK244; clear HB; clear HO_3; have BK244:=n0_; have HB:=n1_; have HO247:=n2_; clear n0_ n1_ n2_; clear ho hb hg hat))
   go_roundg k1
   case measure => have:=HK1.out; omega
   case rel => exact ⟨(y245),(wrap64 (x11_1 + 1)),(by first | rfl | (simp; done) | (simp [*]; done)),H',⟨by have:=HK1.out; omega⟩,⟨by (with_reducible repeat (first | apply Kd.R_alloc | apply Kd.R_drewN | apply Kd.R_drew)); exact HO247.out⟩,⟨by repeat (first | (with_reducible first | exact HB.out | apply below_alloc | apply pw_below_drewN | apply below_drew1 | refine below_set ?_ GE244.out) | exact HB.out)⟩⟩
def bits_Mul64.f (a0 : Int) (a1 : Int) : Option (Int × Int):=some (IntKind.u64.wrap ((IntKind.u64.wrap ((IntKind.u64.wrap ((a0 / 4294967296) * (a1 / 4294967296))) + ((IntKind.u64.wrap ((IntKind.u64.wrap ((a0 / 4294967296) * (Go.bits .and .u64 a1 4294967295))) + ((IntKind.u64.wrap ((Go.bits .and .u64 a0 4294967295) * (Go.bits .and .u64 a1 4294967295))) / 4294967296))) / 4294967296))) + ((IntKind.u64.wrap ((Go.bits .and .u64 (IntKind.u64.wrap ((IntKind.u64.wrap ((a0 / 4294967296) * (Go.bits .and .u64 a1 4294967295))) + ((IntKind.u64.wrap ((Go.bits .and .u64 a0 4294967295) * (Go.bits .and .u64 a1 4294967295))) / 4294967296))) 4294967295) + (IntKind.u64.wrap ((Go.bits .and .u64 a0 4294967295) * (a1 / 4294967296))))) / 4294967296)),IntKind.u64.wrap (a0 * a1))
set_option maxHeartbeats 8000000 in
set_option maxRecDepth 100000 in
theorem bits_Mul64.calls (a0 : Int) (a1 : Int) (r1 : Int) (r2 : Int) (w : World) (h : bits_Mul64.f a0 a1 = some (r1,r2)) :
  Calls Try.prog 99 #[.int .u64 a0,.int .u64 a1] w fun e w' => e = .returned (.tuple #[.int .u64 r1,.int .u64 r2]) ∧ Drawn0 w w':=by
 have H : (some (IntKind.u64.wrap ((IntKind.u64.wrap ((IntKind.u64.wrap ((a0 / 4294967296) * (a1 / 4294967296))) + ((IntKind.u64.wrap ((IntKind.u64.wrap ((a0 / 4294967296) * (Go.bits .and .u64 a1 4294967295))) + ((IntKind.u64.wrap ((Go.bits .and .u64 a0 4294967295) * (Go.bits .and .u64 a1 4294967295))) / 4294967296))) / 4294967296))) + ((IntKind.u64.wrap ((Go.bits .and .u64 (IntKind.u64.wrap ((IntKind.u64.wrap ((a0 / 4294967296) * (Go.bits .and .u64 a1 4294967295))) + ((IntKind.u64.wrap ((Go.bits .and .u64 a0 4294967295) * (Go.bits .and .u64 a1 4294967295))) / 4294967296))) 4294967295) + (IntKind.u64.wrap ((Go.bits .and .u64 a0 4294967295) * (a1 / 4294967296))))) / 4294967296)),IntKind.u64.wrap (a0 * a1))) = some (r1,r2):=h;clear h;simp only [Option.some.injEq,Prod.mk.injEq] at H;obtain ⟨rfl,rfl⟩:=H
 go_enter Try.func99,Try.ntmps99
 go_wp2
 go_ret2;exact ⟨by first | rfl | (simp; done) | (simp [*]; done),by repeat (first | exact Drawn0.refl _ | apply Drawn0.step)⟩
def bits_Mul.f (a0 : Int) (a1 : Int) : Option (Int × Int):=(bits_Mul64.f a0 a1).bind fun bt248 => (some (bt248.1,bt248.2))
set_option maxHeartbeats 8000000 in
set_option maxRecDepth 100000 in
theorem bits_Mul.calls (a0 : Int) (a1 : Int) (r1 : Int) (r2 : Int) (w : World) (h : bits_Mul.f a0 a1 = some (r1,r2)) :
  Calls Try.prog 86 #[.int .u64 a0,.int .u64 a1] w fun e w' => e = .returned (.tuple #[.int .u64 r1,.int .u64 r2]) ∧ Drawn0 w w':=by
 have H : ((bits_Mul64.f a0 a1).bind fun bt248 => (some (bt248.1,bt248.2))) = some (r1,r2):=h;clear h;replace H:=Option.bind_eq_some_iff.mp H;obtain ⟨⟨t248,t249⟩,A30,H⟩:=H;replace H : (some (t248,t249)) = some (r1,r2):=H;have A3:=zx A30;clear A30;simp only [Option.some.injEq,Prod.mk.injEq] at H;obtain ⟨rfl,rfl⟩:=H
 go_enter Try.func86,Try.ntmps86
 go_wp2_with (first | ((with_reducible refine gate_callee (f:=99) rfl ?_); refine goesL_ (some 25) rfl rfl Try.func99 (by kernel_rfl) rfl #[.int .u64 a0,.int .u64 a1] rfl (by (try simp only [List.map_toArray,List.map_cons,List.map_nil]); first | done | rfl | (simp only [List.length_drop,List.length_take]; rfl)) ?_; (with_reducible refine (bits_Mul64.calls a0 a1 t248 t249 _ A3.out).mono ?_); rintro e w' ⟨rfl,⟨nd,rfl⟩⟩; refine ⟨_,rfl,?_⟩))
 go_ret2;exact ⟨by first | rfl | (simp; done) | (simp [*]; done),by repeat (first | exact Drawn0.refl _ | apply Drawn0.step)⟩
def impl_measure.f (l0 : List S101) (a1 : Int) : Option (List S101):=if l0.length = 1 then if 0 ≤ a1 then if a1 ≤ 64 then some (List.replicate a1.toNat (l0.getD 0 z101)) else none else none else none
theorem mul1_80 : ∀ n : Fin 65,bits_Mul.f 1 ((n.val : Nat) : Int) = some (0,((n.val : Nat) : Int)):=by decide +kernel
set_option maxHeartbeats 4000000 in
set_option maxRecDepth 100000 in
theorem rep80 (N : Nat) (hN : N ≤ 64) (x : S101) (A0 : Option Addr) (c0 : Nat) (w : World) (hr0 : Kd.C k101 w A0 1 [x]) (hc0 : 1 ≤ c0) :
  Calls Try.prog 80 #[.slice A0 1 c0,.int .i64 (N : Int)] w fun e w' => ∃ v0_,e = .returned v0_ ∧ Kd.R k101 101 w' w.heap.size (fun _ => True) v0_ (List.replicate N x) ∧ Below w.heap.size w w':=by
 obtain ⟨ad,c,hA,hcl,hK,hcc⟩:=Kd.C_get hr0 x 0 (by omega) (by omega);obtain rfl : c = [.int .i64 x.f0,.int .i64 x.f1]:=k101_open hK;subst hA;replace hcc : ∀ j u,([.int .i64 x.f0,.int .i64 x.f1] : List Value)[j]? = some u → w.cell? (ad.add j) = some u:=fun j u h => by have:=hcc j u h; simpa using this
 have hblk : ad.block < w.heap.size:=by
  have:=World.block_lt_of_cell? w _ (hcc 0 _ rfl)
  simpa [Addr.add] using this
 clear hr0 hcl
 try clear hK
 have HCC:=zx hcc;have HBL:=zx hblk;clear hcc hblk;obtain ⟨i0,hi0,hz0,hsz,hby⟩:=info_parts (P:=Try.prog) (e:=101) (z:=(.agg #[.int .i64 0,.int .i64 0])) (size:=2) (bytes:=16) (by kernel_rfl);have hmk : ∀ W : World,(Instr.makeSlice 96 (.int .i64 (N : Int)) (.int .i64 (N : Int))).run Try.prog W = .ok (.slice (some ⟨W.heap.size,0,none⟩) N N) (W.alloc (.cells (madeCells #[.int .i64 0,.int .i64 0] (N * 2)) 101)):=by
  intro W;have:=run_make (P:=Try.prog) W 96 101 i0 (.agg #[.int .i64 0,.int .i64 0]) Try.underlying96 hi0 hz0 .i64 .i64 (N : Int) (N : Int) (by omega) (Int.le_refl _) (by rw [hby]; omega) (by omega);rw [hsz] at this;exact this
 have hmul:=fun (W : World) => bits_Mul.calls 1 (N : Int) 0 (N : Int) W (mul1_80 ⟨N,by omega⟩)
 have HMK:=zx hmk;have HI:=zx hi0;have HSZ:=zx hsz;clear hmk hi0 hz0 hsz hby;have hN1 : (N : Int) ≤ 64:=by omega
 have hN0 : (0 : Int) ≤ N:=by omega
 have hN2 : ((N : Int) < 0) = False:=eq_false (by omega);have hN3 : decide ((9223372036854775807 : Int) < (N : Int)) = false:=decide_eq_false (by omega);obtain ⟨n0,hn0⟩ : ∃ n0,n0 = if N = 0 then 0 else 1:=⟨_,rfl⟩
 obtain ⟨cs0,hcs0⟩ : ∃ cs0 : List Value,cs0 = if N = 0 then [] else [.int .i64 x.f0,.int .i64 x.f1]:=⟨_,rfl⟩
 have HN0:=zx hn0;have HCS:=zx hcs0;clear hn0 hcs0;have HN:=zx hN;clear hN
 go_enter Try.func80,Try.ntmps80
 go_wp2_with (first | (go_at_call 86; (with_reducible refine (hmul _).mono ?_); rintro e w1 ⟨rfl,⟨nd,rfl⟩⟩) | ((with_reducible refine gate_dst (N:=30) rfl ?_); refine make_event rfl (n:=N) (cs:=madeCells #[.int .i64 0,.int .i64 0] (N * 2)) (t:=101) (by have hmk:=HMK.out; first | (go_simp; done) | (go_simp; rfl)) ?_; intro g hg w2 hblk hb; have B0:=zx (below_step (pw_below_drewN (Below.refl _ _) nd) hb); have G0:=zx (show w.heap.size ≤ g by rw [hg]; exact Nat.le_refl _); have K0:=zx hblk; clear hg hblk hb) | ((with_reducible refine gate_builtin (b:=.copy) (xs:=#[.tmp 31,.tmp 32]) rfl ?_); refine copy_event rfl 2 (.tmp 31) (.tmp 32) 96 96 rfl 101 Try.underlying96 (by kernel_rfl) (some ⟨g,0,none⟩) (some ad) N N 1 c0 rfl rfl g 0 _ _ K0.out cs0 n0 ?cpk ?cpn ?cpp ?cpf ?cpo (by decide) ?_; (case cpk => rw [HN0.out]; by_cases h0 : N = 0; (rw [if_pos h0,h0]; rfl); (rw [if_neg h0]; exact Nat.min_eq_left (by omega))); (case cpn => rw [HN0.out,HCS.out]; by_cases h0 : N = 0; (rw [if_pos h0,if_pos h0]; rfl); (rw [if_neg h0,if_neg h0]; rfl)); (case cpp => intro hp; refine ⟨rfl,ad,rfl,fun j v hj => ?_⟩; rw [HCS.out] at hj; by_cases hz : N = 0; (rw [if_pos hz] at hj; simp at hj); (rw [if_neg hz] at hj; exact pw_cell_below B0.out (HCC.out j v hj))); (case cpf => rw [size_madeCells,HCS.out]; by_cases h0 : N = 0; (rw [if_pos h0]; simp); (rw [if_neg h0]; simp; omega)); (case cpo => intro v hv; rw [HCS.out] at hv; by_cases h0 : N = 0; (rw [if_pos h0] at hv; simp at hv); (rw [if_neg h0] at hv; simp only [List.mem_cons,List.not_mem_nil,or_false] at hv; first | (subst hv; rfl) | (rcases hv with rfl | rfl <;> rfl))); intro w3 hc hg3; have K1:=zx hc; have B1:=zx (pw_below_grown B0.out _ (B0.out.size) hg3 (fun k hk => by obtain rfl : g = k:=Option.some.inj hk; exact G0.out)); clear hc hg3 K0 B0))
 have K2 : Aside0 (∃ cur,w3.heap[g]? = some (.cells cur 101 (0,0)) ∧ cur.size = N * 2 ∧ cur.toList.take (n0 * 2) = (madeCells #[.int .i64 x.f0,.int .i64 x.f1] (n0 * 2)).toList):=by
  obtain ⟨cur,h1,h2,h3⟩:=K1.out;refine ⟨⟨cur,h1,by rw [h2,size_madeCells],?_⟩⟩;rw [h3,HCS.out,HN0.out]
  by_cases h0 : N = 0
  case pos => rw [if_pos h0]; simp [madeCells]
  rw [if_neg h0,if_neg h0]; simp [madeCells]; try rfl
 clear K1;have HS : Aside0 (n0 ≤ N ∧ (0 < N → 1 ≤ n0)):=⟨by rw [HN0.out]; split <;> omega⟩
 go_loopg [8] N (fun gg v8 wr => ∃ n : Nat,v8 = .int .i64 (n : Int) ∧ Aside0 (n ≤ N ∧ (0 < N → 1 ≤ n)) ∧ Aside0 (∃ cur,wr.heap[g]? = some (.cells cur 101 (0,0)) ∧ cur.size = N * 2 ∧ cur.toList.take (n * 2) = (madeCells #[.int .i64 x.f0,.int .i64 x.f1] (n * 2)).toList) ∧ Aside0 (Below w.heap.size w wr) ∧ Aside0 (N - n ≤ gg))
 case atStart => exact ⟨n0,rfl,HS,K2,B1,⟨by omega⟩⟩
 case round =>
  clear HS K2 B1;obtain ⟨n,rfl,HS,K2,B1,HG⟩:=hrel
  by_cases hlt : n < N
  case neg =>
   have c1 : decide ((n : Int) < (N : Int)) = false:=decide_eq_false (by omega);have c2 : decide (n < N) = false:=decide_eq_false hlt;have hnN : n = N:=by have:=HS.out.1; omega
   subst hnN;have c3 : decide (n < n) = false:=decide_eq_false (by omega)
   go_wp2
   go_ret;obtain ⟨cur,hb,hs,ht⟩:=K2.out;refine ⟨_,rfl,⟨fun _ _ => trivial,(madeCells #[.int .i64 x.f0,.int .i64 x.f1] (n * 2)).toList,⟨by rw [Array.length_toList,size_madeCells,List.length_replicate]; rfl,.inr ⟨g,n,cur,by first | (rw [List.length_replicate]; done) | (rw [List.length_replicate]; rfl),G0.out,hb,by rw [List.length_replicate]; exact Nat.le_refl _,by have:=HN.out; simp only [maxLen]; omega,Nat.le_of_eq hs.symm,by rw [List.length_replicate]; exact ht⟩⟩,?_⟩,B1.out⟩;exact Kd.reps_made (R:=k101.M _ _ _) (z0:=x) (z:=(.agg #[.int .i64 x.f0,.int .i64 x.f1])) (size:=2) rfl (by decide) (k101_mkM _ _ _ x) n
  have c1 : decide ((n : Int) < (N : Int)) = true:=decide_eq_true (by omega);have c2 : decide (n < N) = true:=decide_eq_true hlt;obtain ⟨cur,hb,hs,ht⟩:=K2.out;obtain ⟨m,hm⟩ : ∃ m,Nat.min n (N - n) = m:=⟨_,rfl⟩
  have hm1 : m ≤ n ∧ m ≤ N - n:=by rw [← hm]; exact ⟨Nat.min_le_left _ _,Nat.min_le_right _ _⟩
  have hm2 : 1 ≤ m:=by
   have:=HS.out.2 (by omega);rw [← hm];exact Nat.le_min.2 ⟨this,by omega⟩
  have hmn : m * 2 ≤ n * 2:=Nat.mul_le_mul_right _ hm1.1;have h1 : cur.toList.take (m * 2) = (madeCells #[.int .i64 x.f0,.int .i64 x.f1] (m * 2)).toList:=by
   rw [← made_take #[.int .i64 x.f0,.int .i64 x.f1] (m * 2) (n * 2) hmn,← ht,List.take_take,Nat.min_eq_left hmn]
  have HSRC : Aside0 (∀ W : World,W.heap[g]? = some (.cells cur 101 (0,0)) → ∀ j v,(madeCells #[.int .i64 x.f0,.int .i64 x.f1] (m * 2)).toList[j]? = some v → W.cell? ((⟨g,0,none⟩ : Addr).add j) = some v):=⟨by
   intro W hW j v hj;rw [add_plain,blk_cell hW j,← Array.getElem?_toList];rw [← h1,List.getElem?_take] at hj
   split at hj
   ·exact hj
   ·cases hj⟩
  have HLEN : Aside0 ((madeCells #[.int .i64 x.f0,.int .i64 x.f1] (m * 2)).toList.length = m * 2):=⟨by rw [Array.length_toList,size_madeCells]⟩
  have HFIT : Aside0 (n * 2 + (madeCells #[.int .i64 x.f0,.int .i64 x.f1] (m * 2)).toList.length ≤ cur.size):=⟨by rw [HLEN.out,hs]; omega⟩
  have HONE : Aside0 (∀ v ∈ (madeCells #[.int .i64 x.f0,.int .i64 x.f1] (m * 2)).toList,v.oneCell' = true):=⟨by
   intro v hv;have h:=made_mem #[.int .i64 x.f0,.int .i64 x.f1] (m * 2) (by simp) v hv;simp only [List.mem_cons,List.not_mem_nil,or_false] at h
   first | (subst h; rfl) | (rcases h with rfl | rfl <;> rfl)⟩
  have hcut1 : ∀ W : World,(Instr.slice 96 (.slice (some ⟨g,0,none⟩) N N) (some (.int .i64 (n : Int))) none none).run Try.prog W = .ok (.slice (some ⟨g,n * 2,none⟩) (N - n) (N - n)) W:=by
   intro W;have h:=cut_from (P:=Try.prog) 96 101 .i64 Try.underlying96 HI.out 2 HSZ.out (some ⟨g,0,none⟩) N N (n : Int) (by omega) (by omega) W;simp only [Int.toNat_natCast,Option.map_some,add_plain] at h;rw [if_neg (by omega)] at h;exact h
  have hcut2 : ∀ W : World,(Instr.slice 96 (.slice (some ⟨g,0,none⟩) N N) none (some (.int .i64 (n : Int))) none).run Try.prog W = .ok (.slice (some ⟨g,0,none⟩) n N) W:=by
   have h:=cut_to (P:=Try.prog) 96 101 .i64 Try.underlying96 HI.out (some ⟨g,0,none⟩) N N (n : Int) (by omega) (by omega) (Nat.le_refl _)
   simpa only [Int.toNat_natCast] using h
  have hw : IntKind.i64.wrap ((n : Int) + (m : Int)) = (n : Int) + (m : Int):=by
   have:=HN.out;rw [i64_w,wrap64]; omega
  have HB:=zx hb;have HM:=zx hm;have HST:=zx (And.intro hs (And.intro ht (And.intro hm1 (And.intro hm2 hlt))));clear hb hs ht hm hm1 hm2 hmn h1 hlt
  go_wp2
  go_region_law (refine copy_step rfl 2 (.tmp 41) (.tmp 44) 96 96 ?cpo 101 Try.underlying96 (by kernel_rfl) (some ⟨g,n * 2,none⟩) (some ⟨g,0,none⟩) (N - n) (N - n) n N ?cpd ?cps g (n * 2) cur 101 HB.out (madeCells #[.int .i64 x.f0,.int .i64 x.f1] (m * 2)).toList m HM.out HLEN.out (fun _ => ⟨rfl,_,rfl,HSRC.out _ HB.out⟩) HFIT.out HONE.out (by decide) ?_; (case cpo => rfl); (case cpd => go_simp); (case cps => go_simp); intro w4 hc hg4)
  have K3 : Aside0 (∃ cur',w4.heap[g]? = some (.cells cur' 101 (0,0)) ∧ cur'.size = N * 2 ∧ cur'.toList.take ((n + m) * 2) = (madeCells #[.int .i64 x.f0,.int .i64 x.f1] ((n + m) * 2)).toList):=by
   obtain ⟨cur',e1,e2,e3⟩:=hc;obtain ⟨s1,s2,s3,s4,s5⟩:=HST.out;refine ⟨⟨cur',e1,by rw [e2,s1],?_⟩⟩;have hl : (cur.toList.take (n * 2)).length = n * 2:=by rw [s2,Array.length_toList,size_madeCells]
   have e4 : (n + m) * 2 = (cur.toList.take (n * 2) ++ (madeCells #[.int .i64 x.f0,.int .i64 x.f1] (m * 2)).toList).length:=by rw [List.length_append,hl,HLEN.out,Nat.add_mul]
   have e5 : cur'.toList.take ((n + m) * 2) = cur.toList.take (n * 2) ++ (madeCells #[.int .i64 x.f0,.int .i64 x.f1] (m * 2)).toList:=by
    rw [e3,e4,List.take_left]
   rw [e5,s2];exact made_append #[.int .i64 x.f0,.int .i64 x.f1] 2 n m (by simp)
  have B3 : Aside0 (Below w.heap.size w w4):=⟨pw_below_grown B1.out.drew _ (B1.out.size) hg4 (fun k hk => by obtain rfl : g = k:=Option.some.inj hk; exact G0.out)⟩
  have HS3 : Aside0 (n + m ≤ N ∧ (0 < N → 1 ≤ n + m) ∧ n + m ≤ n + m ∧ 1 ≤ m):=⟨by
   obtain ⟨s1,s2,s3,s4,s5⟩:=HST.out;exact ⟨by omega,fun _ => by omega,Nat.le_refl _,s4⟩⟩
  have HG3 : Aside0 (N - (n + m) ≤ N - (n + m)):=⟨Nat.le_refl _⟩
  clear hc hg4
  go_wp2
  go_roundg (N - (n + m))
  case measure => have h1:=HG.out; have h2:=HS3.out; omega
  case rel => exact ⟨n + m,by first | (simp only [hw]; done) | (simp only [hw,Int.natCast_add]; done) | (rw [hw]; rfl),⟨HS3.out.1,HS3.out.2.1⟩,K3,B3,HG3⟩
theorem impl_measure.calls (A0 : Option Addr) (c0 : Nat) (l0 : List S101) (a1 : Int) (r : List S101) (w : World) (hr0 : Kd.C k101 w A0 l0.length l0) (hc0 : l0.length ≤ c0) (h : impl_measure.f l0 a1 = some r) :
  Calls Try.prog 80 #[.slice A0 l0.length c0,.int .i64 a1] w fun e w' => ∃ v0_,e = .returned v0_ ∧ Kd.R k101 101 w' w.heap.size (fun _ => True) v0_ r ∧ Below w.heap.size w w':=by
 unfold impl_measure.f at h
 by_cases h1 : l0.length = 1
 case neg => rw [if_neg h1] at h; cases h
 rw [if_pos h1] at h
 by_cases h2 : 0 ≤ a1
 case neg => rw [if_neg h2] at h; cases h
 rw [if_pos h2] at h
 by_cases h3 : a1 ≤ 64
 case neg => rw [if_neg h3] at h; cases h
 rw [if_pos h3] at h;obtain rfl:=Option.some.inj h;obtain ⟨x,rfl⟩:=List.length_eq_one_iff.1 h1;obtain ⟨N,rfl⟩:=Int.eq_ofNat_of_zero_le h2;exact rep80 N (by omega) x A0 c0 w hr0 hc0
theorem rep_measure (x : S101) (n : Nat) (h : n ≤ 64) : impl_measure.f [x] (n : Int) = some (List.replicate n x):=by
 unfold impl_measure.f
 rw [if_pos (show ([x] : List _).length = 1 from rfl),if_pos (by omega),if_pos (by omega)];simp
def impl_measure_less.f (a0_0 : Int) (a0_1 : Int) (a1_0 : Int) (a1_1 : Int) : Option (Bool):=if a0_0 < a1_0 then (some true) else (if a0_0 = a1_0 then (some (decide (a0_1 < a1_1))) else (some false))
set_option maxHeartbeats 8000000 in
set_option maxRecDepth 100000 in
theorem impl_measure_less.calls (a0_0 : Int) (a0_1 : Int) (a1_0 : Int) (a1_1 : Int) (r : Bool) (w : World) (h : impl_measure_less.f a0_0 a0_1 a1_0 a1_1 = some r) :
  Calls Try.prog 81 #[.agg #[.int .i64 a0_0,.int .i64 a0_1],.agg #[.int .i64 a1_0,.int .i64 a1_1]] w fun e w' => e = .returned (.bool r) ∧ Below w.heap.size w w':=by
 have hu101:=Try.underlying101;have HB:=zx (Below.refl w.heap.size w);have H : (if a0_0 < a1_0 then (some true) else (if a0_0 = a1_0 then (some (decide (a0_1 < a1_1))) else (some false))) = some r:=h;clear h
 by_cases c3 : a0_0 < a1_0
 case pos =>
  rw [if_pos c3] at H;have c3b0 : decide (a0_0 < a1_0) = true:=decide_eq_true c3;clear c3;obtain rfl:=Option.some.inj H
  go_enter Try.func81,Try.ntmps81
  go_wp2_with (first | ((with_reducible refine gate_dst (N:=2) rfl ?_); refine box_event ?hg (N:=2) ?hd (cs:=#[.int .i64 a0_0,.int .i64 a0_1]) (t:=101) ?hr ?_; (case hd => rfl); (case hg => rfl); (case hr => first | (go_simp; done) | (go_simp; rfl)); intro gb250 hg w4 hbox hb; have n0_:=zx (below_step (by repeat (first | (with_reducible first | exact HB.out | apply below_alloc | apply pw_below_drewN | apply below_drew1) | exact HB.out)) hb); have n1_:=zx (hbox); have n2_:=zx ((by rw [hg]; exact (below_size (by repeat (first | (with_reducible first | exact HB.out | apply below_alloc | apply pw_below_drewN | apply below_drew1) | exact HB.out))) : w.heap.size ≤ gb250)); have n3_:=zx ((by rw [hg]; exact (below_size (by repeat (first | (with_reducible first | exact HB.out | apply below_alloc | apply pw_below_drewN | apply below_drew1) | exact HB.out))) : w.heap.size ≤ gb250)); clear HB; have HB:=n0_; have BK250:=n1_; have GW250:=n2_; have GE250:=n3_; clear n0_ n1_ n2_ n3_; clear hb hbox hg) | ((with_reducible refine gate_dst (N:=3) rfl ?_); refine box_event ?hg (N:=3) ?hd (cs:=#[.int .i64 a1_0,.int .i64 a1_1]) (t:=101) ?hr ?_; (case hd => rfl); (case hg => rfl); (case hr => first | (go_simp; done) | (go_simp; rfl)); intro gb251 hg w5 hbox hb; have n0_:=zx (blk_below (g:=gb250) (o:=.cells #[.int .i64 a0_0,.int .i64 a0_1] 101 (0,0)) (by (with_reducible repeat (first | refine blk_drewN ?_ _ | refine blk_drew ?_ | refine blk_alloc ?_ _)); exact BK250.out) hb); have n1_:=zx (below_step (by repeat (first | (with_reducible first | exact HB.out | apply below_alloc | apply pw_below_drewN | apply below_drew1 | refine below_set ?_ GE250.out) | exact HB.out)) hb); have n2_:=zx (hbox); have n3_:=zx ((by rw [hg]; exact (below_size (by repeat (first | (with_reducible first | exact HB.out | apply below_alloc | apply pw_below_drewN | apply below_drew1 | refine below_set ?_ GE250.out) | exact HB.out))) : w.heap.size ≤ gb251)); have n4_:=zx ((by rw [hg]; exact (below_size (by repeat (first | (with_reducible first | exact HB.out | apply below_alloc | apply pw_below_drewN | apply below_drew1 | refine below_set ?_ GE250.out) | exact HB.out))) : w.heap.size ≤ gb251)); have n5_:=zx ((by rw [hg]; exact Nat.ne_of_lt (blk_lt (g:=gb250) (o:=.cells #[.int .i64 a0_0,.int .i64 a0_1] 101 (0,0)) (by (with_reducible repeat (first | refine blk_drewN ?_ _ | refine blk_drew ?_ | refine blk_alloc ?_ _)); exact BK250.out)) : gb250 ≠ gb251)); have n6_:=zx ((by rw [hg]; exact Nat.ne_of_gt (blk_lt (g:=gb250) (o:=.cells #[.int .i64 a0_0,.int .i64 a0_1] 101 (0,0)) (by (with_reducible repeat (first | refine blk_drewN ?_ _ | refine blk_drew ?_ | refine blk_alloc ?_ _)); exact BK250.out)) : gb251 ≠ gb250)); clear BK250; clear HB; have BK250:=n0_; have HB:=n1_; have BK251:=n2_; have GW251:=n3_; have GE251:=n4_; have NB250_251:=n5_; have NB251_250:=n6_; clear n0_ n1_ n2_ n3_ n4_ n5_ n6_; clear hb hbox hg; have hnb6:=NB250_251.out; have hnc6:=NB251_250.out; have hcz7_0 : w5.cell? ⟨gb250,0,none⟩ = some (.int .i64 a0_0):=(blk_cell BK250.out 0).trans rfl; have hcz7_1 : w5.cell? ⟨gb250,1,none⟩ = some (.int .i64 a0_1):=(blk_cell BK250.out 1).trans rfl; have hfz7_0:=blk_frozen BK250.out 0; have hfz7_1:=blk_frozen BK250.out 1; have hcz8_0 : w5.cell? ⟨gb251,0,none⟩ = some (.int .i64 a1_0):=(blk_cell BK251.out 0).trans rfl; have hcz8_1 : w5.cell? ⟨gb251,1,none⟩ = some (.int .i64 a1_1):=(blk_cell BK251.out 1).trans rfl; have hfz8_0:=blk_frozen BK251.out 0; have hfz8_1:=blk_frozen BK251.out 1))
  go_ret;exact ⟨by first | rfl | (simp [errW_none,errW_some] <;> rfl) | (simp [*,errW_none,errW_some] <;> rfl),by repeat (first | (with_reducible first | exact HB.out | apply below_alloc | apply pw_below_drewN | apply below_drew1 | refine below_set ?_ GE250.out | refine below_set ?_ GE251.out) | exact HB.out)⟩
 rw [if_neg c3] at H;have c3b0 : decide (a0_0 < a1_0) = false:=decide_eq_false c3;clear c3
 by_cases c9 : a0_0 = a1_0
 case neg =>
  rw [if_neg c9] at H;have c9b0 : (a0_0 == a1_0) = false:=beq_eq_false_iff_ne.mpr c9;have c9b1 : (a0_0 != a1_0) = true:=bne_iff_ne.mpr c9;obtain rfl:=Option.some.inj H
  go_enter Try.func81,Try.ntmps81
  go_wp2_with (first | ((with_reducible refine gate_dst (N:=2) rfl ?_); refine box_event ?hg (N:=2) ?hd (cs:=#[.int .i64 a0_0,.int .i64 a0_1]) (t:=101) ?hr ?_; (case hd => rfl); (case hg => rfl); (case hr => first | (go_simp; done) | (go_simp; rfl)); intro gb250 hg w15 hbox hb; have n0_:=zx (below_step (by repeat (first | (with_reducible first | exact HB.out | apply below_alloc | apply pw_below_drewN | apply below_drew1) | exact HB.out)) hb); have n1_:=zx (hbox); have n2_:=zx ((by rw [hg]; exact (below_size (by repeat (first | (with_reducible first | exact HB.out | apply below_alloc | apply pw_below_drewN | apply below_drew1) | exact HB.out))) : w.heap.size ≤ gb250)); have n3_:=zx ((by rw [hg]; exact (below_size (by repeat (first | (with_reducible first | exact HB.out | apply below_alloc | apply pw_below_drewN | apply below_drew1) | exact HB.out))) : w.heap.size ≤ gb250)); clear HB; have HB:=n0_; have BK250:=n1_; have GW250:=n2_; have GE250:=n3_; clear n0_ n1_ n2_ n3_; clear hb hbox hg) | ((with_reducible refine gate_dst (N:=3) rfl ?_); refine box_event ?hg (N:=3) ?hd (cs:=#[.int .i64 a1_0,.int .i64 a1_1]) (t:=101) ?hr ?_; (case hd => rfl); (case hg => rfl); (case hr => first | (go_simp; done) | (go_simp; rfl)); intro gb251 hg w16 hbox hb; have n0_:=zx (blk_below (g:=gb250) (o:=.cells #[.int .i64 a0_0,.int .i64 a0_1] 101 (0,0)) (by (with_reducible repeat (first | refine blk_drewN ?_ _ | refine blk_drew ?_ | refine blk_alloc ?_ _)); exact BK250.out) hb); have n1_:=zx (below_step (by repeat (first | (with_reducible first | exact HB.out | apply below_alloc | apply pw_below_drewN | apply below_drew1 | refine below_set ?_ GE250.out) | exact HB.out)) hb); have n2_:=zx (hbox); have n3_:=zx ((by rw [hg]; exact (below_size (by repeat (first | (with_reducible first | exact HB.out | apply below_alloc | apply pw_below_drewN | apply below_drew1 | refine below_set ?_ GE250.out) | exact HB.out))) : w.heap.size ≤ gb251)); have n4_:=zx ((by rw [hg]; exact (below_size (by repeat (first | (with_reducible first | exact HB.out | apply below_alloc | apply pw_below_drewN | apply below_drew1 | refine below_set ?_ GE250.out) | exact HB.out))) : w.heap.size ≤ gb251)); have n5_:=zx ((by rw [hg]; exact Nat.ne_of_lt (blk_lt (g:=gb250) (o:=.cells #[.int .i64 a0_0,.int .i64 a0_1] 101 (0,0)) (by (with_reducible repeat (first | refine blk_drewN ?_ _ | refine blk_drew ?_ | refine blk_alloc ?_ _)); exact BK250.out)) : gb250 ≠ gb251)); have n6_:=zx ((by rw [hg]; exact Nat.ne_of_gt (blk_lt (g:=gb250) (o:=.cells #[.int .i64 a0_0,.int .i64 a0_1] 101 (0,0)) (by (with_reducible repeat (first | refine blk_drewN ?_ _ | refine blk_drew ?_ | refine blk_alloc ?_ _)); exact BK250.out)) : gb251 ≠ gb250)); clear BK250; clear HB; have BK250:=n0_; have HB:=n1_; have BK251:=n2_; have GW251:=n3_; have GE251:=n4_; have NB250_251:=n5_; have NB251_250:=n6_; clear n0_ n1_ n2_ n3_ n4_ n5_ n6_; clear hb hbox hg; have hnb17:=NB250_251.out; have hnc17:=NB251_250.out; have hcz18_0 : w16.cell? ⟨gb250,0,none⟩ = some (.int .i64 a0_0):=(blk_cell BK250.out 0).trans rfl; have hcz18_1 : w16.cell? ⟨gb250,1,none⟩ = some (.int .i64 a0_1):=(blk_cell BK250.out 1).trans rfl; have hfz18_0:=blk_frozen BK250.out 0; have hfz18_1:=blk_frozen BK250.out 1; have hcz19_0 : w16.cell? ⟨gb251,0,none⟩ = some (.int .i64 a1_0):=(blk_cell BK251.out 0).trans rfl; have hcz19_1 : w16.cell? ⟨gb251,1,none⟩ = some (.int .i64 a1_1):=(blk_cell BK251.out 1).trans rfl; have hfz19_0:=blk_frozen BK251.out 0; have hfz19_1:=blk_frozen BK251.out 1))
  go_ret;exact ⟨by first | rfl | (simp [errW_none,errW_some] <;> rfl) | (simp [*,errW_none,errW_some] <;> rfl),by repeat (first | (with_reducible first | exact HB.out | apply below_alloc | apply pw_below_drewN | apply below_drew1 | refine below_set ?_ GE250.out | refine below_set ?_ GE251.out) | exact HB.out)⟩
 rw [if_pos c9] at H;have c9b0 : (a0_0 == a1_0) = true:=beq_iff_eq.mpr c9;have c9b1 : (a0_0 != a1_0) = false:=bne_eq_false_iff_eq.mpr c9;clear c9;obtain rfl:=Option.some.inj H
 go_enter Try.func81,Try.ntmps81
 go_wp2_with (first | ((with_reducible refine gate_dst (N:=2) rfl ?_); refine box_event ?hg (N:=2) ?hd (cs:=#[.int .i64 a0_0,.int .i64 a0_1]) (t:=101) ?hr ?_; (case hd => rfl); (case hg => rfl); (case hr => first | (go_simp; done) | (go_simp; rfl)); intro gb250 hg w10 hbox hb; have n0_:=zx (below_step (by repeat (first | (with_reducible first | exact HB.out | apply below_alloc | apply pw_below_drewN | apply below_drew1) | exact HB.out)) hb); have n1_:=zx (hbox); have n2_:=zx ((by rw [hg]; exact (below_size (by repeat (first | (with_reducible first | exact HB.out | apply below_alloc | apply pw_below_drewN | apply below_drew1) | exact HB.out))) : w.heap.size ≤ gb250)); have n3_:=zx ((by rw [hg]; exact (below_size (by repeat (first | (with_reducible first | exact HB.out | apply below_alloc | apply pw_below_drewN | apply below_drew1) | exact HB.out))) : w.heap.size ≤ gb250)); clear HB; have HB:=n0_; have BK250:=n1_; have GW250:=n2_; have GE250:=n3_; clear n0_ n1_ n2_ n3_; clear hb hbox hg) | ((with_reducible refine gate_dst (N:=3) rfl ?_); refine box_event ?hg (N:=3) ?hd (cs:=#[.int .i64 a1_0,.int .i64 a1_1]) (t:=101) ?hr ?_; (case hd => rfl); (case hg => rfl); (case hr => first | (go_simp; done) | (go_simp; rfl)); intro gb251 hg w11 hbox hb; have n0_:=zx (blk_below (g:=gb250) (o:=.cells #[.int .i64 a0_0,.int .i64 a0_1] 101 (0,0)) (by (with_reducible repeat (first | refine blk_drewN ?_ _ | refine blk_drew ?_ | refine blk_alloc ?_ _)); exact BK250.out) hb); have n1_:=zx (below_step (by repeat (first | (with_reducible first | exact HB.out | apply below_alloc | apply pw_below_drewN | apply below_drew1 | refine below_set ?_ GE250.out) | exact HB.out)) hb); have n2_:=zx (hbox); have n3_:=zx ((by rw [hg]; exact (below_size (by repeat (first | (with_reducible first | exact HB.out | apply below_alloc | apply pw_below_drewN | apply below_drew1 | refine below_set ?_ GE250.out) | exact HB.out))) : w.heap.size ≤ gb251)); have n4_:=zx ((by rw [hg]; exact (below_size (by repeat (first | (with_reducible first | exact HB.out | apply below_alloc | apply pw_below_drewN | apply below_drew1 | refine below_set ?_ GE250.out) | exact HB.out))) : w.heap.size ≤ gb251)); have n5_:=zx ((by rw [hg]; exact Nat.ne_of_lt (blk_lt (g:=gb250) (o:=.cells #[.int .i64 a0_0,.int .i64 a0_1] 101 (0,0)) (by (with_reducible repeat (first | refine blk_drewN ?_ _ | refine blk_drew ?_ | refine blk_alloc ?_ _)); exact BK250.out)) : gb250 ≠ gb251)); have n6_:=zx ((by rw [hg]; exact Nat.ne_of_gt (blk_lt (g:=gb250) (o:=.cells #[.int .i64 a0_0,.int .i64 a0_1] 101 (0,0)) (by (with_reducible repeat (first | refine blk_drewN ?_ _ | refine blk_drew ?_ | refine blk_alloc ?_ _)); exact BK250.out)) : gb251 ≠ gb250)); clear BK250; clear HB; have BK250:=n0_; have HB:=n1_; have BK251:=n2_; have GW251:=n3_; have GE251:=n4_; have NB250_251:=n5_; have NB251_250:=n6_; clear n0_ n1_ n2_ n3_ n4_ n5_ n6_; clear hb hbox hg; have hnb12:=NB250_251.out; have hnc12:=NB251_250.out; have hcz13_0 : w11.cell? ⟨gb250,0,none⟩ = some (.int .i64 a0_0):=(blk_cell BK250.out 0).trans rfl; have hcz13_1 : w11.cell? ⟨gb250,1,none⟩ = some (.int .i64 a0_1):=(blk_cell BK250.out 1).trans rfl; have hfz13_0:=blk_frozen BK250.out 0; have hfz13_1:=blk_frozen BK250.out 1; have hcz14_0 : w11.cell? ⟨gb251,0,none⟩ = some (.int .i64 a1_0):=(blk_cell BK251.out 0).trans rfl; have hcz14_1 : w11.cell? ⟨gb251,1,none⟩ = some (.int .i64 a1_1):=(blk_cell BK251.out 1).trans rfl; have hfz14_0:=blk_frozen BK251.out 0; have hfz14_1:=blk_frozen BK251.out 1))
 go_ret;exact ⟨by first | rfl | (simp [errW_none,errW_some] <;> rfl) | (simp [*,errW_none,errW_some] <;> rfl),by repeat (first | (with_reducible first | exact HB.out | apply below_alloc | apply pw_below_drewN | apply below_drew1 | refine below_set ?_ GE250.out | refine below_set ?_ GE251.out) | exact HB.out)⟩
end Go.Proofs.Ytmioaahiflfcdaa.Pr
end
