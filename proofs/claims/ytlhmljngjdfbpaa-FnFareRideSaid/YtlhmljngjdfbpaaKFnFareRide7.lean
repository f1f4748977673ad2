/- For the statement FnFareRide of this seat: it is proved here, with no further conditions (part 8 of its texts: words, walks of the functions, the plain law, the row). -/
import Derived.ChangeArms
import Derived.ChangeSlices
import Derived.Deep.Slices
import Derived.WideShapes
import Derived.DataReads
import Derived.Test.YtlhmljngjdfbpaaRows
import Derived.WalkKit
import Derived.ProofKit
import Derived.OpenShut
import Derived.ShutString
import Derived.ChangeOld
import Derived.Below
import Derived.SizedLaws
import Derived.Test.YtlhmljngjdfbpaaKFnFareRide6
section
namespace Go.Proofs.Ytlhmljngjdfbpaa.Pr
open Go.RowKit Go.Proofs.YtlhmljngjdfbpaaW.PrintWords Go.Proofs.YtlhmljngjdfbpaaW.PrintLast Go.Proofs.YtlhmljngjdfbpaaW.PrintMore
attribute [local go_sem] max2_int min2_int max_two min_two max_three min_three max_four min_four
set_option linter.unusedVariables false
set_option linter.unusedSimpArgs false
open List renaming setIfInBounds_toArray → U,set_cons_zero → G,set_cons_succ → V
open Go.Proofs.YtlhmljngjdfbpaaW.PrintWords.Aside0 renaming mk → Z
mutual
def laws_FnFareRide.j0 : Nat → List Int → List Int → Bool → Option (Bool)
 | 0,_,_,_ => none
 | k + 1,x0,x1,x18 => if x18 = true then (some true) else ((spec_DrawFareRide.f k x0).bind fun bt481 => ((impl_FareRide.f k bt481.1 bt481.2.1 bt481.2.2.1 bt481.2.2.2.1 bt481.2.2.2.2.1 bt481.2.2.2.2.2.1 bt481.2.2.2.2.2.2).bind fun t498 => ((spec_FareRide.f k bt481.1 bt481.2.1 bt481.2.2.1 bt481.2.2.2.1 bt481.2.2.2.2.1 bt481.2.2.2.2.2.1 bt481.2.2.2.2.2.2).bind fun t499 => (if t498 = t499 then ((impl_FareOk.f k bt481.1 bt481.2.1 bt481.2.2.1).bind fun t500 => ((spec_FareOk.f k bt481.1 bt481.2.1 bt481.2.2.1).bind fun t501 => (if (t500 != t501) = true then (laws_FnFareRide.j1 k x1 bt481.2.2.2.2.2.1 bt481.2.2.2.2.2.2 t498 true bt481.1 bt481.2.1 bt481.2.2.1 bt481.2.2.2.1 bt481.2.2.2.2.1) else (laws_FnFareRide.j1 k x1 bt481.2.2.2.2.2.1 bt481.2.2.2.2.2.2 t498 (decide (t498 < 0)) bt481.1 bt481.2.1 bt481.2.2.1 bt481.2.2.2.1 bt481.2.2.2.2.1)))) else (laws_FnFareRide.j1 k x1 bt481.2.2.2.2.2.1 bt481.2.2.2.2.2.2 t498 true bt481.1 bt481.2.1 bt481.2.2.1 bt481.2.2.2.1 bt481.2.2.2.2.1)))))
def laws_FnFareRide.j1 : Nat → List Int → List Int → List Int → Int → Bool → List Int → Int → Int → Int → List (S58) → Option (Bool)
 | 0,_,_,_,_,_,_,_,_,_,_ => none
 | k + 1,x1,x7,x8,x9,x48,x497000,x497001,x497002,x498000,x498001 => if x48 = true then ((spec_FareRide.f k x497000 x497001 x497002 x498000 x498001 x7 x8).bind fun t502 => (if x9 = t502 then ((impl_FareOk.f k x497000 x497001 x497002).bind fun t503 => ((spec_FareOk.f k x497000 x497001 x497002).bind fun t504 => (some (t503 == t504)))) else (some false))) else (if (x8.length : Int) = 0 then (none) else (if 0 ≤ (wrap64 (1 + ((x1.length : Int) % (x8.length : Int)))) then (if (wrap64 (1 + ((x1.length : Int) % (x8.length : Int)))) ≤ (x8.length : Int) then ((impl_FareRide.f k x497000 x497001 x497002 x498000 x498001 x7 (x8.take ((wrap64 (1 + ((x1.length : Int) % (x8.length : Int)))) : Int).toNat)).bind fun t509 => (if t509 ≤ x9 then (if 0 ≤ x498000 then (if (x498000 : Int).toNat ≤ 35184372088832 then ((impl_FareRide.f k x497000 x497001 x497002 x498000 x498001 (List.replicate (x498000 : Int).toNat 0) x8).bind fun t513 => (if 0 < (x497000.length : Int) then (if t513 = (rd x497000 0) then (some (decide ((rd x497000 0) ≤ x9))) else (some false)) else (none))) else (none)) else (none)) else (some false))) else (none)) else (none)))
end
def laws_FnFareRide.f (k : Nat) (l0 : List Int) (l1 : List Int) : Option (Bool):=if (l0.length : Int) > 1048576 then (laws_FnFareRide.j0 k l0 l1 true) else (laws_FnFareRide.j0 k l0 l1 (decide ((l1.length : Int) > 1048576)))
def laws_FnFareRide.T5 : Bool × List (List Nat × List Nat):=(true,[([],[]),([],[]),([],[]),([],[]),([],[]),([1,2,3,4],[1,2,3,4]),([0,5],[0,5]),([6,5],[6]),([7],[7]),([8,7,7],[7,8]),([7],[7]),([10,9,7],[7,10]),([9,11,7],[7,9,11]),([7,12],[7,12]),([13,11],[13]),([14],[14]),([15,14],[14,15]),([14,16],[14,16])])
def laws_FnFareRide.B5 : List Nat:=[0,0,0,0,0,30,63,127,255,511,255,2047,4095,8191,16383,32767,65535,131071]
theorem laws_FnFareRide.tab5 : rtab .any (opsOf Try.f4 5) = laws_FnFareRide.T5:=by kernel_rfl
theorem laws_FnFareRide.bits5 : waitsOk laws_FnFareRide.T5.2 laws_FnFareRide.B5 = true:=by kernel_rfl
def laws_FnFareRide.T6 : Bool × List (List Nat × List Nat):=(true,[([],[]),([],[]),([],[]),([],[]),([],[]),([1,2,3,4],[1,2,3,4]),([0,5],[0,5]),([6,5],[6]),([7],[7]),([8,7,7],[7,8]),([7],[7]),([10,9,7],[7,10]),([9,11,7],[7,9,11]),([7,12],[7,12]),([13,11,0,1,2,3,4,5,6,7,8,9,10,11,12,13],[13])])
def laws_FnFareRide.B6 : List Nat:=[0,0,0,0,0,30,63,127,255,511,255,2047,4095,8191,16383]
theorem laws_FnFareRide.tab6 : rtab .any (opsOf Try.f4 6) = laws_FnFareRide.T6:=by kernel_rfl
theorem laws_FnFareRide.bits6 : waitsOk laws_FnFareRide.T6.2 laws_FnFareRide.B6 = true:=by kernel_rfl
def laws_FnFareRide.T8 : Bool × List (List Nat × List Nat):=(true,[([],[]),([],[]),([],[]),([],[]),([],[]),([3,4],[3,4]),([0,1,2,5],[0,1,2,5]),([],[]),([6,7],[6,7]),([8,6],[8]),([9],[9]),([9],[9]),([9],[9]),([12,9],[9,12]),([13,13,9],[9,13]),([9],[9]),([10,11,14,15,9,9],[9,10,11,14,15]),([9],[9]),([17,9],[9,17]),([18,9],[9,18]),([19,9],[9,19]),([16,20,9],[9,16,20]),([9,21],[9,21]),([22,16],[22]),([23],[23]),([24,23],[23,24]),([25,23],[23,25]),([26,23],[23,26]),([23],[23]),([27,28,23],[23,27,28]),([23,29],[23,29]),([30,23,0,1,2,3,4,5,6,7,8,9,10,11,12,13,14,15,16,17,18,19,20,21,22,23,24,25,26,27,28,29,30],[30])])
def laws_FnFareRide.B8 : List Nat:=[0,0,0,0,0,24,63,0,255,511,1023,1023,1023,5119,13311,1023,65535,1023,132095,394239,918527,2097151,4194303,8388607,16777215,33554431,67108863,134217727,16777215,536870911,1073741823,2147483647]
theorem laws_FnFareRide.tab8 : rtab .any (opsOf Try.f4 8) = laws_FnFareRide.T8:=by kernel_rfl
theorem laws_FnFareRide.bits8 : waitsOk laws_FnFareRide.T8.2 laws_FnFareRide.B8 = true:=by kernel_rfl
set_option maxHeartbeats 8000000 in
set_option maxRecDepth 100000 in
theorem laws_FnFareRide.calls (k : Nat) (A0 : Option Addr) (c0 : Nat) (l0 : List Int) (A1 : Option Addr) (c1 : Nat) (l1 : List Int) (r : Bool) (w : World) (hr0 : Kd.C (Kd.int .u8) w A0 l0.length l0) (hc0 : l0.length ≤ c0) (hr1 : Kd.C (Kd.int .u8) w A1 l1.length l1) (hc1 : l1.length ≤ c1) (h : laws_FnFareRide.f k l0 l1 = some r) :
  Calls Try.prog 4 #[.slice A0 l0.length c0,.slice A1 l1.length c1] w fun e w' => e = .returned (.bool r) ∧ Below w.heap.size w w':=by
 have hu25:=Try.underlying25;have hu34:=Try.underlying34;have HR0:=Z hr0;have HC0:=Z hc0;clear hr0 hc0;have HR1:=Z hr1;have HC1:=Z hc1;clear hr1 hc1;have HB:=Z (Below.refl w.heap.size w);have H : (if (l0.length : Int) > 1048576 then (laws_FnFareRide.j0 k l0 l1 true) else (laws_FnFareRide.j0 k l0 l1 (decide ((l1.length : Int) > 1048576)))) = some r:=h;clear h;have HC3:=Z H;clear H
 go_enter Try.func4,Try.ntmps4
 go_upto_region 1 with (fail)
 go_cut [18] (fun v18 wc => ∃ (kq : Nat) (x18_2 : Bool),v18 = .bool x18_2 ∧ Aside0 (laws_FnFareRide.j0 kq l0 l1 x18_2 = some r) ∧ Aside0 (kq ≤ k) ∧ Aside0 (Below w.heap.size w wc))
 case first =>
  have H:=HC3.out;clear HC3
  by_cases c4 : (l0.length : Int) > 1048576
  case pos =>
   rw [if_pos c4] at H;have c4b0 : decide (1048576 < (l0.length : Int)) = true:=decide_eq_true c4;have c4b1 : decide (1048576 < l0.length) = true:=decide_eq_true (by omega);clear c4
   (first | rw [c4b0] | (simp only [i64_w,i32_w]; rw [c4b0]) | skip)
   have H':=Z H;clear H
   go_wp2
   go_meet
   case rel => exact ⟨_,(true),(by first | rfl | (simp; done) | (simp [*]; done)),H',⟨by first | omega | exact Nat.le_refl _⟩,⟨by repeat (first | (with_reducible first | exact HB.out | apply below_alloc | apply pw_below_drewN | apply below_drew1) | exact HB.out)⟩⟩
  rw [if_neg c4] at H;have c4b0 : decide (1048576 < (l0.length : Int)) = false:=decide_eq_false c4;have c4b1 : decide (1048576 < l0.length) = false:=decide_eq_false (by omega);clear c4
  (first | rw [c4b0] | (simp only [i64_w,i32_w]; rw [c4b0]) | skip)
  have H':=Z H;clear H
  go_wp2
  go_meet
  case rel => exact ⟨_,(decide ((l1.length : Int) > 1048576)),(by first | rfl | (simp; done) | (simp [*]; done)),H',⟨by first | omega | exact Nat.le_refl _⟩,⟨by repeat (first | (with_reducible first | exact HB.out | apply below_alloc | apply pw_below_drewN | apply below_drew1) | exact HB.out)⟩⟩
 case rest =>
  clear HC3
  try clear c1
  try clear p2
  try clear c4
  try clear c4b0
  try clear c4b1
  obtain ⟨kq,x18_2,rfl,HA,HJ2,HB⟩:=hcut;cases kq with
  | zero => exact absurd HA.out (by simp [laws_FnFareRide.j0])
  | succ kj2 =>
   have H:=HA.out;clear HA;simp only [laws_FnFareRide.j0] at H
   by_cases c5 : x18_2 = true
   case pos =>
    subst c5;have H1 : (some true) = some r:=by rw [if_pos rfl] at H; exact H
    clear H;have H:=H1;clear H1;obtain rfl:=Option.some.inj H
    go_wp2
    go_ret;exact ⟨by first | rfl | (simp [errW_none,errW_some] <;> rfl) | (simp [*,errW_none,errW_some] <;> rfl),by repeat (first | (with_reducible first | exact HB.out | apply below_alloc | apply pw_below_drewN | apply below_drew1) | exact HB.out)⟩
   replace c5:=Bool.eq_false_iff.mpr c5;subst c5;have H1 : ((spec_DrawFareRide.f kj2 l0).bind fun bt481 => ((impl_FareRide.f kj2 bt481.1 bt481.2.1 bt481.2.2.1 bt481.2.2.2.1 bt481.2.2.2.2.1 bt481.2.2.2.2.2.1 bt481.2.2.2.2.2.2).bind fun t498 => ((spec_FareRide.f kj2 bt481.1 bt481.2.1 bt481.2.2.1 bt481.2.2.2.1 bt481.2.2.2.2.1 bt481.2.2.2.2.2.1 bt481.2.2.2.2.2.2).bind fun t499 => (if t498 = t499 then ((impl_FareOk.f kj2 bt481.1 bt481.2.1 bt481.2.2.1).bind fun t500 => ((spec_FareOk.f kj2 bt481.1 bt481.2.1 bt481.2.2.1).bind fun t501 => (if (t500 != t501) = true then (laws_FnFareRide.j1 kj2 l1 bt481.2.2.2.2.2.1 bt481.2.2.2.2.2.2 t498 true bt481.1 bt481.2.1 bt481.2.2.1 bt481.2.2.2.1 bt481.2.2.2.2.1) else (laws_FnFareRide.j1 kj2 l1 bt481.2.2.2.2.2.1 bt481.2.2.2.2.2.2 t498 (decide (t498 < 0)) bt481.1 bt481.2.1 bt481.2.2.1 bt481.2.2.2.1 bt481.2.2.2.2.1)))) else (laws_FnFareRide.j1 kj2 l1 bt481.2.2.2.2.2.1 bt481.2.2.2.2.2.2 t498 true bt481.1 bt481.2.1 bt481.2.2.1 bt481.2.2.2.1 bt481.2.2.2.2.1))))) = some r:=by rw [if_neg (show ¬ (false = true) by decide)] at H; exact H
   clear H;have H:=H1;clear H1;replace H:=Option.bind_eq_some_iff.mp H;obtain ⟨⟨t481,t484,t485,t486,t487,t490,t493⟩,A60,H⟩:=H;replace H : ((impl_FareRide.f kj2 t481 t484 t485 t486 t487 t490 t493).bind fun t498 => ((spec_FareRide.f kj2 t481 t484 t485 t486 t487 t490 t493).bind fun t499 => (if t498 = t499 then ((impl_FareOk.f kj2 t481 t484 t485).bind fun t500 => ((spec_FareOk.f kj2 t481 t484 t485).bind fun t501 => (if (t500 != t501) = true then (laws_FnFareRide.j1 kj2 l1 t490 t493 t498 true t481 t484 t485 t486 t487) else (laws_FnFareRide.j1 kj2 l1 t490 t493 t498 (decide (t498 < 0)) t481 t484 t485 t486 t487)))) else (laws_FnFareRide.j1 kj2 l1 t490 t493 t498 true t481 t484 t485 t486 t487)))) = some r:=H;have A6:=Z A60;clear A60;replace H:=Option.bind_eq_some_iff.mp H;obtain ⟨t498,A70,H⟩:=H;replace H : ((spec_FareRide.f kj2 t481 t484 t485 t486 t487 t490 t493).bind fun t499 => (if t498 = t499 then ((impl_FareOk.f kj2 t481 t484 t485).bind fun t500 => ((spec_FareOk.f kj2 t481 t484 t485).bind fun t501 => (if (t500 != t501) = true then (laws_FnFareRide.j1 kj2 l1 t490 t493 t498 true t481 t484 t485 t486 t487) else (laws_FnFareRide.j1 kj2 l1 t490 t493 t498 (decide (t498 < 0)) t481 t484 t485 t486 t487)))) else (laws_FnFareRide.j1 kj2 l1 t490 t493 t498 true t481 t484 t485 t486 t487))) = some r:=H;have A7:=Z A70;clear A70;have HC8:=Z H;clear H
   go_upto_region 5 with (first | ((with_reducible refine gate_callee (f:=20) rfl ?_); refine goesL_ (some 21) rfl rfl Try.func20 (by kernel_rfl) rfl #[.slice A0 l0.length c0] rfl (by (try simp only [List.map_toArray,List.map_cons,List.map_nil]); first | done | rfl | (simp only [List.length_drop,List.length_take]; rfl)) ?_; (with_reducible refine (spec_DrawFareRide.calls kj2 _ _ l0 t481 t484 t485 t486 t487 t490 t493 _ ?side1 ?side2 A6.out).mono ?_); (case side1 => repeat (first | exact (Kd.C_below HR0.out HB.out) | (with_reducible refine Kd.C_alloc ?_ _) | (with_reducible refine Kd.C_drewN ?_ _) | (with_reducible refine Kd.C_drew ?_))); (case side2 => exact HC0.out); rintro e w9 ⟨v482,v488,v491,v494,rfl,ho0,ho1,ho2,ho3,hb⟩; refine ⟨_,rfl,?_⟩; have n0_:=Z (Kd.Q_lower ho0 (below_size (by repeat (first | (with_reducible first | exact HB.out | apply below_alloc | apply pw_below_drewN | apply below_drew1) | exact HB.out)))); have n1_:=Z (Kd.R_lower ho1 (below_size (by repeat (first | (with_reducible first | exact HB.out | apply below_alloc | apply pw_below_drewN | apply below_drew1) | exact HB.out)))); have n2_:=Z (Kd.R_lower ho2 (below_size (by repeat (first | (with_reducible first | exact HB.out | apply below_alloc | apply pw_below_drewN | apply below_drew1) | exact HB.out)))); have n3_:=Z (Kd.R_lower ho3 (below_size (by repeat (first | (with_reducible first | exact HB.out | apply below_alloc | apply pw_below_drewN | apply below_drew1) | exact HB.out)))); have n4_:=Z (below_step (by repeat (first | (with_reducible first | exact HB.out | apply below_alloc | apply pw_below_drewN | apply below_drew1) | exact HB.out)) hb); clear HB; have HO483:=n0_; have HO489:=n1_; have HO492:=n2_; have HO495:=n3_; have HB:=n4_; clear n0_ n1_ n2_ n3_ n4_; (try clear hb); (try clear hb2); (try clear hk); (try clear hi); (try clear ho0); (try clear ho1); (try clear ho2); (try clear ho3)) | ((with_reducible refine gate_dst (N:=5) rfl ?_); (try (refine gate_guard (by rfl) ?_; dsimp only)); refine box_event ?hg (N:=5) ?hd (cs:=#[.slice none 0 0,.int .i64 0,.int .i64 0]) (t:=25) ?hr ?_; (case hd => rfl); (case hg => rfl); (case hr => first | (go_simp; done) | (go_simp; rfl)); intro gb496 hg w10 hbox hb; have n0_:=Z (Kd.Q_below (by (with_reducible repeat (first | apply Kd.Q_alloc | apply Kd.Q_drewN | apply Kd.Q_drew)); exact HO483.out) hb); have n1_:=Z (Kd.R_below (by (with_reducible repeat (first | apply Kd.R_alloc | apply Kd.R_drewN | apply Kd.R_drew)); exact HO489.out) hb); have n2_:=Z (Kd.R_below (by (with_reducible repeat (first | apply Kd.R_alloc | apply Kd.R_drewN | apply Kd.R_drew)); exact HO492.out) hb); have n3_:=Z (Kd.R_below (by (with_reducible repeat (first | apply Kd.R_alloc | apply Kd.R_drewN | apply Kd.R_drew)); exact HO495.out) hb); have n4_:=Z (below_step (by repeat (first | (with_reducible first | exact HB.out | apply below_alloc | apply pw_below_drewN | apply below_drew1) | exact HB.out)) hb); have n5_:=Z (hbox); have n6_:=Z ((by rw [hg]; exact (below_size (by repeat (first | (with_reducible first | exact HB.out | apply below_alloc | apply pw_below_drewN | apply below_drew1) | exact HB.out))) : w.heap.size ≤ gb496)); have n7_:=Z ((by rw [hg]; exact (below_size (by repeat (first | (with_reducible first | exact HB.out | apply below_alloc | apply pw_below_drewN | apply below_drew1) | exact HB.out))) : w.heap.size ≤ gb496)); clear HO483; clear HO489; clear HO492; clear HO495; clear HB; have HO483:=n0_; have HO489:=n1_; have HO492:=n2_; have HO495:=n3_; have HB:=n4_; have BK496:=n5_; have GW496:=n6_; have GE496:=n7_; clear n0_ n1_ n2_ n3_ n4_ n5_ n6_ n7_; clear hb hbox hg) | ((with_reducible refine gate_dst (N:=6) rfl ?_); (try (refine gate_guard (by rfl) ?_; dsimp only)); refine box_event ?hg (N:=6) ?hd (cs:=#[.int .i64 0,.slice none 0 0]) (t:=34) ?hr ?_; (case hd => rfl); (case hg => rfl); (case hr => first | (go_simp; done) | (go_simp; rfl)); intro gb497 hg w11 hbox hb; have n0_:=Z (Kd.Q_below (by (with_reducible repeat (first | apply Kd.Q_alloc | apply Kd.Q_drewN | apply Kd.Q_drew)); exact HO483.out) hb); have n1_:=Z (Kd.R_below (by (with_reducible repeat (first | apply Kd.R_alloc | apply Kd.R_drewN | apply Kd.R_drew)); exact HO489.out) hb); have n2_:=Z (Kd.R_below (by (with_reducible repeat (first | apply Kd.R_alloc | apply Kd.R_drewN | apply Kd.R_drew)); exact HO492.out) hb); have n3_:=Z (Kd.R_below (by (with_reducible repeat (first | apply Kd.R_alloc | apply Kd.R_drewN | apply Kd.R_drew)); exact HO495.out) hb); have n4_:=Z (blk_below (g:=gb496) (o:=.cells #[.slice none 0 0,.int .i64 0,.int .i64 0] 25 (0,0)) (by (with_reducible repeat (first | refine blk_drewN ?_ _ | refine blk_drew ?_ | refine blk_alloc ?_ _)); exact BK496.out) hb); have n5_:=Z (below_step (by repeat (first | (with_reducible first | exact HB.out | apply below_alloc | apply pw_below_drewN | apply below_drew1 | refine below_set ?_ GE496.out) | exact HB.out)) hb); have n6_:=Z (hbox); have n7_:=Z ((by rw [hg]; exact (below_size (by repeat (first | (with_reducible first | exact HB.out | apply below_alloc | apply pw_below_drewN | apply below_drew1 | refine below_set ?_ GE496.out) | exact HB.out))) : w.heap.size ≤ gb497)); have n8_:=Z ((by rw [hg]; exact (below_size (by repeat (first | (with_reducible first | exact HB.out | apply below_alloc | apply pw_below_drewN | apply below_drew1 | refine below_set ?_ GE496.out) | exact HB.out))) : w.heap.size ≤ gb497)); have n9_:=Z ((by rw [hg]; exact Nat.ne_of_lt (blk_lt (g:=gb496) (o:=.cells #[.slice none 0 0,.int .i64 0,.int .i64 0] 25 (0,0)) (by (with_reducible repeat (first | refine blk_drewN ?_ _ | refine blk_drew ?_ | refine blk_alloc ?_ _)); exact BK496.out)) : gb496 ≠ gb497)); have n10_:=Z ((by rw [hg]; exact Nat.ne_of_gt (blk_lt (g:=gb496) (o:=.cells #[.slice none 0 0,.int .i64 0,.int .i64 0] 25 (0,0)) (by (with_reducible repeat (first | refine blk_drewN ?_ _ | refine blk_drew ?_ | refine blk_alloc ?_ _)); exact BK496.out)) : gb497 ≠ gb496)); clear HO483; clear HO489; clear HO492; clear HO495; clear BK496; clear HB; have HO483:=n0_; have HO489:=n1_; have HO492:=n2_; have HO495:=n3_; have BK496:=n4_; have HB:=n5_; have BK497:=n6_; have GW497:=n7_; have GE497:=n8_; have NB496_497:=n9_; have NB497_496:=n10_; clear n0_ n1_ n2_ n3_ n4_ n5_ n6_ n7_ n8_ n9_ n10_; clear hb hbox hg; obtain ⟨Ao12,co12,eo12,_⟩:=Kd.Q_slice HO483.out; subst eo12; have hnb13:=NB496_497.out; have hnc13:=NB497_496.out; have hcz14_0 : w11.cell? ⟨gb496,0,none⟩ = some (.slice none 0 0):=(blk_cell BK496.out 0).trans rfl; have hcz14_1 : w11.cell? ⟨gb496,1,none⟩ = some (.int .i64 0):=(blk_cell BK496.out 1).trans rfl; have hcz14_2 : w11.cell? ⟨gb496,2,none⟩ = some (.int .i64 0):=(blk_cell BK496.out 2).trans rfl; have hfz14_0:=blk_frozen BK496.out 0; have hfz14_1:=blk_frozen BK496.out 1; have hfz14_2:=blk_frozen BK496.out 2; have hcz15_0 : w11.cell? ⟨gb497,0,none⟩ = some (.int .i64 0):=(blk_cell BK497.out 0).trans rfl; have hcz15_1 : w11.cell? ⟨gb497,1,none⟩ = some (.slice none 0 0):=(blk_cell BK497.out 1).trans rfl; have hfz15_0:=blk_frozen BK497.out 0; have hfz15_1:=blk_frozen BK497.out 1; obtain ⟨Ao16,co16,eo16⟩:=Kd.R_slice HO489.out; subst eo16; obtain ⟨Ao17,co17,eo17⟩:=Kd.R_slice HO492.out; subst eo17; obtain ⟨Ao18,co18,eo18⟩:=Kd.R_slice HO495.out; subst eo18) | ((with_reducible refine gate_callee (f:=21) rfl ?_); refine goesL_ (some 30) rfl rfl Try.func21 (by kernel_rfl) rfl #[.agg #[.slice Ao12 t481.length co12,.int .i64 t484,.int .i64 t485],.agg #[.int .i64 t486,.slice Ao16 t487.length co16],.slice Ao17 t490.length co17,.slice Ao18 t493.length co18] rfl (by (try simp only [List.map_toArray,List.map_cons,List.map_nil]); first | done | rfl | (simp only [List.length_drop,List.length_take]; rfl)) ?_; (with_reducible refine (impl_FareRide.calls kj2 _ _ t481 t484 t485 t486 _ _ t487 _ _ t490 _ _ t493 t498 _ ?side1 ?side2 ?side3 ?side4 ?side5 ?side6 ?side7 ?side8 A7.out).mono ?_); (case side1 => refine (Kd.Q_reads' (e:=3) (base:=w.heap.size) (ok:=fun k_ => (some k_ ≠ (.slice Ao17 t490.length co17 : Value).ownBlock ∧ some k_ ≠ (.slice Ao18 t493.length co18 : Value).ownBlock)) (n:=t481.length) (c:=co12) ?_).2.2; exact (by (with_reducible repeat (first | apply Kd.Q_alloc | apply Kd.Q_drewN | apply Kd.Q_drew)); exact (Kd.Q_mono (Kd.Q_mono (Kd.Q_far (p:=⟨gb497,1,none⟩) (Kd.Q_far (p:=⟨gb497,0,none⟩) (Kd.Q_far (p:=⟨gb496,2,none⟩) (Kd.Q_far (p:=⟨gb496,1,none⟩) (Kd.Q_far (p:=⟨gb496,0,none⟩) (Kd.Q_types (Kd.Q_types HO483.out BK496.out (by decide)) BK497.out (by decide)) (fun _ hk => hk.1.2) (.slice Ao12 t481.length co12)) (fun _ hk => hk.1.2) (.int .i64 t484)) (fun _ hk => hk.1.2) (.int .i64 t485)) (fun _ hk => hk.2) (.int .i64 t486)) (fun _ hk => hk.2) (.slice Ao16 t487.length co16)) (fun _ h_ => h_.1)) (fun _ h_ => h_.1)))); (case side2 => exact (Kd.Q_reads' HO483.out).2.1); (case side3 => refine (Kd.R_reads' (e:=58) (base:=w.heap.size) (ok:=fun k_ => True) (n:=t487.length) (c:=co16) ?_).2.2; exact (by (with_reducible repeat (first | apply Kd.R_alloc | apply Kd.R_drewN | apply Kd.R_drew)); exact (Kd.R_mono (Kd.R_mono (Kd.R_far (p:=⟨gb497,1,none⟩) (Kd.R_far (p:=⟨gb497,0,none⟩) (Kd.R_far (p:=⟨gb496,2,none⟩) (Kd.R_far (p:=⟨gb496,1,none⟩) (Kd.R_far (p:=⟨gb496,0,none⟩) (Kd.R_types (Kd.R_types HO489.out BK496.out (by decide)) BK497.out (by decide)) (fun _ hk => hk.1.2) (.slice Ao12 t481.length co12)) (fun _ hk => hk.1.2) (.int .i64 t484)) (fun _ hk => hk.1.2) (.int .i64 t485)) (fun _ hk => hk.2) (.int .i64 t486)) (fun _ hk => hk.2) (.slice Ao16 t487.length co16)) (fun _ h_ => h_.1)) (fun _ h_ => h_.1)))); (case side4 => exact (Kd.R_reads' HO489.out).2.1); (case side5 => refine (Kd.R_reads' (e:=3) (base:=w.heap.size) (ok:=fun k_ => (some k_ ≠ (.slice Ao12 t481.length co12 : Value).ownBlock ∧ some k_ ≠ (.slice Ao18 t493.length co18 : Value).ownBlock)) (n:=t490.length) (c:=co17) ?_).2.2; exact (by (with_reducible repeat (first | apply Kd.R_alloc | apply Kd.R_drewN | apply Kd.R_drew)); exact (Kd.R_mono (Kd.R_mono (Kd.R_far (p:=⟨gb497,1,none⟩) (Kd.R_far (p:=⟨gb497,0,none⟩) (Kd.R_far (p:=⟨gb496,2,none⟩) (Kd.R_far (p:=⟨gb496,1,none⟩) (Kd.R_far (p:=⟨gb496,0,none⟩) (Kd.R_types (Kd.R_types HO492.out BK496.out (by decide)) BK497.out (by decide)) (fun _ hk => hk.1.2) (.slice Ao12 t481.length co12)) (fun _ hk => hk.1.2) (.int .i64 t484)) (fun _ hk => hk.1.2) (.int .i64 t485)) (fun _ hk => hk.2) (.int .i64 t486)) (fun _ hk => hk.2) (.slice Ao16 t487.length co16)) (fun _ h_ => h_.1)) (fun _ h_ => h_.1)))); (case side6 => exact (Kd.R_reads' HO492.out).2.1); (case side7 => refine (Kd.R_reads' (e:=3) (base:=w.heap.size) (ok:=fun k_ => (some k_ ≠ (.slice Ao12 t481.length co12 : Value).ownBlock ∧ some k_ ≠ (.slice Ao17 t490.length co17 : Value).ownBlock)) (n:=t493.length) (c:=co18) ?_).2.2; exact (by (with_reducible repeat (first | apply Kd.R_alloc | apply Kd.R_drewN | apply Kd.R_drew)); exact (Kd.R_mono (Kd.R_mono (Kd.R_far (p:=⟨gb497,1,none⟩) (Kd.R_far (p:=⟨gb497,0,none⟩) (Kd.R_far (p:=⟨gb496,2,none⟩) (Kd.R_far (p:=⟨gb496,1,none⟩) (Kd.R_far (p:=⟨gb496,0,none⟩) (Kd.R_types (Kd.R_types HO495.out BK496.out (by decide)) BK497.out (by decide)) (fun _ hk => hk.1.2) (.slice Ao12 t481.length co12)) (fun _ hk => hk.1.2) (.int .i64 t484)) (fun _ hk => hk.1.2) (.int .i64 t485)) (fun _ hk => hk.2) (.int .i64 t486)) (fun _ hk => hk.2) (.slice Ao16 t487.length co16)) (fun _ h_ => h_.1)) (fun _ h_ => h_.1)))); (case side8 => exact (Kd.R_reads' HO495.out).2.1); rintro e w19 ⟨rfl,hb⟩; refine ⟨_,rfl,?_⟩; have n0_:=Z (Kd.Q_below (by (with_reducible repeat (first | apply Kd.Q_alloc | apply Kd.Q_drewN | apply Kd.Q_drew)); exact (Kd.Q_mono (Kd.Q_mono (Kd.Q_far (p:=⟨gb497,1,none⟩) (Kd.Q_far (p:=⟨gb497,0,none⟩) (Kd.Q_far (p:=⟨gb496,2,none⟩) (Kd.Q_far (p:=⟨gb496,1,none⟩) (Kd.Q_far (p:=⟨gb496,0,none⟩) (Kd.Q_types (Kd.Q_types HO483.out BK496.out (by decide)) BK497.out (by decide)) (fun _ hk => hk.1.2) (.slice Ao12 t481.length co12)) (fun _ hk => hk.1.2) (.int .i64 t484)) (fun _ hk => hk.1.2) (.int .i64 t485)) (fun _ hk => hk.2) (.int .i64 t486)) (fun _ hk => hk.2) (.slice Ao16 t487.length co16)) (fun _ h_ => h_.1)) (fun _ h_ => h_.1))) hb); have n1_:=Z (Kd.R_below (by (with_reducible repeat (first | apply Kd.R_alloc | apply Kd.R_drewN | apply Kd.R_drew)); exact (Kd.R_mono (Kd.R_mono (Kd.R_far (p:=⟨gb497,1,none⟩) (Kd.R_far (p:=⟨gb497,0,none⟩) (Kd.R_far (p:=⟨gb496,2,none⟩) (Kd.R_far (p:=⟨gb496,1,none⟩) (Kd.R_far (p:=⟨gb496,0,none⟩) (Kd.R_types (Kd.R_types HO489.out BK496.out (by decide)) BK497.out (by decide)) (fun _ hk => hk.1.2) (.slice Ao12 t481.length co12)) (fun _ hk => hk.1.2) (.int .i64 t484)) (fun _ hk => hk.1.2) (.int .i64 t485)) (fun _ hk => hk.2) (.int .i64 t486)) (fun _ hk => hk.2) (.slice Ao16 t487.length co16)) (fun _ h_ => h_.1)) (fun _ h_ => h_.1))) hb); have n2_:=Z (Kd.R_below (by (with_reducible repeat (first | apply Kd.R_alloc | apply Kd.R_drewN | apply Kd.R_drew)); exact (Kd.R_mono (Kd.R_mono (Kd.R_far (p:=⟨gb497,1,none⟩) (Kd.R_far (p:=⟨gb497,0,none⟩) (Kd.R_far (p:=⟨gb496,2,none⟩) (Kd.R_far (p:=⟨gb496,1,none⟩) (Kd.R_far (p:=⟨gb496,0,none⟩) (Kd.R_types (Kd.R_types HO492.out BK496.out (by decide)) BK497.out (by decide)) (fun _ hk => hk.1.2) (.slice Ao12 t481.length co12)) (fun _ hk => hk.1.2) (.int .i64 t484)) (fun _ hk => hk.1.2) (.int .i64 t485)) (fun _ hk => hk.2) (.int .i64 t486)) (fun _ hk => hk.2) (.slice Ao16 t487.length co16)) (fun _ h_ => h_.1)) (fun _ h_ => h_.1))) hb); have n3_:=Z (Kd.R_below (by (with_reducible repeat (first | apply Kd.R_alloc | apply Kd.R_drewN | apply Kd.R_drew)); exact (Kd.R_mono (Kd.R_mono (Kd.R_far (p:=⟨gb497,1,none⟩) (Kd.R_far (p:=⟨gb497,0,none⟩) (Kd.R_far (p:=⟨gb496,2,none⟩) (Kd.R_far (p:=⟨gb496,1,none⟩) (Kd.R_far (p:=⟨gb496,0,none⟩) (Kd.R_types (Kd.R_types HO495.out BK496.out (by decide)) BK497.out (by decide)) (fun _ hk => hk.1.2) (.slice Ao12 t481.length co12)) (fun _ hk => hk.1.2) (.int .i64 t484)) (fun _ hk => hk.1.2) (.int .i64 t485)) (fun _ hk => hk.2) (.int .i64 t486)) (fun _ hk => hk.2) (.slice Ao16 t487.length co16)) (fun _ h_ => h_.1)) (fun _ h_ => h_.1))) hb); have n4_:=Z (blk_below (g:=gb496) (o:=.cells #[.slice Ao12 t481.length co12,.int .i64 t484,.int .i64 t485] 25 (0,0)) (by (with_reducible repeat (first | refine blk_drewN ?_ _ | refine blk_drew ?_ | refine blk_alloc ?_ _)); refine blk_far ?_ NB496_497.out _; (with_reducible repeat (first | refine blk_drewN ?_ _ | refine blk_drew ?_ | refine blk_alloc ?_ _)); refine blk_far ?_ NB496_497.out _; (with_reducible repeat (first | refine blk_drewN ?_ _ | refine blk_drew ?_ | refine blk_alloc ?_ _)); refine blk_put (cs:=#[.slice Ao12 t481.length co12,.int .i64 t484,.int .i64 0]) ?_ 2 _ rfl; (with_reducible repeat (first | refine blk_drewN ?_ _ | refine blk_drew ?_ | refine blk_alloc ?_ _)); refine blk_put (cs:=#[.slice Ao12 t481.length co12,.int .i64 0,.int .i64 0]) ?_ 1 _ rfl; (with_reducible repeat (first | refine blk_drewN ?_ _ | refine blk_drew ?_ | refine blk_alloc ?_ _)); refine blk_put (cs:=#[.slice none 0 0,.int .i64 0,.int .i64 0]) ?_ 0 _ rfl; (with_reducible repeat (first | refine blk_drewN ?_ _ | refine blk_drew ?_ | refine blk_alloc ?_ _)); exact BK496.out) hb); have n5_:=Z (blk_below (g:=gb497) (o:=.cells #[.int .i64 t486,.slice Ao16 t487.length co16] 34 (0,0)) (by (with_reducible repeat (first | refine blk_drewN ?_ _ | refine blk_drew ?_ | refine blk_alloc ?_ _)); refine blk_put (cs:=#[.int .i64 t486,.slice none 0 0]) ?_ 1 _ rfl; (with_reducible repeat (first | refine blk_drewN ?_ _ | refine blk_drew ?_ | refine blk_alloc ?_ _)); refine blk_put (cs:=#[.int .i64 0,.slice none 0 0]) ?_ 0 _ rfl; (with_reducible repeat (first | refine blk_drewN ?_ _ | refine blk_drew ?_ | refine blk_alloc ?_ _)); refine blk_far ?_ NB497_496.out _; (with_reducible repeat (first | refine blk_drewN ?_ _ | refine blk_drew ?_ | refine blk_alloc ?_ _)); refine blk_far ?_ NB497_496.out _; (with_reducible repeat (first | refine blk_drewN ?_ _ | refine blk_drew ?_ | refine blk_alloc ?_ _)); refine blk_far ?_ NB497_496.out _; (with_reducible repeat (first | refine blk_drewN ?_ _ | refine blk_drew ?_ | refine blk_alloc ?_ _)); exact BK497.out) hb); have n6_:=Z (below_step (by repeat (first | (with_reducible first | exact HB.out | apply below_alloc | apply pw_below_drewN | apply below_drew1 | refine below_set ?_ GE496.out | refine below_set ?_ GE497.out) | exact HB.out)) hb); clear HO483; clear HO489; clear HO492; clear HO495; clear BK496; clear BK497; clear HB; have HO483:=n0_; have HO489:=n1_; have HO492:=n2_; have HO495:=n3_; have BK496:=n4_; have BK497:=n5_; have HB:=n6_; clear n0_ n1_ n2_ n3_ n4_ n5_ n6_; (try clear hb); (try clear hb2); (try clear hk); (try clear hi)))
   (try simp only [Act.put,U,G,V])
   go_cut [48] (fun v48 wc => ∃ (kq : Nat) (x48_7 : Bool),v48 = .bool x48_7 ∧ Aside0 (laws_FnFareRide.j1 kq l1 t490 t493 t498 x48_7 t481 t484 t485 t486 t487 = some r) ∧ Aside0 (kq ≤ kj2) ∧ Aside0 (Kd.R (Kd.int .i64) 3 wc w.heap.size (fun k_ => some k_ ≠ ((.slice Ao18 t493.length co18) : Value).ownBlock ∧ some k_ ≠ ((.slice Ao12 t481.length co12) : Value).ownBlock) (.slice Ao17 t490.length co17) t490) ∧ Aside0 (Kd.R (Kd.int .i64) 3 wc w.heap.size (fun k_ => some k_ ≠ ((.slice Ao17 t490.length co17) : Value).ownBlock ∧ some k_ ≠ ((.slice Ao12 t481.length co12) : Value).ownBlock) (.slice Ao18 t493.length co18) t493) ∧ Aside0 (Kd.Q (Kd.int .i64) 3 wc w.heap.size (fun k_ => some k_ ≠ ((.slice Ao17 t490.length co17) : Value).ownBlock ∧ some k_ ≠ ((.slice Ao18 t493.length co18) : Value).ownBlock) (.slice Ao12 t481.length co12) t481) ∧ Aside0 (Kd.R k58 58 wc w.heap.size (fun _ => True) (.slice Ao16 t487.length co16) t487) ∧ Aside0 (wc.heap[gb496]? = some (.cells #[(.slice Ao12 t481.length co12),.int .i64 t484,.int .i64 t485] 25 (0,0))) ∧ Aside0 (wc.heap[gb497]? = some (.cells #[.int .i64 t486,(.slice Ao16 t487.length co16)] 34 (0,0))) ∧ Aside0 (Below w.heap.size w wc))
   case first =>
    have H:=HC8.out;clear HC8;replace H:=Option.bind_eq_some_iff.mp H;obtain ⟨t499,A200,H⟩:=H;replace H : (if t498 = t499 then ((impl_FareOk.f kj2 t481 t484 t485).bind fun t500 => ((spec_FareOk.f kj2 t481 t484 t485).bind fun t501 => (if (t500 != t501) = true then (laws_FnFareRide.j1 kj2 l1 t490 t493 t498 true t481 t484 t485 t486 t487) else (laws_FnFareRide.j1 kj2 l1 t490 t493 t498 (decide (t498 < 0)) t481 t484 t485 t486 t487)))) else (laws_FnFareRide.j1 kj2 l1 t490 t493 t498 true t481 t484 t485 t486 t487)) = some r:=H;have A20:=Z A200;clear A200
    by_cases c21 : t498 = t499
    case neg =>
     rw [if_neg c21] at H;have c21b0 : (t498 == t499) = false:=beq_eq_false_iff_ne.mpr c21;have c21b1 : (t498 != t499) = true:=bne_iff_ne.mpr c21
     (first | rw [c21b0] | (simp only [i64_w,i32_w]; rw [c21b0]) | skip)
     have H':=Z H;clear H
     try go_wp2
     have n0_:=Z (Kd.Q_drew HO483.out);have n1_:=Z (Kd.R_drew HO489.out);have n2_:=Z (Kd.R_drew HO492.out);have n3_:=Z (Kd.R_drew HO495.out);have n4_:=Z (blk_drew BK496.out);have n5_:=Z (blk_drew BK497.out);have n6_:=Z (below_drew1 HB.out);clear HO483;clear HO489;clear HO492;clear HO495;clear BK496;clear BK497;clear HB;have HO483:=n0_;have HO489:=n1_;have HO492:=n2_;have HO495:=n3_;have BK496:=n4_;have BK497:=n5_;have HB:=n6_;clear n0_ n1_ n2_ n3_ n4_ n5_ n6_;refine start_ (n:=18) (S:=fun w' => w'.cell? ⟨gb496,0,none⟩ = some (.slice Ao12 t481.length co12) ∧ w'.cell? ⟨gb496,1,none⟩ = some (.int .i64 t484) ∧ w'.cell? ⟨gb496,2,none⟩ = some (.int .i64 t485) ∧ w'.cell? ⟨gb497,0,none⟩ = some (.int .i64 t486) ∧ w'.cell? ⟨gb497,1,none⟩ = some (.slice Ao16 t487.length co16)) (ds:=[]) #[false,false,false,false,false,false,false,false,false,false,false,false,false,false,false,false,false,false] (by kernel_rfl) rfl rfl ⟨(blk_cell BK496.out 0).trans rfl,(blk_cell BK496.out 1).trans rfl,(blk_cell BK496.out 2).trans rfl,(blk_cell BK497.out 0).trans rfl,(blk_cell BK497.out 1).trans rfl⟩ (fun hHeld => ?_); refine with_tabW laws_FnFareRide.tab5 laws_FnFareRide.bits5 (fun HT_ HW_ => ?_);generalize w19.drew = w33 at HO483 HO489 HO492 HO495 BK496 BK497 HB hHeld ⊢;refine pure_ (i:=0) (N:=some 31) (v:=?_) (a':=?_) #[true,false,false,false,false,false,false,false,false,false,false,false,false,false,false,false,false,false] rfl rfl (any_of HT_.out (by kernel_rfl)) (fun _ _ _ h => h) (Or.inl ⟨by rfl,?_⟩) ?_ ?_;rotate_left
     ·intro w';go_simp;with_reducible rfl
     rotate_left
     ·simp only [Act.put,U,G,V,i64_w,i32_w];rfl
     refine pure_ (i:=3) (N:=some 34) (v:=?_) (a':=?_) #[true,false,false,true,false,false,false,false,false,false,false,false,false,false,false,false,false,false] rfl rfl (any_of HT_.out (by kernel_rfl)) (fun _ _ _ h => h) (Or.inl ⟨by rfl,?_⟩) ?_ ?_;rotate_left
     ·intro w';go_simp;with_reducible rfl
     rotate_left
     ·simp only [Act.put,U,G,V,i64_w,i32_w];rfl
     refine pure_ (i:=4) (N:=some 35) (v:=?_) (a':=?_) #[true,false,false,true,true,false,false,false,false,false,false,false,false,false,false,false,false,false] rfl rfl (any_of HT_.out (by kernel_rfl)) (fun _ _ _ h => h) (Or.inl ⟨by rfl,?_⟩) ?_ ?_;rotate_left
     ·intro w';go_simp;with_reducible rfl
     rotate_left
     ·simp only [Act.put,U,G,V,i64_w,i32_w];rfl
     refine take_ (i:=1) (N:=some 32) (v:=?_) (a':=?_) #[true,true,false,true,true,false,false,false,false,false,false,false,false,false,false,false,false,false] rfl rfl (take_ofW HT_.out HW_.out (by kernel_rfl)) (fun _ _ _ h => h) (Or.inl ⟨by rfl,?_⟩) hHeld ?_ ?_;rotate_left
     ·rintro w' ⟨s0,s1,s2,s3,s4⟩;go_simp;with_reducible rfl
     rotate_left
     ·simp only [Act.put,U,G,V,i64_w,i32_w];rfl
     refine take_ (i:=2) (N:=some 33) (v:=?_) (a':=?_) #[true,true,true,true,true,false,false,false,false,false,false,false,false,false,false,false,false,false] rfl rfl (take_ofW HT_.out HW_.out (by kernel_rfl)) (fun _ _ _ h => h) (Or.inl ⟨by rfl,?_⟩) hHeld ?_ ?_;rotate_left
     ·rintro w' ⟨s0,s1,s2,s3,s4⟩;go_simp;with_reducible rfl
     rotate_left
     ·simp only [Act.put,U,G,V,i64_w,i32_w];rfl
     refine one_ (i:=5) (N:=some 36) #[true,true,true,true,true,true,false,false,false,false,false,false,false,false,false,false,false,false] rfl rfl (one_of HT_.out (by kernel_rfl)) (by decide) (fun K hK => ?_);refine goes_ Try.func22 (by kernel_rfl) rfl #[.agg #[.slice Ao12 t481.length co12,.int .i64 t484,.int .i64 t485],.agg #[.int .i64 t486,.slice Ao16 t487.length co16],.slice Ao17 t490.length co17,.slice Ao18 t493.length co18] (by rfl) rfl rfl (by (try simp only [List.map_toArray,List.map_cons,List.map_nil]); first | done | rfl | (simp only [List.length_drop,List.length_take]; rfl)) ?_;with_reducible refine (spec_FareRide.calls kj2 _ _ t481 t484 t485 t486 _ _ t487 _ _ t490 _ _ t493 t499 _ ?side1 ?side2 ?side3 ?side4 ?side5 ?side6 ?side7 ?side8 A20.out).mono ?_
     (case side1 => repeat (first | exact (Kd.Q_reads' HO483.out).2.2 | (with_reducible refine Kd.C_alloc ?_ _) | (with_reducible refine Kd.C_drewN ?_ _) | (with_reducible refine Kd.C_drew ?_)))
     (case side2 => exact (Kd.Q_reads' HO483.out).2.1)
     (case side3 => repeat (first | exact (Kd.R_reads' HO489.out).2.2 | (with_reducible refine Kd.C_alloc ?_ _) | (with_reducible refine Kd.C_drewN ?_ _) | (with_reducible refine Kd.C_drew ?_)))
     (case side4 => exact (Kd.R_reads' HO489.out).2.1)
     (case side5 => repeat (first | exact (Kd.R_reads' HO492.out).2.2 | (with_reducible refine Kd.C_alloc ?_ _) | (with_reducible refine Kd.C_drewN ?_ _) | (with_reducible refine Kd.C_drew ?_)))
     (case side6 => exact (Kd.R_reads' HO492.out).2.1)
     (case side7 => repeat (first | exact (Kd.R_reads' HO495.out).2.2 | (with_reducible refine Kd.C_alloc ?_ _) | (with_reducible refine Kd.C_drewN ?_ _) | (with_reducible refine Kd.C_drew ?_)))
     (case side8 => exact (Kd.R_reads' HO495.out).2.1)
     rintro e w34 ⟨rfl,hb⟩;refine ⟨_,rfl,?_⟩;have n0_:=Z (Kd.Q_below (by (with_reducible repeat (first | apply Kd.Q_alloc | apply Kd.Q_drewN | apply Kd.Q_drew)); exact HO483.out) hb);have n1_:=Z (Kd.R_below (by (with_reducible repeat (first | apply Kd.R_alloc | apply Kd.R_drewN | apply Kd.R_drew)); exact HO489.out) hb);have n2_:=Z (Kd.R_below (by (with_reducible repeat (first | apply Kd.R_alloc | apply Kd.R_drewN | apply Kd.R_drew)); exact HO492.out) hb);have n3_:=Z (Kd.R_below (by (with_reducible repeat (first | apply Kd.R_alloc | apply Kd.R_drewN | apply Kd.R_drew)); exact HO495.out) hb);have n4_:=Z (blk_below (g:=gb496) (o:=.cells #[.slice Ao12 t481.length co12,.int .i64 t484,.int .i64 t485] 25 (0,0)) (by (with_reducible repeat (first | refine blk_drewN ?_ _ | refine blk_drew ?_ | refine blk_alloc ?_ _)); exact BK496.out) hb);have n5_:=Z (blk_below (g:=gb497) (o:=.cells #[.int .i64 t486,.slice Ao16 t487.length co16] 34 (0,0)) (by (with_reducible repeat (first | refine blk_drewN ?_ _ | refine blk_drew ?_ | refine blk_alloc ?_ _)); exact BK497.out) hb);have n6_:=Z (below_step (by repeat (first | (with_reducible first | exact HB.out | apply below_alloc | apply pw_below_drewN | apply below_drew1 | refine below_set ?_ GE496.out | refine below_set ?_ GE497.out) | exact HB.out)) hb);clear HO483;clear HO489;clear HO492;clear HO495;clear BK496;clear BK497;clear HB;have HO483:=n0_;have HO489:=n1_;have HO492:=n2_;have HO495:=n3_;have BK496:=n4_;have BK497:=n5_;have HB:=n6_;clear n0_ n1_ n2_ n3_ n4_ n5_ n6_
     (try clear hb)
     (try clear hb2)
     (try clear hk)
     (try clear hi)
     refine hK.out _ _ ⟨(blk_cell BK496.out 0).trans rfl,(blk_cell BK496.out 1).trans rfl,(blk_cell BK496.out 2).trans rfl,(blk_cell BK497.out 0).trans rfl,(blk_cell BK497.out 1).trans rfl⟩ (fun hHeld => ?_);clear hK K;refine norm_ (a':=?_) ?_ ?_;rotate_left
     ·show Act.put _ (some 36) _ = _
      simp only [Act.put,U,G,V,i64_w,i32_w];rfl
     refine pure_ (i:=6) (N:=some 37) (v:=?_) (a':=?_) #[true,true,true,true,true,true,true,false,false,false,false,false,false,false,false,false,false,false] rfl rfl (any_of HT_.out (by kernel_rfl)) (fun _ _ _ h => h) (Or.inl ⟨by rfl,?_⟩) ?_ ?_;rotate_left
     ·intro w';go_simp;with_reducible rfl
     rotate_left
     ·simp only [Act.put,U,G,V,i64_w,i32_w];rfl
     refine pure_ (i:=7) (N:=some 38) (v:=?_) (a':=?_) #[true,true,true,true,true,true,true,true,false,false,false,false,false,false,false,false,false,false] rfl rfl (any_of HT_.out (by kernel_rfl)) (fun _ _ _ h => h) (Or.inl ⟨by rfl,?_⟩) ?_ ?_;rotate_left
     ·intro w';go_simp;with_reducible rfl
     rotate_left
     ·simp only [Act.put,U,G,V,i64_w,i32_w];rfl
     refine pure_ (i:=8) (N:=some 39) (v:=undef) (a':=?_) #[true,true,true,true,true,true,true,true,true,false,false,false,false,false,false,false,false,false] rfl rfl (any_of HT_.out (by kernel_rfl)) (fun _ _ _ h => h) (Or.inr ⟨by rfl,rfl⟩) ?_ ?_;rotate_left
     ·simp only [Act.put,U,G,V,i64_w,i32_w];rfl
     refine pure_ (i:=9) (N:=some 40) (v:=undef) (a':=?_) #[true,true,true,true,true,true,true,true,true,true,false,false,false,false,false,false,false,false] rfl rfl (any_of HT_.out (by kernel_rfl)) (fun _ _ _ h => h) (Or.inr ⟨by rfl,rfl⟩) ?_ ?_;rotate_left
     ·simp only [Act.put,U,G,V,i64_w,i32_w];rfl
     refine pure_ (i:=10) (N:=some 41) (v:=undef) (a':=?_) #[true,true,true,true,true,true,true,true,true,true,true,false,false,false,false,false,false,false] rfl rfl (any_of HT_.out (by kernel_rfl)) (fun _ _ _ h => h) (Or.inr ⟨by rfl,rfl⟩) ?_ ?_;rotate_left
     ·simp only [Act.put,U,G,V,i64_w,i32_w];rfl
     refine pure_ (i:=11) (N:=some 42) (v:=undef) (a':=?_) #[true,true,true,true,true,true,true,true,true,true,true,true,false,false,false,false,false,false] rfl rfl (any_of HT_.out (by kernel_rfl)) (fun _ _ _ h => h) (Or.inr ⟨by rfl,rfl⟩) ?_ ?_;rotate_left
     ·simp only [Act.put,U,G,V,i64_w,i32_w];rfl
     refine pure_ (i:=12) (N:=some 43) (v:=undef) (a':=?_) #[true,true,true,true,true,true,true,true,true,true,true,true,true,false,false,false,false,false] rfl rfl (any_of HT_.out (by kernel_rfl)) (fun _ _ _ h => h) (Or.inr ⟨by rfl,rfl⟩) ?_ ?_;rotate_left
     ·simp only [Act.put,U,G,V,i64_w,i32_w];rfl
     refine pure_ (i:=13) (N:=some 44) (v:=?_) (a':=?_) #[true,true,true,true,true,true,true,true,true,true,true,true,true,true,false,false,false,false] rfl rfl (any_of HT_.out (by kernel_rfl)) (fun _ _ _ h => h) (Or.inl ⟨by rfl,?_⟩) ?_ ?_;rotate_left
     ·intro w';go_simp;with_reducible rfl
     rotate_left
     ·simp only [Act.put,U,G,V,i64_w,i32_w];rfl
     refine pure_ (i:=14) (N:=some 45) (v:=?_) (a':=?_) #[true,true,true,true,true,true,true,true,true,true,true,true,true,true,true,false,false,false] rfl rfl (any_of HT_.out (by kernel_rfl)) (fun _ _ _ h => h) (Or.inl ⟨by rfl,?_⟩) ?_ ?_;rotate_left
     ·intro w';go_simp;with_reducible rfl
     rotate_left
     ·simp only [Act.put,U,G,V,i64_w,i32_w];rfl
     refine pure_ (i:=15) (N:=some 46) (v:=undef) (a':=?_) #[true,true,true,true,true,true,true,true,true,true,true,true,true,true,true,true,false,false] rfl rfl (any_of HT_.out (by kernel_rfl)) (fun _ _ _ h => h) (Or.inr ⟨by rfl,rfl⟩) ?_ ?_;rotate_left
     ·simp only [Act.put,U,G,V,i64_w,i32_w];rfl
     refine pure_ (i:=16) (N:=some 47) (v:=undef) (a':=?_) #[true,true,true,true,true,true,true,true,true,true,true,true,true,true,true,true,true,false] rfl rfl (any_of HT_.out (by kernel_rfl)) (fun _ _ _ h => h) (Or.inr ⟨by rfl,rfl⟩) ?_ ?_;rotate_left
     ·simp only [Act.put,U,G,V,i64_w,i32_w];rfl
     refine pure_ (i:=17) (N:=some 48) (v:=?_) (a':=?_) #[true,true,true,true,true,true,true,true,true,true,true,true,true,true,true,true,true,true] rfl rfl (any_of HT_.out (by kernel_rfl)) (fun _ _ _ h => h) (Or.inl ⟨by rfl,?_⟩) ?_ ?_;rotate_left
     ·intro w';go_simp;with_reducible rfl
     rotate_left
     ·simp only [Act.put,U,G,V,i64_w,i32_w];rfl
     refine done_ (done_of HT_.out (by kernel_rfl)) ?_
     try go_wp2
     go_meet
     case rel => exact ⟨_,(true),(by first | rfl | (simp; done) | (simp [*]; done)),H',⟨by have:=HJ2.out; first | omega | exact Nat.le_refl _⟩,⟨by (with_reducible repeat (first | apply Kd.R_alloc | apply Kd.R_drewN | apply Kd.R_drew)); exact Kd.R_mono HO492.out (fun _ hk => ⟨hk.2,hk.1⟩)⟩,⟨by (with_reducible repeat (first | apply Kd.R_alloc | apply Kd.R_drewN | apply Kd.R_drew)); exact Kd.R_mono HO495.out (fun _ hk => ⟨hk.2,hk.1⟩)⟩,⟨by (with_reducible repeat (first | apply Kd.Q_alloc | apply Kd.Q_drewN | apply Kd.Q_drew)); exact HO483.out⟩,⟨by (with_reducible repeat (first | apply Kd.R_alloc | apply Kd.R_drewN | apply Kd.R_drew)); exact HO489.out⟩,⟨by (with_reducible repeat (first | refine blk_drewN ?_ _ | refine blk_drew ?_ | refine blk_alloc ?_ _)); exact BK496.out⟩,⟨by (with_reducible repeat (first | refine blk_drewN ?_ _ | refine blk_drew ?_ | refine blk_alloc ?_ _)); exact BK497.out⟩,⟨by repeat (first | (with_reducible first | exact HB.out | apply below_alloc | apply pw_below_drewN | apply below_drew1 | refine below_set ?_ GE496.out | refine below_set ?_ GE497.out) | exact HB.out)⟩⟩
    rw [if_pos c21] at H;have c21b0 : (t498 == t499) = true:=beq_iff_eq.mpr c21;have c21b1 : (t498 != t499) = false:=bne_eq_false_iff_eq.mpr c21;clear c21
    (first | rw [c21b0] | (simp only [i64_w,i32_w]; rw [c21b0]) | skip)
    replace H:=Option.bind_eq_some_iff.mp H;obtain ⟨t500,A220,H⟩:=H;replace H : ((spec_FareOk.f kj2 t481 t484 t485).bind fun t501 => (if (t500 != t501) = true then (laws_FnFareRide.j1 kj2 l1 t490 t493 t498 true t481 t484 t485 t486 t487) else (laws_FnFareRide.j1 kj2 l1 t490 t493 t498 (decide (t498 < 0)) t481 t484 t485 t486 t487))) = some r:=H;have A22:=Z A220;clear A220;replace H:=Option.bind_eq_some_iff.mp H;obtain ⟨t501,A230,H⟩:=H;replace H : (if (t500 != t501) = true then (laws_FnFareRide.j1 kj2 l1 t490 t493 t498 true t481 t484 t485 t486 t487) else (laws_FnFareRide.j1 kj2 l1 t490 t493 t498 (decide (t498 < 0)) t481 t484 t485 t486 t487)) = some r:=H;have A23:=Z A230;clear A230
    by_cases c24 : (t500 != t501) = true
    case pos =>
     rw [if_pos c24] at H;have c24b0 : (t500 != t501) = true:=c24
     (try (have c24b1 : decide (t500 = t501) = false:=by simpa using c24))
     (try (have c24b2 : (t500 == t501) = false:=by simpa using c24))
     (try (have c24b3 : ¬ (t500 = t501):=by simpa using c24))
     clear c24;have H':=Z H;clear H
     try go_wp2
     have n0_:=Z (Kd.Q_drew HO483.out);have n1_:=Z (Kd.R_drew HO489.out);have n2_:=Z (Kd.R_drew HO492.out);have n3_:=Z (Kd.R_drew HO495.out);have n4_:=Z (blk_drew BK496.out);have n5_:=Z (blk_drew BK497.out);have n6_:=Z (below_drew1 HB.out);clear HO483;clear HO489;clear HO492;clear HO495;clear BK496;clear BK497;clear HB;have HO483:=n0_;have HO489:=n1_;have HO492:=n2_;have HO495:=n3_;have BK496:=n4_;have BK497:=n5_;have HB:=n6_;clear n0_ n1_ n2_ n3_ n4_ n5_ n6_;refine start_ (n:=18) (S:=fun w' => w'.cell? ⟨gb496,0,none⟩ = some (.slice Ao12 t481.length co12) ∧ w'.cell? ⟨gb496,1,none⟩ = some (.int .i64 t484) ∧ w'.cell? ⟨gb496,2,none⟩ = some (.int .i64 t485) ∧ w'.cell? ⟨gb497,0,none⟩ = some (.int .i64 t486) ∧ w'.cell? ⟨gb497,1,none⟩ = some (.slice Ao16 t487.length co16)) (ds:=[]) #[false,false,false,false,false,false,false,false,false,false,false,false,false,false,false,false,false,false] (by kernel_rfl) rfl rfl ⟨(blk_cell BK496.out 0).trans rfl,(blk_cell BK496.out 1).trans rfl,(blk_cell BK496.out 2).trans rfl,(blk_cell BK497.out 0).trans rfl,(blk_cell BK497.out 1).trans rfl⟩ (fun hHeld => ?_); refine with_tabW laws_FnFareRide.tab5 laws_FnFareRide.bits5 (fun HT_ HW_ => ?_);generalize w19.drew = w25 at HO483 HO489 HO492 HO495 BK496 BK497 HB hHeld ⊢;refine pure_ (i:=0) (N:=some 31) (v:=?_) (a':=?_) #[true,false,false,false,false,false,false,false,false,false,false,false,false,false,false,false,false,false] rfl rfl (any_of HT_.out (by kernel_rfl)) (fun _ _ _ h => h) (Or.inl ⟨by rfl,?_⟩) ?_ ?_;rotate_left
     ·intro w';go_simp;with_reducible rfl
     rotate_left
     ·simp only [Act.put,U,G,V,i64_w,i32_w];rfl
     refine pure_ (i:=3) (N:=some 34) (v:=?_) (a':=?_) #[true,false,false,true,false,false,false,false,false,false,false,false,false,false,false,false,false,false] rfl rfl (any_of HT_.out (by kernel_rfl)) (fun _ _ _ h => h) (Or.inl ⟨by rfl,?_⟩) ?_ ?_;rotate_left
     ·intro w';go_simp;with_reducible rfl
     rotate_left
     ·simp only [Act.put,U,G,V,i64_w,i32_w];rfl
     refine pure_ (i:=4) (N:=some 35) (v:=?_) (a':=?_) #[true,false,false,true,true,false,false,false,false,false,false,false,false,false,false,false,false,false] rfl rfl (any_of HT_.out (by kernel_rfl)) (fun _ _ _ h => h) (Or.inl ⟨by rfl,?_⟩) ?_ ?_;rotate_left
     ·intro w';go_simp;with_reducible rfl
     rotate_left
     ·simp only [Act.put,U,G,V,i64_w,i32_w];rfl
     refine take_ (i:=1) (N:=some 32) (v:=?_) (a':=?_) #[true,true,false,true,true,false,false,false,false,false,false,false,false,false,false,false,false,false] rfl rfl (take_ofW HT_.out HW_.out (by kernel_rfl)) (fun _ _ _ h => h) (Or.inl ⟨by rfl,?_⟩) hHeld ?_ ?_;rotate_left
     ·rintro w' ⟨s0,s1,s2,s3,s4⟩;go_simp;with_reducible rfl
     rotate_left
     ·simp only [Act.put,U,G,V,i64_w,i32_w];rfl
     refine take_ (i:=2) (N:=some 33) (v:=?_) (a':=?_) #[true,true,true,true,true,false,false,false,false,false,false,false,false,false,false,false,false,false] rfl rfl (take_ofW HT_.out HW_.out (by kernel_rfl)) (fun _ _ _ h => h) (Or.inl ⟨by rfl,?_⟩) hHeld ?_ ?_;rotate_left
     ·rintro w' ⟨s0,s1,s2,s3,s4⟩;go_simp;with_reducible rfl
     rotate_left
     ·simp only [Act.put,U,G,V,i64_w,i32_w];rfl
     refine one_ (i:=5) (N:=some 36) #[true,true,true,true,true,true,false,false,false,false,false,false,false,false,false,false,false,false] rfl rfl (one_of HT_.out (by kernel_rfl)) (by decide) (fun K hK => ?_);refine goes_ Try.func22 (by kernel_rfl) rfl #[.agg #[.slice Ao12 t481.length co12,.int .i64 t484,.int .i64 t485],.agg #[.int .i64 t486,.slice Ao16 t487.length co16],.slice Ao17 t490.length co17,.slice Ao18 t493.length co18] (by rfl) rfl rfl (by (try simp only [List.map_toArray,List.map_cons,List.map_nil]); first | done | rfl | (simp only [List.length_drop,List.length_take]; rfl)) ?_;with_reducible refine (spec_FareRide.calls kj2 _ _ t481 t484 t485 t486 _ _ t487 _ _ t490 _ _ t493 t499 _ ?side1 ?side2 ?side3 ?side4 ?side5 ?side6 ?side7 ?side8 A20.out).mono ?_
     (case side1 => repeat (first | exact (Kd.Q_reads' HO483.out).2.2 | (with_reducible refine Kd.C_alloc ?_ _) | (with_reducible refine Kd.C_drewN ?_ _) | (with_reducible refine Kd.C_drew ?_)))
     (case side2 => exact (Kd.Q_reads' HO483.out).2.1)
     (case side3 => repeat (first | exact (Kd.R_reads' HO489.out).2.2 | (with_reducible refine Kd.C_alloc ?_ _) | (with_reducible refine Kd.C_drewN ?_ _) | (with_reducible refine Kd.C_drew ?_)))
     (case side4 => exact (Kd.R_reads' HO489.out).2.1)
     (case side5 => repeat (first | exact (Kd.R_reads' HO492.out).2.2 | (with_reducible refine Kd.C_alloc ?_ _) | (with_reducible refine Kd.C_drewN ?_ _) | (with_reducible refine Kd.C_drew ?_)))
     (case side6 => exact (Kd.R_reads' HO492.out).2.1)
     (case side7 => repeat (first | exact (Kd.R_reads' HO495.out).2.2 | (with_reducible refine Kd.C_alloc ?_ _) | (with_reducible refine Kd.C_drewN ?_ _) | (with_reducible refine Kd.C_drew ?_)))
     (case side8 => exact (Kd.R_reads' HO495.out).2.1)
     rintro e w26 ⟨rfl,hb⟩;refine ⟨_,rfl,?_⟩;have n0_:=Z (Kd.Q_below (by (with_reducible repeat (first | apply Kd.Q_alloc | apply Kd.Q_drewN | apply Kd.Q_drew)); exact HO483.out) hb);have n1_:=Z (Kd.R_below (by (with_reducible repeat (first | apply Kd.R_alloc | apply Kd.R_drewN | apply Kd.R_drew)); exact HO489.out) hb);have n2_:=Z (Kd.R_below (by (with_reducible repeat (first | apply Kd.R_alloc | apply Kd.R_drewN | apply Kd.R_drew)); exact HO492.out) hb);have n3_:=Z (Kd.R_below (by (with_reducible repeat (first | apply Kd.R_alloc | apply Kd.R_drewN | apply Kd.R_drew)); exact HO495.out) hb);have n4_:=Z (blk_below (g:=gb496) (o:=.cells #[.slice Ao12 t481.length co12,.int .i64 t484,.int .i64 t485] 25 (0,0)) (by (with_reducible repeat (first | refine blk_drewN ?_ _ | refine blk_drew ?_ | refine blk_alloc ?_ _)); exact BK496.out) hb);have n5_:=Z (blk_below (g:=gb497) (o:=.cells #[.int .i64 t486,.slice Ao16 t487.length co16] 34 (0,0)) (by (with_reducible repeat (first | refine blk_drewN ?_ _ | refine blk_drew ?_ | refine blk_alloc ?_ _)); exact BK497.out) hb);have n6_:=Z (below_step (by repeat (first | (with_reducible first | exact HB.out | apply below_alloc | apply pw_below_drewN | apply below_drew1 | refine below_set ?_ GE496.out | refine below_set ?_ GE497.out) | exact HB.out)) hb);clear HO483;clear HO489;clear HO492;clear HO495;clear BK496;clear BK497;clear HB;have HO483:=n0_;have HO489:=n1_;have HO492:=n2_;have HO495:=n3_;have BK496:=n4_;have BK497:=n5_;have HB:=n6_;clear n0_ n1_ n2_ n3_ n4_ n5_ n6_
     (try clear hb)
     (try clear hb2)
     (try clear hk)
     (try clear hi)
     refine hK.out _ _ ⟨(blk_cell BK496.out 0).trans rfl,(blk_cell BK496.out 1).trans rfl,(blk_cell BK496.out 2).trans rfl,(blk_cell BK497.out 0).trans rfl,(blk_cell BK497.out 1).trans rfl⟩ (fun hHeld => ?_);clear hK K;refine norm_ (a':=?_) ?_ ?_;rotate_left
     ·show Act.put _ (some 36) _ = _
      simp only [Act.put,U,G,V,i64_w,i32_w];rfl
     refine pure_ (i:=6) (N:=some 37) (v:=?_) (a':=?_) #[true,true,true,true,true,true,true,false,false,false,false,false,false,false,false,false,false,false] rfl rfl (any_of HT_.out (by kernel_rfl)) (fun _ _ _ h => h) (Or.inl ⟨by rfl,?_⟩) ?_ ?_;rotate_left
     ·intro w';go_simp;with_reducible rfl
     rotate_left
     ·simp only [Act.put,U,G,V,i64_w,i32_w];rfl
     refine pure_ (i:=7) (N:=some 38) (v:=?_) (a':=?_) #[true,true,true,true,true,true,true,true,false,false,false,false,false,false,false,false,false,false] rfl rfl (any_of HT_.out (by kernel_rfl)) (fun _ _ _ h => h) (Or.inl ⟨by rfl,?_⟩) ?_ ?_;rotate_left
     ·intro w';go_simp;with_reducible rfl
     rotate_left
     ·simp only [Act.put,U,G,V,i64_w,i32_w];rfl
     refine take_ (i:=8) (N:=some 39) (v:=?_) (a':=?_) #[true,true,true,true,true,true,true,true,true,false,false,false,false,false,false,false,false,false] rfl rfl (take_ofW HT_.out HW_.out (by kernel_rfl)) (fun _ _ _ h => h) (Or.inl ⟨by rfl,?_⟩) hHeld ?_ ?_;rotate_left
     ·rintro w' ⟨s0,s1,s2,s3,s4⟩;go_simp;with_reducible rfl
     rotate_left
     ·simp only [Act.put,U,G,V,i64_w,i32_w];rfl
     refine take_ (i:=10) (N:=some 41) (v:=?_) (a':=?_) #[true,true,true,true,true,true,true,true,true,false,true,false,false,false,false,false,false,false] rfl rfl (take_ofW HT_.out HW_.out (by kernel_rfl)) (fun _ _ _ h => h) (Or.inl ⟨by rfl,?_⟩) hHeld ?_ ?_;rotate_left
     ·rintro w' ⟨s0,s1,s2,s3,s4⟩;go_simp;with_reducible rfl
     rotate_left
     ·simp only [Act.put,U,G,V,i64_w,i32_w];rfl
     refine one_ (i:=9) (N:=some 40) #[true,true,true,true,true,true,true,true,true,true,true,false,false,false,false,false,false,false] rfl rfl (one_of HT_.out (by kernel_rfl)) (by decide) (fun K hK => ?_);refine goes_ Try.func23 (by kernel_rfl) rfl #[.agg #[.slice Ao12 t481.length co12,.int .i64 t484,.int .i64 t485]] (by rfl) rfl rfl (by (try simp only [List.map_toArray,List.map_cons,List.map_nil]); first | done | rfl | (simp only [List.length_drop,List.length_take]; rfl)) ?_;with_reducible refine (impl_FareOk.calls kj2 _ _ t481 t484 t485 t500 _ ?side1 ?side2 A22.out).mono ?_
     (case side1 => repeat (first | exact (Kd.Q_reads' HO483.out).2.2 | (with_reducible refine Kd.C_alloc ?_ _) | (with_reducible refine Kd.C_drewN ?_ _) | (with_reducible refine Kd.C_drew ?_)))
     (case side2 => exact (Kd.Q_reads' HO483.out).2.1)
     rintro e w27 ⟨rfl,hb⟩;refine ⟨_,rfl,?_⟩;have n0_:=Z (Kd.Q_below (by (with_reducible repeat (first | apply Kd.Q_alloc | apply Kd.Q_drewN | apply Kd.Q_drew)); exact HO483.out) hb);have n1_:=Z (Kd.R_below (by (with_reducible repeat (first | apply Kd.R_alloc | apply Kd.R_drewN | apply Kd.R_drew)); exact HO489.out) hb);have n2_:=Z (Kd.R_below (by (with_reducible repeat (first | apply Kd.R_alloc | apply Kd.R_drewN | apply Kd.R_drew)); exact HO492.out) hb);have n3_:=Z (Kd.R_below (by (with_reducible repeat (first | apply Kd.R_alloc | apply Kd.R_drewN | apply Kd.R_drew)); exact HO495.out) hb);have n4_:=Z (blk_below (g:=gb496) (o:=.cells #[.slice Ao12 t481.length co12,.int .i64 t484,.int .i64 t485] 25 (0,0)) (by (with_reducible repeat (first | refine blk_drewN ?_ _ | refine blk_drew ?_ | refine blk_alloc ?_ _)); exact BK496.out) hb);have n5_:=Z (blk_below (g:=gb497) (o:=.cells #[.int .i64 t486,.slice Ao16 t487.length co16] 34 (0,0)) (by (with_reducible repeat (first | refine blk_drewN ?_ _ | refine blk_drew ?_ | refine blk_alloc ?_ _)); exact BK497.out) hb);have n6_:=Z (below_step (by repeat (first | (with_reducible first | exact HB.out | apply below_alloc | apply pw_below_drewN | apply below_drew1 | refine below_set ?_ GE496.out | refine below_set ?_ GE497.out) | exact HB.out)) hb);clear HO483;clear HO489;clear HO492;clear HO495;clear BK496;clear BK497;clear HB;have HO483:=n0_;have HO489:=n1_;have HO492:=n2_;have HO495:=n3_;have BK496:=n4_;have BK497:=n5_;have HB:=n6_;clear n0_ n1_ n2_ n3_ n4_ n5_ n6_
     (try clear hb)
     (try clear hb2)
     (try clear hk)
     (try clear hi)
     refine hK.out _ _ ⟨(blk_cell BK496.out 0).trans rfl,(blk_cell BK496.out 1).trans rfl,(blk_cell BK496.out 2).trans rfl,(blk_cell BK497.out 0).trans rfl,(blk_cell BK497.out 1).trans rfl⟩ (fun hHeld => ?_);clear hK K;refine norm_ (a':=?_) ?_ ?_;rotate_left
     ·show Act.put _ (some 40) _ = _
      simp only [Act.put,U,G,V,i64_w,i32_w];rfl
     refine one_ (i:=11) (N:=some 42) #[true,true,true,true,true,true,true,true,true,true,true,true,false,false,false,false,false,false] rfl rfl (one_of HT_.out (by kernel_rfl)) (by decide) (fun K hK => ?_);refine goes_ Try.func24 (by kernel_rfl) rfl #[.agg #[.slice Ao12 t481.length co12,.int .i64 t484,.int .i64 t485]] (by rfl) rfl rfl (by (try simp only [List.map_toArray,List.map_cons,List.map_nil]); first | done | rfl | (simp only [List.length_drop,List.length_take]; rfl)) ?_;with_reducible refine (spec_FareOk.calls kj2 _ _ t481 t484 t485 t501 _ ?side1 ?side2 A23.out).mono ?_
     (case side1 => repeat (first | exact (Kd.Q_reads' HO483.out).2.2 | (with_reducible refine Kd.C_alloc ?_ _) | (with_reducible refine Kd.C_drewN ?_ _) | (with_reducible refine Kd.C_drew ?_)))
     (case side2 => exact (Kd.Q_reads' HO483.out).2.1)
     rintro e w28 ⟨rfl,hb⟩;refine ⟨_,rfl,?_⟩;have n0_:=Z (Kd.Q_below (by (with_reducible repeat (first | apply Kd.Q_alloc | apply Kd.Q_drewN | apply Kd.Q_drew)); exact HO483.out) hb);have n1_:=Z (Kd.R_below (by (with_reducible repeat (first | apply Kd.R_alloc | apply Kd.R_drewN | apply Kd.R_drew)); exact HO489.out) hb);have n2_:=Z (Kd.R_below (by (with_reducible repeat (first | apply Kd.R_alloc | apply Kd.R_drewN | apply Kd.R_drew)); exact HO492.out) hb);have n3_:=Z (Kd.R_below (by (with_reducible repeat (first | apply Kd.R_alloc | apply Kd.R_drewN | apply Kd.R_drew)); exact HO495.out) hb);have n4_:=Z (blk_below (g:=gb496) (o:=.cells #[.slice Ao12 t481.length co12,.int .i64 t484,.int .i64 t485] 25 (0,0)) (by (with_reducible repeat (first | refine blk_drewN ?_ _ | refine blk_drew ?_ | refine blk_alloc ?_ _)); exact BK496.out) hb);have n5_:=Z (blk_below (g:=gb497) (o:=.cells #[.int .i64 t486,.slice Ao16 t487.length co16] 34 (0,0)) (by (with_reducible repeat (first | refine blk_drewN ?_ _ | refine blk_drew ?_ | refine blk_alloc ?_ _)); exact BK497.out) hb);have n6_:=Z (below_step (by repeat (first | (with_reducible first | exact HB.out | apply below_alloc | apply pw_below_drewN | apply below_drew1 | refine below_set ?_ GE496.out | refine below_set ?_ GE497.out) | exact HB.out)) hb);clear HO483;clear HO489;clear HO492;clear HO495;clear BK496;clear BK497;clear HB;have HO483:=n0_;have HO489:=n1_;have HO492:=n2_;have HO495:=n3_;have BK496:=n4_;have BK497:=n5_;have HB:=n6_;clear n0_ n1_ n2_ n3_ n4_ n5_ n6_
     (try clear hb)
     (try clear hb2)
     (try clear hk)
     (try clear hi)
     refine hK.out _ _ ⟨(blk_cell BK496.out 0).trans rfl,(blk_cell BK496.out 1).trans rfl,(blk_cell BK496.out 2).trans rfl,(blk_cell BK497.out 0).trans rfl,(blk_cell BK497.out 1).trans rfl⟩ (fun hHeld => ?_);clear hK K;refine norm_ (a':=?_) ?_ ?_;rotate_left
     ·show Act.put _ (some 42) _ = _
      simp only [Act.put,U,G,V,i64_w,i32_w];rfl
     refine pure_ (i:=12) (N:=some 43) (v:=?_) (a':=?_) #[true,true,true,true,true,true,true,true,true,true,true,true,true,false,false,false,false,false] rfl rfl (any_of HT_.out (by kernel_rfl)) (fun _ _ _ h => h) (Or.inl ⟨by rfl,?_⟩) ?_ ?_;rotate_left
     ·intro w';go_simp;with_reducible rfl
     rotate_left
     ·simp only [Act.put,U,G,V,i64_w,i32_w];rfl
     refine pure_ (i:=13) (N:=some 44) (v:=?_) (a':=?_) #[true,true,true,true,true,true,true,true,true,true,true,true,true,true,false,false,false,false] rfl rfl (any_of HT_.out (by kernel_rfl)) (fun _ _ _ h => h) (Or.inl ⟨by rfl,?_⟩) ?_ ?_;rotate_left
     ·intro w';go_simp;with_reducible rfl
     rotate_left
     ·simp only [Act.put,U,G,V,i64_w,i32_w];rfl
     refine pure_ (i:=14) (N:=some 45) (v:=?_) (a':=?_) #[true,true,true,true,true,true,true,true,true,true,true,true,true,true,true,false,false,false] rfl rfl (any_of HT_.out (by kernel_rfl)) (fun _ _ _ h => h) (Or.inl ⟨by rfl,?_⟩) ?_ ?_;rotate_left
     ·intro w';go_simp;with_reducible rfl
     rotate_left
     ·simp only [Act.put,U,G,V,i64_w,i32_w];rfl
     refine pure_ (i:=15) (N:=some 46) (v:=undef) (a':=?_) #[true,true,true,true,true,true,true,true,true,true,true,true,true,true,true,true,false,false] rfl rfl (any_of HT_.out (by kernel_rfl)) (fun _ _ _ h => h) (Or.inr ⟨by rfl,rfl⟩) ?_ ?_;rotate_left
     ·simp only [Act.put,U,G,V,i64_w,i32_w];rfl
     refine pure_ (i:=16) (N:=some 47) (v:=undef) (a':=?_) #[true,true,true,true,true,true,true,true,true,true,true,true,true,true,true,true,true,false] rfl rfl (any_of HT_.out (by kernel_rfl)) (fun _ _ _ h => h) (Or.inr ⟨by rfl,rfl⟩) ?_ ?_;rotate_left
     ·simp only [Act.put,U,G,V,i64_w,i32_w];rfl
     refine pure_ (i:=17) (N:=some 48) (v:=?_) (a':=?_) #[true,true,true,true,true,true,true,true,true,true,true,true,true,true,true,true,true,true] rfl rfl (any_of HT_.out (by kernel_rfl)) (fun _ _ _ h => h) (Or.inl ⟨by rfl,?_⟩) ?_ ?_;rotate_left
     ·intro w';go_simp;with_reducible rfl
     rotate_left
     ·simp only [Act.put,U,G,V,i64_w,i32_w];rfl
     refine done_ (done_of HT_.out (by kernel_rfl)) ?_
     try go_wp2
     go_meet
     case rel => exact ⟨_,(true),(by first | rfl | (simp; done) | (simp [*]; done)),H',⟨by have:=HJ2.out; first | omega | exact Nat.le_refl _⟩,⟨by (with_reducible repeat (first | apply Kd.R_alloc | apply Kd.R_drewN | apply Kd.R_drew)); exact Kd.R_mono HO492.out (fun _ hk => ⟨hk.2,hk.1⟩)⟩,⟨by (with_reducible repeat (first | apply Kd.R_alloc | apply Kd.R_drewN | apply Kd.R_drew)); exact Kd.R_mono HO495.out (fun _ hk => ⟨hk.2,hk.1⟩)⟩,⟨by (with_reducible repeat (first | apply Kd.Q_alloc | apply Kd.Q_drewN | apply Kd.Q_drew)); exact HO483.out⟩,⟨by (with_reducible repeat (first | apply Kd.R_alloc | apply Kd.R_drewN | apply Kd.R_drew)); exact HO489.out⟩,⟨by (with_reducible repeat (first | refine blk_drewN ?_ _ | refine blk_drew ?_ | refine blk_alloc ?_ _)); exact BK496.out⟩,⟨by (with_reducible repeat (first | refine blk_drewN ?_ _ | refine blk_drew ?_ | refine blk_alloc ?_ _)); exact BK497.out⟩,⟨by repeat (first | (with_reducible first | exact HB.out | apply below_alloc | apply pw_below_drewN | apply below_drew1 | refine below_set ?_ GE496.out | refine below_set ?_ GE497.out) | exact HB.out)⟩⟩
    rw [if_neg c24] at H;have c24b0 : (t500 != t501) = false:=by simpa using c24
    (try (have c24b1 : decide (t500 = t501) = true:=by simpa using c24))
    (try (have c24b2 : (t500 == t501) = true:=by simpa using c24))
    clear c24;have H':=Z H;clear H
    try go_wp2
    have n0_:=Z (Kd.Q_drew HO483.out);have n1_:=Z (Kd.R_drew HO489.out);have n2_:=Z (Kd.R_drew HO492.out);have n3_:=Z (Kd.R_drew HO495.out);have n4_:=Z (blk_drew BK496.out);have n5_:=Z (blk_drew BK497.out);have n6_:=Z (below_drew1 HB.out);clear HO483;clear HO489;clear HO492;clear HO495;clear BK496;clear BK497;clear HB;have HO483:=n0_;have HO489:=n1_;have HO492:=n2_;have HO495:=n3_;have BK496:=n4_;have BK497:=n5_;have HB:=n6_;clear n0_ n1_ n2_ n3_ n4_ n5_ n6_;refine start_ (n:=18) (S:=fun w' => w'.cell? ⟨gb496,0,none⟩ = some (.slice Ao12 t481.length co12) ∧ w'.cell? ⟨gb496,1,none⟩ = some (.int .i64 t484) ∧ w'.cell? ⟨gb496,2,none⟩ = some (.int .i64 t485) ∧ w'.cell? ⟨gb497,0,none⟩ = some (.int .i64 t486) ∧ w'.cell? ⟨gb497,1,none⟩ = some (.slice Ao16 t487.length co16)) (ds:=[]) #[false,false,false,false,false,false,false,false,false,false,false,false,false,false,false,false,false,false] (by kernel_rfl) rfl rfl ⟨(blk_cell BK496.out 0).trans rfl,(blk_cell BK496.out 1).trans rfl,(blk_cell BK496.out 2).trans rfl,(blk_cell BK497.out 0).trans rfl,(blk_cell BK497.out 1).trans rfl⟩ (fun hHeld => ?_); refine with_tabW laws_FnFareRide.tab5 laws_FnFareRide.bits5 (fun HT_ HW_ => ?_);generalize w19.drew = w29 at HO483 HO489 HO492 HO495 BK496 BK497 HB hHeld ⊢;refine pure_ (i:=0) (N:=some 31) (v:=?_) (a':=?_) #[true,false,false,false,false,false,false,false,false,false,false,false,false,false,false,false,false,false] rfl rfl (any_of HT_.out (by kernel_rfl)) (fun _ _ _ h => h) (Or.inl ⟨by rfl,?_⟩) ?_ ?_;rotate_left
    ·intro w';go_simp;with_reducible rfl
    rotate_left
    ·simp only [Act.put,U,G,V,i64_w,i32_w];rfl
    refine pure_ (i:=3) (N:=some 34) (v:=?_) (a':=?_) #[true,false,false,true,false,false,false,false,false,false,false,false,false,false,false,false,false,false] rfl rfl (any_of HT_.out (by kernel_rfl)) (fun _ _ _ h => h) (Or.inl ⟨by rfl,?_⟩) ?_ ?_;rotate_left
    ·intro w';go_simp;with_reducible rfl
    rotate_left
    ·simp only [Act.put,U,G,V,i64_w,i32_w];rfl
    refine pure_ (i:=4) (N:=some 35) (v:=?_) (a':=?_) #[true,false,false,true,true,false,false,false,false,false,false,false,false,false,false,false,false,false] rfl rfl (any_of HT_.out (by kernel_rfl)) (fun _ _ _ h => h) (Or.inl ⟨by rfl,?_⟩) ?_ ?_;rotate_left
    ·intro w';go_simp;with_reducible rfl
    rotate_left
    ·simp only [Act.put,U,G,V,i64_w,i32_w];rfl
    refine take_ (i:=1) (N:=some 32) (v:=?_) (a':=?_) #[true,true,false,true,true,false,false,false,false,false,false,false,false,false,false,false,false,false] rfl rfl (take_ofW HT_.out HW_.out (by kernel_rfl)) (fun _ _ _ h => h) (Or.inl ⟨by rfl,?_⟩) hHeld ?_ ?_;rotate_left
    ·rintro w' ⟨s0,s1,s2,s3,s4⟩;go_simp;with_reducible rfl
    rotate_left
    ·simp only [Act.put,U,G,V,i64_w,i32_w];rfl
    refine take_ (i:=2) (N:=some 33) (v:=?_) (a':=?_) #[true,true,true,true,true,false,false,false,false,false,false,false,false,false,false,false,false,false] rfl rfl (take_ofW HT_.out HW_.out (by kernel_rfl)) (fun _ _ _ h => h) (Or.inl ⟨by rfl,?_⟩) hHeld ?_ ?_;rotate_left
    ·rintro w' ⟨s0,s1,s2,s3,s4⟩;go_simp;with_reducible rfl
    rotate_left
    ·simp only [Act.put,U,G,V,i64_w,i32_w];rfl
    refine one_ (i:=5) (N:=some 36) #[true,true,true,true,true,true,false,false,false,false,false,false,false,false,false,false,false,false] rfl rfl (one_of HT_.out (by kernel_rfl)) (by decide) (fun K hK => ?_);refine goes_ Try.func22 (by kernel_rfl) rfl #[.agg #[.slice Ao12 t481.length co12,.int .i64 t484,.int .i64 t485],.agg #[.int .i64 t486,.slice Ao16 t487.length co16],.slice Ao17 t490.length co17,.slice Ao18 t493.length co18] (by rfl) rfl rfl (by (try simp only [List.map_toArray,List.map_cons,List.map_nil]); first | done | rfl | (simp only [List.length_drop,List.length_take]; rfl)) ?_;with_reducible refine (spec_FareRide.calls kj2 _ _ t481 t484 t485 t486 _ _ t487 _ _ t490 _ _ t493 t499 _ ?side1 ?side2 ?side3 ?side4 ?side5 ?side6 ?side7 ?side8 A20.out).mono ?_
    (case side1 => repeat (first | exact (Kd.Q_reads' HO483.out).2.2 | (with_reducible refine Kd.C_alloc ?_ _) | (with_reducible refine Kd.C_drewN ?_ _) | (with_reducible refine Kd.C_drew ?_)))
    (case side2 => exact (Kd.Q_reads' HO483.out).2.1)
    (case side3 => repeat (first | exact (Kd.R_reads' HO489.out).2.2 | (with_reducible refine Kd.C_alloc ?_ _) | (with_reducible refine Kd.C_drewN ?_ _) | (with_reducible refine Kd.C_drew ?_)))
    (case side4 => exact (Kd.R_reads' HO489.out).2.1)
    (case side5 => repeat (first | exact (Kd.R_reads' HO492.out).2.2 | (with_reducible refine Kd.C_alloc ?_ _) | (with_reducible refine Kd.C_drewN ?_ _) | (with_reducible refine Kd.C_drew ?_)))
    (case side6 => exact (Kd.R_reads' HO492.out).2.1)
    (case side7 => repeat (first | exact (Kd.R_reads' HO495.out).2.2 | (with_reducible refine Kd.C_alloc ?_ _) | (with_reducible refine Kd.C_drewN ?_ _) | (with_reducible refine Kd.C_drew ?_)))
    (case side8 => exact (Kd.R_reads' HO495.out).2.1)
    rintro e w30 ⟨rfl,hb⟩;refine ⟨_,rfl,?_⟩;have n0_:=Z (Kd.Q_below (by (with_reducible repeat (first | apply Kd.Q_alloc | apply Kd.Q_drewN | apply Kd.Q_drew)); exact HO483.out) hb);have n1_:=Z (Kd.R_below (by (with_reducible repeat (first | apply Kd.R_alloc | apply Kd.R_drewN | apply Kd.R_drew)); exact HO489.out) hb);have n2_:=Z (Kd.R_below (by (with_reducible repeat (first | apply Kd.R_alloc | apply Kd.R_drewN | apply Kd.R_drew)); exact HO492.out) hb);have n3_:=Z (Kd.R_below (by (with_reducible repeat (first | apply Kd.R_alloc | apply Kd.R_drewN | apply Kd.R_drew)); exact HO495.out) hb);have n4_:=Z (blk_below (g:=gb496) (o:=.cells #[.slice Ao12 t481.length co12,.int .i64 t484,.int .i64 t485] 25 (0,0)) (by (with_reducible repeat (first | refine blk_drewN ?_ _ | refine blk_drew ?_ | refine blk_alloc ?_ _)); exact BK496.out) hb);have n5_:=Z (blk_below (g:=gb497) (o:=.cells #[.int .i64 t486,.slice Ao16 t487.length co16] 34 (0,0)) (by (with_reducible repeat (first | refine blk_drewN ?_ _ | refine blk_drew ?_ | refine blk_alloc ?_ _)); exact BK497.out) hb);have n6_:=Z (below_step (by repeat (first | (with_reducible first | exact HB.out | apply below_alloc | apply pw_below_drewN | apply below_drew1 | refine below_set ?_ GE496.out | refine below_set ?_ GE497.out) | exact HB.out)) hb);clear HO483;clear HO489;clear HO492;clear HO495;clear BK496;clear BK497;clear HB;have HO483:=n0_;have HO489:=n1_;have HO492:=n2_;have HO495:=n3_;have BK496:=n4_;have BK497:=n5_;have HB:=n6_;clear n0_ n1_ n2_ n3_ n4_ n5_ n6_
    (try clear hb)
    (try clear hb2)
    (try clear hk)
    (try clear hi)
    refine hK.out _ _ ⟨(blk_cell BK496.out 0).trans rfl,(blk_cell BK496.out 1).trans rfl,(blk_cell BK496.out 2).trans rfl,(blk_cell BK497.out 0).trans rfl,(blk_cell BK497.out 1).trans rfl⟩ (fun hHeld => ?_);clear hK K;refine norm_ (a':=?_) ?_ ?_;rotate_left
    ·show Act.put _ (some 36) _ = _
     simp only [Act.put,U,G,V,i64_w,i32_w];rfl
    refine pure_ (i:=6) (N:=some 37) (v:=?_) (a':=?_) #[true,true,true,true,true,true,true,false,false,false,false,false,false,false,false,false,false,false] rfl rfl (any_of HT_.out (by kernel_rfl)) (fun _ _ _ h => h) (Or.inl ⟨by rfl,?_⟩) ?_ ?_;rotate_left
    ·intro w';go_simp;with_reducible rfl
    rotate_left
    ·simp only [Act.put,U,G,V,i64_w,i32_w];rfl
    refine pure_ (i:=7) (N:=some 38) (v:=?_) (a':=?_) #[true,true,true,true,true,true,true,true,false,false,false,false,false,false,false,false,false,false] rfl rfl (any_of HT_.out (by kernel_rfl)) (fun _ _ _ h => h) (Or.inl ⟨by rfl,?_⟩) ?_ ?_;rotate_left
    ·intro w';go_simp;with_reducible rfl
    rotate_left
    ·simp only [Act.put,U,G,V,i64_w,i32_w];rfl
    refine take_ (i:=8) (N:=some 39) (v:=?_) (a':=?_) #[true,true,true,true,true,true,true,true,true,false,false,false,false,false,false,false,false,false] rfl rfl (take_ofW HT_.out HW_.out (by kernel_rfl)) (fun _ _ _ h => h) (Or.inl ⟨by rfl,?_⟩) hHeld ?_ ?_;rotate_left
    ·rintro w' ⟨s0,s1,s2,s3,s4⟩;go_simp;with_reducible rfl
    rotate_left
    ·simp only [Act.put,U,G,V,i64_w,i32_w];rfl
    refine take_ (i:=10) (N:=some 41) (v:=?_) (a':=?_) #[true,true,true,true,true,true,true,true,true,false,true,false,false,false,false,false,false,false] rfl rfl (take_ofW HT_.out HW_.out (by kernel_rfl)) (fun _ _ _ h => h) (Or.inl ⟨by rfl,?_⟩) hHeld ?_ ?_;rotate_left
    ·rintro w' ⟨s0,s1,s2,s3,s4⟩;go_simp;with_reducible rfl
    rotate_left
    ·simp only [Act.put,U,G,V,i64_w,i32_w];rfl
    refine one_ (i:=9) (N:=some 40) #[true,true,true,true,true,true,true,true,true,true,true,false,false,false,false,false,false,false] rfl rfl (one_of HT_.out (by kernel_rfl)) (by decide) (fun K hK => ?_);refine goes_ Try.func23 (by kernel_rfl) rfl #[.agg #[.slice Ao12 t481.length co12,.int .i64 t484,.int .i64 t485]] (by rfl) rfl rfl (by (try simp only [List.map_toArray,List.map_cons,List.map_nil]); first | done | rfl | (simp only [List.length_drop,List.length_take]; rfl)) ?_;with_reducible refine (impl_FareOk.calls kj2 _ _ t481 t484 t485 t500 _ ?side1 ?side2 A22.out).mono ?_
    (case side1 => repeat (first | exact (Kd.Q_reads' HO483.out).2.2 | (with_reducible refine Kd.C_alloc ?_ _) | (with_reducible refine Kd.C_drewN ?_ _) | (with_reducible refine Kd.C_drew ?_)))
    (case side2 => exact (Kd.Q_reads' HO483.out).2.1)
    rintro e w31 ⟨rfl,hb⟩;refine ⟨_,rfl,?_⟩;have n0_:=Z (Kd.Q_below (by (with_reducible repeat (first | apply Kd.Q_alloc | apply Kd.Q_drewN | apply Kd.Q_drew)); exact HO483.out) hb);have n1_:=Z (Kd.R_below (by (with_reducible repeat (first | apply Kd.R_alloc | apply Kd.R_drewN | apply Kd.R_drew)); exact HO489.out) hb);have n2_:=Z (Kd.R_below (by (with_reducible repeat (first | apply Kd.R_alloc | apply Kd.R_drewN | apply Kd.R_drew)); exact HO492.out) hb);have n3_:=Z (Kd.R_below (by (with_reducible repeat (first | apply Kd.R_alloc | apply Kd.R_drewN | apply Kd.R_drew)); exact HO495.out) hb);have n4_:=Z (blk_below (g:=gb496) (o:=.cells #[.slice Ao12 t481.length co12,.int .i64 t484,.int .i64 t485] 25 (0,0)) (by (with_reducible repeat (first | refine blk_drewN ?_ _ | refine blk_drew ?_ | refine blk_alloc ?_ _)); exact BK496.out) hb);have n5_:=Z (blk_below (g:=gb497) (o:=.cells #[.int .i64 t486,.slice Ao16 t487.length co16] 34 (0,0)) (by (with_reducible repeat (first | refine blk_drewN ?_ _ | refine blk_drew ?_ | refine blk_alloc ?_ _)); exact BK497.out) hb);have n6_:=Z (below_step (by repeat (first | (with_reducible first | exact HB.out | apply below_alloc | apply pw_below_drewN | apply below_drew1 | refine below_set ?_ GE496.out | refine below_set ?_ GE497.out) | exact HB.out)) hb);clear HO483;clear HO489;clear HO492;clear HO495;clear BK496;clear BK497;clear HB;have HO483:=n0_;have HO489:=n1_;have HO492:=n2_;have HO495:=n3_;have BK496:=n4_;have BK497:=n5_;have HB:=n6_;clear n0_ n1_ n2_ n3_ n4_ n5_ n6_
    (try clear hb)
    (try clear hb2)
    (try clear hk)
    (try clear hi)
    refine hK.out _ _ ⟨(blk_cell BK496.out 0).trans rfl,(blk_cell BK496.out 1).trans rfl,(blk_cell BK496.out 2).trans rfl,(blk_cell BK497.out 0).trans rfl,(blk_cell BK497.out 1).trans rfl⟩ (fun hHeld => ?_);clear hK K;refine norm_ (a':=?_) ?_ ?_;rotate_left
    ·show Act.put _ (some 40) _ = _
     simp only [Act.put,U,G,V,i64_w,i32_w];rfl
    refine one_ (i:=11) (N:=some 42) #[true,true,true,true,true,true,true,true,true,true,true,true,false,false,false,false,false,false] rfl rfl (one_of HT_.out (by kernel_rfl)) (by decide) (fun K hK => ?_);refine goes_ Try.func24 (by kernel_rfl) rfl #[.agg #[.slice Ao12 t481.length co12,.int .i64 t484,.int .i64 t485]] (by rfl) rfl rfl (by (try simp only [List.map_toArray,List.map_cons,List.map_nil]); first | done | rfl | (simp only [List.length_drop,List.length_take]; rfl)) ?_;with_reducible refine (spec_FareOk.calls kj2 _ _ t481 t484 t485 t501 _ ?side1 ?side2 A23.out).mono ?_
    (case side1 => repeat (first | exact (Kd.Q_reads' HO483.out).2.2 | (with_reducible refine Kd.C_alloc ?_ _) | (with_reducible refine Kd.C_drewN ?_ _) | (with_reducible refine Kd.C_drew ?_)))
    (case side2 => exact (Kd.Q_reads' HO483.out).2.1)
    rintro e w32 ⟨rfl,hb⟩;refine ⟨_,rfl,?_⟩;have n0_:=Z (Kd.Q_below (by (with_reducible repeat (first | apply Kd.Q_alloc | apply Kd.Q_drewN | apply Kd.Q_drew)); exact HO483.out) hb);have n1_:=Z (Kd.R_below (by (with_reducible repeat (first | apply Kd.R_alloc | apply Kd.R_drewN | apply Kd.R_drew)); exact HO489.out) hb);have n2_:=Z (Kd.R_below (by (with_reducible repeat (first | apply Kd.R_alloc | apply Kd.R_drewN | apply Kd.R_drew)); exact HO492.out) hb);have n3_:=Z (Kd.R_below (by (with_reducible repeat (first | apply Kd.R_alloc | apply Kd.R_drewN | apply Kd.R_drew)); exact HO495.out) hb);have n4_:=Z (blk_below (g:=gb496) (o:=.cells #[.slice Ao12 t481.length co12,.int .i64 t484,.int .i64 t485] 25 (0,0)) (by (with_reducible repeat (first | refine blk_drewN ?_ _ | refine blk_drew ?_ | refine blk_alloc ?_ _)); exact BK496.out) hb);have n5_:=Z (blk_below (g:=gb497) (o:=.cells #[.int .i64 t486,.slice Ao16 t487.length co16] 34 (0,0)) (by (with_reducible repeat (first | refine blk_drewN ?_ _ | refine blk_drew ?_ | refine blk_alloc ?_ _)); exact BK497.out) hb);have n6_:=Z (below_step (by repeat (first | (with_reducible first | exact HB.out | apply below_alloc | apply pw_below_drewN | apply below_drew1 | refine below_set ?_ GE496.out | refine below_set ?_ GE497.out) | exact HB.out)) hb);clear HO483;clear HO489;clear HO492;clear HO495;clear BK496;clear BK497;clear HB;have HO483:=n0_;have HO489:=n1_;have HO492:=n2_;have HO495:=n3_;have BK496:=n4_;have BK497:=n5_;have HB:=n6_;clear n0_ n1_ n2_ n3_ n4_ n5_ n6_
    (try clear hb)
    (try clear hb2)
    (try clear hk)
    (try clear hi)
    refine hK.out _ _ ⟨(blk_cell BK496.out 0).trans rfl,(blk_cell BK496.out 1).trans rfl,(blk_cell BK496.out 2).trans rfl,(blk_cell BK497.out 0).trans rfl,(blk_cell BK497.out 1).trans rfl⟩ (fun hHeld => ?_);clear hK K;refine norm_ (a':=?_) ?_ ?_;rotate_left
    ·show Act.put _ (some 42) _ = _
     simp only [Act.put,U,G,V,i64_w,i32_w];rfl
    refine pure_ (i:=12) (N:=some 43) (v:=?_) (a':=?_) #[true,true,true,true,true,true,true,true,true,true,true,true,true,false,false,false,false,false] rfl rfl (any_of HT_.out (by kernel_rfl)) (fun _ _ _ h => h) (Or.inl ⟨by rfl,?_⟩) ?_ ?_;rotate_left
    ·intro w';go_simp;with_reducible rfl
    rotate_left
    ·simp only [Act.put,U,G,V,i64_w,i32_w];rfl
    refine pure_ (i:=13) (N:=some 44) (v:=?_) (a':=?_) #[true,true,true,true,true,true,true,true,true,true,true,true,true,true,false,false,false,false] rfl rfl (any_of HT_.out (by kernel_rfl)) (fun _ _ _ h => h) (Or.inl ⟨by rfl,?_⟩) ?_ ?_;rotate_left
    ·intro w';go_simp;with_reducible rfl
    rotate_left
    ·simp only [Act.put,U,G,V,i64_w,i32_w];rfl
    refine pure_ (i:=14) (N:=some 45) (v:=?_) (a':=?_) #[true,true,true,true,true,true,true,true,true,true,true,true,true,true,true,false,false,false] rfl rfl (any_of HT_.out (by kernel_rfl)) (fun _ _ _ h => h) (Or.inl ⟨by rfl,?_⟩) ?_ ?_;rotate_left
    ·intro w';go_simp;with_reducible rfl
    rotate_left
    ·simp only [Act.put,U,G,V,i64_w,i32_w];rfl
    refine pure_ (i:=15) (N:=some 46) (v:=?_) (a':=?_) #[true,true,true,true,true,true,true,true,true,true,true,true,true,true,true,true,false,false] rfl rfl (any_of HT_.out (by kernel_rfl)) (fun _ _ _ h => h) (Or.inl ⟨by rfl,?_⟩) ?_ ?_;rotate_left
    ·intro w';go_simp;with_reducible rfl
    rotate_left
    ·simp only [Act.put,U,G,V,i64_w,i32_w];rfl
    refine pure_ (i:=16) (N:=some 47) (v:=?_) (a':=?_) #[true,true,true,true,true,true,true,true,true,true,true,true,true,true,true,true,true,false] rfl rfl (any_of HT_.out (by kernel_rfl)) (fun _ _ _ h => h) (Or.inl ⟨by rfl,?_⟩) ?_ ?_;rotate_left
    ·intro w';go_simp;with_reducible rfl
    rotate_left
    ·simp only [Act.put,U,G,V,i64_w,i32_w];rfl
    refine pure_ (i:=17) (N:=some 48) (v:=?_) (a':=?_) #[true,true,true,true,true,true,true,true,true,true,true,true,true,true,true,true,true,true] rfl rfl (any_of HT_.out (by kernel_rfl)) (fun _ _ _ h => h) (Or.inl ⟨by rfl,?_⟩) ?_ ?_;rotate_left
    ·intro w';go_simp;with_reducible rfl
    rotate_left
    ·simp only [Act.put,U,G,V,i64_w,i32_w];rfl
    refine done_ (done_of HT_.out (by kernel_rfl)) ?_
    try go_wp2
    go_meet
    case rel => exact ⟨_,(decide (t498 < 0)),(by first | rfl | (simp; done) | (simp [*]; done)),H',⟨by have:=HJ2.out; first | omega | exact Nat.le_refl _⟩,⟨by (with_reducible repeat (first | apply Kd.R_alloc | apply Kd.R_drewN | apply Kd.R_drew)); exact Kd.R_mono HO492.out (fun _ hk => ⟨hk.2,hk.1⟩)⟩,⟨by (with_reducible repeat (first | apply Kd.R_alloc | apply Kd.R_drewN | apply Kd.R_drew)); exact Kd.R_mono HO495.out (fun _ hk => ⟨hk.2,hk.1⟩)⟩,⟨by (with_reducible repeat (first | apply Kd.Q_alloc | apply Kd.Q_drewN | apply Kd.Q_drew)); exact HO483.out⟩,⟨by (with_reducible repeat (first | apply Kd.R_alloc | apply Kd.R_drewN | apply Kd.R_drew)); exact HO489.out⟩,⟨by (with_reducible repeat (first | refine blk_drewN ?_ _ | refine blk_drew ?_ | refine blk_alloc ?_ _)); exact BK496.out⟩,⟨by (with_reducible repeat (first | refine blk_drewN ?_ _ | refine blk_drew ?_ | refine blk_alloc ?_ _)); exact BK497.out⟩,⟨by repeat (first | (with_reducible first | exact HB.out | apply below_alloc | apply pw_below_drewN | apply below_drew1 | refine below_set ?_ GE496.out | refine below_set ?_ GE497.out) | exact HB.out)⟩⟩
   case rest =>
    clear HC8
    try clear c2
    try clear p2
    try clear c21
    try clear c21b0
    try clear c21b1
    try clear c22
    try clear c23
    try clear c24
    try clear c24b0
    try clear c24b1
    try clear c24b2
    obtain ⟨kq,x48_7,rfl,HA,HJ7,HO_7,HO_8,HO_497000,HO_498001,BK496,BK497,HB⟩:=hcut;cases kq with
    | zero => exact absurd HA.out (by simp [laws_FnFareRide.j1])
    | succ kj7 =>
     have H:=HA.out;clear HA;simp only [laws_FnFareRide.j1] at H
     by_cases c35 : x48_7 = true
     case pos =>
      subst c35;have H1 : ((spec_FareRide.f kj7 t481 t484 t485 t486 t487 t490 t493).bind fun t502 => (if t498 = t502 then ((impl_FareOk.f kj7 t481 t484 t485).bind fun t503 => ((spec_FareOk.f kj7 t481 t484 t485).bind fun t504 => (some (t503 == t504)))) else (some false))) = some r:=by rw [if_pos rfl] at H; exact H
      clear H;have H:=H1;clear H1;replace H:=Option.bind_eq_some_iff.mp H;obtain ⟨t502,A360,H⟩:=H;replace H : (if t498 = t502 then ((impl_FareOk.f kj7 t481 t484 t485).bind fun t503 => ((spec_FareOk.f kj7 t481 t484 t485).bind fun t504 => (some (t503 == t504)))) else (some false)) = some r:=H;have A36:=Z A360;clear A360
      by_cases c37 : t498 = t502
      case neg =>
       rw [if_neg c37] at H;have c37b0 : (t498 == t502) = false:=beq_eq_false_iff_ne.mpr c37;have c37b1 : (t498 != t502) = true:=bne_iff_ne.mpr c37;obtain rfl:=Option.some.inj H
       try go_wp2
       have n0_:=Z (Kd.R_drew HO_7.out);have n1_:=Z (Kd.R_drew HO_8.out);have n2_:=Z (Kd.Q_drew HO_497000.out);have n3_:=Z (Kd.R_drew HO_498001.out);have n4_:=Z (blk_drew BK496.out);have n5_:=Z (blk_drew BK497.out);have n6_:=Z (below_drew1 HB.out);clear HO_7;clear HO_8;clear HO_497000;clear HO_498001;clear BK496;clear BK497;clear HB;have HO_7:=n0_;have HO_8:=n1_;have HO_497000:=n2_;have HO_498001:=n3_;have BK496:=n4_;have BK497:=n5_;have HB:=n6_;clear n0_ n1_ n2_ n3_ n4_ n5_ n6_;refine start_ (n:=15) (S:=fun w' => w'.cell? ⟨gb496,0,none⟩ = some (.slice Ao12 t481.length co12) ∧ w'.cell? ⟨gb496,1,none⟩ = some (.int .i64 t484) ∧ w'.cell? ⟨gb496,2,none⟩ = some (.int .i64 t485) ∧ w'.cell? ⟨gb497,0,none⟩ = some (.int .i64 t486) ∧ w'.cell? ⟨gb497,1,none⟩ = some (.slice Ao16 t487.length co16)) (ds:=[]) #[false,false,false,false,false,false,false,false,false,false,false,false,false,false,false] (by kernel_rfl) rfl rfl ⟨(blk_cell BK496.out 0).trans rfl,(blk_cell BK496.out 1).trans rfl,(blk_cell BK496.out 2).trans rfl,(blk_cell BK497.out 0).trans rfl,(blk_cell BK497.out 1).trans rfl⟩ (fun hHeld => ?_); refine with_tabW laws_FnFareRide.tab6 laws_FnFareRide.bits6 (fun HT_ HW_ => ?_);generalize wc.drew = w44 at HO_7 HO_8 HO_497000 HO_498001 BK496 BK497 HB hHeld ⊢;refine pure_ (i:=0) (N:=some 49) (v:=?_) (a':=?_) #[true,false,false,false,false,false,false,false,false,false,false,false,false,false,false] rfl rfl (any_of HT_.out (by kernel_rfl)) (fun _ _ _ h => h) (Or.inl ⟨by rfl,?_⟩) ?_ ?_;rotate_left
       ·intro w';go_simp;with_reducible rfl
       rotate_left
       ·simp only [Act.put,U,G,V,i64_w,i32_w];rfl
       refine pure_ (i:=3) (N:=some 52) (v:=?_) (a':=?_) #[true,false,false,true,false,false,false,false,false,false,false,false,false,false,false] rfl rfl (any_of HT_.out (by kernel_rfl)) (fun _ _ _ h => h) (Or.inl ⟨by rfl,?_⟩) ?_ ?_;rotate_left
       ·intro w';go_simp;with_reducible rfl
       rotate_left
       ·simp only [Act.put,U,G,V,i64_w,i32_w];rfl
       refine pure_ (i:=4) (N:=some 53) (v:=?_) (a':=?_) #[true,false,false,true,true,false,false,false,false,false,false,false,false,false,false] rfl rfl (any_of HT_.out (by kernel_rfl)) (fun _ _ _ h => h) (Or.inl ⟨by rfl,?_⟩) ?_ ?_;rotate_left
       ·intro w';go_simp;with_reducible rfl
       rotate_left
       ·simp only [Act.put,U,G,V,i64_w,i32_w];rfl
       refine take_ (i:=1) (N:=some 50) (v:=?_) (a':=?_) #[true,true,false,true,true,false,false,false,false,false,false,false,false,false,false] rfl rfl (take_ofW HT_.out HW_.out (by kernel_rfl)) (fun _ _ _ h => h) (Or.inl ⟨by rfl,?_⟩) hHeld ?_ ?_;rotate_left
       ·rintro w' ⟨s0,s1,s2,s3,s4⟩;go_simp;with_reducible rfl
       rotate_left
       ·simp only [Act.put,U,G,V,i64_w,i32_w];rfl
       refine take_ (i:=2) (N:=some 51) (v:=?_) (a':=?_) #[true,true,true,true,true,false,false,false,false,false,false,false,false,false,false] rfl rfl (take_ofW HT_.out HW_.out (by kernel_rfl)) (fun _ _ _ h => h) (Or.inl ⟨by rfl,?_⟩) hHeld ?_ ?_;rotate_left
       ·rintro w' ⟨s0,s1,s2,s3,s4⟩;go_simp;with_reducible rfl
       rotate_left
       ·simp only [Act.put,U,G,V,i64_w,i32_w];rfl
       refine one_ (i:=5) (N:=some 54) #[true,true,true,true,true,true,false,false,false,false,false,false,false,false,false] rfl rfl (one_of HT_.out (by kernel_rfl)) (by decide) (fun K hK => ?_);refine goes_ Try.func22 (by kernel_rfl) rfl #[.agg #[.slice Ao12 t481.length co12,.int .i64 t484,.int .i64 t485],.agg #[.int .i64 t486,.slice Ao16 t487.length co16],.slice Ao17 t490.length co17,.slice Ao18 t493.length co18] (by rfl) rfl rfl (by (try simp only [List.map_toArray,List.map_cons,List.map_nil]); first | done | rfl | (simp only [List.length_drop,List.length_take]; rfl)) ?_;with_reducible refine (spec_FareRide.calls kj7 _ _ t481 t484 t485 t486 _ _ t487 _ _ t490 _ _ t493 t502 _ ?side1 ?side2 ?side3 ?side4 ?side5 ?side6 ?side7 ?side8 A36.out).mono ?_
       (case side1 => repeat (first | exact (Kd.Q_reads' HO_497000.out).2.2 | (with_reducible refine Kd.C_alloc ?_ _) | (with_reducible refine Kd.C_drewN ?_ _) | (with_reducible refine Kd.C_drew ?_)))
       (case side2 => exact (Kd.Q_reads' HO_497000.out).2.1)
       (case side3 => repeat (first | exact (Kd.R_reads' HO_498001.out).2.2 | (with_reducible refine Kd.C_alloc ?_ _) | (with_reducible refine Kd.C_drewN ?_ _) | (with_reducible refine Kd.C_drew ?_)))
       (case side4 => exact (Kd.R_reads' HO_498001.out).2.1)
       (case side5 => repeat (first | exact (Kd.R_reads' HO_7.out).2.2 | (with_reducible refine Kd.C_alloc ?_ _) | (with_reducible refine Kd.C_drewN ?_ _) | (with_reducible refine Kd.C_drew ?_)))
       (case side6 => exact (Kd.R_reads' HO_7.out).2.1)
       (case side7 => repeat (first | exact (Kd.R_reads' HO_8.out).2.2 | (with_reducible refine Kd.C_alloc ?_ _) | (with_reducible refine Kd.C_drewN ?_ _) | (with_reducible refine Kd.C_drew ?_)))
       (case side8 => exact (Kd.R_reads' HO_8.out).2.1)
       rintro e w45 ⟨rfl,hb⟩;refine ⟨_,rfl,?_⟩;have n0_:=Z (Kd.R_below (by (with_reducible repeat (first | apply Kd.R_alloc | apply Kd.R_drewN | apply Kd.R_drew)); exact HO_7.out) hb);have n1_:=Z (Kd.R_below (by (with_reducible repeat (first | apply Kd.R_alloc | apply Kd.R_drewN | apply Kd.R_drew)); exact HO_8.out) hb);have n2_:=Z (Kd.Q_below (by (with_reducible repeat (first | apply Kd.Q_alloc | apply Kd.Q_drewN | apply Kd.Q_drew)); exact HO_497000.out) hb);have n3_:=Z (Kd.R_below (by (with_reducible repeat (first | apply Kd.R_alloc | apply Kd.R_drewN | apply Kd.R_drew)); exact HO_498001.out) hb);have n4_:=Z (blk_below (g:=gb496) (o:=.cells #[.slice Ao12 t481.length co12,.int .i64 t484,.int .i64 t485] 25 (0,0)) (by (with_reducible repeat (first | refine blk_drewN ?_ _ | refine blk_drew ?_ | refine blk_alloc ?_ _)); exact BK496.out) hb);have n5_:=Z (blk_below (g:=gb497) (o:=.cells #[.int .i64 t486,.slice Ao16 t487.length co16] 34 (0,0)) (by (with_reducible repeat (first | refine blk_drewN ?_ _ | refine blk_drew ?_ | refine blk_alloc ?_ _)); exact BK497.out) hb);have n6_:=Z (below_step (by repeat (first | (with_reducible first | exact HB.out | apply below_alloc | apply pw_below_drewN | apply below_drew1 | refine below_set ?_ GE496.out | refine below_set ?_ GE497.out) | exact HB.out)) hb);clear HO_7;clear HO_8;clear HO_497000;clear HO_498001;clear BK496;clear BK497;clear HB;have HO_7:=n0_;have HO_8:=n1_;have HO_497000:=n2_;have HO_498001:=n3_;have BK496:=n4_;have BK497:=n5_;have HB:=n6_;clear n0_ n1_ n2_ n3_ n4_ n5_ n6_
       (try clear hb)
       (try clear hb2)
       (try clear hk)
       (try clear hi)
       refine hK.out _ _ ⟨(blk_cell BK496.out 0).trans rfl,(blk_cell BK496.out 1).trans rfl,(blk_cell BK496.out 2).trans rfl,(blk_cell BK497.out 0).trans rfl,(blk_cell BK497.out 1).trans rfl⟩ (fun hHeld => ?_);clear hK K;refine norm_ (a':=?_) ?_ ?_;rotate_left
       ·show Act.put _ (some 54) _ = _
        simp only [Act.put,U,G,V,i64_w,i32_w];rfl
       refine pure_ (i:=6) (N:=some 55) (v:=?_) (a':=?_) #[true,true,true,true,true,true,true,false,false,false,false,false,false,false,false] rfl rfl (any_of HT_.out (by kernel_rfl)) (fun _ _ _ h => h) (Or.inl ⟨by rfl,?_⟩) ?_ ?_;rotate_left
       ·intro w';go_simp;with_reducible rfl
       rotate_left
       ·simp only [Act.put,U,G,V,i64_w,i32_w];rfl
       refine pure_ (i:=7) (N:=some 56) (v:=?_) (a':=?_) #[true,true,true,true,true,true,true,true,false,false,false,false,false,false,false] rfl rfl (any_of HT_.out (by kernel_rfl)) (fun _ _ _ h => h) (Or.inl ⟨by rfl,?_⟩) ?_ ?_;rotate_left
       ·intro w';go_simp;with_reducible rfl
       rotate_left
       ·simp only [Act.put,U,G,V,i64_w,i32_w];rfl
       refine pure_ (i:=8) (N:=some 57) (v:=undef) (a':=?_) #[true,true,true,true,true,true,true,true,true,false,false,false,false,false,false] rfl rfl (any_of HT_.out (by kernel_rfl)) (fun _ _ _ h => h) (Or.inr ⟨by rfl,rfl⟩) ?_ ?_;rotate_left
       ·simp only [Act.put,U,G,V,i64_w,i32_w];rfl
       refine pure_ (i:=9) (N:=some 58) (v:=undef) (a':=?_) #[true,true,true,true,true,true,true,true,true,true,false,false,false,false,false] rfl rfl (any_of HT_.out (by kernel_rfl)) (fun _ _ _ h => h) (Or.inr ⟨by rfl,rfl⟩) ?_ ?_;rotate_left
       ·simp only [Act.put,U,G,V,i64_w,i32_w];rfl
       refine pure_ (i:=10) (N:=some 59) (v:=undef) (a':=?_) #[true,true,true,true,true,true,true,true,true,true,true,false,false,false,false] rfl rfl (any_of HT_.out (by kernel_rfl)) (fun _ _ _ h => h) (Or.inr ⟨by rfl,rfl⟩) ?_ ?_;rotate_left
       ·simp only [Act.put,U,G,V,i64_w,i32_w];rfl
       refine pure_ (i:=11) (N:=some 60) (v:=undef) (a':=?_) #[true,true,true,true,true,true,true,true,true,true,true,true,false,false,false] rfl rfl (any_of HT_.out (by kernel_rfl)) (fun _ _ _ h => h) (Or.inr ⟨by rfl,rfl⟩) ?_ ?_;rotate_left
       ·simp only [Act.put,U,G,V,i64_w,i32_w];rfl
       refine pure_ (i:=12) (N:=some 61) (v:=undef) (a':=?_) #[true,true,true,true,true,true,true,true,true,true,true,true,true,false,false] rfl rfl (any_of HT_.out (by kernel_rfl)) (fun _ _ _ h => h) (Or.inr ⟨by rfl,rfl⟩) ?_ ?_;rotate_left
       ·simp only [Act.put,U,G,V,i64_w,i32_w];rfl
       refine pure_ (i:=13) (N:=some 62) (v:=?_) (a':=?_) #[true,true,true,true,true,true,true,true,true,true,true,true,true,true,false] rfl rfl (any_of HT_.out (by kernel_rfl)) (fun _ _ _ h => h) (Or.inl ⟨by rfl,?_⟩) ?_ ?_;rotate_left
       ·intro w';go_simp;with_reducible rfl
       rotate_left
       ·simp only [Act.put,U,G,V,i64_w,i32_w];rfl
       refine pure_ (i:=14) (N:=some 4) (v:=?_) (a':=?_) #[true,true,true,true,true,true,true,true,true,true,true,true,true,true,true] rfl rfl (any_of HT_.out (by kernel_rfl)) (fun _ _ _ h => h) (Or.inl ⟨by rfl,?_⟩) ?_ ?_;rotate_left
       ·intro w';go_simp;with_reducible rfl
       rotate_left
       ·simp only [Act.put,U,G,V,i64_w,i32_w];rfl
       refine done_ (done_of HT_.out (by kernel_rfl)) ?_
       try go_wp2
       go_ret;exact ⟨by first | rfl | (simp [errW_none,errW_some] <;> rfl) | (simp [*,errW_none,errW_some] <;> rfl),by repeat (first | (with_reducible first | exact HB.out | apply below_alloc | apply pw_below_drewN | apply below_drew1 | refine below_set ?_ GE496.out | refine below_set ?_ GE497.out) | exact HB.out)⟩
      rw [if_pos c37] at H;have c37b0 : (t498 == t502) = true:=beq_iff_eq.mpr c37;have c37b1 : (t498 != t502) = false:=bne_eq_false_iff_eq.mpr c37;clear c37;replace H:=Option.bind_eq_some_iff.mp H;obtain ⟨t503,A380,H⟩:=H;replace H : ((spec_FareOk.f kj7 t481 t484 t485).bind fun t504 => (some (t503 == t504))) = some r:=H;have A38:=Z A380;clear A380;replace H:=Option.bind_eq_some_iff.mp H;obtain ⟨t504,A390,H⟩:=H;replace H : (some (t503 == t504)) = some r:=H;have A39:=Z A390;clear A390;obtain rfl:=Option.some.inj H
      try go_wp2
      have n0_:=Z (Kd.R_drew HO_7.out);have n1_:=Z (Kd.R_drew HO_8.out);have n2_:=Z (Kd.Q_drew HO_497000.out);have n3_:=Z (Kd.R_drew HO_498001.out);have n4_:=Z (blk_drew BK496.out);have n5_:=Z (blk_drew BK497.out);have n6_:=Z (below_drew1 HB.out);clear HO_7;clear HO_8;clear HO_497000;clear HO_498001;clear BK496;clear BK497;clear HB;have HO_7:=n0_;have HO_8:=n1_;have HO_497000:=n2_;have HO_498001:=n3_;have BK496:=n4_;have BK497:=n5_;have HB:=n6_;clear n0_ n1_ n2_ n3_ n4_ n5_ n6_;refine start_ (n:=15) (S:=fun w' => w'.cell? ⟨gb496,0,none⟩ = some (.slice Ao12 t481.length co12) ∧ w'.cell? ⟨gb496,1,none⟩ = some (.int .i64 t484) ∧ w'.cell? ⟨gb496,2,none⟩ = some (.int .i64 t485) ∧ w'.cell? ⟨gb497,0,none⟩ = some (.int .i64 t486) ∧ w'.cell? ⟨gb497,1,none⟩ = some (.slice Ao16 t487.length co16)) (ds:=[]) #[false,false,false,false,false,false,false,false,false,false,false,false,false,false,false] (by kernel_rfl) rfl rfl ⟨(blk_cell BK496.out 0).trans rfl,(blk_cell BK496.out 1).trans rfl,(blk_cell BK496.out 2).trans rfl,(blk_cell BK497.out 0).trans rfl,(blk_cell BK497.out 1).trans rfl⟩ (fun hHeld => ?_); refine with_tabW laws_FnFareRide.tab6 laws_FnFareRide.bits6 (fun HT_ HW_ => ?_);generalize wc.drew = w40 at HO_7 HO_8 HO_497000 HO_498001 BK496 BK497 HB hHeld ⊢;refine pure_ (i:=0) (N:=some 49) (v:=?_) (a':=?_) #[true,false,false,false,false,false,false,false,false,false,false,false,false,false,false] rfl rfl (any_of HT_.out (by kernel_rfl)) (fun _ _ _ h => h) (Or.inl ⟨by rfl,?_⟩) ?_ ?_;rotate_left
      ·intro w';go_simp;with_reducible rfl
      rotate_left
      ·simp only [Act.put,U,G,V,i64_w,i32_w];rfl
      refine pure_ (i:=3) (N:=some 52) (v:=?_) (a':=?_) #[true,false,false,true,false,false,false,false,false,false,false,false,false,false,false] rfl rfl (any_of HT_.out (by kernel_rfl)) (fun _ _ _ h => h) (Or.inl ⟨by rfl,?_⟩) ?_ ?_;rotate_left
      ·intro w';go_simp;with_reducible rfl
      rotate_left
      ·simp only [Act.put,U,G,V,i64_w,i32_w];rfl
      refine pure_ (i:=4) (N:=some 53) (v:=?_) (a':=?_) #[true,false,false,true,true,false,false,false,false,false,false,false,false,false,false] rfl rfl (any_of HT_.out (by kernel_rfl)) (fun _ _ _ h => h) (Or.inl ⟨by rfl,?_⟩) ?_ ?_;rotate_left
      ·intro w';go_simp;with_reducible rfl
      rotate_left
      ·simp only [Act.put,U,G,V,i64_w,i32_w];rfl
      refine take_ (i:=1) (N:=some 50) (v:=?_) (a':=?_) #[true,true,false,true,true,false,false,false,false,false,false,false,false,false,false] rfl rfl (take_ofW HT_.out HW_.out (by kernel_rfl)) (fun _ _ _ h => h) (Or.inl ⟨by rfl,?_⟩) hHeld ?_ ?_;rotate_left
      ·rintro w' ⟨s0,s1,s2,s3,s4⟩;go_simp;with_reducible rfl
      rotate_left
      ·simp only [Act.put,U,G,V,i64_w,i32_w];rfl
      refine take_ (i:=2) (N:=some 51) (v:=?_) (a':=?_) #[true,true,true,true,true,false,false,false,false,false,false,false,false,false,false] rfl rfl (take_ofW HT_.out HW_.out (by kernel_rfl)) (fun _ _ _ h => h) (Or.inl ⟨by rfl,?_⟩) hHeld ?_ ?_;rotate_left
      ·rintro w' ⟨s0,s1,s2,s3,s4⟩;go_simp;with_reducible rfl
      rotate_left
      ·simp only [Act.put,U,G,V,i64_w,i32_w];rfl
      refine one_ (i:=5) (N:=some 54) #[true,true,true,true,true,true,false,false,false,false,false,false,false,false,false] rfl rfl (one_of HT_.out (by kernel_rfl)) (by decide) (fun K hK => ?_);refine goes_ Try.func22 (by kernel_rfl) rfl #[.agg #[.slice Ao12 t481.length co12,.int .i64 t484,.int .i64 t485],.agg #[.int .i64 t486,.slice Ao16 t487.length co16],.slice Ao17 t490.length co17,.slice Ao18 t493.length co18] (by rfl) rfl rfl (by (try simp only [List.map_toArray,List.map_cons,List.map_nil]); first | done | rfl | (simp only [List.length_drop,List.length_take]; rfl)) ?_;with_reducible refine (spec_FareRide.calls kj7 _ _ t481 t484 t485 t486 _ _ t487 _ _ t490 _ _ t493 t502 _ ?side1 ?side2 ?side3 ?side4 ?side5 ?side6 ?side7 ?side8 A36.out).mono ?_
      (case side1 => repeat (first | exact (Kd.Q_reads' HO_497000.out).2.2 | (with_reducible refine Kd.C_alloc ?_ _) | (with_reducible refine Kd.C_drewN ?_ _) | (with_reducible refine Kd.C_drew ?_)))
      (case side2 => exact (Kd.Q_reads' HO_497000.out).2.1)
      (case side3 => repeat (first | exact (Kd.R_reads' HO_498001.out).2.2 | (with_reducible refine Kd.C_alloc ?_ _) | (with_reducible refine Kd.C_drewN ?_ _) | (with_reducible refine Kd.C_drew ?_)))
      (case side4 => exact (Kd.R_reads' HO_498001.out).2.1)
      (case side5 => repeat (first | exact (Kd.R_reads' HO_7.out).2.2 | (with_reducible refine Kd.C_alloc ?_ _) | (with_reducible refine Kd.C_drewN ?_ _) | (with_reducible refine Kd.C_drew ?_)))
      (case side6 => exact (Kd.R_reads' HO_7.out).2.1)
      (case side7 => repeat (first | exact (Kd.R_reads' HO_8.out).2.2 | (with_reducible refine Kd.C_alloc ?_ _) | (with_reducible refine Kd.C_drewN ?_ _) | (with_reducible refine Kd.C_drew ?_)))
      (case side8 => exact (Kd.R_reads' HO_8.out).2.1)
      rintro e w41 ⟨rfl,hb⟩;refine ⟨_,rfl,?_⟩;have n0_:=Z (Kd.R_below (by (with_reducible repeat (first | apply Kd.R_alloc | apply Kd.R_drewN | apply Kd.R_drew)); exact HO_7.out) hb);have n1_:=Z (Kd.R_below (by (with_reducible repeat (first | apply Kd.R_alloc | apply Kd.R_drewN | apply Kd.R_drew)); exact HO_8.out) hb);have n2_:=Z (Kd.Q_below (by (with_reducible repeat (first | apply Kd.Q_alloc | apply Kd.Q_drewN | apply Kd.Q_drew)); exact HO_497000.out) hb);have n3_:=Z (Kd.R_below (by (with_reducible repeat (first | apply Kd.R_alloc | apply Kd.R_drewN | apply Kd.R_drew)); exact HO_498001.out) hb);have n4_:=Z (blk_below (g:=gb496) (o:=.cells #[.slice Ao12 t481.length co12,.int .i64 t484,.int .i64 t485] 25 (0,0)) (by (with_reducible repeat (first | refine blk_drewN ?_ _ | refine blk_drew ?_ | refine blk_alloc ?_ _)); exact BK496.out) hb);have n5_:=Z (blk_below (g:=gb497) (o:=.cells #[.int .i64 t486,.slice Ao16 t487.length co16] 34 (0,0)) (by (with_reducible repeat (first | refine blk_drewN ?_ _ | refine blk_drew ?_ | refine blk_alloc ?_ _)); exact BK497.out) hb);have n6_:=Z (below_step (by repeat (first | (with_reducible first | exact HB.out | apply below_alloc | apply pw_below_drewN | apply below_drew1 | refine below_set ?_ GE496.out | refine below_set ?_ GE497.out) | exact HB.out)) hb);clear HO_7;clear HO_8;clear HO_497000;clear HO_498001;clear BK496;clear BK497;clear HB;have HO_7:=n0_;have HO_8:=n1_;have HO_497000:=n2_;have HO_498001:=n3_;have BK496:=n4_;have BK497:=n5_;have HB:=n6_;clear n0_ n1_ n2_ n3_ n4_ n5_ n6_
      (try clear hb)
      (try clear hb2)
      (try clear hk)
      (try clear hi)
      refine hK.out _ _ ⟨(blk_cell BK496.out 0).trans rfl,(blk_cell BK496.out 1).trans rfl,(blk_cell BK496.out 2).trans rfl,(blk_cell BK497.out 0).trans rfl,(blk_cell BK497.out 1).trans rfl⟩ (fun hHeld => ?_);clear hK K;refine norm_ (a':=?_) ?_ ?_;rotate_left
      ·show Act.put _ (some 54) _ = _
       simp only [Act.put,U,G,V,i64_w,i32_w];rfl
      refine pure_ (i:=6) (N:=some 55) (v:=?_) (a':=?_) #[true,true,true,true,true,true,true,false,false,false,false,false,false,false,false] rfl rfl (any_of HT_.out (by kernel_rfl)) (fun _ _ _ h => h) (Or.inl ⟨by rfl,?_⟩) ?_ ?_;rotate_left
      ·intro w';go_simp;with_reducible rfl
      rotate_left
      ·simp only [Act.put,U,G,V,i64_w,i32_w];rfl
      refine pure_ (i:=7) (N:=some 56) (v:=?_) (a':=?_) #[true,true,true,true,true,true,true,true,false,false,false,false,false,false,false] rfl rfl (any_of HT_.out (by kernel_rfl)) (fun _ _ _ h => h) (Or.inl ⟨by rfl,?_⟩) ?_ ?_;rotate_left
      ·intro w';go_simp;with_reducible rfl
      rotate_left
      ·simp only [Act.put,U,G,V,i64_w,i32_w];rfl
      refine take_ (i:=8) (N:=some 57) (v:=?_) (a':=?_) #[true,true,true,true,true,true,true,true,true,false,false,false,false,false,false] rfl rfl (take_ofW HT_.out HW_.out (by kernel_rfl)) (fun _ _ _ h => h) (Or.inl ⟨by rfl,?_⟩) hHeld ?_ ?_;rotate_left
      ·rintro w' ⟨s0,s1,s2,s3,s4⟩;go_simp;with_reducible rfl
      rotate_left
      ·simp only [Act.put,U,G,V,i64_w,i32_w];rfl
      refine take_ (i:=10) (N:=some 59) (v:=?_) (a':=?_) #[true,true,true,true,true,true,true,true,true,false,true,false,false,false,false] rfl rfl (take_ofW HT_.out HW_.out (by kernel_rfl)) (fun _ _ _ h => h) (Or.inl ⟨by rfl,?_⟩) hHeld ?_ ?_;rotate_left
      ·rintro w' ⟨s0,s1,s2,s3,s4⟩;go_simp;with_reducible rfl
      rotate_left
      ·simp only [Act.put,U,G,V,i64_w,i32_w];rfl
      refine one_ (i:=9) (N:=some 58) #[true,true,true,true,true,true,true,true,true,true,true,false,false,false,false] rfl rfl (one_of HT_.out (by kernel_rfl)) (by decide) (fun K hK => ?_);refine goes_ Try.func23 (by kernel_rfl) rfl #[.agg #[.slice Ao12 t481.length co12,.int .i64 t484,.int .i64 t485]] (by rfl) rfl rfl (by (try simp only [List.map_toArray,List.map_cons,List.map_nil]); first | done | rfl | (simp only [List.length_drop,List.length_take]; rfl)) ?_;with_reducible refine (impl_FareOk.calls kj7 _ _ t481 t484 t485 t503 _ ?side1 ?side2 A38.out).mono ?_
      (case side1 => repeat (first | exact (Kd.Q_reads' HO_497000.out).2.2 | (with_reducible refine Kd.C_alloc ?_ _) | (with_reducible refine Kd.C_drewN ?_ _) | (with_reducible refine Kd.C_drew ?_)))
      (case side2 => exact (Kd.Q_reads' HO_497000.out).2.1)
      rintro e w42 ⟨rfl,hb⟩;refine ⟨_,rfl,?_⟩;have n0_:=Z (Kd.R_below (by (with_reducible repeat (first | apply Kd.R_alloc | apply Kd.R_drewN | apply Kd.R_drew)); exact HO_7.out) hb);have n1_:=Z (Kd.R_below (by (with_reducible repeat (first | apply Kd.R_alloc | apply Kd.R_drewN | apply Kd.R_drew)); exact HO_8.out) hb);have n2_:=Z (Kd.Q_below (by (with_reducible repeat (first | apply Kd.Q_alloc | apply Kd.Q_drewN | apply Kd.Q_drew)); exact HO_497000.out) hb);have n3_:=Z (Kd.R_below (by (with_reducible repeat (first | apply Kd.R_alloc | apply Kd.R_drewN | apply Kd.R_drew)); exact HO_498001.out) hb);have n4_:=Z (blk_below (g:=gb496) (o:=.cells #[.slice Ao12 t481.length co12,.int .i64 t484,.int .i64 t485] 25 (0,0)) (by (with_reducible repeat (first | refine blk_drewN ?_ _ | refine blk_drew ?_ | refine blk_alloc ?_ _)); exact BK496.out) hb);have n5_:=Z (blk_below (g:=gb497) (o:=.cells #[.int .i64 t486,.slice Ao16 t487.length co16] 34 (0,0)) (by (with_reducible repeat (first | refine blk_drewN ?_ _ | refine blk_drew ?_ | refine blk_alloc ?_ _)); exact BK497.out) hb);have n6_:=Z (below_step (by repeat (first | (with_reducible first | exact HB.out | apply below_alloc | apply pw_below_drewN | apply below_drew1 | refine below_set ?_ GE496.out | refine below_set ?_ GE497.out) | exact HB.out)) hb);clear HO_7;clear HO_8;clear HO_497000;clear HO_498001;clear BK496;clear BK497;clear HB;have HO_7:=n0_;have HO_8:=n1_;have HO_497000:=n2_;have HO_498001:=n3_;have BK496:=n4_;have BK497:=n5_;have HB:=n6_;clear n0_ n1_ n2_ n3_ n4_ n5_ n6_
      (try clear hb)
      (try clear hb2)
      (try clear hk)
      (try clear hi)
      refine hK.out _ _ ⟨(blk_cell BK496.out 0).trans rfl,(blk_cell BK496.out 1).trans rfl,(blk_cell BK496.out 2).trans rfl,(blk_cell BK497.out 0).trans rfl,(blk_cell BK497.out 1).trans rfl⟩ (fun hHeld => ?_);clear hK K;refine norm_ (a':=?_) ?_ ?_;rotate_left
      ·show Act.put _ (some 58) _ = _
       simp only [Act.put,U,G,V,i64_w,i32_w];rfl
      refine one_ (i:=11) (N:=some 60) #[true,true,true,true,true,true,true,true,true,true,true,true,false,false,false] rfl rfl (one_of HT_.out (by kernel_rfl)) (by decide) (fun K hK => ?_);refine goes_ Try.func24 (by kernel_rfl) rfl #[.agg #[.slice Ao12 t481.length co12,.int .i64 t484,.int .i64 t485]] (by rfl) rfl rfl (by (try simp only [List.map_toArray,List.map_cons,List.map_nil]); first | done | rfl | (simp only [List.length_drop,List.length_take]; rfl)) ?_;with_reducible refine (spec_FareOk.calls kj7 _ _ t481 t484 t485 t504 _ ?side1 ?side2 A39.out).mono ?_
      (case side1 => repeat (first | exact (Kd.Q_reads' HO_497000.out).2.2 | (with_reducible refine Kd.C_alloc ?_ _) | (with_reducible refine Kd.C_drewN ?_ _) | (with_reducible refine Kd.C_drew ?_)))
      (case side2 => exact (Kd.Q_reads' HO_497000.out).2.1)
      rintro e w43 ⟨rfl,hb⟩;refine ⟨_,rfl,?_⟩;have n0_:=Z (Kd.R_below (by (with_reducible repeat (first | apply Kd.R_alloc | apply Kd.R_drewN | apply Kd.R_drew)); exact HO_7.out) hb);have n1_:=Z (Kd.R_below (by (with_reducible repeat (first | apply Kd.R_alloc | apply Kd.R_drewN | apply Kd.R_drew)); exact HO_8.out) hb);have n2_:=Z (Kd.Q_below (by (with_reducible repeat (first | apply Kd.Q_alloc | apply Kd.Q_drewN | apply Kd.Q_drew)); exact HO_497000.out) hb);have n3_:=Z (Kd.R_below (by (with_reducible repeat (first | apply Kd.R_alloc | apply Kd.R_drewN | apply Kd.R_drew)); exact HO_498001.out) hb);have n4_:=Z (blk_below (g:=gb496) (o:=.cells #[.slice Ao12 t481.length co12,.int .i64 t484,.int .i64 t485] 25 (0,0)) (by (with_reducible repeat (first | refine blk_drewN ?_ _ | refine blk_drew ?_ | refine blk_alloc ?_ _)); exact BK496.out) hb);have n5_:=Z (blk_below (g:=gb497) (o:=.cells #[.int .i64 t486,.slice Ao16 t487.length co16] 34 (0,0)) (by (with_reducible repeat (first | refine blk_drewN ?_ _ | refine blk_drew ?_ | refine blk_alloc ?_ _)); exact BK497.out) hb);have n6_:=Z (below_step (by repeat (first | (with_reducible first | exact HB.out | apply below_alloc | apply pw_below_drewN | apply below_drew1 | refine below_set ?_ GE496.out | refine below_set ?_ GE497.out) | exact HB.out)) hb);clear HO_7;clear HO_8;clear HO_497000;clear HO_498001;clear BK496;clear BK497;clear HB;have HO_7:=n0_;have HO_8:=n1_;have HO_497000:=n2_;have HO_498001:=n3_;have BK496:=n4_;have BK497:=n5_;have HB:=n6_;clear n0_ n1_ n2_ n3_ n4_ n5_ n6_
      (try clear hb)
      (try clear hb2)
      (try clear hk)
      (try clear hi)
      refine hK.out _ _ ⟨(blk_cell BK496.out 0).trans rfl,(blk_cell BK496.out 1).trans rfl,(blk_cell BK496.out 2).trans rfl,(blk_cell BK497.out 0).trans rfl,(blk_cell BK497.out 1).trans rfl⟩ (fun hHeld => ?_);clear hK K;refine norm_ (a':=?_) ?_ ?_;rotate_left
      ·show Act.put _ (some 60) _ = _
       simp only [Act.put,U,G,V,i64_w,i32_w];rfl
      refine pure_ (i:=12) (N:=some 61) (v:=?_) (a':=?_) #[true,true,true,true,true,true,true,true,true,true,true,true,true,false,false] rfl rfl (any_of HT_.out (by kernel_rfl)) (fun _ _ _ h => h) (Or.inl ⟨by rfl,?_⟩) ?_ ?_;rotate_left
      ·intro w';go_simp;with_reducible rfl
      rotate_left
      ·simp only [Act.put,U,G,V,i64_w,i32_w];rfl
      refine pure_ (i:=13) (N:=some 62) (v:=?_) (a':=?_) #[true,true,true,true,true,true,true,true,true,true,true,true,true,true,false] rfl rfl (any_of HT_.out (by kernel_rfl)) (fun _ _ _ h => h) (Or.inl ⟨by rfl,?_⟩) ?_ ?_;rotate_left
      ·intro w';go_simp;with_reducible rfl
      rotate_left
      ·simp only [Act.put,U,G,V,i64_w,i32_w];rfl
      refine pure_ (i:=14) (N:=some 4) (v:=?_) (a':=?_) #[true,true,true,true,true,true,true,true,true,true,true,true,true,true,true] rfl rfl (any_of HT_.out (by kernel_rfl)) (fun _ _ _ h => h) (Or.inl ⟨by rfl,?_⟩) ?_ ?_;rotate_left
      ·intro w';go_simp;with_reducible rfl
      rotate_left
      ·simp only [Act.put,U,G,V,i64_w,i32_w];rfl
      refine done_ (done_of HT_.out (by kernel_rfl)) ?_
      try go_wp2
      go_ret;exact ⟨by first | rfl | (simp [errW_none,errW_some] <;> rfl) | (simp [*,errW_none,errW_some] <;> rfl),by repeat (first | (with_reducible first | exact HB.out | apply below_alloc | apply pw_below_drewN | apply below_drew1 | refine below_set ?_ GE496.out | refine below_set ?_ GE497.out) | exact HB.out)⟩
     replace c35:=Bool.eq_false_iff.mpr c35;subst c35;have H1 : (if (t493.length : Int) = 0 then (none) else (if 0 ≤ (wrap64 (1 + ((l1.length : Int) % (t493.length : Int)))) then (if (wrap64 (1 + ((l1.length : Int) % (t493.length : Int)))) ≤ (t493.length : Int) then ((impl_FareRide.f kj7 t481 t484 t485 t486 t487 t490 (t493.take ((wrap64 (1 + ((l1.length : Int) % (t493.length : Int)))) : Int).toNat)).bind fun t509 => (if t509 ≤ t498 then (if 0 ≤ t486 then (if (t486 : Int).toNat ≤ 35184372088832 then ((impl_FareRide.f kj7 t481 t484 t485 t486 t487 (List.replicate (t486 : Int).toNat 0) t493).bind fun t513 => (if 0 < (t481.length : Int) then (if t513 = (rd t481 0) then (some (decide ((rd t481 0) ≤ t498))) else (some false)) else (none))) else (none)) else (none)) else (some false))) else (none)) else (none))) = some r:=by rw [if_neg (show ¬ (false = true) by decide)] at H; exact H
     clear H;have H:=H1;clear H1
     by_cases c46 : (t493.length : Int) = 0
     case pos =>
      rw [if_pos c46] at H;exact absurd H (by simp)
     rw [if_neg c46] at H;have c46b0 : ((t493.length : Int) == 0) = false:=beq_eq_false_iff_ne.mpr c46;have c46b1 : ((t493.length : Int) != 0) = true:=bne_iff_ne.mpr c46;have c46b2 : ¬ (t493 = []):=fun h_ => c46 (by rw [h_]; rfl)
     obtain ⟨ji47,hji47⟩ : ∃ j_ : Int,(wrap64 (1 + ((l1.length : Int) % (t493.length : Int)))) = j_:=⟨_,rfl⟩
     replace H : (if 0 ≤ (ji47) then (if (ji47) ≤ (t493.length : Int) then ((impl_FareRide.f kj7 t481 t484 t485 t486 t487 t490 (t493.take ((ji47) : Int).toNat)).bind fun t509 => (if t509 ≤ t498 then (if 0 ≤ t486 then (if (t486 : Int).toNat ≤ 35184372088832 then ((impl_FareRide.f kj7 t481 t484 t485 t486 t487 (List.replicate (t486 : Int).toNat 0) t493).bind fun t513 => (if 0 < (t481.length : Int) then (if t513 = (rd t481 0) then (some (decide ((rd t481 0) ≤ t498))) else (some false)) else (none))) else (none)) else (none)) else (some false))) else (none)) else (none)) = some r:=by first | (rw [hji47] at H; exact H) | (simp only [hji47] at H ⊢; exact H)
     have hji47w : (IntKind.i64.wrap (1 + ((l1.length : Int) % (t493.length : Int)))) = ji47:=(i64_w _).trans hji47
     by_cases c48 : 0 ≤ (ji47)
     case neg =>
      rw [if_neg c48] at H;exact absurd H (by simp)
     rw [if_pos c48] at H;have c48b0:=eq_true c48;have c48b1 : decide (0 ≤ (ji47)) = true:=decide_eq_true c48;clear c48
     by_cases c49 : (ji47) ≤ (t493.length : Int)
     case neg =>
      rw [if_neg c49] at H;exact absurd H (by simp)
     rw [if_pos c49] at H;have c49b0:=eq_true c49;have c49b1 : decide ((ji47) ≤ (t493.length : Int)) = true:=decide_eq_true c49;clear c49;obtain ⟨y505,hy505⟩ : ∃ y_ : List Int,y_ = (t493.take ((ji47) : Int).toNat):=⟨_,rfl⟩
     replace H : ((impl_FareRide.f kj7 t481 t484 t485 t486 t487 t490 y505).bind fun t509 => (if t509 ≤ t498 then (if 0 ≤ t486 then (if (t486 : Int).toNat ≤ 35184372088832 then ((impl_FareRide.f kj7 t481 t484 t485 t486 t487 (List.replicate (t486 : Int).toNat 0) t493).bind fun t513 => (if 0 < (t481.length : Int) then (if t513 = (rd t481 0) then (some (decide ((rd t481 0) ≤ t498))) else (some false)) else (none))) else (none)) else (none)) else (some false))) = some r:=by first | (rw [hy505]; with_reducible exact H) | (have H2_:=(Option.bind_some _ _).symm.trans H; rw [hy505]; with_reducible exact H2_) | (have H2_:=(Option.bind_some _ _).symm.trans H; with_reducible exact H2_) | with_reducible exact H | (rw [hy505]; exact H) | exact H
     have Ny505:=Z hy505;clear hy505;replace H:=Option.bind_eq_some_iff.mp H;obtain ⟨t509,A500,H⟩:=H;replace H : (if t509 ≤ t498 then (if 0 ≤ t486 then (if (t486 : Int).toNat ≤ 35184372088832 then ((impl_FareRide.f kj7 t481 t484 t485 t486 t487 (List.replicate (t486 : Int).toNat 0) t493).bind fun t513 => (if 0 < (t481.length : Int) then (if t513 = (rd t481 0) then (some (decide ((rd t481 0) ≤ t498))) else (some false)) else (none))) else (none)) else (none)) else (some false)) = some r:=H;have A50:=Z A500;clear A500
     by_cases c51 : t509 ≤ t498
     case neg =>
      rw [if_neg c51] at H;have c51b0 : decide (t509 ≤ t498) = false:=decide_eq_false c51;clear c51;obtain rfl:=Option.some.inj H
      try go_wp2
      have n0_:=Z (Kd.R_drew HO_7.out);have n1_:=Z (Kd.R_drew HO_8.out);have n2_:=Z (Kd.Q_drew HO_497000.out);have n3_:=Z (Kd.R_drew HO_498001.out);have n4_:=Z (blk_drew BK496.out);have n5_:=Z (blk_drew BK497.out);have n6_:=Z (below_drew1 HB.out);clear HO_7;clear HO_8;clear HO_497000;clear HO_498001;clear BK496;clear BK497;clear HB;have HO_7:=n0_;have HO_8:=n1_;have HO_497000:=n2_;have HO_498001:=n3_;have BK496:=n4_;have BK497:=n5_;have HB:=n6_;clear n0_ n1_ n2_ n3_ n4_ n5_ n6_;have q72 : ((ji47) : Int) ≤ ((t493.length : Int) : Int):=of_decide_eq_true (by first | (with_reducible assumption) | assumption);obtain ⟨i072,hi072,_,hsz72,_⟩:=info_parts info3;have hroom72 : t493.length ≤ co18:=(Kd.R_reads' HO_8.out).2.1;have hC72 : Kd.C (Kd.int .i64) _ Ao18 t493.length t493:=(Kd.R_reads' HO_8.out).2.2;have hcut72:=cut_to (P:=Try.prog) 23 3 .i64 Try.underlying23 hi072 Ao18 t493.length co18 (ji47) (of_decide_eq_true (by first | (with_reducible assumption) | assumption)) q72 hroom72;have hr72:=Kd.C_take (m:=((ji47) : Int).toNat) hC72 (by omega);have hy72 : y505.length = ((ji47) : Int).toNat:=(by rw [Ny505.out,List.length_take]; omega)
      rw [← Ny505.out] at hr72;rw [← hy72] at hcut72;have HR508:=Z hr72;have HC508:=Z (show y505.length ≤ co18 from by omega);clear hr72 hC72 hroom72 hi072 hsz72;have KY72:=Z hy72;clear hy72;have KL72:=Z (show ((ji47) : Int).toNat ≤ t493.length from by omega);replace q72:=eq_true q72;refine start_ (n:=32) (S:=fun w' => w'.cell? ⟨gb496,0,none⟩ = some (.slice Ao12 t481.length co12) ∧ w'.cell? ⟨gb496,1,none⟩ = some (.int .i64 t484) ∧ w'.cell? ⟨gb496,2,none⟩ = some (.int .i64 t485) ∧ w'.cell? ⟨gb497,0,none⟩ = some (.int .i64 t486) ∧ w'.cell? ⟨gb497,1,none⟩ = some (.slice Ao16 t487.length co16)) (ds:=[]) #[false,false,false,false,false,false,false,false,false,false,false,false,false,false,false,false,false,false,false,false,false,false,false,false,false,false,false,false,false,false,false,false] (by kernel_rfl) rfl rfl ⟨(blk_cell BK496.out 0).trans rfl,(blk_cell BK496.out 1).trans rfl,(blk_cell BK496.out 2).trans rfl,(blk_cell BK497.out 0).trans rfl,(blk_cell BK497.out 1).trans rfl⟩ (fun hHeld => ?_); refine with_tabW laws_FnFareRide.tab8 laws_FnFareRide.bits8 (fun HT_ HW_ => ?_);generalize wc.drew = w71 at HO_7 HO_8 HO_497000 HO_498001 BK496 BK497 HB HR508 hHeld ⊢;refine pure_ (i:=2) (N:=some 71) (v:=?_) (a':=?_) #[false,false,true,false,false,false,false,false,false,false,false,false,false,false,false,false,false,false,false,false,false,false,false,false,false,false,false,false,false,false,false,false] rfl rfl (any_of HT_.out (by kernel_rfl)) (fun _ _ _ h => h) (Or.inl ⟨by rfl,?_⟩) ?_ ?_;rotate_left
      ·intro w';go_simp;with_reducible rfl
      rotate_left
      ·simp only [Act.put,U,G,V,i64_w,i32_w];rfl
      refine pure_ (i:=3) (N:=some 72) (v:=?_) (a':=?_) #[false,false,true,true,false,false,false,false,false,false,false,false,false,false,false,false,false,false,false,false,false,false,false,false,false,false,false,false,false,false,false,false] rfl rfl (any_of HT_.out (by kernel_rfl)) (fun _ _ _ h => h) (Or.inl ⟨by rfl,?_⟩) ?_ ?_;rotate_left
      ·intro w';go_simp;with_reducible rfl
      rotate_left
      ·simp only [Act.put,U,G,V,i64_w,i32_w];rfl
      refine pure_ (i:=4) (N:=some 73) (v:=?_) (a':=?_) #[false,false,true,true,true,false,false,false,false,false,false,false,false,false,false,false,false,false,false,false,false,false,false,false,false,false,false,false,false,false,false,false] rfl rfl (any_of HT_.out (by kernel_rfl)) (fun _ _ _ h => h) (Or.inl ⟨by rfl,?_⟩) ?_ ?_;rotate_left
      ·intro w';go_simp;with_reducible rfl
      rotate_left
      ·simp only [Act.put,U,G,V,i64_w,i32_w];rfl
      refine pure_ (i:=5) (N:=some 74) (v:=?_) (a':=?_) #[false,false,true,true,true,true,false,false,false,false,false,false,false,false,false,false,false,false,false,false,false,false,false,false,false,false,false,false,false,false,false,false] rfl rfl (any_of HT_.out (by kernel_rfl)) (fun _ _ _ h => h) (Or.inl ⟨by rfl,?_⟩) ?_ ?_;rotate_left
      ·intro w';go_simp;with_reducible rfl
      rotate_left
      ·simp only [Act.put,U,G,V,i64_w,i32_w];rfl
      refine pure_ (i:=7) (N:=some 76) (v:=?_) (a':=?_) #[false,false,true,true,true,true,false,true,false,false,false,false,false,false,false,false,false,false,false,false,false,false,false,false,false,false,false,false,false,false,false,false] rfl rfl (any_of HT_.out (by kernel_rfl)) (fun _ _ _ h => h) (Or.inl ⟨by rfl,?_⟩) ?_ ?_;rotate_left
      ·intro w';go_simp;with_reducible rfl
      rotate_left
      ·simp only [Act.put,U,G,V,i64_w,i32_w];rfl
      refine take_ (i:=0) (N:=some 69) (v:=?_) (a':=?_) #[true,false,true,true,true,true,false,true,false,false,false,false,false,false,false,false,false,false,false,false,false,false,false,false,false,false,false,false,false,false,false,false] rfl rfl (take_ofW HT_.out HW_.out (by kernel_rfl)) (fun _ _ _ h => h) (Or.inl ⟨by rfl,?_⟩) hHeld ?_ ?_;rotate_left
      ·rintro w' ⟨s0,s1,s2,s3,s4⟩;go_simp;with_reducible rfl
      rotate_left
      ·simp only [Act.put,U,G,V,i64_w,i32_w];rfl
      refine take_ (i:=1) (N:=some 70) (v:=?_) (a':=?_) #[true,true,true,true,true,true,false,true,false,false,false,false,false,false,false,false,false,false,false,false,false,false,false,false,false,false,false,false,false,false,false,false] rfl rfl (take_ofW HT_.out HW_.out (by kernel_rfl)) (fun _ _ _ h => h) (Or.inl ⟨by rfl,?_⟩) hHeld ?_ ?_;rotate_left
      ·rintro w' ⟨s0,s1,s2,s3,s4⟩;go_simp;with_reducible rfl
      rotate_left
      ·simp only [Act.put,U,G,V,i64_w,i32_w];rfl
      refine one_ (i:=6) (N:=some 75) #[true,true,true,true,true,true,true,true,false,false,false,false,false,false,false,false,false,false,false,false,false,false,false,false,false,false,false,false,false,false,false,false] rfl rfl (one_of HT_.out (by kernel_rfl)) (by decide) (fun K hK => ?_);refine goes_ Try.func21 (by kernel_rfl) rfl #[.agg #[.slice Ao12 t481.length co12,.int .i64 t484,.int .i64 t485],.agg #[.int .i64 t486,.slice Ao16 t487.length co16],.slice Ao17 t490.length co17,.slice Ao18 y505.length co18] (by rfl) rfl rfl (by (try simp only [List.map_toArray,List.map_cons,List.map_nil]); first | done | rfl | (simp only [List.length_drop,List.length_take]; rfl)) ?_;with_reducible refine (impl_FareRide.calls kj7 _ _ t481 t484 t485 t486 _ _ t487 _ _ t490 _ _ y505 t509 _ ?side1 ?side2 ?side3 ?side4 ?side5 ?side6 ?side7 ?side8 A50.out).mono ?_
      (case side1 => repeat (first | exact (Kd.Q_reads' HO_497000.out).2.2 | (with_reducible refine Kd.C_alloc ?_ _) | (with_reducible refine Kd.C_drewN ?_ _) | (with_reducible refine Kd.C_drew ?_)))
      (case side2 => exact (Kd.Q_reads' HO_497000.out).2.1)
      (case side3 => repeat (first | exact (Kd.R_reads' HO_498001.out).2.2 | (with_reducible refine Kd.C_alloc ?_ _) | (with_reducible refine Kd.C_drewN ?_ _) | (with_reducible refine Kd.C_drew ?_)))
      (case side4 => exact (Kd.R_reads' HO_498001.out).2.1)
      (case side5 => repeat (first | exact (Kd.R_reads' HO_7.out).2.2 | (with_reducible refine Kd.C_alloc ?_ _) | (with_reducible refine Kd.C_drewN ?_ _) | (with_reducible refine Kd.C_drew ?_)))
      (case side6 => exact (Kd.R_reads' HO_7.out).2.1)
      (case side7 => repeat (first | exact (by repeat (first | (with_reducible exact HR508.out) | (with_reducible refine Kd.C_alloc ?_ _) | (with_reducible refine Kd.C_drewN ?_ _) | (with_reducible refine Kd.C_drew ?_) | exact HR508.out)) | (with_reducible refine Kd.C_alloc ?_ _) | (with_reducible refine Kd.C_drewN ?_ _) | (with_reducible refine Kd.C_drew ?_)))
      (case side8 => exact HC508.out)
      rintro e w73 ⟨rfl,hb⟩;refine ⟨_,rfl,?_⟩;have n0_:=Z (Kd.R_below (by (with_reducible repeat (first | apply Kd.R_alloc | apply Kd.R_drewN | apply Kd.R_drew)); exact HO_7.out) hb);have n1_:=Z (Kd.R_below (by (with_reducible repeat (first | apply Kd.R_alloc | apply Kd.R_drewN | apply Kd.R_drew)); exact HO_8.out) hb);have n2_:=Z (Kd.Q_below (by (with_reducible repeat (first | apply Kd.Q_alloc | apply Kd.Q_drewN | apply Kd.Q_drew)); exact HO_497000.out) hb);have n3_:=Z (Kd.R_below (by (with_reducible repeat (first | apply Kd.R_alloc | apply Kd.R_drewN | apply Kd.R_drew)); exact HO_498001.out) hb);have n4_:=Z (blk_below (g:=gb496) (o:=.cells #[.slice Ao12 t481.length co12,.int .i64 t484,.int .i64 t485] 25 (0,0)) (by (with_reducible repeat (first | refine blk_drewN ?_ _ | refine blk_drew ?_ | refine blk_alloc ?_ _)); exact BK496.out) hb);have n5_:=Z (blk_below (g:=gb497) (o:=.cells #[.int .i64 t486,.slice Ao16 t487.length co16] 34 (0,0)) (by (with_reducible repeat (first | refine blk_drewN ?_ _ | refine blk_drew ?_ | refine blk_alloc ?_ _)); exact BK497.out) hb);have n6_:=Z (Kd.C_below (by repeat (first | (with_reducible exact HR508.out) | (with_reducible refine Kd.C_alloc ?_ _) | (with_reducible refine Kd.C_drewN ?_ _) | (with_reducible refine Kd.C_drew ?_) | exact HR508.out)) hb);have n7_:=Z (below_step (by repeat (first | (with_reducible first | exact HB.out | apply below_alloc | apply pw_below_drewN | apply below_drew1 | refine below_set ?_ GE496.out | refine below_set ?_ GE497.out) | exact HB.out)) hb);clear HO_7;clear HO_8;clear HO_497000;clear HO_498001;clear BK496;clear BK497;clear HR508;clear HB;have HO_7:=n0_;have HO_8:=n1_;have HO_497000:=n2_;have HO_498001:=n3_;have BK496:=n4_;have BK497:=n5_;have HR508:=n6_;have HB:=n7_;clear n0_ n1_ n2_ n3_ n4_ n5_ n6_ n7_
      (try clear hb)
      (try clear hb2)
      (try clear hk)
      (try clear hi)
      refine hK.out _ _ ⟨(blk_cell BK496.out 0).trans rfl,(blk_cell BK496.out 1).trans rfl,(blk_cell BK496.out 2).trans rfl,(blk_cell BK497.out 0).trans rfl,(blk_cell BK497.out 1).trans rfl⟩ (fun hHeld => ?_);clear hK K;refine norm_ (a':=?_) ?_ ?_;rotate_left
      ·show Act.put _ (some 75) _ = _
       simp only [Act.put,U,G,V,i64_w,i32_w];rfl
      refine pure_ (i:=8) (N:=some 77) (v:=?_) (a':=?_) #[true,true,true,true,true,true,true,true,true,false,false,false,false,false,false,false,false,false,false,false,false,false,false,false,false,false,false,false,false,false,false,false] rfl rfl (any_of HT_.out (by kernel_rfl)) (fun _ _ _ h => h) (Or.inl ⟨by rfl,?_⟩) ?_ ?_;rotate_left
      ·intro w';go_simp;with_reducible rfl
      rotate_left
      ·simp only [Act.put,U,G,V,i64_w,i32_w];rfl
      refine pure_ (i:=9) (N:=some 78) (v:=?_) (a':=?_) #[true,true,true,true,true,true,true,true,true,true,false,false,false,false,false,false,false,false,false,false,false,false,false,false,false,false,false,false,false,false,false,false] rfl rfl (any_of HT_.out (by kernel_rfl)) (fun _ _ _ h => h) (Or.inl ⟨by rfl,?_⟩) ?_ ?_;rotate_left
      ·intro w';go_simp;with_reducible rfl
      rotate_left
      ·simp only [Act.put,U,G,V,i64_w,i32_w];rfl
      refine pure_ (i:=10) (N:=some 79) (v:=undef) (a':=?_) #[true,true,true,true,true,true,true,true,true,true,true,false,false,false,false,false,false,false,false,false,false,false,false,false,false,false,false,false,false,false,false,false] rfl rfl (any_of HT_.out (by kernel_rfl)) (fun _ _ _ h => h) (Or.inr ⟨by rfl,rfl⟩) ?_ ?_;rotate_left
      ·simp only [Act.put,U,G,V,i64_w,i32_w];rfl
      refine pure_ (i:=11) (N:=some 80) (v:=undef) (a':=?_) #[true,true,true,true,true,true,true,true,true,true,true,true,false,false,false,false,false,false,false,false,false,false,false,false,false,false,false,false,false,false,false,false] rfl rfl (any_of HT_.out (by kernel_rfl)) (fun _ _ _ h => h) (Or.inr ⟨by rfl,rfl⟩) ?_ ?_;rotate_left
      ·simp only [Act.put,U,G,V,i64_w,i32_w];rfl
      refine pure_ (i:=12) (N:=some 81) (v:=undef) (a':=?_) #[true,true,true,true,true,true,true,true,true,true,true,true,true,false,false,false,false,false,false,false,false,false,false,false,false,false,false,false,false,false,false,false] rfl rfl (any_of HT_.out (by kernel_rfl)) (fun _ _ _ h => h) (Or.inr ⟨by rfl,rfl⟩) ?_ ?_;rotate_left
      ·simp only [Act.put,U,G,V,i64_w,i32_w];rfl
      refine pure_ (i:=13) (N:=some 82) (v:=undef) (a':=?_) #[true,true,true,true,true,true,true,true,true,true,true,true,true,true,false,false,false,false,false,false,false,false,false,false,false,false,false,false,false,false,false,false] rfl rfl (any_of HT_.out (by kernel_rfl)) (fun _ _ _ h => h) (Or.inr ⟨by rfl,rfl⟩) ?_ ?_;rotate_left
      ·simp only [Act.put,U,G,V,i64_w,i32_w];rfl
      refine pure_ (i:=14) (N:=some 83) (v:=undef) (a':=?_) #[true,true,true,true,true,true,true,true,true,true,true,true,true,true,true,false,false,false,false,false,false,false,false,false,false,false,false,false,false,false,false,false] rfl rfl (any_of HT_.out (by kernel_rfl)) (fun _ _ _ h => h) (Or.inr ⟨by rfl,rfl⟩) ?_ ?_;rotate_left
      ·simp only [Act.put,U,G,V,i64_w,i32_w];rfl
      refine pure_ (i:=15) (N:=some 84) (v:=undef) (a':=?_) #[true,true,true,true,true,true,true,true,true,true,true,true,true,true,true,true,false,false,false,false,false,false,false,false,false,false,false,false,false,false,false,false] rfl rfl (any_of HT_.out (by kernel_rfl)) (fun _ _ _ h => h) (Or.inr ⟨by rfl,rfl⟩) ?_ ?_;rotate_left
      ·simp only [Act.put,U,G,V,i64_w,i32_w];rfl
      refine pure_ (i:=16) (N:=some 85) (v:=undef) (a':=?_) #[true,true,true,true,true,true,true,true,true,true,true,true,true,true,true,true,true,false,false,false,false,false,false,false,false,false,false,false,false,false,false,false] rfl rfl (any_of HT_.out (by kernel_rfl)) (fun _ _ _ h => h) (Or.inr ⟨by rfl,rfl⟩) ?_ ?_;rotate_left
      ·simp only [Act.put,U,G,V,i64_w,i32_w];rfl
      refine pure_ (i:=17) (N:=some 86) (v:=undef) (a':=?_) #[true,true,true,true,true,true,true,true,true,true,true,true,true,true,true,true,true,true,false,false,false,false,false,false,false,false,false,false,false,false,false,false] rfl rfl (any_of HT_.out (by kernel_rfl)) (fun _ _ _ h => h) (Or.inr ⟨by rfl,rfl⟩) ?_ ?_;rotate_left
      ·simp only [Act.put,U,G,V,i64_w,i32_w];rfl
      refine pure_ (i:=18) (N:=some 87) (v:=undef) (a':=?_) #[true,true,true,true,true,true,true,true,true,true,true,true,true,true,true,true,true,true,true,false,false,false,false,false,false,false,false,false,false,false,false,false] rfl rfl (any_of HT_.out (by kernel_rfl)) (fun _ _ _ h => h) (Or.inr ⟨by rfl,rfl⟩) ?_ ?_;rotate_left
      ·simp only [Act.put,U,G,V,i64_w,i32_w];rfl
      refine pure_ (i:=19) (N:=some 88) (v:=undef) (a':=?_) #[true,true,true,true,true,true,true,true,true,true,true,true,true,true,true,true,true,true,true,true,false,false,false,false,false,false,false,false,false,false,false,false] rfl rfl (any_of HT_.out (by kernel_rfl)) (fun _ _ _ h => h) (Or.inr ⟨by rfl,rfl⟩) ?_ ?_;rotate_left
      ·simp only [Act.put,U,G,V,i64_w,i32_w];rfl
      refine pure_ (i:=20) (N:=some 89) (v:=undef) (a':=?_) #[true,true,true,true,true,true,true,true,true,true,true,true,true,true,true,true,true,true,true,true,true,false,false,false,false,false,false,false,false,false,false,false] rfl rfl (any_of HT_.out (by kernel_rfl)) (fun _ _ _ h => h) (Or.inr ⟨by rfl,rfl⟩) ?_ ?_;rotate_left
      ·simp only [Act.put,U,G,V,i64_w,i32_w];rfl
      refine pure_ (i:=21) (N:=some 90) (v:=undef) (a':=?_) #[true,true,true,true,true,true,true,true,true,true,true,true,true,true,true,true,true,true,true,true,true,true,false,false,false,false,false,false,false,false,false,false] rfl rfl (any_of HT_.out (by kernel_rfl)) (fun _ _ _ h => h) (Or.inr ⟨by rfl,rfl⟩) ?_ ?_;rotate_left
      ·simp only [Act.put,U,G,V,i64_w,i32_w];rfl
      refine pure_ (i:=22) (N:=some 91) (v:=?_) (a':=?_) #[true,true,true,true,true,true,true,true,true,true,true,true,true,true,true,true,true,true,true,true,true,true,true,false,false,false,false,false,false,false,false,false] rfl rfl (any_of HT_.out (by kernel_rfl)) (fun _ _ _ h => h) (Or.inl ⟨by rfl,?_⟩) ?_ ?_;rotate_left
      ·intro w';go_simp;with_reducible rfl
      rotate_left
      ·simp only [Act.put,U,G,V,i64_w,i32_w];rfl
      refine pure_ (i:=23) (N:=some 92) (v:=?_) (a':=?_) #[true,true,true,true,true,true,true,true,true,true,true,true,true,true,true,true,true,true,true,true,true,true,true,true,false,false,false,false,false,false,false,false] rfl rfl (any_of HT_.out (by kernel_rfl)) (fun _ _ _ h => h) (Or.inl ⟨by rfl,?_⟩) ?_ ?_;rotate_left
      ·intro w';go_simp;with_reducible rfl
      rotate_left
      ·simp only [Act.put,U,G,V,i64_w,i32_w];rfl
      refine pure_ (i:=24) (N:=some 93) (v:=undef) (a':=?_) #[true,true,true,true,true,true,true,true,true,true,true,true,true,true,true,true,true,true,true,true,true,true,true,true,true,false,false,false,false,false,false,false] rfl rfl (any_of HT_.out (by kernel_rfl)) (fun _ _ _ h => h) (Or.inr ⟨by rfl,rfl⟩) ?_ ?_;rotate_left
      ·simp only [Act.put,U,G,V,i64_w,i32_w];rfl
      refine pure_ (i:=25) (N:=some 94) (v:=undef) (a':=?_) #[true,true,true,true,true,true,true,true,true,true,true,true,true,true,true,true,true,true,true,true,true,true,true,true,true,true,false,false,false,false,false,false] rfl rfl (any_of HT_.out (by kernel_rfl)) (fun _ _ _ h => h) (Or.inr ⟨by rfl,rfl⟩) ?_ ?_;rotate_left
      ·simp only [Act.put,U,G,V,i64_w,i32_w];rfl
      refine pure_ (i:=26) (N:=some 95) (v:=undef) (a':=?_) #[true,true,true,true,true,true,true,true,true,true,true,true,true,true,true,true,true,true,true,true,true,true,true,true,true,true,true,false,false,false,false,false] rfl rfl (any_of HT_.out (by kernel_rfl)) (fun _ _ _ h => h) (Or.inr ⟨by rfl,rfl⟩) ?_ ?_;rotate_left
      ·simp only [Act.put,U,G,V,i64_w,i32_w];rfl
      refine pure_ (i:=27) (N:=some 96) (v:=undef) (a':=?_) #[true,true,true,true,true,true,true,true,true,true,true,true,true,true,true,true,true,true,true,true,true,true,true,true,true,true,true,true,false,false,false,false] rfl rfl (any_of HT_.out (by kernel_rfl)) (fun _ _ _ h => h) (Or.inr ⟨by rfl,rfl⟩) ?_ ?_;rotate_left
      ·simp only [Act.put,U,G,V,i64_w,i32_w];rfl
      refine pure_ (i:=28) (N:=some 97) (v:=undef) (a':=?_) #[true,true,true,true,true,true,true,true,true,true,true,true,true,true,true,true,true,true,true,true,true,true,true,true,true,true,true,true,true,false,false,false] rfl rfl (any_of HT_.out (by kernel_rfl)) (fun _ _ _ h => h) (Or.inr ⟨by rfl,rfl⟩) ?_ ?_;rotate_left
      ·simp only [Act.put,U,G,V,i64_w,i32_w];rfl
      refine pure_ (i:=29) (N:=some 98) (v:=undef) (a':=?_) #[true,true,true,true,true,true,true,true,true,true,true,true,true,true,true,true,true,true,true,true,true,true,true,true,true,true,true,true,true,true,false,false] rfl rfl (any_of HT_.out (by kernel_rfl)) (fun _ _ _ h => h) (Or.inr ⟨by rfl,rfl⟩) ?_ ?_;rotate_left
      ·simp only [Act.put,U,G,V,i64_w,i32_w];rfl
      refine pure_ (i:=30) (N:=some 99) (v:=?_) (a':=?_) #[true,true,true,true,true,true,true,true,true,true,true,true,true,true,true,true,true,true,true,true,true,true,true,true,true,true,true,true,true,true,true,false] rfl rfl (any_of HT_.out (by kernel_rfl)) (fun _ _ _ h => h) (Or.inl ⟨by rfl,?_⟩) ?_ ?_;rotate_left
      ·intro w';go_simp;with_reducible rfl
      rotate_left
      ·simp only [Act.put,U,G,V,i64_w,i32_w];rfl
      refine pure_ (i:=31) (N:=some 4) (v:=?_) (a':=?_) #[true,true,true,true,true,true,true,true,true,true,true,true,true,true,true,true,true,true,true,true,true,true,true,true,true,true,true,true,true,true,true,true] rfl rfl (any_of HT_.out (by kernel_rfl)) (fun _ _ _ h => h) (Or.inl ⟨by rfl,?_⟩) ?_ ?_;rotate_left
      ·intro w';go_simp;with_reducible rfl
      rotate_left
      ·simp only [Act.put,U,G,V,i64_w,i32_w];rfl
      refine done_ (done_of HT_.out (by kernel_rfl)) ?_
      try go_wp2
      go_ret;exact ⟨by first | rfl | (simp [errW_none,errW_some] <;> rfl) | (simp only [← hji47]; first | rfl | (simp [errW_none,errW_some] <;> rfl)) | (simp [*,errW_none,errW_some] <;> rfl),by repeat (first | (with_reducible first | exact HB.out | apply below_alloc | apply pw_below_drewN | apply below_drew1 | refine below_set ?_ GE496.out | refine below_set ?_ GE497.out) | exact HB.out)⟩
     rw [if_pos c51] at H;have c51b0 : decide (t509 ≤ t498) = true:=decide_eq_true c51;clear c51
     by_cases c52 : 0 ≤ t486
     case neg =>
      rw [if_neg c52] at H;exact absurd H (by simp)
     rw [if_pos c52] at H;have c52b0:=eq_true c52;have c52b1 : decide (0 ≤ t486) = true:=decide_eq_true c52;clear c52
     by_cases c53 : (t486 : Int).toNat ≤ 35184372088832
     case neg =>
      rw [if_neg c53] at H;exact absurd H (by simp)
     rw [if_pos c53] at H;have c53b0:=eq_true c53;have c53b1 : decide ((t486 : Int).toNat ≤ 35184372088832) = true:=decide_eq_true c53;clear c53;obtain ⟨y510,hy510⟩ : ∃ y_ : List Int,y_ = (List.replicate (t486 : Int).toNat 0):=⟨_,rfl⟩
     replace H : ((impl_FareRide.f kj7 t481 t484 t485 t486 t487 y510 t493).bind fun t513 => (if 0 < (t481.length : Int) then (if t513 = (rd t481 0) then (some (decide ((rd t481 0) ≤ t498))) else (some false)) else (none))) = some r:=by first | (rw [hy510]; with_reducible exact H) | (have H2_:=(Option.bind_some _ _).symm.trans H; rw [hy510]; with_reducible exact H2_) | (have H2_:=(Option.bind_some _ _).symm.trans H; with_reducible exact H2_) | with_reducible exact H | (rw [hy510]; exact H) | exact H
     have Ny510:=Z hy510;clear hy510;replace H:=Option.bind_eq_some_iff.mp H;obtain ⟨t513,A540,H⟩:=H;replace H : (if 0 < (t481.length : Int) then (if t513 = (rd t481 0) then (some (decide ((rd t481 0) ≤ t498))) else (some false)) else (none)) = some r:=H;have A54:=Z A540;clear A540
     by_cases c55 : 0 < (t481.length : Int)
     case neg =>
      rw [if_neg c55] at H;exact absurd H (by simp)
     rw [if_pos c55] at H;have c55b0 : decide (0 < (t481.length : Int)) = true:=decide_eq_true c55;have c55b1 : decide (0 < t481.length) = true:=decide_eq_true (by omega);clear c55
     by_cases c56 : t513 = (rd t481 0)
     case neg =>
      rw [if_neg c56] at H;have c56b0 : (t513 == (rd t481 0)) = false:=beq_eq_false_iff_ne.mpr c56;have c56b1 : (t513 != (rd t481 0)) = true:=bne_iff_ne.mpr c56;obtain rfl:=Option.some.inj H
      try go_wp2
      have n0_:=Z (Kd.R_drew HO_7.out);have n1_:=Z (Kd.R_drew HO_8.out);have n2_:=Z (Kd.Q_drew HO_497000.out);have n3_:=Z (Kd.R_drew HO_498001.out);have n4_:=Z (blk_drew BK496.out);have n5_:=Z (blk_drew BK497.out);have n6_:=Z (below_drew1 HB.out);clear HO_7;clear HO_8;clear HO_497000;clear HO_498001;clear BK496;clear BK497;clear HB;have HO_7:=n0_;have HO_8:=n1_;have HO_497000:=n2_;have HO_498001:=n3_;have BK496:=n4_;have BK497:=n5_;have HB:=n6_;clear n0_ n1_ n2_ n3_ n4_ n5_ n6_;have q65 : ((ji47) : Int) ≤ ((t493.length : Int) : Int):=of_decide_eq_true (by first | (with_reducible assumption) | assumption);obtain ⟨i065,hi065,_,hsz65,_⟩:=info_parts info3;have hroom65 : t493.length ≤ co18:=(Kd.R_reads' HO_8.out).2.1;have hC65 : Kd.C (Kd.int .i64) _ Ao18 t493.length t493:=(Kd.R_reads' HO_8.out).2.2;have hcut65:=cut_to (P:=Try.prog) 23 3 .i64 Try.underlying23 hi065 Ao18 t493.length co18 (ji47) (of_decide_eq_true (by first | (with_reducible assumption) | assumption)) q65 hroom65;have hr65:=Kd.C_take (m:=((ji47) : Int).toNat) hC65 (by omega);have hy65 : y505.length = ((ji47) : Int).toNat:=(by rw [Ny505.out,List.length_take]; omega)
      rw [← Ny505.out] at hr65;rw [← hy65] at hcut65;have HR508:=Z hr65;have HC508:=Z (show y505.length ≤ co18 from by omega);clear hr65 hC65 hroom65 hi065 hsz65;have KY65:=Z hy65;clear hy65;have KL65:=Z (show ((ji47) : Int).toNat ≤ t493.length from by omega);replace q65:=eq_true q65;have p514 : 0 ≤ (0 : Int):=(by omega)
      have q514 : 0 < (t481.length : Int):=of_decide_eq_true (by first | (with_reducible assumption) | assumption);obtain ⟨ad514,e514,hx514_0⟩:=Kd.at_int (Kd.Q_reads' HO_497000.out).2.2 0 p514 q514;cases e514;have qi514 : (0 < t481.length) = True:=eq_true (by omega)
      (try rw [show ((0 : Int)).toNat = 0 from rfl] at hx514_0)
      (try rw [Addr.add_zero'] at hx514_0)
      replace p514:=eq_true p514;replace q514:=eq_true q514;refine start_ (n:=32) (S:=fun w' => w'.cell? ⟨gb496,0,none⟩ = some (.slice (some ad514) t481.length co12) ∧ w'.cell? ⟨gb496,1,none⟩ = some (.int .i64 t484) ∧ w'.cell? ⟨gb496,2,none⟩ = some (.int .i64 t485) ∧ w'.cell? ⟨gb497,0,none⟩ = some (.int .i64 t486) ∧ w'.cell? ⟨gb497,1,none⟩ = some (.slice Ao16 t487.length co16) ∧ w'.cell? ad514 = some (.int .i64 (rd t481 0))) (ds:=[]) #[false,false,false,false,false,false,false,false,false,false,false,false,false,false,false,false,false,false,false,false,false,false,false,false,false,false,false,false,false,false,false,false] (by kernel_rfl) rfl rfl ⟨(blk_cell BK496.out 0).trans rfl,(blk_cell BK496.out 1).trans rfl,(blk_cell BK496.out 2).trans rfl,(blk_cell BK497.out 0).trans rfl,(blk_cell BK497.out 1).trans rfl,hx514_0⟩ (fun hHeld => ?_); refine with_tabW laws_FnFareRide.tab8 laws_FnFareRide.bits8 (fun HT_ HW_ => ?_);generalize wc.drew = w64 at HO_7 HO_8 HO_497000 HO_498001 BK496 BK497 HB HR508 hx514_0 hHeld ⊢;refine pure_ (i:=2) (N:=some 71) (v:=?_) (a':=?_) #[false,false,true,false,false,false,false,false,false,false,false,false,false,false,false,false,false,false,false,false,false,false,false,false,false,false,false,false,false,false,false,false] rfl rfl (any_of HT_.out (by kernel_rfl)) (fun _ _ _ h => h) (Or.inl ⟨by rfl,?_⟩) ?_ ?_;rotate_left
      ·intro w';go_simp;with_reducible rfl
      rotate_left
      ·simp only [Act.put,U,G,V,i64_w,i32_w];rfl
      refine pure_ (i:=3) (N:=some 72) (v:=?_) (a':=?_) #[false,false,true,true,false,false,false,false,false,false,false,false,false,false,false,false,false,false,false,false,false,false,false,false,false,false,false,false,false,false,false,false] rfl rfl (any_of HT_.out (by kernel_rfl)) (fun _ _ _ h => h) (Or.inl ⟨by rfl,?_⟩) ?_ ?_;rotate_left
      ·intro w';go_simp;with_reducible rfl
      rotate_left
      ·simp only [Act.put,U,G,V,i64_w,i32_w];rfl
      refine pure_ (i:=4) (N:=some 73) (v:=?_) (a':=?_) #[false,false,true,true,true,false,false,false,false,false,false,false,false,false,false,false,false,false,false,false,false,false,false,false,false,false,false,false,false,false,false,false] rfl rfl (any_of HT_.out (by kernel_rfl)) (fun _ _ _ h => h) (Or.inl ⟨by rfl,?_⟩) ?_ ?_;rotate_left
      ·intro w';go_simp;with_reducible rfl
      rotate_left
      ·simp only [Act.put,U,G,V,i64_w,i32_w];rfl
      refine pure_ (i:=5) (N:=some 74) (v:=?_) (a':=?_) #[false,false,true,true,true,true,false,false,false,false,false,false,false,false,false,false,false,false,false,false,false,false,false,false,false,false,false,false,false,false,false,false] rfl rfl (any_of HT_.out (by kernel_rfl)) (fun _ _ _ h => h) (Or.inl ⟨by rfl,?_⟩) ?_ ?_;rotate_left
      ·intro w';go_simp;with_reducible rfl
      rotate_left
      ·simp only [Act.put,U,G,V,i64_w,i32_w];rfl
      refine pure_ (i:=7) (N:=some 76) (v:=?_) (a':=?_) #[false,false,true,true,true,true,false,true,false,false,false,false,false,false,false,false,false,false,false,false,false,false,false,false,false,false,false,false,false,false,false,false] rfl rfl (any_of HT_.out (by kernel_rfl)) (fun _ _ _ h => h) (Or.inl ⟨by rfl,?_⟩) ?_ ?_;rotate_left
      ·intro w';go_simp;with_reducible rfl
      rotate_left
      ·simp only [Act.put,U,G,V,i64_w,i32_w];rfl
      refine take_ (i:=0) (N:=some 69) (v:=?_) (a':=?_) #[true,false,true,true,true,true,false,true,false,false,false,false,false,false,false,false,false,false,false,false,false,false,false,false,false,false,false,false,false,false,false,false] rfl rfl (take_ofW HT_.out HW_.out (by kernel_rfl)) (fun _ _ _ h => h) (Or.inl ⟨by rfl,?_⟩) hHeld ?_ ?_;rotate_left
      ·rintro w' ⟨s0,s1,s2,s3,s4,s5⟩;go_simp;with_reducible rfl
      rotate_left
      ·simp only [Act.put,U,G,V,i64_w,i32_w];rfl
      refine take_ (i:=1) (N:=some 70) (v:=?_) (a':=?_) #[true,true,true,true,true,true,false,true,false,false,false,false,false,false,false,false,false,false,false,false,false,false,false,false,false,false,false,false,false,false,false,false] rfl rfl (take_ofW HT_.out HW_.out (by kernel_rfl)) (fun _ _ _ h => h) (Or.inl ⟨by rfl,?_⟩) hHeld ?_ ?_;rotate_left
      ·rintro w' ⟨s0,s1,s2,s3,s4,s5⟩;go_simp;with_reducible rfl
      rotate_left
      ·simp only [Act.put,U,G,V,i64_w,i32_w];rfl
      refine one_ (i:=6) (N:=some 75) #[true,true,true,true,true,true,true,true,false,false,false,false,false,false,false,false,false,false,false,false,false,false,false,false,false,false,false,false,false,false,false,false] rfl rfl (one_of HT_.out (by kernel_rfl)) (by decide) (fun K hK => ?_);refine goes_ Try.func21 (by kernel_rfl) rfl #[.agg #[.slice (some ad514) t481.length co12,.int .i64 t484,.int .i64 t485],.agg #[.int .i64 t486,.slice Ao16 t487.length co16],.slice Ao17 t490.length co17,.slice Ao18 y505.length co18] (by rfl) rfl rfl (by (try simp only [List.map_toArray,List.map_cons,List.map_nil]); first | done | rfl | (simp only [List.length_drop,List.length_take]; rfl)) ?_;with_reducible refine (impl_FareRide.calls kj7 _ _ t481 t484 t485 t486 _ _ t487 _ _ t490 _ _ y505 t509 _ ?side1 ?side2 ?side3 ?side4 ?side5 ?side6 ?side7 ?side8 A50.out).mono ?_
      (case side1 => repeat (first | exact (Kd.Q_reads' HO_497000.out).2.2 | (with_reducible refine Kd.C_alloc ?_ _) | (with_reducible refine Kd.C_drewN ?_ _) | (with_reducible refine Kd.C_drew ?_)))
      (case side2 => exact (Kd.Q_reads' HO_497000.out).2.1)
      (case side3 => repeat (first | exact (Kd.R_reads' HO_498001.out).2.2 | (with_reducible refine Kd.C_alloc ?_ _) | (with_reducible refine Kd.C_drewN ?_ _) | (with_reducible refine Kd.C_drew ?_)))
      (case side4 => exact (Kd.R_reads' HO_498001.out).2.1)
      (case side5 => repeat (first | exact (Kd.R_reads' HO_7.out).2.2 | (with_reducible refine Kd.C_alloc ?_ _) | (with_reducible refine Kd.C_drewN ?_ _) | (with_reducible refine Kd.C_drew ?_)))
      (case side6 => exact (Kd.R_reads' HO_7.out).2.1)
      (case side7 => repeat (first | exact (by repeat (first | (with_reducible exact HR508.out) | (with_reducible refine Kd.C_alloc ?_ _) | (with_reducible refine Kd.C_drewN ?_ _) | (with_reducible refine Kd.C_drew ?_) | exact HR508.out)) | (with_reducible refine Kd.C_alloc ?_ _) | (with_reducible refine Kd.C_drewN ?_ _) | (with_reducible refine Kd.C_drew ?_)))
      (case side8 => exact HC508.out)
      rintro e w66 ⟨rfl,hb⟩;have HS5_:=(hb.cell (World.block_lt_of_cell? _ _ (hHeld.2.2.2.2.2))).trans (hHeld.2.2.2.2.2);refine ⟨_,rfl,?_⟩;have n0_:=Z (Kd.R_below (by (with_reducible repeat (first | apply Kd.R_alloc | apply Kd.R_drewN | apply Kd.R_drew)); exact HO_7.out) hb);have n1_:=Z (Kd.R_below (by (with_reducible repeat (first | apply Kd.R_alloc | apply Kd.R_drewN | apply Kd.R_drew)); exact HO_8.out) hb);have n2_:=Z (Kd.Q_below (by (with_reducible repeat (first | apply Kd.Q_alloc | apply Kd.Q_drewN | apply Kd.Q_drew)); exact HO_497000.out) hb);have n3_:=Z (Kd.R_below (by (with_reducible repeat (first | apply Kd.R_alloc | apply Kd.R_drewN | apply Kd.R_drew)); exact HO_498001.out) hb);have n4_:=Z (blk_below (g:=gb496) (o:=.cells #[.slice (some ad514) t481.length co12,.int .i64 t484,.int .i64 t485] 25 (0,0)) (by (with_reducible repeat (first | refine blk_drewN ?_ _ | refine blk_drew ?_ | refine blk_alloc ?_ _)); exact BK496.out) hb);have n5_:=Z (blk_below (g:=gb497) (o:=.cells #[.int .i64 t486,.slice Ao16 t487.length co16] 34 (0,0)) (by (with_reducible repeat (first | refine blk_drewN ?_ _ | refine blk_drew ?_ | refine blk_alloc ?_ _)); exact BK497.out) hb);have n6_:=Z (Kd.C_below (by repeat (first | (with_reducible exact HR508.out) | (with_reducible refine Kd.C_alloc ?_ _) | (with_reducible refine Kd.C_drewN ?_ _) | (with_reducible refine Kd.C_drew ?_) | exact HR508.out)) hb);have n7_:=Z (below_step (by repeat (first | (with_reducible first | exact HB.out | apply below_alloc | apply pw_below_drewN | apply below_drew1 | refine below_set ?_ GE496.out | refine below_set ?_ GE497.out) | exact HB.out)) hb);clear HO_7;clear HO_8;clear HO_497000;clear HO_498001;clear BK496;clear BK497;clear HR508;clear HB;have HO_7:=n0_;have HO_8:=n1_;have HO_497000:=n2_;have HO_498001:=n3_;have BK496:=n4_;have BK497:=n5_;have HR508:=n6_;have HB:=n7_;clear n0_ n1_ n2_ n3_ n4_ n5_ n6_ n7_
      (try clear hb)
      (try clear hb2)
      (try clear hk)
      (try clear hi)
      refine hK.out _ _ ⟨(blk_cell BK496.out 0).trans rfl,(blk_cell BK496.out 1).trans rfl,(blk_cell BK496.out 2).trans rfl,(blk_cell BK497.out 0).trans rfl,(blk_cell BK497.out 1).trans rfl,HS5_⟩ (fun hHeld => ?_);clear hK K;refine norm_ (a':=?_) ?_ ?_;rotate_left
      ·show Act.put _ (some 75) _ = _
       simp only [Act.put,U,G,V,i64_w,i32_w];rfl
      refine pure_ (i:=8) (N:=some 77) (v:=?_) (a':=?_) #[true,true,true,true,true,true,true,true,true,false,false,false,false,false,false,false,false,false,false,false,false,false,false,false,false,false,false,false,false,false,false,false] rfl rfl (any_of HT_.out (by kernel_rfl)) (fun _ _ _ h => h) (Or.inl ⟨by rfl,?_⟩) ?_ ?_;rotate_left
      ·intro w';go_simp;with_reducible rfl
      rotate_left
      ·simp only [Act.put,U,G,V,i64_w,i32_w];rfl
      refine pure_ (i:=9) (N:=some 78) (v:=?_) (a':=?_) #[true,true,true,true,true,true,true,true,true,true,false,false,false,false,false,false,false,false,false,false,false,false,false,false,false,false,false,false,false,false,false,false] rfl rfl (any_of HT_.out (by kernel_rfl)) (fun _ _ _ h => h) (Or.inl ⟨by rfl,?_⟩) ?_ ?_;rotate_left
      ·intro w';go_simp;with_reducible rfl
      rotate_left
      ·simp only [Act.put,U,G,V,i64_w,i32_w];rfl
      refine pure_ (i:=12) (N:=some 81) (v:=?_) (a':=?_) #[true,true,true,true,true,true,true,true,true,true,false,false,true,false,false,false,false,false,false,false,false,false,false,false,false,false,false,false,false,false,false,false] rfl rfl (any_of HT_.out (by kernel_rfl)) (fun _ _ _ h => h) (Or.inl ⟨by rfl,?_⟩) ?_ ?_;rotate_left
      ·intro w';go_simp;with_reducible rfl
      rotate_left
      ·simp only [Act.put,U,G,V,i64_w,i32_w];rfl
      refine pure_ (i:=15) (N:=some 84) (v:=?_) (a':=?_) #[true,true,true,true,true,true,true,true,true,true,false,false,true,false,false,true,false,false,false,false,false,false,false,false,false,false,false,false,false,false,false,false] rfl rfl (any_of HT_.out (by kernel_rfl)) (fun _ _ _ h => h) (Or.inl ⟨by rfl,?_⟩) ?_ ?_;rotate_left
      ·intro w';go_simp;with_reducible rfl
      rotate_left
      ·simp only [Act.put,U,G,V,i64_w,i32_w];rfl
      refine pure_ (i:=17) (N:=some 86) (v:=?_) (a':=?_) #[true,true,true,true,true,true,true,true,true,true,false,false,true,false,false,true,false,true,false,false,false,false,false,false,false,false,false,false,false,false,false,false] rfl rfl (any_of HT_.out (by kernel_rfl)) (fun _ _ _ h => h) (Or.inl ⟨by rfl,?_⟩) ?_ ?_;rotate_left
      ·intro w';go_simp;with_reducible rfl
      rotate_left
      ·simp only [Act.put,U,G,V,i64_w,i32_w];rfl
      refine take_ (i:=10) (N:=some 79) (v:=?_) (a':=?_) #[true,true,true,true,true,true,true,true,true,true,true,false,true,false,false,true,false,true,false,false,false,false,false,false,false,false,false,false,false,false,false,false] rfl rfl (take_ofW HT_.out HW_.out (by kernel_rfl)) (fun _ _ _ h => h) (Or.inl ⟨by rfl,?_⟩) hHeld ?_ ?_;rotate_left
      ·rintro w' ⟨s0,s1,s2,s3,s4,s5⟩;go_simp;with_reducible rfl
      rotate_left
      ·simp only [Act.put,U,G,V,i64_w,i32_w];rfl
      refine take_ (i:=11) (N:=some 80) (v:=?_) (a':=?_) #[true,true,true,true,true,true,true,true,true,true,true,true,true,false,false,true,false,true,false,false,false,false,false,false,false,false,false,false,false,false,false,false] rfl rfl (take_ofW HT_.out HW_.out (by kernel_rfl)) (fun _ _ _ h => h) (Or.inl ⟨by rfl,?_⟩) hHeld ?_ ?_;rotate_left
      ·rintro w' ⟨s0,s1,s2,s3,s4,s5⟩;go_simp;with_reducible rfl
      rotate_left
      ·simp only [Act.put,U,G,V,i64_w,i32_w];rfl
      refine take_ (i:=13) (N:=some 82) (v:=?_) (a':=?_) #[true,true,true,true,true,true,true,true,true,true,true,true,true,true,false,true,false,true,false,false,false,false,false,false,false,false,false,false,false,false,false,false] rfl rfl (take_ofW HT_.out HW_.out (by kernel_rfl)) (fun _ _ _ h => h) (Or.inl ⟨by rfl,?_⟩) hHeld ?_ ?_;rotate_left
      ·rintro w' ⟨s0,s1,s2,s3,s4,s5⟩;go_simp;with_reducible rfl
      rotate_left
      ·simp only [Act.put,U,G,V,i64_w,i32_w];rfl
      refine take_ (i:=18) (N:=some 87) (v:=?_) (a':=?_) #[true,true,true,true,true,true,true,true,true,true,true,true,true,true,false,true,false,true,true,false,false,false,false,false,false,false,false,false,false,false,false,false] rfl rfl (take_ofW HT_.out HW_.out (by kernel_rfl)) (fun _ _ _ h => h) (Or.inl ⟨by rfl,?_⟩) hHeld ?_ ?_;rotate_left
      ·rintro w' ⟨s0,s1,s2,s3,s4,s5⟩;go_simp;with_reducible rfl
      rotate_left
      ·simp only [Act.put,U,G,V,i64_w,i32_w];rfl
      refine pure_ (i:=19) (N:=some 88) (v:=?_) (a':=?_) #[true,true,true,true,true,true,true,true,true,true,true,true,true,true,false,true,false,true,true,true,false,false,false,false,false,false,false,false,false,false,false,false] rfl rfl (any_of HT_.out (by kernel_rfl)) (fun _ _ _ h => h) (Or.inl ⟨by rfl,?_⟩) ?_ ?_;rotate_left
      ·intro w';go_simp;with_reducible rfl
      rotate_left
      ·simp only [Act.put,U,G,V,i64_w,i32_w];rfl
      refine take_ (i:=20) (N:=some 89) (v:=?_) (a':=?_) #[true,true,true,true,true,true,true,true,true,true,true,true,true,true,false,true,false,true,true,true,true,false,false,false,false,false,false,false,false,false,false,false] rfl rfl (take_ofW HT_.out HW_.out (by kernel_rfl)) (fun _ _ _ h => h) (Or.inl ⟨by rfl,?_⟩) hHeld ?_ ?_;rotate_left
      ·rintro w' ⟨s0,s1,s2,s3,s4,s5⟩;go_simp;with_reducible rfl
      rotate_left
      ·simp only [Act.put,U,G,V,i64_w,i32_w];rfl
      refine one_ (i:=14) (N:=some 83) #[true,true,true,true,true,true,true,true,true,true,true,true,true,true,true,true,false,true,true,true,true,false,false,false,false,false,false,false,false,false,false,false] rfl rfl (one_of HT_.out (by kernel_rfl)) (by decide) (fun K hK => ?_);refine Kd.R_make_step (Kd.int .i64) _ 3 (by rfl) (N:=83) rfl 23 _ _ rfl t486 (by first | rfl | (go_simp; done) | (go_simp; rfl)) (by first | rfl | (go_simp; done) | (go_simp; rfl)) Try.underlying23 (.int .i64 0) 8 info3 rfl (by decide) (by omega) 0 (ok:=fun _ => True) (okp:=fun _ => True) rfl (fun _ hk => hk) trivial (of_decide_eq_true (by first | (with_reducible assumption) | assumption)) (Nat.le_trans (Nat.mul_le_mul_right _ (of_decide_eq_true (by first | (with_reducible assumption) | assumption) : t486.toNat ≤ 35184372088832)) (by omega)) (Below.refl _ _) (Nat.le_refl _) ?_;intro v511 w67 ho68 hb hg_ hnew_;have HS5_:=(hb.cell (World.block_lt_of_cell? _ _ (hHeld.2.2.2.2.2))).trans (hHeld.2.2.2.2.2);clear hg_ hnew_
      (first | rw [← Ny510.out] at ho68 | (simp only [Int.reduceToNat] at ho68; rw [← Ny510.out] at ho68))
      have n0_:=Z (Kd.R_elder' (by (with_reducible repeat (first | apply Kd.R_alloc | apply Kd.R_drewN | apply Kd.R_drew)); exact HO_7.out) (Kd.R_base ho68) hb);have n1_:=Z (Kd.R_elder' (by (with_reducible repeat (first | apply Kd.R_alloc | apply Kd.R_drewN | apply Kd.R_drew)); exact HO_8.out) (Kd.R_base ho68) hb);have n2_:=Z (Kd.Q_elder' (by (with_reducible repeat (first | apply Kd.Q_alloc | apply Kd.Q_drewN | apply Kd.Q_drew)); exact HO_497000.out) (Kd.R_base ho68) hb);have n3_:=Z (Kd.R_below (by (with_reducible repeat (first | apply Kd.R_alloc | apply Kd.R_drewN | apply Kd.R_drew)); exact HO_498001.out) hb);have n4_:=Z (Kd.R_lower (Kd.R_new' (Kd.R_new' (Kd.R_new' ho68 (Kd.R_lt (by (with_reducible repeat (first | apply Kd.R_alloc | apply Kd.R_drewN | apply Kd.R_drew)); exact HO_7.out))) (Kd.R_lt (by (with_reducible repeat (first | apply Kd.R_alloc | apply Kd.R_drewN | apply Kd.R_drew)); exact HO_8.out))) (Kd.Q_lt (by (with_reducible repeat (first | apply Kd.Q_alloc | apply Kd.Q_drewN | apply Kd.Q_drew)); exact HO_497000.out))) (below_size (by repeat (first | (with_reducible first | exact HB.out | apply below_alloc | apply pw_below_drewN | apply below_drew1 | refine below_set ?_ GE496.out | refine below_set ?_ GE497.out) | exact HB.out))));have n5_:=Z (blk_below (g:=gb496) (o:=.cells #[.slice (some ad514) t481.length co12,.int .i64 t484,.int .i64 t485] 25 (0,0)) (by (with_reducible repeat (first | refine blk_drewN ?_ _ | refine blk_drew ?_ | refine blk_alloc ?_ _)); exact BK496.out) hb);have n6_:=Z (blk_below (g:=gb497) (o:=.cells #[.int .i64 t486,.slice Ao16 t487.length co16] 34 (0,0)) (by (with_reducible repeat (first | refine blk_drewN ?_ _ | refine blk_drew ?_ | refine blk_alloc ?_ _)); exact BK497.out) hb);have n7_:=Z (Kd.C_below (by repeat (first | (with_reducible exact HR508.out) | (with_reducible refine Kd.C_alloc ?_ _) | (with_reducible refine Kd.C_drewN ?_ _) | (with_reducible refine Kd.C_drew ?_) | exact HR508.out)) hb);have n8_:=Z (below_step (by repeat (first | (with_reducible first | exact HB.out | apply below_alloc | apply pw_below_drewN | apply below_drew1 | refine below_set ?_ GE496.out | refine below_set ?_ GE497.out) | exact HB.out)) hb);clear HO_7;clear HO_8;clear HO_497000;clear HO_498001;clear BK496;clear BK497;clear HR508;clear HB;have HO_7:=n0_;have HO_8:=n1_;have HO_497000:=n2_;have HO_498001:=n3_;have HO512:=n4_;have BK496:=n5_;have BK497:=n6_;have HR508:=n7_;have HB:=n8_;clear n0_ n1_ n2_ n3_ n4_ n5_ n6_ n7_ n8_;clear hb ho68;obtain ⟨Ao69,co69,eo69⟩:=Kd.R_slice HO512.out
      (first | subst eo69 | (injection eo69 with f1_ f2_ f3_; have f4_:=f1_.symm; have f5_:=f3_.symm; clear f1_ f2_ f3_; subst f4_; subst f5_))
      refine hK.out _ _ ⟨(blk_cell BK496.out 0).trans rfl,(blk_cell BK496.out 1).trans rfl,(blk_cell BK496.out 2).trans rfl,(blk_cell BK497.out 0).trans rfl,(blk_cell BK497.out 1).trans rfl,HS5_⟩ (fun hHeld => ?_);clear hK K;refine norm_ (a':=?_) ?_ ?_;rotate_left
      ·show Act.put _ (some 83) _ = _
       simp only [Act.put,U,G,V,i64_w,i32_w];rfl
      refine one_ (i:=16) (N:=some 85) #[true,true,true,true,true,true,true,true,true,true,true,true,true,true,true,true,true,true,true,true,true,false,false,false,false,false,false,false,false,false,false,false] rfl rfl (one_of HT_.out (by kernel_rfl)) (by decide) (fun K hK => ?_);refine goes_ Try.func21 (by kernel_rfl) rfl #[.agg #[.slice (some ad514) t481.length co12,.int .i64 t484,.int .i64 t485],.agg #[.int .i64 t486,.slice Ao16 t487.length co16],.slice Ao69 y510.length co69,.slice Ao18 t493.length co18] (by rfl) rfl rfl (by (try simp only [List.map_toArray,List.map_cons,List.map_nil]); first | done | rfl | (simp only [List.length_drop,List.length_take]; rfl)) ?_;with_reducible refine (impl_FareRide.calls kj7 _ _ t481 t484 t485 t486 _ _ t487 _ _ y510 _ _ t493 t513 _ ?side1 ?side2 ?side3 ?side4 ?side5 ?side6 ?side7 ?side8 A54.out).mono ?_
      (case side1 => repeat (first | exact (Kd.Q_reads' HO_497000.out).2.2 | (with_reducible refine Kd.C_alloc ?_ _) | (with_reducible refine Kd.C_drewN ?_ _) | (with_reducible refine Kd.C_drew ?_)))
      (case side2 => exact (Kd.Q_reads' HO_497000.out).2.1)
      (case side3 => repeat (first | exact (Kd.R_reads' HO_498001.out).2.2 | (with_reducible refine Kd.C_alloc ?_ _) | (with_reducible refine Kd.C_drewN ?_ _) | (with_reducible refine Kd.C_drew ?_)))
      (case side4 => exact (Kd.R_reads' HO_498001.out).2.1)
      (case side5 => repeat (first | exact (Kd.R_reads' HO512.out).2.2 | (with_reducible refine Kd.C_alloc ?_ _) | (with_reducible refine Kd.C_drewN ?_ _) | (with_reducible refine Kd.C_drew ?_)))
      (case side6 => exact (Kd.R_reads' HO512.out).2.1)
      (case side7 => repeat (first | exact (Kd.R_reads' HO_8.out).2.2 | (with_reducible refine Kd.C_alloc ?_ _) | (with_reducible refine Kd.C_drewN ?_ _) | (with_reducible refine Kd.C_drew ?_)))
      (case side8 => exact (Kd.R_reads' HO_8.out).2.1)
      rintro e w70 ⟨rfl,hb⟩;have HS5_:=(hb.cell (World.block_lt_of_cell? _ _ (hHeld.2.2.2.2.2))).trans (hHeld.2.2.2.2.2);refine ⟨_,rfl,?_⟩;have n0_:=Z (Kd.R_below (by (with_reducible repeat (first | apply Kd.R_alloc | apply Kd.R_drewN | apply Kd.R_drew)); exact HO_7.out) hb);have n1_:=Z (Kd.R_below (by (with_reducible repeat (first | apply Kd.R_alloc | apply Kd.R_drewN | apply Kd.R_drew)); exact HO_8.out) hb);have n2_:=Z (Kd.Q_below (by (with_reducible repeat (first | apply Kd.Q_alloc | apply Kd.Q_drewN | apply Kd.Q_drew)); exact HO_497000.out) hb);have n3_:=Z (Kd.R_below (by (with_reducible repeat (first | apply Kd.R_alloc | apply Kd.R_drewN | apply Kd.R_drew)); exact HO_498001.out) hb);have n4_:=Z (Kd.R_below (by (with_reducible repeat (first | apply Kd.R_alloc | apply Kd.R_drewN | apply Kd.R_drew)); exact HO512.out) hb);have n5_:=Z (blk_below (g:=gb496) (o:=.cells #[.slice (some ad514) t481.length co12,.int .i64 t484,.int .i64 t485] 25 (0,0)) (by (with_reducible repeat (first | refine blk_drewN ?_ _ | refine blk_drew ?_ | refine blk_alloc ?_ _)); exact BK496.out) hb);have n6_:=Z (blk_below (g:=gb497) (o:=.cells #[.int .i64 t486,.slice Ao16 t487.length co16] 34 (0,0)) (by (with_reducible repeat (first | refine blk_drewN ?_ _ | refine blk_drew ?_ | refine blk_alloc ?_ _)); exact BK497.out) hb);have n7_:=Z (Kd.C_below (by repeat (first | (with_reducible exact HR508.out) | (with_reducible refine Kd.C_alloc ?_ _) | (with_reducible refine Kd.C_drewN ?_ _) | (with_reducible refine Kd.C_drew ?_) | exact HR508.out)) hb);have n8_:=Z (below_step (by repeat (first | (with_reducible first | exact HB.out | apply below_alloc | apply pw_below_drewN | apply below_drew1 | refine below_set ?_ GE496.out | refine below_set ?_ GE497.out) | exact HB.out)) hb);clear HO_7;clear HO_8;clear HO_497000;clear HO_498001;clear HO512;clear BK496;clear BK497;clear HR508;clear HB;have HO_7:=n0_;have HO_8:=n1_;have HO_497000:=n2_;have HO_498001:=n3_;have HO512:=n4_;have BK496:=n5_;have BK497:=n6_;have HR508:=n7_;have HB:=n8_;clear n0_ n1_ n2_ n3_ n4_ n5_ n6_ n7_ n8_
      (try clear hb)
      (try clear hb2)
      (try clear hk)
      (try clear hi)
      refine hK.out _ _ ⟨(blk_cell BK496.out 0).trans rfl,(blk_cell BK496.out 1).trans rfl,(blk_cell BK496.out 2).trans rfl,(blk_cell BK497.out 0).trans rfl,(blk_cell BK497.out 1).trans rfl,HS5_⟩ (fun hHeld => ?_);clear hK K;refine norm_ (a':=?_) ?_ ?_;rotate_left
      ·show Act.put _ (some 85) _ = _
       simp only [Act.put,U,G,V,i64_w,i32_w];rfl
      refine pure_ (i:=21) (N:=some 90) (v:=?_) (a':=?_) #[true,true,true,true,true,true,true,true,true,true,true,true,true,true,true,true,true,true,true,true,true,true,false,false,false,false,false,false,false,false,false,false] rfl rfl (any_of HT_.out (by kernel_rfl)) (fun _ _ _ h => h) (Or.inl ⟨by rfl,?_⟩) ?_ ?_;rotate_left
      ·intro w';go_simp;with_reducible rfl
      rotate_left
      ·simp only [Act.put,U,G,V,i64_w,i32_w];rfl
      refine pure_ (i:=22) (N:=some 91) (v:=?_) (a':=?_) #[true,true,true,true,true,true,true,true,true,true,true,true,true,true,true,true,true,true,true,true,true,true,true,false,false,false,false,false,false,false,false,false] rfl rfl (any_of HT_.out (by kernel_rfl)) (fun _ _ _ h => h) (Or.inl ⟨by rfl,?_⟩) ?_ ?_;rotate_left
      ·intro w';go_simp;with_reducible rfl
      rotate_left
      ·simp only [Act.put,U,G,V,i64_w,i32_w];rfl
      refine pure_ (i:=23) (N:=some 92) (v:=?_) (a':=?_) #[true,true,true,true,true,true,true,true,true,true,true,true,true,true,true,true,true,true,true,true,true,true,true,true,false,false,false,false,false,false,false,false] rfl rfl (any_of HT_.out (by kernel_rfl)) (fun _ _ _ h => h) (Or.inl ⟨by rfl,?_⟩) ?_ ?_;rotate_left
      ·intro w';go_simp;with_reducible rfl
      rotate_left
      ·simp only [Act.put,U,G,V,i64_w,i32_w];rfl
      refine pure_ (i:=24) (N:=some 93) (v:=undef) (a':=?_) #[true,true,true,true,true,true,true,true,true,true,true,true,true,true,true,true,true,true,true,true,true,true,true,true,true,false,false,false,false,false,false,false] rfl rfl (any_of HT_.out (by kernel_rfl)) (fun _ _ _ h => h) (Or.inr ⟨by rfl,rfl⟩) ?_ ?_;rotate_left
      ·simp only [Act.put,U,G,V,i64_w,i32_w];rfl
      refine pure_ (i:=25) (N:=some 94) (v:=undef) (a':=?_) #[true,true,true,true,true,true,true,true,true,true,true,true,true,true,true,true,true,true,true,true,true,true,true,true,true,true,false,false,false,false,false,false] rfl rfl (any_of HT_.out (by kernel_rfl)) (fun _ _ _ h => h) (Or.inr ⟨by rfl,rfl⟩) ?_ ?_;rotate_left
      ·simp only [Act.put,U,G,V,i64_w,i32_w];rfl
      refine pure_ (i:=26) (N:=some 95) (v:=undef) (a':=?_) #[true,true,true,true,true,true,true,true,true,true,true,true,true,true,true,true,true,true,true,true,true,true,true,true,true,true,true,false,false,false,false,false] rfl rfl (any_of HT_.out (by kernel_rfl)) (fun _ _ _ h => h) (Or.inr ⟨by rfl,rfl⟩) ?_ ?_;rotate_left
      ·simp only [Act.put,U,G,V,i64_w,i32_w];rfl
      refine pure_ (i:=27) (N:=some 96) (v:=undef) (a':=?_) #[true,true,true,true,true,true,true,true,true,true,true,true,true,true,true,true,true,true,true,true,true,true,true,true,true,true,true,true,false,false,false,false] rfl rfl (any_of HT_.out (by kernel_rfl)) (fun _ _ _ h => h) (Or.inr ⟨by rfl,rfl⟩) ?_ ?_;rotate_left
      ·simp only [Act.put,U,G,V,i64_w,i32_w];rfl
      refine pure_ (i:=28) (N:=some 97) (v:=undef) (a':=?_) #[true,true,true,true,true,true,true,true,true,true,true,true,true,true,true,true,true,true,true,true,true,true,true,true,true,true,true,true,true,false,false,false] rfl rfl (any_of HT_.out (by kernel_rfl)) (fun _ _ _ h => h) (Or.inr ⟨by rfl,rfl⟩) ?_ ?_;rotate_left
      ·simp only [Act.put,U,G,V,i64_w,i32_w];rfl
      refine pure_ (i:=29) (N:=some 98) (v:=undef) (a':=?_) #[true,true,true,true,true,true,true,true,true,true,true,true,true,true,true,true,true,true,true,true,true,true,true,true,true,true,true,true,true,true,false,false] rfl rfl (any_of HT_.out (by kernel_rfl)) (fun _ _ _ h => h) (Or.inr ⟨by rfl,rfl⟩) ?_ ?_;rotate_left
      ·simp only [Act.put,U,G,V,i64_w,i32_w];rfl
      refine pure_ (i:=30) (N:=some 99) (v:=?_) (a':=?_) #[true,true,true,true,true,true,true,true,true,true,true,true,true,true,true,true,true,true,true,true,true,true,true,true,true,true,true,true,true,true,true,false] rfl rfl (any_of HT_.out (by kernel_rfl)) (fun _ _ _ h => h) (Or.inl ⟨by rfl,?_⟩) ?_ ?_;rotate_left
      ·intro w';go_simp;with_reducible rfl
      rotate_left
      ·simp only [Act.put,U,G,V,i64_w,i32_w];rfl
      refine pure_ (i:=31) (N:=some 4) (v:=?_) (a':=?_) #[true,true,true,true,true,true,true,true,true,true,true,true,true,true,true,true,true,true,true,true,true,true,true,true,true,true,true,true,true,true,true,true] rfl rfl (any_of HT_.out (by kernel_rfl)) (fun _ _ _ h => h) (Or.inl ⟨by rfl,?_⟩) ?_ ?_;rotate_left
      ·intro w';go_simp;with_reducible rfl
      rotate_left
      ·simp only [Act.put,U,G,V,i64_w,i32_w];rfl
      refine done_ (done_of HT_.out (by kernel_rfl)) ?_
      try go_wp2
      go_ret;exact ⟨by first | rfl | (simp [errW_none,errW_some] <;> rfl) | (simp only [← hji47]; first | rfl | (simp [errW_none,errW_some] <;> rfl)) | (simp [*,errW_none,errW_some] <;> rfl),by repeat (first | (with_reducible first | exact HB.out | apply below_alloc | apply pw_below_drewN | apply below_drew1 | refine below_set ?_ GE496.out | refine below_set ?_ GE497.out) | exact HB.out)⟩
     rw [if_pos c56] at H;have c56b0 : (t513 == (rd t481 0)) = true:=beq_iff_eq.mpr c56;have c56b1 : (t513 != (rd t481 0)) = false:=bne_eq_false_iff_eq.mpr c56;clear c56;obtain rfl:=Option.some.inj H
     try go_wp2
     have n0_:=Z (Kd.R_drew HO_7.out);have n1_:=Z (Kd.R_drew HO_8.out);have n2_:=Z (Kd.Q_drew HO_497000.out);have n3_:=Z (Kd.R_drew HO_498001.out);have n4_:=Z (blk_drew BK496.out);have n5_:=Z (blk_drew BK497.out);have n6_:=Z (below_drew1 HB.out);clear HO_7;clear HO_8;clear HO_497000;clear HO_498001;clear BK496;clear BK497;clear HB;have HO_7:=n0_;have HO_8:=n1_;have HO_497000:=n2_;have HO_498001:=n3_;have BK496:=n4_;have BK497:=n5_;have HB:=n6_;clear n0_ n1_ n2_ n3_ n4_ n5_ n6_;have q58 : ((ji47) : Int) ≤ ((t493.length : Int) : Int):=of_decide_eq_true (by first | (with_reducible assumption) | assumption);obtain ⟨i058,hi058,_,hsz58,_⟩:=info_parts info3;have hroom58 : t493.length ≤ co18:=(Kd.R_reads' HO_8.out).2.1;have hC58 : Kd.C (Kd.int .i64) _ Ao18 t493.length t493:=(Kd.R_reads' HO_8.out).2.2;have hcut58:=cut_to (P:=Try.prog) 23 3 .i64 Try.underlying23 hi058 Ao18 t493.length co18 (ji47) (of_decide_eq_true (by first | (with_reducible assumption) | assumption)) q58 hroom58;have hr58:=Kd.C_take (m:=((ji47) : Int).toNat) hC58 (by omega);have hy58 : y505.length = ((ji47) : Int).toNat:=(by rw [Ny505.out,List.length_take]; omega)
     rw [← Ny505.out] at hr58;rw [← hy58] at hcut58;have HR508:=Z hr58;have HC508:=Z (show y505.length ≤ co18 from by omega);clear hr58 hC58 hroom58 hi058 hsz58;have KY58:=Z hy58;clear hy58;have KL58:=Z (show ((ji47) : Int).toNat ≤ t493.length from by omega);replace q58:=eq_true q58;have p514 : 0 ≤ (0 : Int):=(by omega)
     have q514 : 0 < (t481.length : Int):=of_decide_eq_true (by first | (with_reducible assumption) | assumption);obtain ⟨ad514,e514,hx514_0⟩:=Kd.at_int (Kd.Q_reads' HO_497000.out).2.2 0 p514 q514;cases e514;have qi514 : (0 < t481.length) = True:=eq_true (by omega)
     (try rw [show ((0 : Int)).toNat = 0 from rfl] at hx514_0)
     (try rw [Addr.add_zero'] at hx514_0)
     replace p514:=eq_true p514;replace q514:=eq_true q514;have p515 : 0 ≤ (0 : Int):=(by omega)
     have q515 : 0 < (t481.length : Int):=of_decide_eq_true (by first | (with_reducible assumption) | assumption);obtain ⟨ad515,e515,hx515_0⟩:=Kd.at_int (Kd.Q_reads' HO_497000.out).2.2 0 p515 q515;obtain rfl : ad514 = ad515:=(by injection e515)
     have qi515 : (0 < t481.length) = True:=eq_true (by omega)
     (try rw [show ((0 : Int)).toNat = 0 from rfl] at hx515_0)
     (try rw [Addr.add_zero'] at hx515_0)
     replace p515:=eq_true p515;replace q515:=eq_true q515;refine start_ (n:=32) (S:=fun w' => w'.cell? ⟨gb496,0,none⟩ = some (.slice (some ad514) t481.length co12) ∧ w'.cell? ⟨gb496,1,none⟩ = some (.int .i64 t484) ∧ w'.cell? ⟨gb496,2,none⟩ = some (.int .i64 t485) ∧ w'.cell? ⟨gb497,0,none⟩ = some (.int .i64 t486) ∧ w'.cell? ⟨gb497,1,none⟩ = some (.slice Ao16 t487.length co16) ∧ w'.cell? ad514 = some (.int .i64 (rd t481 0)) ∧ w'.cell? ad514 = some (.int .i64 (rd t481 0))) (ds:=[]) #[false,false,false,false,false,false,false,false,false,false,false,false,false,false,false,false,false,false,false,false,false,false,false,false,false,false,false,false,false,false,false,false] (by kernel_rfl) rfl rfl ⟨(blk_cell BK496.out 0).trans rfl,(blk_cell BK496.out 1).trans rfl,(blk_cell BK496.out 2).trans rfl,(blk_cell BK497.out 0).trans rfl,(blk_cell BK497.out 1).trans rfl,hx514_0,hx515_0⟩ (fun hHeld => ?_); refine with_tabW laws_FnFareRide.tab8 laws_FnFareRide.bits8 (fun HT_ HW_ => ?_);generalize wc.drew = w57 at HO_7 HO_8 HO_497000 HO_498001 BK496 BK497 HB HR508 hx514_0 hx515_0 hHeld ⊢;refine pure_ (i:=2) (N:=some 71) (v:=?_) (a':=?_) #[false,false,true,false,false,false,false,false,false,false,false,false,false,false,false,false,false,false,false,false,false,false,false,false,false,false,false,false,false,false,false,false] rfl rfl (any_of HT_.out (by kernel_rfl)) (fun _ _ _ h => h) (Or.inl ⟨by rfl,?_⟩) ?_ ?_;rotate_left
     ·intro w';go_simp;with_reducible rfl
     rotate_left
     ·simp only [Act.put,U,G,V,i64_w,i32_w];rfl
     refine pure_ (i:=3) (N:=some 72) (v:=?_) (a':=?_) #[false,false,true,true,false,false,false,false,false,false,false,false,false,false,false,false,false,false,false,false,false,false,false,false,false,false,false,false,false,false,false,false] rfl rfl (any_of HT_.out (by kernel_rfl)) (fun _ _ _ h => h) (Or.inl ⟨by rfl,?_⟩) ?_ ?_;rotate_left
     ·intro w';go_simp;with_reducible rfl
     rotate_left
     ·simp only [Act.put,U,G,V,i64_w,i32_w];rfl
     refine pure_ (i:=4) (N:=some 73) (v:=?_) (a':=?_) #[false,false,true,true,true,false,false,false,false,false,false,false,false,false,false,false,false,false,false,false,false,false,false,false,false,false,false,false,false,false,false,false] rfl rfl (any_of HT_.out (by kernel_rfl)) (fun _ _ _ h => h) (Or.inl ⟨by rfl,?_⟩) ?_ ?_;rotate_left
     ·intro w';go_simp;with_reducible rfl
     rotate_left
     ·simp only [Act.put,U,G,V,i64_w,i32_w];rfl
     refine pure_ (i:=5) (N:=some 74) (v:=?_) (a':=?_) #[false,false,true,true,true,true,false,false,false,false,false,false,false,false,false,false,false,false,false,false,false,false,false,false,false,false,false,false,false,false,false,false] rfl rfl (any_of HT_.out (by kernel_rfl)) (fun _ _ _ h => h) (Or.inl ⟨by rfl,?_⟩) ?_ ?_;rotate_left
     ·intro w';go_simp;with_reducible rfl
     rotate_left
     ·simp only [Act.put,U,G,V,i64_w,i32_w];rfl
     refine pure_ (i:=7) (N:=some 76) (v:=?_) (a':=?_) #[false,false,true,true,true,true,false,true,false,false,false,false,false,false,false,false,false,false,false,false,false,false,false,false,false,false,false,false,false,false,false,false] rfl rfl (any_of HT_.out (by kernel_rfl)) (fun _ _ _ h => h) (Or.inl ⟨by rfl,?_⟩) ?_ ?_;rotate_left
     ·intro w';go_simp;with_reducible rfl
     rotate_left
     ·simp only [Act.put,U,G,V,i64_w,i32_w];rfl
     refine take_ (i:=0) (N:=some 69) (v:=?_) (a':=?_) #[true,false,true,true,true,true,false,true,false,false,false,false,false,false,false,false,false,false,false,false,false,false,false,false,false,false,false,false,false,false,false,false] rfl rfl (take_ofW HT_.out HW_.out (by kernel_rfl)) (fun _ _ _ h => h) (Or.inl ⟨by rfl,?_⟩) hHeld ?_ ?_;rotate_left
     ·rintro w' ⟨s0,s1,s2,s3,s4,s5,s6⟩;go_simp;with_reducible rfl
     rotate_left
     ·simp only [Act.put,U,G,V,i64_w,i32_w];rfl
     refine take_ (i:=1) (N:=some 70) (v:=?_) (a':=?_) #[true,true,true,true,true,true,false,true,false,false,false,false,false,false,false,false,false,false,false,false,false,false,false,false,false,false,false,false,false,false,false,false] rfl rfl (take_ofW HT_.out HW_.out (by kernel_rfl)) (fun _ _ _ h => h) (Or.inl ⟨by rfl,?_⟩) hHeld ?_ ?_;rotate_left
     ·rintro w' ⟨s0,s1,s2,s3,s4,s5,s6⟩;go_simp;with_reducible rfl
     rotate_left
     ·simp only [Act.put,U,G,V,i64_w,i32_w];rfl
     refine one_ (i:=6) (N:=some 75) #[true,true,true,true,true,true,true,true,false,false,false,false,false,false,false,false,false,false,false,false,false,false,false,false,false,false,false,false,false,false,false,false] rfl rfl (one_of HT_.out (by kernel_rfl)) (by decide) (fun K hK => ?_);refine goes_ Try.func21 (by kernel_rfl) rfl #[.agg #[.slice (some ad514) t481.length co12,.int .i64 t484,.int .i64 t485],.agg #[.int .i64 t486,.slice Ao16 t487.length co16],.slice Ao17 t490.length co17,.slice Ao18 y505.length co18] (by rfl) rfl rfl (by (try simp only [List.map_toArray,List.map_cons,List.map_nil]); first | done | rfl | (simp only [List.length_drop,List.length_take]; rfl)) ?_;with_reducible refine (impl_FareRide.calls kj7 _ _ t481 t484 t485 t486 _ _ t487 _ _ t490 _ _ y505 t509 _ ?side1 ?side2 ?side3 ?side4 ?side5 ?side6 ?side7 ?side8 A50.out).mono ?_
     (case side1 => repeat (first | exact (Kd.Q_reads' HO_497000.out).2.2 | (with_reducible refine Kd.C_alloc ?_ _) | (with_reducible refine Kd.C_drewN ?_ _) | (with_reducible refine Kd.C_drew ?_)))
     (case side2 => exact (Kd.Q_reads' HO_497000.out).2.1)
     (case side3 => repeat (first | exact (Kd.R_reads' HO_498001.out).2.2 | (with_reducible refine Kd.C_alloc ?_ _) | (with_reducible refine Kd.C_drewN ?_ _) | (with_reducible refine Kd.C_drew ?_)))
     (case side4 => exact (Kd.R_reads' HO_498001.out).2.1)
     (case side5 => repeat (first | exact (Kd.R_reads' HO_7.out).2.2 | (with_reducible refine Kd.C_alloc ?_ _) | (with_reducible refine Kd.C_drewN ?_ _) | (with_reducible refine Kd.C_drew ?_)))
     (case side6 => exact (Kd.R_reads' HO_7.out).2.1)
     (case side7 => repeat (first | exact (by repeat (first | (with_reducible exact HR508.out) | (with_reducible refine Kd.C_alloc ?_ _) | (with_reducible refine Kd.C_drewN ?_ _) | (with_reducible refine Kd.C_drew ?_) | exact HR508.out)) | (with_reducible refine Kd.C_alloc ?_ _) | (with_reducible refine Kd.C_drewN ?_ _) | (with_reducible refine Kd.C_drew ?_)))
     (case side8 => exact HC508.out)
     rintro e w59 ⟨rfl,hb⟩;have HS5_:=(hb.cell (World.block_lt_of_cell? _ _ (hHeld.2.2.2.2.2.1))).trans (hHeld.2.2.2.2.2.1);have HS6_:=(hb.cell (World.block_lt_of_cell? _ _ (hHeld.2.2.2.2.2.2))).trans (hHeld.2.2.2.2.2.2);refine ⟨_,rfl,?_⟩;have n0_:=Z (Kd.R_below (by (with_reducible repeat (first | apply Kd.R_alloc | apply Kd.R_drewN | apply Kd.R_drew)); exact HO_7.out) hb);have n1_:=Z (Kd.R_below (by (with_reducible repeat (first | apply Kd.R_alloc | apply Kd.R_drewN | apply Kd.R_drew)); exact HO_8.out) hb);have n2_:=Z (Kd.Q_below (by (with_reducible repeat (first | apply Kd.Q_alloc | apply Kd.Q_drewN | apply Kd.Q_drew)); exact HO_497000.out) hb);have n3_:=Z (Kd.R_below (by (with_reducible repeat (first | apply Kd.R_alloc | apply Kd.R_drewN | apply Kd.R_drew)); exact HO_498001.out) hb);have n4_:=Z (blk_below (g:=gb496) (o:=.cells #[.slice (some ad514) t481.length co12,.int .i64 t484,.int .i64 t485] 25 (0,0)) (by (with_reducible repeat (first | refine blk_drewN ?_ _ | refine blk_drew ?_ | refine blk_alloc ?_ _)); exact BK496.out) hb);have n5_:=Z (blk_below (g:=gb497) (o:=.cells #[.int .i64 t486,.slice Ao16 t487.length co16] 34 (0,0)) (by (with_reducible repeat (first | refine blk_drewN ?_ _ | refine blk_drew ?_ | refine blk_alloc ?_ _)); exact BK497.out) hb);have n6_:=Z (Kd.C_below (by repeat (first | (with_reducible exact HR508.out) | (with_reducible refine Kd.C_alloc ?_ _) | (with_reducible refine Kd.C_drewN ?_ _) | (with_reducible refine Kd.C_drew ?_) | exact HR508.out)) hb);have n7_:=Z (below_step (by repeat (first | (with_reducible first | exact HB.out | apply below_alloc | apply pw_below_drewN | apply below_drew1 | refine below_set ?_ GE496.out | refine below_set ?_ GE497.out) | exact HB.out)) hb);clear HO_7;clear HO_8;clear HO_497000;clear HO_498001;clear BK496;clear BK497;clear HR508;clear HB;have HO_7:=n0_;have HO_8:=n1_;have HO_497000:=n2_;have HO_498001:=n3_;have BK496:=n4_;have BK497:=n5_;have HR508:=n6_;have HB:=n7_;clear n0_ n1_ n2_ n3_ n4_ n5_ n6_ n7_
     (try clear hb)
     (try clear hb2)
     (try clear hk)
     (try clear hi)
     refine hK.out _ _ ⟨(blk_cell BK496.out 0).trans rfl,(blk_cell BK496.out 1).trans rfl,(blk_cell BK496.out 2).trans rfl,(blk_cell BK497.out 0).trans rfl,(blk_cell BK497.out 1).trans rfl,HS5_,HS6_⟩ (fun hHeld => ?_);clear hK K;refine norm_ (a':=?_) ?_ ?_;rotate_left
     ·show Act.put _ (some 75) _ = _
      simp only [Act.put,U,G,V,i64_w,i32_w];rfl
     refine pure_ (i:=8) (N:=some 77) (v:=?_) (a':=?_) #[true,true,true,true,true,true,true,true,true,false,false,false,false,false,false,false,false,false,false,false,false,false,false,false,false,false,false,false,false,false,false,false] rfl rfl (any_of HT_.out (by kernel_rfl)) (fun _ _ _ h => h) (Or.inl ⟨by rfl,?_⟩) ?_ ?_;rotate_left
     ·intro w';go_simp;with_reducible rfl
     rotate_left
     ·simp only [Act.put,U,G,V,i64_w,i32_w];rfl
     refine pure_ (i:=9) (N:=some 78) (v:=?_) (a':=?_) #[true,true,true,true,true,true,true,true,true,true,false,false,false,false,false,false,false,false,false,false,false,false,false,false,false,false,false,false,false,false,false,false] rfl rfl (any_of HT_.out (by kernel_rfl)) (fun _ _ _ h => h) (Or.inl ⟨by rfl,?_⟩) ?_ ?_;rotate_left
     ·intro w';go_simp;with_reducible rfl
     rotate_left
     ·simp only [Act.put,U,G,V,i64_w,i32_w];rfl
     refine pure_ (i:=12) (N:=some 81) (v:=?_) (a':=?_) #[true,true,true,true,true,true,true,true,true,true,false,false,true,false,false,false,false,false,false,false,false,false,false,false,false,false,false,false,false,false,false,false] rfl rfl (any_of HT_.out (by kernel_rfl)) (fun _ _ _ h => h) (Or.inl ⟨by rfl,?_⟩) ?_ ?_;rotate_left
     ·intro w';go_simp;with_reducible rfl
     rotate_left
     ·simp only [Act.put,U,G,V,i64_w,i32_w];rfl
     refine pure_ (i:=15) (N:=some 84) (v:=?_) (a':=?_) #[true,true,true,true,true,true,true,true,true,true,false,false,true,false,false,true,false,false,false,false,false,false,false,false,false,false,false,false,false,false,false,false] rfl rfl (any_of HT_.out (by kernel_rfl)) (fun _ _ _ h => h) (Or.inl ⟨by rfl,?_⟩) ?_ ?_;rotate_left
     ·intro w';go_simp;with_reducible rfl
     rotate_left
     ·simp only [Act.put,U,G,V,i64_w,i32_w];rfl
     refine pure_ (i:=17) (N:=some 86) (v:=?_) (a':=?_) #[true,true,true,true,true,true,true,true,true,true,false,false,true,false,false,true,false,true,false,false,false,false,false,false,false,false,false,false,false,false,false,false] rfl rfl (any_of HT_.out (by kernel_rfl)) (fun _ _ _ h => h) (Or.inl ⟨by rfl,?_⟩) ?_ ?_;rotate_left
     ·intro w';go_simp;with_reducible rfl
     rotate_left
     ·simp only [Act.put,U,G,V,i64_w,i32_w];rfl
     refine take_ (i:=10) (N:=some 79) (v:=?_) (a':=?_) #[true,true,true,true,true,true,true,true,true,true,true,false,true,false,false,true,false,true,false,false,false,false,false,false,false,false,false,false,false,false,false,false] rfl rfl (take_ofW HT_.out HW_.out (by kernel_rfl)) (fun _ _ _ h => h) (Or.inl ⟨by rfl,?_⟩) hHeld ?_ ?_;rotate_left
     ·rintro w' ⟨s0,s1,s2,s3,s4,s5,s6⟩;go_simp;with_reducible rfl
     rotate_left
     ·simp only [Act.put,U,G,V,i64_w,i32_w];rfl
     refine take_ (i:=11) (N:=some 80) (v:=?_) (a':=?_) #[true,true,true,true,true,true,true,true,true,true,true,true,true,false,false,true,false,true,false,false,false,false,false,false,false,false,false,false,false,false,false,false] rfl rfl (take_ofW HT_.out HW_.out (by kernel_rfl)) (fun _ _ _ h => h) (Or.inl ⟨by rfl,?_⟩) hHeld ?_ ?_;rotate_left
     ·rintro w' ⟨s0,s1,s2,s3,s4,s5,s6⟩;go_simp;with_reducible rfl
     rotate_left
     ·simp only [Act.put,U,G,V,i64_w,i32_w];rfl
     refine take_ (i:=13) (N:=some 82) (v:=?_) (a':=?_) #[true,true,true,true,true,true,true,true,true,true,true,true,true,true,false,true,false,true,false,false,false,false,false,false,false,false,false,false,false,false,false,false] rfl rfl (take_ofW HT_.out HW_.out (by kernel_rfl)) (fun _ _ _ h => h) (Or.inl ⟨by rfl,?_⟩) hHeld ?_ ?_;rotate_left
     ·rintro w' ⟨s0,s1,s2,s3,s4,s5,s6⟩;go_simp;with_reducible rfl
     rotate_left
     ·simp only [Act.put,U,G,V,i64_w,i32_w];rfl
     refine take_ (i:=18) (N:=some 87) (v:=?_) (a':=?_) #[true,true,true,true,true,true,true,true,true,true,true,true,true,true,false,true,false,true,true,false,false,false,false,false,false,false,false,false,false,false,false,false] rfl rfl (take_ofW HT_.out HW_.out (by kernel_rfl)) (fun _ _ _ h => h) (Or.inl ⟨by rfl,?_⟩) hHeld ?_ ?_;rotate_left
     ·rintro w' ⟨s0,s1,s2,s3,s4,s5,s6⟩;go_simp;with_reducible rfl
     rotate_left
     ·simp only [Act.put,U,G,V,i64_w,i32_w];rfl
     refine pure_ (i:=19) (N:=some 88) (v:=?_) (a':=?_) #[true,true,true,true,true,true,true,true,true,true,true,true,true,true,false,true,false,true,true,true,false,false,false,false,false,false,false,false,false,false,false,false] rfl rfl (any_of HT_.out (by kernel_rfl)) (fun _ _ _ h => h) (Or.inl ⟨by rfl,?_⟩) ?_ ?_;rotate_left
     ·intro w';go_simp;with_reducible rfl
     rotate_left
     ·simp only [Act.put,U,G,V,i64_w,i32_w];rfl
     refine take_ (i:=20) (N:=some 89) (v:=?_) (a':=?_) #[true,true,true,true,true,true,true,true,true,true,true,true,true,true,false,true,false,true,true,true,true,false,false,false,false,false,false,false,false,false,false,false] rfl rfl (take_ofW HT_.out HW_.out (by kernel_rfl)) (fun _ _ _ h => h) (Or.inl ⟨by rfl,?_⟩) hHeld ?_ ?_;rotate_left
     ·rintro w' ⟨s0,s1,s2,s3,s4,s5,s6⟩;go_simp;with_reducible rfl
     rotate_left
     ·simp only [Act.put,U,G,V,i64_w,i32_w];rfl
     refine one_ (i:=14) (N:=some 83) #[true,true,true,true,true,true,true,true,true,true,true,true,true,true,true,true,false,true,true,true,true,false,false,false,false,false,false,false,false,false,false,false] rfl rfl (one_of HT_.out (by kernel_rfl)) (by decide) (fun K hK => ?_);refine Kd.R_make_step (Kd.int .i64) _ 3 (by rfl) (N:=83) rfl 23 _ _ rfl t486 (by first | rfl | (go_simp; done) | (go_simp; rfl)) (by first | rfl | (go_simp; done) | (go_simp; rfl)) Try.underlying23 (.int .i64 0) 8 info3 rfl (by decide) (by omega) 0 (ok:=fun _ => True) (okp:=fun _ => True) rfl (fun _ hk => hk) trivial (of_decide_eq_true (by first | (with_reducible assumption) | assumption)) (Nat.le_trans (Nat.mul_le_mul_right _ (of_decide_eq_true (by first | (with_reducible assumption) | assumption) : t486.toNat ≤ 35184372088832)) (by omega)) (Below.refl _ _) (Nat.le_refl _) ?_;intro v511 w60 ho61 hb hg_ hnew_;have HS5_:=(hb.cell (World.block_lt_of_cell? _ _ (hHeld.2.2.2.2.2.1))).trans (hHeld.2.2.2.2.2.1);have HS6_:=(hb.cell (World.block_lt_of_cell? _ _ (hHeld.2.2.2.2.2.2))).trans (hHeld.2.2.2.2.2.2);clear hg_ hnew_
     (first | rw [← Ny510.out] at ho61 | (simp only [Int.reduceToNat] at ho61; rw [← Ny510.out] at ho61))
     have n0_:=Z (Kd.R_elder' (by (with_reducible repeat (first | apply Kd.R_alloc | apply Kd.R_drewN | apply Kd.R_drew)); exact HO_7.out) (Kd.R_base ho61) hb);have n1_:=Z (Kd.R_elder' (by (with_reducible repeat (first | apply Kd.R_alloc | apply Kd.R_drewN | apply Kd.R_drew)); exact HO_8.out) (Kd.R_base ho61) hb);have n2_:=Z (Kd.Q_elder' (by (with_reducible repeat (first | apply Kd.Q_alloc | apply Kd.Q_drewN | apply Kd.Q_drew)); exact HO_497000.out) (Kd.R_base ho61) hb);have n3_:=Z (Kd.R_below (by (with_reducible repeat (first | apply Kd.R_alloc | apply Kd.R_drewN | apply Kd.R_drew)); exact HO_498001.out) hb);have n4_:=Z (Kd.R_lower (Kd.R_new' (Kd.R_new' (Kd.R_new' ho61 (Kd.R_lt (by (with_reducible repeat (first | apply Kd.R_alloc | apply Kd.R_drewN | apply Kd.R_drew)); exact HO_7.out))) (Kd.R_lt (by (with_reducible repeat (first | apply Kd.R_alloc | apply Kd.R_drewN | apply Kd.R_drew)); exact HO_8.out))) (Kd.Q_lt (by (with_reducible repeat (first | apply Kd.Q_alloc | apply Kd.Q_drewN | apply Kd.Q_drew)); exact HO_497000.out))) (below_size (by repeat (first | (with_reducible first | exact HB.out | apply below_alloc | apply pw_below_drewN | apply below_drew1 | refine below_set ?_ GE496.out | refine below_set ?_ GE497.out) | exact HB.out))));have n5_:=Z (blk_below (g:=gb496) (o:=.cells #[.slice (some ad514) t481.length co12,.int .i64 t484,.int .i64 t485] 25 (0,0)) (by (with_reducible repeat (first | refine blk_drewN ?_ _ | refine blk_drew ?_ | refine blk_alloc ?_ _)); exact BK496.out) hb);have n6_:=Z (blk_below (g:=gb497) (o:=.cells #[.int .i64 t486,.slice Ao16 t487.length co16] 34 (0,0)) (by (with_reducible repeat (first | refine blk_drewN ?_ _ | refine blk_drew ?_ | refine blk_alloc ?_ _)); exact BK497.out) hb);have n7_:=Z (Kd.C_below (by repeat (first | (with_reducible exact HR508.out) | (with_reducible refine Kd.C_alloc ?_ _) | (with_reducible refine Kd.C_drewN ?_ _) | (with_reducible refine Kd.C_drew ?_) | exact HR508.out)) hb);have n8_:=Z (below_step (by repeat (first | (with_reducible first | exact HB.out | apply below_alloc | apply pw_below_drewN | apply below_drew1 | refine below_set ?_ GE496.out | refine below_set ?_ GE497.out) | exact HB.out)) hb);clear HO_7;clear HO_8;clear HO_497000;clear HO_498001;clear BK496;clear BK497;clear HR508;clear HB;have HO_7:=n0_;have HO_8:=n1_;have HO_497000:=n2_;have HO_498001:=n3_;have HO512:=n4_;have BK496:=n5_;have BK497:=n6_;have HR508:=n7_;have HB:=n8_;clear n0_ n1_ n2_ n3_ n4_ n5_ n6_ n7_ n8_;clear hb ho61;obtain ⟨Ao62,co62,eo62⟩:=Kd.R_slice HO512.out
     (first | subst eo62 | (injection eo62 with f1_ f2_ f3_; have f4_:=f1_.symm; have f5_:=f3_.symm; clear f1_ f2_ f3_; subst f4_; subst f5_))
     refine hK.out _ _ ⟨(blk_cell BK496.out 0).trans rfl,(blk_cell BK496.out 1).trans rfl,(blk_cell BK496.out 2).trans rfl,(blk_cell BK497.out 0).trans rfl,(blk_cell BK497.out 1).trans rfl,HS5_,HS6_⟩ (fun hHeld => ?_);clear hK K;refine norm_ (a':=?_) ?_ ?_;rotate_left
     ·show Act.put _ (some 83) _ = _
      simp only [Act.put,U,G,V,i64_w,i32_w];rfl
     refine one_ (i:=16) (N:=some 85) #[true,true,true,true,true,true,true,true,true,true,true,true,true,true,true,true,true,true,true,true,true,false,false,false,false,false,false,false,false,false,false,false] rfl rfl (one_of HT_.out (by kernel_rfl)) (by decide) (fun K hK => ?_);refine goes_ Try.func21 (by kernel_rfl) rfl #[.agg #[.slice (some ad514) t481.length co12,.int .i64 t484,.int .i64 t485],.agg #[.int .i64 t486,.slice Ao16 t487.length co16],.slice Ao62 y510.length co62,.slice Ao18 t493.length co18] (by rfl) rfl rfl (by (try simp only [List.map_toArray,List.map_cons,List.map_nil]); first | done | rfl | (simp only [List.length_drop,List.length_take]; rfl)) ?_;with_reducible refine (impl_FareRide.calls kj7 _ _ t481 t484 t485 t486 _ _ t487 _ _ y510 _ _ t493 t513 _ ?side1 ?side2 ?side3 ?side4 ?side5 ?side6 ?side7 ?side8 A54.out).mono ?_
     (case side1 => repeat (first | exact (Kd.Q_reads' HO_497000.out).2.2 | (with_reducible refine Kd.C_alloc ?_ _) | (with_reducible refine Kd.C_drewN ?_ _) | (with_reducible refine Kd.C_drew ?_)))
     (case side2 => exact (Kd.Q_reads' HO_497000.out).2.1)
     (case side3 => repeat (first | exact (Kd.R_reads' HO_498001.out).2.2 | (with_reducible refine Kd.C_alloc ?_ _) | (with_reducible refine Kd.C_drewN ?_ _) | (with_reducible refine Kd.C_drew ?_)))
     (case side4 => exact (Kd.R_reads' HO_498001.out).2.1)
     (case side5 => repeat (first | exact (Kd.R_reads' HO512.out).2.2 | (with_reducible refine Kd.C_alloc ?_ _) | (with_reducible refine Kd.C_drewN ?_ _) | (with_reducible refine Kd.C_drew ?_)))
     (case side6 => exact (Kd.R_reads' HO512.out).2.1)
     (case side7 => repeat (first | exact (Kd.R_reads' HO_8.out).2.2 | (with_reducible refine Kd.C_alloc ?_ _) | (with_reducible refine Kd.C_drewN ?_ _) | (with_reducible refine Kd.C_drew ?_)))
     (case side8 => exact (Kd.R_reads' HO_8.out).2.1)
     rintro e w63 ⟨rfl,hb⟩;have HS5_:=(hb.cell (World.block_lt_of_cell? _ _ (hHeld.2.2.2.2.2.1))).trans (hHeld.2.2.2.2.2.1);have HS6_:=(hb.cell (World.block_lt_of_cell? _ _ (hHeld.2.2.2.2.2.2))).trans (hHeld.2.2.2.2.2.2);refine ⟨_,rfl,?_⟩;have n0_:=Z (Kd.R_below (by (with_reducible repeat (first | apply Kd.R_alloc | apply Kd.R_drewN | apply Kd.R_drew)); exact HO_7.out) hb);have n1_:=Z (Kd.R_below (by (with_reducible repeat (first | apply Kd.R_alloc | apply Kd.R_drewN | apply Kd.R_drew)); exact HO_8.out) hb);have n2_:=Z (Kd.Q_below (by (with_reducible repeat (first | apply Kd.Q_alloc | apply Kd.Q_drewN | apply Kd.Q_drew)); exact HO_497000.out) hb);have n3_:=Z (Kd.R_below (by (with_reducible repeat (first | apply Kd.R_alloc | apply Kd.R_drewN | apply Kd.R_drew)); exact HO_498001.out) hb);have n4_:=Z (Kd.R_below (by (with_reducible repeat (first | apply Kd.R_alloc | apply Kd.R_drewN | apply Kd.R_drew)); exact HO512.out) hb);have n5_:=Z (blk_below (g:=gb496) (o:=.cells #[.slice (some ad514) t481.length co12,.int .i64 t484,.int .i64 t485] 25 (0,0)) (by (with_reducible repeat (first | refine blk_drewN ?_ _ | refine blk_drew ?_ | refine blk_alloc ?_ _)); exact BK496.out) hb);have n6_:=Z (blk_below (g:=gb497) (o:=.cells #[.int .i64 t486,.slice Ao16 t487.length co16] 34 (0,0)) (by (with_reducible repeat (first | refine blk_drewN ?_ _ | refine blk_drew ?_ | refine blk_alloc ?_ _)); exact BK497.out) hb);have n7_:=Z (Kd.C_below (by repeat (first | (with_reducible exact HR508.out) | (with_reducible refine Kd.C_alloc ?_ _) | (with_reducible refine Kd.C_drewN ?_ _) | (with_reducible refine Kd.C_drew ?_) | exact HR508.out)) hb);have n8_:=Z (below_step (by repeat (first | (with_reducible first | exact HB.out | apply below_alloc | apply pw_below_drewN | apply below_drew1 | refine below_set ?_ GE496.out | refine below_set ?_ GE497.out) | exact HB.out)) hb);clear HO_7;clear HO_8;clear HO_497000;clear HO_498001;clear HO512;clear BK496;clear BK497;clear HR508;clear HB;have HO_7:=n0_;have HO_8:=n1_;have HO_497000:=n2_;have HO_498001:=n3_;have HO512:=n4_;have BK496:=n5_;have BK497:=n6_;have HR508:=n7_;have HB:=n8_;clear n0_ n1_ n2_ n3_ n4_ n5_ n6_ n7_ n8_
     (try clear hb)
     (try clear hb2)
     (try clear hk)
     (try clear hi)
     refine hK.out _ _ ⟨(blk_cell BK496.out 0).trans rfl,(blk_cell BK496.out 1).trans rfl,(blk_cell BK496.out 2).trans rfl,(blk_cell BK497.out 0).trans rfl,(blk_cell BK497.out 1).trans rfl,HS5_,HS6_⟩ (fun hHeld => ?_);clear hK K;refine norm_ (a':=?_) ?_ ?_;rotate_left
     ·show Act.put _ (some 85) _ = _
      simp only [Act.put,U,G,V,i64_w,i32_w];rfl
     refine pure_ (i:=21) (N:=some 90) (v:=?_) (a':=?_) #[true,true,true,true,true,true,true,true,true,true,true,true,true,true,true,true,true,true,true,true,true,true,false,false,false,false,false,false,false,false,false,false] rfl rfl (any_of HT_.out (by kernel_rfl)) (fun _ _ _ h => h) (Or.inl ⟨by rfl,?_⟩) ?_ ?_;rotate_left
     ·intro w';go_simp;with_reducible rfl
     rotate_left
     ·simp only [Act.put,U,G,V,i64_w,i32_w];rfl
     refine pure_ (i:=22) (N:=some 91) (v:=?_) (a':=?_) #[true,true,true,true,true,true,true,true,true,true,true,true,true,true,true,true,true,true,true,true,true,true,true,false,false,false,false,false,false,false,false,false] rfl rfl (any_of HT_.out (by kernel_rfl)) (fun _ _ _ h => h) (Or.inl ⟨by rfl,?_⟩) ?_ ?_;rotate_left
     ·intro w';go_simp;with_reducible rfl
     rotate_left
     ·simp only [Act.put,U,G,V,i64_w,i32_w];rfl
     refine pure_ (i:=23) (N:=some 92) (v:=?_) (a':=?_) #[true,true,true,true,true,true,true,true,true,true,true,true,true,true,true,true,true,true,true,true,true,true,true,true,false,false,false,false,false,false,false,false] rfl rfl (any_of HT_.out (by kernel_rfl)) (fun _ _ _ h => h) (Or.inl ⟨by rfl,?_⟩) ?_ ?_;rotate_left
     ·intro w';go_simp;with_reducible rfl
     rotate_left
     ·simp only [Act.put,U,G,V,i64_w,i32_w];rfl
     refine pure_ (i:=24) (N:=some 93) (v:=?_) (a':=?_) #[true,true,true,true,true,true,true,true,true,true,true,true,true,true,true,true,true,true,true,true,true,true,true,true,true,false,false,false,false,false,false,false] rfl rfl (any_of HT_.out (by kernel_rfl)) (fun _ _ _ h => h) (Or.inl ⟨by rfl,?_⟩) ?_ ?_;rotate_left
     ·intro w';go_simp;with_reducible rfl
     rotate_left
     ·simp only [Act.put,U,G,V,i64_w,i32_w];rfl
     refine pure_ (i:=28) (N:=some 97) (v:=?_) (a':=?_) #[true,true,true,true,true,true,true,true,true,true,true,true,true,true,true,true,true,true,true,true,true,true,true,true,true,false,false,false,true,false,false,false] rfl rfl (any_of HT_.out (by kernel_rfl)) (fun _ _ _ h => h) (Or.inl ⟨by rfl,?_⟩) ?_ ?_;rotate_left
     ·intro w';go_simp;with_reducible rfl
     rotate_left
     ·simp only [Act.put,U,G,V,i64_w,i32_w];rfl
     refine take_ (i:=25) (N:=some 94) (v:=?_) (a':=?_) #[true,true,true,true,true,true,true,true,true,true,true,true,true,true,true,true,true,true,true,true,true,true,true,true,true,true,false,false,true,false,false,false] rfl rfl (take_ofW HT_.out HW_.out (by kernel_rfl)) (fun _ _ _ h => h) (Or.inl ⟨by rfl,?_⟩) hHeld ?_ ?_;rotate_left
     ·rintro w' ⟨s0,s1,s2,s3,s4,s5,s6⟩;go_simp;with_reducible rfl
     rotate_left
     ·simp only [Act.put,U,G,V,i64_w,i32_w];rfl
     refine pure_ (i:=26) (N:=some 95) (v:=?_) (a':=?_) #[true,true,true,true,true,true,true,true,true,true,true,true,true,true,true,true,true,true,true,true,true,true,true,true,true,true,true,false,true,false,false,false] rfl rfl (any_of HT_.out (by kernel_rfl)) (fun _ _ _ h => h) (Or.inl ⟨by rfl,?_⟩) ?_ ?_;rotate_left
     ·intro w';go_simp;with_reducible rfl
     rotate_left
     ·simp only [Act.put,U,G,V,i64_w,i32_w];rfl
     refine take_ (i:=27) (N:=some 96) (v:=?_) (a':=?_) #[true,true,true,true,true,true,true,true,true,true,true,true,true,true,true,true,true,true,true,true,true,true,true,true,true,true,true,true,true,false,false,false] rfl rfl (take_ofW HT_.out HW_.out (by kernel_rfl)) (fun _ _ _ h => h) (Or.inl ⟨by rfl,?_⟩) hHeld ?_ ?_;rotate_left
     ·rintro w' ⟨s0,s1,s2,s3,s4,s5,s6⟩;go_simp;with_reducible rfl
     rotate_left
     ·simp only [Act.put,U,G,V,i64_w,i32_w];rfl
     refine pure_ (i:=29) (N:=some 98) (v:=?_) (a':=?_) #[true,true,true,true,true,true,true,true,true,true,true,true,true,true,true,true,true,true,true,true,true,true,true,true,true,true,true,true,true,true,false,false] rfl rfl (any_of HT_.out (by kernel_rfl)) (fun _ _ _ h => h) (Or.inl ⟨by rfl,?_⟩) ?_ ?_;rotate_left
     ·intro w';go_simp;with_reducible rfl
     rotate_left
     ·simp only [Act.put,U,G,V,i64_w,i32_w];rfl
     refine pure_ (i:=30) (N:=some 99) (v:=?_) (a':=?_) #[true,true,true,true,true,true,true,true,true,true,true,true,true,true,true,true,true,true,true,true,true,true,true,true,true,true,true,true,true,true,true,false] rfl rfl (any_of HT_.out (by kernel_rfl)) (fun _ _ _ h => h) (Or.inl ⟨by rfl,?_⟩) ?_ ?_;rotate_left
     ·intro w';go_simp;with_reducible rfl
     rotate_left
     ·simp only [Act.put,U,G,V,i64_w,i32_w];rfl
     refine pure_ (i:=31) (N:=some 4) (v:=?_) (a':=?_) #[true,true,true,true,true,true,true,true,true,true,true,true,true,true,true,true,true,true,true,true,true,true,true,true,true,true,true,true,true,true,true,true] rfl rfl (any_of HT_.out (by kernel_rfl)) (fun _ _ _ h => h) (Or.inl ⟨by rfl,?_⟩) ?_ ?_;rotate_left
     ·intro w';go_simp;with_reducible rfl
     rotate_left
     ·simp only [Act.put,U,G,V,i64_w,i32_w];rfl
     refine done_ (done_of HT_.out (by kernel_rfl)) ?_
     try go_wp2
     go_ret;exact ⟨by first | rfl | (simp [errW_none,errW_some] <;> rfl) | (simp only [← hji47]; first | rfl | (simp [errW_none,errW_some] <;> rfl)) | (simp [*,errW_none,errW_some] <;> rfl),by repeat (first | (with_reducible first | exact HB.out | apply below_alloc | apply pw_below_drewN | apply below_drew1 | refine below_set ?_ GE496.out | refine below_set ?_ GE497.out) | exact HB.out)⟩
end Go.Proofs.Ytlhmljngjdfbpaa.Pr
end
section
set_option linter.unusedVariables false
namespace Go.Proofs.YtlhmljngjdfbpaaW.PrintWords
open Go.RowKit Go.ChangeShapes Go.WideShapes
def Opens (P : Program) {α : Type} (d : Kd α) (t : TypeId) (wf : α → Prop) : Prop :=
 ∀ {H : Type} {enc : TypeId × Value → H} {w : World} {sp : Nat → Bool} {held : Bool} {fuel : Nat} {cs : List Value} {x : DataW H × List MemPlace},DataW.trod enc P w 0 sp held fuel t cs = some x → ∃ a,d.K w a cs ∧ wf a
section
variable {P : Program} {α β : Type}
theorem opens_int {t : TypeId} {k : IntKind} (ht : P.underlying t = some (.int k)) : Opens P (Kd.int k) t (fun n => (Lit.int k n).wf = true):=by
 intro H enc w sp held fuel cs x h;obtain ⟨n,rfl,_,hw⟩:=DataW.trod_int ht h;exact ⟨n,rfl,hw⟩
theorem addr_add_add (a : Addr) (i j : Nat) : (a.add i).add j = a.add (i + j):=by
 unfold Addr.add
 by_cases hi : i = 0 <;> by_cases hj : j = 0 <;> simp [hi,hj,Nat.add_assoc]
theorem opens_slice [Inhabited α] {d : Kd α} {t e : TypeId} {wf : α → Prop} (ht : P.underlying t = some (.slice e)) (hc : P.cellsOf e = d.sz) (he : Opens P d e wf) : Opens P (Kd.slice e d) t (fun l => l.length ≤ maxLen ∧ ∀ x ∈ l,wf x):=by
 intro H enc w sp held fuel cs x h
 rcases Deep.open_slice ht h with ⟨rfl,_⟩ | ⟨a,len,cap,m,n,D,Pl,rfl,_,hl,hm,hmm,_,hel⟩
 ·exact ⟨[],⟨none,0,rfl,Nat.le_refl _,Kd.C_nil d w⟩,by simp,by simp⟩
 ·have hlm : len ≤ m:=by rw [hmm]; split <;> omega
  have hx : ∀ i,i < len → ∃ y : α,(∃ c,c.length = d.sz ∧ d.K w y c ∧ ∀ j u,c[j]? = some u → w.cell? (a.add (i * d.sz + j)) = some u) ∧ wf y:=by
   intro i hi;obtain ⟨cs',hcs,htr⟩:=hel i (by omega);obtain ⟨y,hk,hw⟩:=he htr;obtain ⟨_,hlen,hcell⟩:=World.cells?_some hcs;refine ⟨y,⟨cs',d.K_len hk,hk,fun j u hu => ?_⟩,hw⟩;have hj : j < P.cellsOf e:=by
    have:=(List.getElem?_eq_some_iff.1 hu).1;omega
   have:=hcell j hj;rw [addr_add_add,hc,hu] at this;exact this
  obtain ⟨f,hf⟩:=Deep.choose_lt hx;refine ⟨(List.range len).map f,⟨some a,cap,by simp,by simpa using hl,by simp,by simp only [maxLen] at hm; simp; omega,fun _ => ⟨a,rfl,fun j p hj => ?_⟩⟩,by simp; omega,fun y hy => ?_⟩
  ·obtain ⟨hj1,hj2⟩:=List.getElem?_eq_some_iff.1 hj;simp at hj1 hj2;subst hj2;exact (hf j hj1).1
  ·simp only [List.mem_map,List.mem_range] at hy;obtain ⟨i,hi,rfl⟩:=hy;exact (hf i hi).2
end
end Go.Proofs.YtlhmljngjdfbpaaW.PrintWords
end
section
namespace Go.Proofs.Ytlhmljngjdfbpaa.Pr
open Go.RowKit Go.Proofs.YtlhmljngjdfbpaaW.PrintWords Go.Proofs.YtlhmljngjdfbpaaW.PrintLast Go.Proofs.YtlhmljngjdfbpaaW.PrintMore
open List renaming setIfInBounds_toArray → U,set_cons_zero → G,set_cons_succ → V
open Go.Proofs.YtlhmljngjdfbpaaW.PrintWords.Aside0 renaming mk → Z
def laws_FnFareRide.Asked : Prop:=∀ (l0 : List Int) (l1 : List Int),(l0.length ≤ maxLen ∧ ∀ x_ ∈ l0,(Lit.int .u8 x_).wf = true) → (l1.length ≤ maxLen ∧ ∀ x_ ∈ l1,(Lit.int .u8 x_).wf = true) → ∃ k,laws_FnFareRide.f k l0 l1 = some true
end Go.Proofs.Ytlhmljngjdfbpaa.Pr
end
section
set_option linter.unusedVariables false
namespace Go.Proofs.YtlhmljngjdfbpaaW.PrintWords
open Go.RowKit
section
variable {α β : Type}
theorem Ev.pos {c : Prop} [Decidable c] {t e : Nat → Option α} {r : α} (h : c) (k : Ev t r) : Ev (fun n => if c then t n else e n) r:=by
 simp only [if_pos h]; exact k
theorem Ev.neg {c : Prop} [Decidable c] {t e : Nat → Option α} {r : α} (h : ¬ c) (k : Ev e r) : Ev (fun n => if c then t n else e n) r:=by
 simp only [if_neg h]; exact k
theorem Ev.bind0 {g : Option α} {f : Nat → α → Option β} {a : α} {r : β} (h : g = some a) (k : Ev (fun n => f n a) r) : Ev (fun n => g.bind (f n)) r:=by
 subst h; exact k
theorem Ev.is {a r : α} (h : a = r) : Ev (fun _ => some a) r:=by subst h; exact Ev.now _
theorem Ev.cast {g : Nat → Option α} {a r : α} (k : Ev g a) (h : a = r) : Ev g r:=h ▸ k
theorem Ev.go {g f : Nat → Option α} {r : α} (k : Ev f r) (h : ∀ k,g (k + 1) = f k) : Ev g r:=Ev.step h k
end
theorem w64 {n : Int} (h : -9223372036854775808 ≤ n) (h' : n ≤ 9223372036854775807) : wrap64 n = n:=by unfold wrap64; omega
theorem rd_nat {l : List Int} {i : Nat} (h : i < l.length) : rd l (i : Int) = l[i]:=by simp [rd,h]
noncomputable def Bp (p : Prop) : Bool:=@decide p (Classical.propDecidable p)
theorem Bp_iff {p : Prop} : Bp p = true ↔ p:=by unfold Bp; exact @decide_eq_true_iff p (Classical.propDecidable p)
theorem Bp_true {p : Prop} (h : p) : Bp p = true:=Bp_iff.2 h
theorem Bp_false {p : Prop} (h : ¬ p) : Bp p = false:=by
 cases e : Bp p with
 | false => rfl
 | true => exact absurd (Bp_iff.1 e) h
theorem Bp_congr {p q : Prop} (h : p ↔ q) : Bp p = Bp q:=by rw [propext h]
theorem eq_Bp {b : Bool} {p : Prop} (h : b = true ↔ p) : b = Bp p:=by rw [Bool.eq_iff_iff,Bp_iff]; exact h
end Go.Proofs.YtlhmljngjdfbpaaW.PrintWords
end
section
set_option linter.unusedSimpArgs false
set_option linter.unusedVariables false
namespace Go.Proofs.Ytlhmljngjdfbpaa.Pure
open Go.RowKit Go.Proofs.Ytlhmljngjdfbpaa.Pr Go.Proofs.YtlhmljngjdfbpaaW.PrintWords Go.Proofs.YtlhmljngjdfbpaaW.PrintLast Go.Proofs.YtlhmljngjdfbpaaW.PrintMore
def inB (x a b : Int) : Bool:=decide (a ≤ x) && decide (x ≤ b)
theorem inB_iff {x a b : Int} : inB x a b = true ↔ a ≤ x ∧ x ≤ b:=by simp [inB]
theorem in1 (x a b : Int) : spec_l1In.f x a b = some (inB x a b):=by
 unfold spec_l1In.f inB
 by_cases h : x ≥ a
 case pos => rw [if_pos h]; simp [show a ≤ x from h]
 rw [if_neg h]; simp [show ¬ a ≤ x from h]
theorem within1 (x a b : Int) : impl_within.f x a b = some (inB x a b):=by
 unfold impl_within.f inB
 by_cases h : x ≥ a
 case pos => rw [if_pos h]; simp [show a ≤ x from h]
 rw [if_neg h]; simp [show ¬ a ≤ x from h]
theorem up1 {i n : Nat} (h : i < n) (hn : n ≤ maxLen) : wrap64 ((i : Int) + 1) = ((i + 1 : Nat) : Int):=by
 simp only [maxLen] at hn;rw [w64 (by omega) (by omega)]; omega
theorem rdn {l : List Int} {i : Nat} (h : i < l.length) : rd l (i : Int) = l[i]:=rd_nat h
def nth (l : List Int) (i : Nat) : Int:=l.getD i 0
theorem rdg {l : List Int} (i : Nat) : rd l (i : Int) = nth l i:=by simp [rd,nth]
theorem nth_get {l : List Int} {i : Nat} (h : i < l.length) : nth l i = l[i]:=by simp [nth,h]
theorem getD_mem {l : List Int} {i : Nat} (h : i < l.length) : nth l i ∈ l:=by
 rw [nth_get h];exact List.getElem_mem h
theorem mem_getD {l : List Int} {x : Int} (h : x ∈ l) : ∃ i,i < l.length ∧ nth l i = x:=by
 obtain ⟨i,hi,rfl⟩:=List.getElem_of_mem h;exact ⟨i,hi,nth_get hi⟩
theorem drop_cons {α : Type} {l : List α} {i : Nat} (h : i < l.length) : l.drop i = l[i] :: l.drop (i + 1):=List.drop_eq_getElem_cons h
def Pv {α : Type} (g : Nat → Option α) (P : α → Prop) : Prop:=∃ r,Ev g r ∧ P r
section
variable {α β : Type} {P : α → Prop}
theorem Pv.of {g : Nat → Option α} {r : α} (h : Ev g r) (hp : P r) : Pv g P:=⟨r,h,hp⟩
theorem Pv.now {a : α} (h : P a) : Pv (fun _ => some a) P:=⟨a,Ev.now a,h⟩
theorem Pv.pos {c : Prop} [Decidable c] {t e : Nat → Option α} (h : c) (k : Pv t P) : Pv (fun n => if c then t n else e n) P:=by
 obtain ⟨r,k,hp⟩:=k;exact ⟨r,Ev.pos h k,hp⟩
theorem Pv.neg {c : Prop} [Decidable c] {t e : Nat → Option α} (h : ¬ c) (k : Pv e P) : Pv (fun n => if c then t n else e n) P:=by
 obtain ⟨r,k,hp⟩:=k;exact ⟨r,Ev.neg h k,hp⟩
theorem Pv.ite {c : Prop} [Decidable c] {t e : Nat → Option α} (h : c → Pv t P) (k : ¬ c → Pv e P) : Pv (fun n => if c then t n else e n) P:=by
 by_cases hc : c
 case neg => exact Pv.neg hc (k hc)
 exact Pv.pos hc (h hc)
theorem Pv.bind {g : Nat → Option β} {f : Nat → β → Option α} {R : β → Prop} (h : Pv g R) (k : ∀ b,R b → Pv (fun n => f n b) P) : Pv (fun n => (g n).bind (f n)) P:=by
 obtain ⟨b,h,hb⟩:=h;obtain ⟨r,k,hp⟩:=k b hb;exact ⟨r,Ev.bind h k,hp⟩
theorem Pv.bind0 {g : Option β} {f : Nat → β → Option α} {b : β} (h : g = some b) (k : Pv (fun n => f n b) P) : Pv (fun n => g.bind (f n)) P:=by
 obtain ⟨r,k,hp⟩:=k;exact ⟨r,Ev.bind0 h k,hp⟩
theorem Pv.go {g f : Nat → Option α} (k : Pv f P) (h : ∀ k,g (k + 1) = f k) : Pv g P:=by
 obtain ⟨r,k,hp⟩:=k;exact ⟨r,Ev.go k h,hp⟩
theorem Pv.mono {g : Nat → Option α} {R : α → Prop} (h : Pv g R) (k : ∀ a,R a → P a) : Pv g P:=by
 obtain ⟨r,h,hr⟩:=h;exact ⟨r,h,k r hr⟩
end
theorem Pv.rounds {g : Nat → Option Bool} (h : Pv g (· = true)) : ∃ k,g k = some true:=by
 obtain ⟨r,h,rfl⟩:=h;exact Ev.rounds h
end Go.Proofs.Ytlhmljngjdfbpaa.Pure
end
section
set_option linter.unusedSimpArgs false
set_option linter.unusedVariables false
set_option linter.unusedVariables false
end
section
set_option linter.unusedSimpArgs false
set_option linter.unusedVariables false
namespace Go.Proofs.Ytlhmljngjdfbpaa.Pure
open Go.RowKit Go.Proofs.Ytlhmljngjdfbpaa.Pr Go.Proofs.YtlhmljngjdfbpaaW.PrintWords Go.Proofs.YtlhmljngjdfbpaaW.PrintLast Go.Proofs.YtlhmljngjdfbpaaW.PrintMore
theorem costOk1 (c : Int) : impl_costOk.f c = some (inB c 0 99):=okC_costOk c
theorem less1 (a b : Int) : cmp_Less_int.f a b = some (decide (a < b)):=by
 unfold cmp_Less_int.f cmp_isNaN_int.f
 simp
def RisesFrom (l : List Int) (i : Nat) : Prop:=∀ j,j < l.length → i ≤ j → (0 ≤ nth l j ∧ nth l j ≤ 99) ∧ (0 < j → nth l (j - 1) ≤ nth l j)
def FareGood (l : List Int) (d w : Int) : Prop:=l.length = 4 ∧ RisesFrom l 0 ∧ (0 ≤ d ∧ d ≤ 99) ∧ (0 ≤ w ∧ w ≤ 990)
noncomputable def fareB (l : List Int) (d w : Int) : Bool:=Bp (FareGood l d w)
theorem specFareOk_l (l : List Int) (d w : Int) (hm : l.length ≤ maxLen) : ∀ (m i : Nat),l.length - i = m → i ≤ l.length → Ev (fun k => spec_l28Ok.l0 k (i : Int) l d w) (Bp (l.length = 4 ∧ RisesFrom l i ∧ (0 ≤ d ∧ d ≤ 99) ∧ (0 ≤ w ∧ w ≤ 990))):=by
 intro m
 induction m with
 | zero =>
  intro i hd hi;refine Ev.go ?_ (fun k => by rw [spec_l28Ok.l0]);refine Ev.neg (by omega) ?_;have hr : RisesFrom l i:=fun j h h' => absurd h (by omega)
  by_cases h4 : l.length = 4
  case neg => exact Ev.neg (by omega) (Ev.is (Bp_false (fun h => h4 h.1)).symm)
  refine Ev.pos (by omega) (Ev.bind0 (in1 _ _ _) ?_);cases hd : inB d 0 99 with
  | false => exact Ev.neg (by simp) (Ev.is (Bp_false (fun h => by have:=inB_iff.2 h.2.2.1; simp [hd] at this)).symm)
  | true =>
   refine Ev.pos rfl (Ev.bind0 (in1 _ _ _) (Ev.is (eq_Bp ?_)));rw [inB_iff];exact ⟨fun h => ⟨h4,hr,inB_iff.1 hd,h⟩,fun h => h.2.2.2⟩
 | succ m ih =>
  intro i hd hi;have hlt : i < l.length:=by omega
  have hstep : RisesFrom l i ↔ ((0 ≤ nth l i ∧ nth l i ≤ 99) ∧ (0 < i → nth l (i - 1) ≤ nth l i)) ∧ RisesFrom l (i + 1):=by
   constructor
   ·exact fun h => ⟨h i hlt (Nat.le_refl _),fun j hj hij => h j hj (by omega)⟩
   ·intro h j hj hij
    by_cases e : j = i
    case pos => subst e; exact h.1
    exact h.2 j hj (by omega)
  refine Ev.go ?_ (fun k => by rw [spec_l28Ok.l0]);refine Ev.pos (by omega) (Ev.pos (by omega) (Ev.bind0 (in1 _ _ _) ?_));rw [rdg i];cases hp : inB (nth l i) 0 99 with
  | false => exact Ev.neg (by simp) (Ev.is (Bp_false (fun h => by have:=inB_iff.2 (hstep.1 h.2.1).1.1; rw [hp] at this; exact absurd this (by simp))).symm)
  | true =>
   refine Ev.pos rfl ?_;have hnext:=ih (i + 1) (by omega) (by omega);rw [← up1 hlt hm] at hnext
   by_cases h0 : 0 < i
   case neg =>
    refine Ev.neg (by omega) (hnext.cast (Bp_congr ?_));rw [hstep];have:=inB_iff.1 hp;exact ⟨fun h => ⟨h.1,⟨⟨this,fun h' => absurd h' h0⟩,h.2.1⟩,h.2.2⟩,fun h => ⟨h.1,h.2.1.2,h.2.2⟩⟩
   have hw : wrap64 ((i : Int) - 1) = ((i - 1 : Nat) : Int):=by
    simp only [maxLen] at hm;rw [w64 (by omega) (by omega)]; omega
   refine Ev.pos (by omega) ?_;rw [hw];refine Ev.pos (by omega) (Ev.pos (by omega) ?_);rw [rdg (i - 1)]
   by_cases hl : nth l i < nth l (i - 1)
   case pos =>
    refine Ev.pos hl (Ev.is (Bp_false (fun h => ?_)).symm);have:=(hstep.1 h.2.1).1.2 h0;omega
   refine Ev.neg hl (hnext.cast (Bp_congr ?_));rw [hstep];have:=inB_iff.1 hp;exact ⟨fun h => ⟨h.1,⟨⟨this,fun _ => by omega⟩,h.2.1⟩,h.2.2⟩,fun h => ⟨h.1,h.2.1.2,h.2.2⟩⟩
theorem specFareOk_ev (l : List Int) (d w : Int) (hm : l.length ≤ maxLen) : Ev (fun k => spec_l28Ok.f k l d w) (fareB l d w) :=
 specFareOk_l l d w hm _ 0 rfl (by omega)
def SortedTo (l : List Int) (i : Nat) : Prop:=∀ j,j < l.length → j ≤ i → 0 < j → nth l (j - 1) ≤ nth l j
theorem isSorted_l (l : List Int) (hm : l.length ≤ maxLen) : ∀ (i : Nat),i < l.length → Ev (fun k => slices_IsSorted_int_int.l0 k l (i : Int)) (Bp (SortedTo l i)):=by
 intro i
 induction i with
 | zero =>
  intro hi;refine Ev.go ?_ (fun k => by rw [slices_IsSorted_int_int.l0]);exact Ev.neg (by simp) (Ev.is (Bp_true (fun j h h1 h2 => absurd h2 (by omega))).symm)
 | succ i ih =>
  intro hi;have hw : wrap64 (((i + 1 : Nat) : Int) - 1) = (i : Int):=by
   simp only [maxLen] at hm;rw [w64 (by omega) (by omega)]; omega
  refine Ev.go ?_ (fun k => by rw [slices_IsSorted_int_int.l0]);refine Ev.pos (by omega) (Ev.pos (by omega) (Ev.pos (by omega) ?_));rw [hw];refine Ev.pos (by omega) (Ev.pos (by omega) (Ev.bind0 (less1 _ _) ?_));rw [rdg (i + 1),rdg i]
  by_cases hl : nth l (i + 1) < nth l i
  case pos =>
   rw [decide_eq_true hl];refine Ev.pos rfl (Ev.is (Bp_false (fun h => ?_)).symm);have:=h (i + 1) hi (Nat.le_refl _) (by omega);rw [Nat.add_sub_cancel] at this;omega
  rw [decide_eq_false hl];refine Ev.neg (by simp) ((ih (by omega)).cast (Bp_congr ?_));constructor
  ·intro h j hj hij h0
   by_cases e : j = i + 1
   case neg => exact h j hj (by omega) h0
   subst e; rw [Nat.add_sub_cancel]; omega
  ·exact fun h j hj hij h0 => h j hj (by omega) h0
theorem implFareOk_ev (l : List Int) (d w : Int) (hm : l.length ≤ maxLen) : Ev (fun k => impl_FareOk.f k l d w) (fareB l d w):=by
 unfold impl_FareOk.f fareB
 by_cases h4 : l.length = 4
 case neg => exact Ev.neg (by omega) (Ev.is (Bp_false (fun h => h4 h.1)).symm)
 refine Ev.pos (by omega) (Ev.bind0 rfl ?_);have hall : (!(l.any fun c => !okC c)) = true ↔ ∀ c ∈ l,0 ≤ c ∧ c ≤ 99:=by
  simp [okC]
 cases hp : (!(l.any fun c => !okC c)) with
 | false =>
  refine Ev.neg (by simp) (Ev.is (Bp_false (fun h => ?_)).symm);have : (!(l.any fun c => !okC c)) = true:=hall.2 (fun c hc => by
   obtain ⟨j,hj,rfl⟩:=mem_getD hc;exact (h.2.1 j hj (by omega)).1)
  rw [hp] at this;simp at this
 | true =>
  have hpr:=hall.1 hp;refine Ev.pos rfl ?_;have hs : Ev (fun k => slices_IsSorted_int_int.f k l) (Bp (SortedTo l 3)):=by
   unfold slices_IsSorted_int_int.f
   have:=isSorted_l l hm 3 (by omega);have e : wrap64 ((l.length : Int) - 1) = ((3 : Nat) : Int):=by rw [w64 (by omega) (by omega)]; omega
   rw [e];exact this
  refine Ev.bind hs ?_;cases hb : Bp (SortedTo l 3) with
  | false =>
   refine Ev.neg (by simp) (Ev.is (Bp_false (fun h => ?_)).symm);have : Bp (SortedTo l 3) = true:=Bp_true (fun j hj _ h0 => (h.2.1 j hj (by omega)).2 h0);rw [hb] at this;simp at this
  | true =>
   have hso:=Bp_iff.1 hb;have hr : RisesFrom l 0:=fun j hj _ => ⟨hpr _ (getD_mem hj),fun h0 => hso j hj (by omega) h0⟩
   refine Ev.pos rfl (Ev.bind0 (costOk1 _) ?_);cases hd : inB d 0 99 with
   | false => exact Ev.neg (by simp) (Ev.is (Bp_false (fun h => by have:=inB_iff.2 h.2.2.1; simp [hd] at this)).symm)
   | true =>
    refine Ev.pos rfl (Ev.bind0 (within1 _ _ _) (Ev.is (eq_Bp ?_)));rw [inB_iff];exact ⟨fun h => ⟨h4,hr,inB_iff.1 hd,h⟩,fun h => h.2.2.2⟩
end Go.Proofs.Ytlhmljngjdfbpaa.Pure
end
section
set_option linter.unusedSimpArgs false
set_option linter.unusedVariables false
namespace Go.Proofs.Ytlhmljngjdfbpaa.Pure
open Go.RowKit Go.Proofs.Ytlhmljngjdfbpaa.Pr Go.Proofs.YtlhmljngjdfbpaaW.PrintWords Go.Proofs.YtlhmljngjdfbpaaW.PrintLast Go.Proofs.YtlhmljngjdfbpaaW.PrintMore
section
variable {t e : Nat → Option Bool} {r : Bool}
theorem Ev.and {b : Bool} (k : Ev t r) : Ev (fun n => if b = true then t n else some false) (b && r):=by
 cases b with
 | false => exact Ev.neg (by simp) (Ev.now _)
 | true => exact Ev.pos rfl k
theorem Ev.nand {c : Prop} [Decidable c] (k : Ev t r) : Ev (fun n => if c then some false else t n) (!decide c && r):=by
 by_cases h : c
 case pos => exact Ev.pos h (Ev.is (by simp [h]))
 exact Ev.neg h (k.cast (by simp [h]))
end
abbrev Arc:=S58
def arc (l : List Arc) (i : Nat) : Arc:=rd_T58 l (i : Int)
theorem rda (l : List Arc) (i : Nat) : rd_T58 l (i : Int) = arc l i:=rfl
theorem arc_get {l : List Arc} {i : Nat} (h : i < l.length) : arc l i = l[i]:=by simp [arc,rd_T58,h]
theorem arc_mem {l : List Arc} {i : Nat} (h : i < l.length) : arc l i ∈ l:=by
 rw [arc_get h];exact List.getElem_mem h
attribute [irreducible] arc
def okArcW (n : Int) (a : Arc) : Bool:=inB a.f0 0 (wrap64 (n - 1)) && (inB a.f1 0 (wrap64 (n - 1)) && (!decide (a.f0 = a.f1) && (inB a.f2 0 99 && (inB a.f3 0 99 && inB a.f4 0 9))))
theorem l1Ok_l (n : Int) (l : List Arc) (hm : l.length ≤ maxLen) : ∀ (m i : Nat),l.length - i = m → i ≤ l.length → Ev (fun k => spec_l1Ok.l0 k (i : Int) n l) ((l.drop i).all (okArcW n) && (inB n 1 8 && decide ((l.length : Int) ≤ 16))):=by
 intro m
 induction m with
 | zero =>
  intro i hd hi;refine Ev.go ?_ (fun k => by rw [spec_l1Ok.l0]);refine Ev.neg (by omega) (Ev.bind0 (in1 _ _ _) ?_);rw [List.drop_of_length_le (by omega)];exact (Ev.and (Ev.now _)).cast (by simp)
 | succ m ih =>
  intro i hd hi;have hlt : i < l.length:=by omega
  refine Ev.go ?_ (fun k => by rw [spec_l1Ok.l0]);rw [drop_cons hlt,← arc_get hlt,List.all_cons,rda,up1 hlt hm];refine Ev.pos (by omega) (Ev.pos (by omega) ?_);refine Ev.cast (Ev.bind0 (in1 _ _ _) (Ev.and (Ev.bind0 (in1 _ _ _) (Ev.and (Ev.nand (Ev.bind0 (in1 _ _ _) (Ev.and (Ev.bind0 (in1 _ _ _) (Ev.and (Ev.bind0 (in1 _ _ _) (Ev.and (ih (i + 1) (by omega) (by omega))))))))))))) ?_;simp only [okArcW,Bool.and_assoc]
theorem okArcW_okArc {n : Int} (h : 1 ≤ n) (h8 : n ≤ 8) (a : Arc) : okArcW n a = okArc n a:=by
 unfold okArcW okArc inB okN okC
 rw [w64 (by omega) (by omega)];have e : (a.f4 ≤ 9) ↔ (a.f4 ≤ 10 - 1):=by omega
 have e2 : (a.f0 == a.f1) = decide (a.f0 = a.f1):=by
  by_cases c : a.f0 = a.f1 <;> simp [c]
 rw [e2];simp only [Bool.and_assoc,e]
theorem l1Ok_ev (n : Int) (l : List Arc) (hm : l.length ≤ maxLen) : Ev (fun k => spec_l1Ok.f k n l) (netOkB n l):=by
 unfold spec_l1Ok.f
 refine (l1Ok_l n l hm _ 0 rfl (by omega)).cast ?_
 unfold netOkB
 rw [List.drop_zero]
 by_cases h : 1 ≤ n ∧ n ≤ 8
 case pos =>
  have e : l.all (okArcW n) = l.all (okArc n):=by
   congr 1
   funext a
   exact okArcW_okArc h.1 h.2 a
  rw [e,show inB n 1 8 = true from inB_iff.2 h];simp [h.1,h.2,Bool.and_comm]
 have e : inB n 1 8 = false:=by
  cases c : inB n 1 8 with
  | false => rfl
  | true => exact absurd (inB_iff.1 c) h
 rw [e];have e2 : (decide (1 ≤ n) && decide (n ≤ 8)) = false:=e;simp only [e2,Bool.false_and,Bool.and_false]
structure NetGood (n : Int) (l : List Arc) : Prop where
 n1 : 1 ≤ n
 n8 : n ≤ 8
 len : l.length ≤ 16
 ok : ∀ i,i < l.length → (0 ≤ (arc l i).f0 ∧ (arc l i).f0 < n) ∧ (0 ≤ (arc l i).f1 ∧ (arc l i).f1 < n) ∧ (arc l i).f0 ≠ (arc l i).f1 ∧ (0 ≤ (arc l i).f2 ∧ (arc l i).f2 ≤ 99) ∧ (0 ≤ (arc l i).f3 ∧ (arc l i).f3 ≤ 99) ∧ (0 ≤ (arc l i).f4 ∧ (arc l i).f4 ≤ 9)
theorem okArc_iff (n : Int) (a : Arc) : okArc n a = true ↔ (0 ≤ a.f0 ∧ a.f0 < n) ∧ (0 ≤ a.f1 ∧ a.f1 < n) ∧ a.f0 ≠ a.f1 ∧ (0 ≤ a.f2 ∧ a.f2 ≤ 99) ∧ (0 ≤ a.f3 ∧ a.f3 ≤ 99) ∧ (0 ≤ a.f4 ∧ a.f4 ≤ 9):=by
 simp only [okArc,okN,okC,Bool.and_eq_true,decide_eq_true_eq,Bool.not_eq_true',beq_eq_false_iff_ne];constructor
 ·rintro ⟨⟨⟨⟨⟨⟨a1,a2⟩,a3,a4⟩,a5⟩,a6⟩,a7⟩,a8,a9⟩;exact ⟨⟨a1,by omega⟩,⟨a3,by omega⟩,a5,a6,a7,a8,by omega⟩
 ·rintro ⟨⟨a1,a2⟩,⟨a3,a4⟩,a5,a6,a7,a8,a9⟩;exact ⟨⟨⟨⟨⟨⟨a1,by omega⟩,a3,by omega⟩,a5⟩,a6⟩,a7⟩,a8,by omega⟩
theorem netOkB_iff (n : Int) (l : List Arc) : netOkB n l = true ↔ NetGood n l:=by
 simp only [netOkB,Bool.and_eq_true,decide_eq_true_eq,List.all_eq_true];constructor
 ·rintro ⟨⟨⟨h1,h2⟩,h3⟩,h4⟩;exact ⟨h1,h2,by omega,fun i hi => (okArc_iff n _).1 (h4 _ (arc_mem hi))⟩
 ·rintro ⟨h1,h2,h3,h4⟩;refine ⟨⟨⟨h1,h2⟩,by omega⟩,fun a ha => ?_⟩;obtain ⟨i,hi,rfl⟩:=List.getElem_of_mem ha;rw [← arc_get hi];exact (okArc_iff n _).2 (h4 i hi)
end Go.Proofs.Ytlhmljngjdfbpaa.Pure
end
section
set_option linter.unusedSimpArgs false
set_option linter.unusedVariables false
namespace Go.Proofs.Ytlhmljngjdfbpaa.Dd
def addZ (s : List Int) (x : Int) : List Int:=if x ∈ s then s else s ++ [x]
def dd (xs : List Int) : List Int:=xs.foldl addZ []
theorem addZ_mem {s : List Int} {x y : Int} : y ∈ addZ s x ↔ y ∈ s ∨ y = x:=by
 unfold addZ
 by_cases h : x ∈ s
 case neg =>
  rw [if_neg h];simp
 rw [if_pos h];exact ⟨Or.inl,fun e => e.elim id (fun e => by rw [e]; exact h)⟩
theorem addZ_nodup {s : List Int} {x : Int} (h : s.Nodup) : (addZ s x).Nodup:=by
 unfold addZ
 by_cases hx : x ∈ s
 case pos => rw [if_pos hx]; exact h
 rw [if_neg hx,List.nodup_append];exact ⟨h,by simp,fun a ha b hb e => hx (by rw [List.mem_singleton] at hb; rw [← hb,← e]; exact ha)⟩
theorem addZ_len (s : List Int) (x : Int) : s.length ≤ (addZ s x).length:=by
 unfold addZ
 by_cases hx : x ∈ s
 case neg => rw [if_neg hx]; simp
 rw [if_pos hx]; exact Nat.le_refl _
theorem fold_nodup : ∀ (xs s : List Int),s.Nodup → (xs.foldl addZ s).Nodup
 | [],_,h => h
 | _ :: xs,s,h => fold_nodup xs _ (addZ_nodup h)
theorem fold_mem {y : Int} : ∀ (xs s : List Int),y ∈ xs.foldl addZ s ↔ y ∈ s ∨ y ∈ xs
 | [],_ => by simp
 | x :: xs,s => by
  rw [List.foldl_cons,fold_mem xs,addZ_mem,List.mem_cons];constructor
  ·rintro ((h | h) | h)
   ·exact .inl h
   ·exact .inr (.inl h)
   ·exact .inr (.inr h)
  ·rintro (h | h | h)
   ·exact .inl (.inl h)
   ·exact .inl (.inr h)
   ·exact .inr h
theorem fold_len : ∀ (xs s : List Int),s.length ≤ (xs.foldl addZ s).length
 | [],_ => Nat.le_refl _
 | x :: xs,s => Nat.le_trans (addZ_len s x) (fold_len xs _)
theorem dd_mem {xs : List Int} {y : Int} : y ∈ dd xs ↔ y ∈ xs:=by unfold dd; rw [fold_mem]; simp
theorem dd_nodup (xs : List Int) : (dd xs).Nodup:=fold_nodup xs [] List.nodup_nil
theorem dd_take (xs : List Int) (k : Nat) : (dd (xs.take k)).length ≤ (dd xs).length:=by
 have e : dd xs = (xs.drop k).foldl addZ (dd (xs.take k)):=by
  unfold dd
  rw [← List.foldl_append,List.take_append_drop]
 rw [e];exact fold_len _ _
theorem dd_snoc (xs : List Int) (x : Int) : dd (xs ++ [x]) = addZ (dd xs) x:=by
 unfold dd
 rw [List.foldl_append];rfl
theorem dd_pos {xs : List Int} (h : xs ≠ []) : 0 < (dd xs).length:=by
 cases xs with
 | nil => exact absurd rfl h
 | cons x r => exact List.length_pos_of_mem (dd_mem.2 (List.mem_cons_self ..))
theorem dd_one {xs : List Int} {c : Int} (h : xs ≠ []) (hc : ∀ x ∈ xs,x = c) : (dd xs).length = 1:=by
 have h0:=dd_pos h;have hn:=dd_nodup xs;have hm : ∀ x ∈ dd xs,x = c:=fun x hx => hc x (dd_mem.1 hx)
 match hd : dd xs,h0,hn,hm with
 | [a],_,_,_ => rfl
 | a :: b :: r,_,hn,hm =>
  have ha:=hm a (by simp);have hb:=hm b (by simp);simp [ha,hb] at hn
theorem sub_len : ∀ (a b : List Int),a.Nodup → (∀ x ∈ a,x ∈ b) → a.length ≤ b.length
 | [],b,_,_ => Nat.zero_le _
 | x :: a,b,hn,hs => by
  obtain ⟨h1,h2⟩:=List.nodup_cons.1 hn;have hx:=hs x (List.mem_cons_self ..);have ih:=sub_len a (b.erase x) h2 (fun y hy => (List.mem_erase_of_ne (fun e => h1 (by rw [← e]; exact hy))).2 (hs y (List.mem_cons_of_mem _ hy)));rw [List.length_erase_of_mem hx] at ih;have:=List.length_pos_of_mem hx;rw [List.length_cons];omega
theorem dd_four {xs : List Int} (h : ∀ x ∈ xs,0 ≤ x ∧ x < 4) : (dd xs).length ≤ 4:=by
 refine sub_len (dd xs) [0,1,2,3] (dd_nodup xs) (fun x hx => ?_);have:=h x (dd_mem.1 hx);simp;omega
end Go.Proofs.Ytlhmljngjdfbpaa.Dd
end
section
set_option linter.unusedSimpArgs false
set_option linter.unusedVariables false
set_option linter.unusedSectionVars false
namespace Go.Proofs.Ytlhmljngjdfbpaa.Pure
open Go.RowKit Go.Proofs.Ytlhmljngjdfbpaa.Pr Go.Proofs.YtlhmljngjdfbpaaW.PrintWords Go.Proofs.YtlhmljngjdfbpaaW.PrintLast Go.Proofs.YtlhmljngjdfbpaaW.PrintMore
open Go.Proofs.Ytlhmljngjdfbpaa.Dd (dd dd_snoc dd_four dd_pos dd_mem)
def wkB (l : List Arc) : Option Int → List Int → Bool
 | _,[] => true
 | p,k :: w => (inB k 0 ((l.length : Int) - 1) && (match p with | none => true | some q => decide ((arc l q.toNat).f1 = (arc l k.toNat).f0))) && wkB l (some k) w
theorem wkB_rng {l : List Arc} : ∀ (w : List Int) (p : Option Int),Go.Proofs.Ytlhmljngjdfbpaa.Pure.wkB l p w = true → ∀ k ∈ w,0 ≤ k ∧ k < l.length
 | [],_,_,k,hk => by simp at hk
 | a :: w,p,h,k,hk => by
  have h : ((inB a 0 ((l.length : Int) - 1) && _) && Go.Proofs.Ytlhmljngjdfbpaa.Pure.wkB l (some a) w) = true:=h;rw [Bool.and_eq_true,Bool.and_eq_true] at h
  rcases List.mem_cons.1 hk with rfl | hk
  ·have:=inB_iff.1 h.1.1; omega
  ·exact wkB_rng w _ h.2 k hk
def prv (w : List Int) : Nat → Option Int
 | 0 => none
 | i + 1 => some (nth w i)
theorem walkOk_l (n : Int) {l : List Arc} (hl : l.length ≤ 1000) {w : List Int} (hw : w.length ≤ 1000) : ∀ (m i : Nat),w.length - i = m → i ≤ w.length → (∀ q,prv w i = some q → 0 ≤ q ∧ q < l.length) → Ev (fun k => impl_WalkOk.l0 k w w (w.length : Int) (i : Int) n l) (wkB l (prv w i) (w.drop i)):=by
 intro m
 induction m with
 | zero =>
  intro i hd hi _;refine Ev.go ?_ (fun k => by rw [impl_WalkOk.l0]);rw [List.drop_of_length_le (by omega)];exact Ev.neg (by omega) (Ev.is (by cases prv w i <;> rfl))
 | succ m ih =>
  intro i hd hi hp;have hlt : i < w.length:=by omega
  refine Ev.go ?_ (fun k => by rw [impl_WalkOk.l0]);rw [rdg i,up1 hlt (by simp only [maxLen]; omega),drop_cons hlt,← nth_get hlt];refine Ev.pos (by omega) (Ev.pos (by omega) (Ev.pos (by omega) (Ev.bind0 (within1 _ _ _) ?_)));rw [w64 (n:=(l.length : Int) - 1) (by omega) (by omega)];cases hb : inB (nth w i) 0 ((l.length : Int) - 1) with
  | false => exact Ev.neg (by simp) (Ev.is (by simp [wkB,hb]))
  | true =>
   have hk:=inB_iff.1 hb;have ih:=ih (i + 1) (by omega) (by omega) (fun q hq => by obtain rfl:=Option.some.inj hq; omega);refine Ev.pos rfl ?_;cases i with
   | zero => exact Ev.neg (by omega) (ih.cast (by simp [wkB,hb,prv]))
   | succ j =>
    have hq:=hp (nth w j) rfl;have e : wrap64 (((j + 1 : Nat) : Int) - 1) = (j : Int):=by rw [w64 (by omega) (by omega)]; omega
    rw [e,rdg j];have ea : ∀ q : Int,0 ≤ q → rd_T58 l q = arc l q.toNat:=fun q h => by rw [← rda]; congr 1; omega
    rw [ea _ hq.1,ea _ hk.1];refine Ev.pos (by omega) (Ev.pos (by omega) (Ev.pos (by omega) (Ev.pos (by omega) (Ev.pos (by omega) (Ev.pos (by omega) (Ev.pos (by omega) ?_))))))
    by_cases c : (arc l (nth w j).toNat).f1 = (arc l (nth w (j + 1)).toNat).f0
    case neg => exact Ev.neg c (Ev.is (by simp [wkB,hb,prv,c]))
    exact Ev.pos c (ih.cast (by simp [wkB,hb,prv,c]))
def walkV (n : Int) (l : List Arc) (w : List Int) : Bool:=netOkB n l && (decide (w.length ≤ 20) && wkB l none w)
theorem walkOk_ev (n : Int) (l : List Arc) (w : List Int) : Ev (fun k => impl_WalkOk.f k n l w) (walkV n l w):=by
 unfold impl_WalkOk.f walkV
 refine Ev.bind0 (show impl_NetOk.f n l = some (netOkB n l) from rfl) ?_;cases h : netOkB n l with
 | false =>
  refine Ev.neg (by simp) (Ev.go ?_ (fun k => by rw [impl_WalkOk.j0]));exact Ev.pos rfl (Ev.now _)
 | true =>
  have hl:=((netOkB_iff n l).1 h).len;refine Ev.pos rfl (Ev.go ?_ (fun k => by rw [impl_WalkOk.j0]))
  by_cases c : w.length ≤ 20
  case neg => exact Ev.pos (by simp; omega) (Ev.is (by simp [c]))
  refine Ev.neg (by simp; omega) ?_;exact (walkOk_l n (by omega) (by omega) _ 0 rfl (Nat.zero_le _) (fun q hq => by cases hq)).cast (by simp [c,prv])
section
variable {N : Nat} {l : List Arc} (hg : NetGood N l)
include hg
def alongV (l : List Arc) (w : List Int) : List Int:=(arc l (nth w 0).toNat).f0 :: w.map fun k => (arc l k.toNat).f1
theorem along_l {w : List Int} (hw : w.length ≤ 1000) (hk : ∀ k ∈ w,0 ≤ k ∧ k < l.length) : ∀ (m i : Nat) (x : List Int),w.length - i = m → i ≤ w.length → x.length = i + 1 → Ev (fun k => impl_Net_along.l0 k x w (w.length : Int) (i : Int) N l) (x ++ (w.drop i).map fun k => (arc l k.toNat).f1):=by
 intro m
 induction m with
 | zero =>
  intro i x hd hi hx;refine Ev.go ?_ (fun k => by rw [impl_Net_along.l0]);rw [List.drop_of_length_le (by omega)];exact Ev.neg (by omega) (Ev.is (by simp))
 | succ m ih =>
  intro i x hd hi hx;have hlt : i < w.length:=by omega
  have h1:=hk w[i] (List.getElem_mem hlt);obtain ⟨q,hq⟩:=Int.eq_ofNat_of_zero_le h1.1;have ih:=ih (i + 1) (x ++ [(arc l w[i].toNat).f1]) (by omega) (by omega) (by simp; omega);refine Ev.go ?_ (fun k => by rw [impl_Net_along.l0]);have ea : rd_T58 l w[i] = arc l w[i].toNat:=by rw [← rda]; congr 1; omega
  rw [rdg i,nth_get hlt,ea,up1 hlt (by simp only [maxLen]; omega)];refine Ev.pos (by omega) (Ev.pos (by omega) (Ev.pos (by omega) (Ev.pos (by omega) (Ev.pos (by omega) (Ev.pos (by omega) (ih.cast ?_))))));rw [drop_cons hlt,List.map_cons];simp
theorem along_ev {w : List Int} (h0 : w ≠ []) (hw : w.length ≤ 1000) (hk : ∀ k ∈ w,0 ≤ k ∧ k < l.length) : Ev (fun k => impl_Net_along.f k N l w) (alongV l w):=by
 have hl : 0 < w.length:=List.length_pos_iff.2 h0;have h1:=hk w[0] (List.getElem_mem hl);have ea : rd_T58 l w[0] = arc l w[0].toNat:=by rw [← rda]; congr 1; omega
 have e0 : rd w 0 = w[0]:=rdn hl
 unfold impl_Net_along.f
 rw [e0,ea,w64 (n:=(w.length : Int) + 1) (by omega) (by omega)];refine Ev.pos (by omega) (Ev.pos (by omega) (Ev.bind0 rfl (Ev.pos (by omega) (Ev.pos (by omega) (Ev.pos (by omega) (Ev.pos (by simp) ?_))))));refine (along_l hg hw hk _ 0 _ rfl (Nat.zero_le _) (by simp)).cast ?_
 unfold alongV
 rw [nth_get hl];simp
end
theorem l12In_l (x : List Int) (v : Int) (hm : x.length ≤ maxLen) : ∀ (m i : Nat),x.length - i = m → i ≤ x.length → Ev (fun k => spec_l12In.l0 k x v (i : Int)) (Bp (∃ j,j < x.length ∧ i ≤ j ∧ nth x j = v)):=by
 intro m
 induction m with
 | zero =>
  intro i hd hi;refine Ev.go ?_ (fun k => by rw [spec_l12In.l0]);exact Ev.neg (by omega) (Ev.is (Bp_false (fun ⟨j,h1,h2,_⟩ => by omega)).symm)
 | succ m ih =>
  intro i hd hi;have hlt : i < x.length:=by omega
  have hn:=ih (i + 1) (by omega) (by omega);rw [← up1 hlt hm] at hn;refine Ev.go ?_ (fun k => by rw [spec_l12In.l0]);refine Ev.pos (by omega) (Ev.pos (by omega) ?_);rw [rdg i]
  by_cases c : nth x i = v
  case pos => exact Ev.pos c (Ev.is (Bp_true ⟨i,hlt,Nat.le_refl _,c⟩).symm)
  refine Ev.neg c (hn.cast (Bp_congr ?_));constructor
  ·rintro ⟨j,h1,h2,h3⟩;exact ⟨j,h1,by omega,h3⟩
  ·rintro ⟨j,h1,h2,h3⟩
   by_cases e : j = i
   case pos => subst e; exact absurd h3 c
   exact ⟨j,h1,by omega,h3⟩
theorem specL2Ok_l (n : Int) {l : List Arc} (hl : l.length ≤ 1000) {w : List Int} (hw : w.length ≤ maxLen) : ∀ (m i : Nat),w.length - i = m → i ≤ w.length → (∀ q,prv w i = some q → 0 ≤ q ∧ q < l.length) → Ev (fun k => spec_l2Ok.l0 k w (i : Int) n l) (wkB l (prv w i) (w.drop i) && decide (w.length ≤ 20)):=by
 intro m
 induction m with
 | zero =>
  intro i hd hi _;refine Ev.go ?_ (fun k => by rw [spec_l2Ok.l0]);rw [List.drop_of_length_le (by omega)];refine Ev.neg (by omega) (Ev.is ?_);have e : decide ((w.length : Int) ≤ 20) = decide (w.length ≤ 20):=decide_eq_decide.2 (by omega);rw [e];cases prv w i <;> simp [wkB]
 | succ m ih =>
  intro i hd hi hp;have hlt : i < w.length:=by omega
  refine Ev.go ?_ (fun k => by rw [spec_l2Ok.l0]);rw [rdg i,up1 hlt hw,drop_cons hlt,← nth_get hlt];refine Ev.pos (by omega) (Ev.pos (by omega) (Ev.bind0 (in1 _ _ _) ?_));rw [w64 (n:=(l.length : Int) - 1) (by omega) (by omega)];cases hb : inB (nth w i) 0 ((l.length : Int) - 1) with
  | false => exact Ev.neg (by simp) (Ev.is (by simp [wkB,hb]))
  | true =>
   have hk:=inB_iff.1 hb;have ih:=ih (i + 1) (by omega) (by omega) (fun q hq => by obtain rfl:=Option.some.inj hq; omega);refine Ev.pos rfl ?_;cases i with
   | zero => exact Ev.neg (by omega) (ih.cast (by simp [wkB,hb,prv]))
   | succ j =>
    have hq:=hp (nth w j) rfl;have hm2:=hw;simp only [maxLen] at hm2;have e : wrap64 (((j + 1 : Nat) : Int) - 1) = (j : Int):=by rw [w64 (by omega) (by omega)]; omega
    rw [e,rdg j];have ea : ∀ q : Int,0 ≤ q → rd_T58 l q = arc l q.toNat:=fun q h => by rw [← rda]; congr 1; omega
    rw [ea _ hq.1,ea _ hk.1];refine Ev.pos (by omega) (Ev.pos (by omega) (Ev.pos (by omega) (Ev.pos (by omega) (Ev.pos (by omega) (Ev.pos (by omega) (Ev.pos (by omega) ?_))))))
    by_cases c : (arc l (nth w j).toNat).f1 = (arc l (nth w (j + 1)).toNat).f0
    case pos => exact Ev.pos (Eq.symm c) (ih.cast (by simp [wkB,hb,prv,c]))
    exact Ev.neg (fun e => c (Eq.symm e)) (Ev.is (by simp [wkB,hb,prv,c]))
theorem specL2Ok_ev (n : Int) {l : List Arc} (hl : l.length ≤ 1000) {w : List Int} (hw : w.length ≤ maxLen) : Ev (fun k => spec_l2Ok.f k n l w) (wkB l none w && decide (w.length ≤ 20)):=specL2Ok_l n hl hw _ 0 rfl (Nat.zero_le _) (fun q hq => by cases hq)
theorem specNodes_l (n : Int) {l : List Arc} {w : List Int} (hw : w.length ≤ 1000) (hk : ∀ k ∈ w,0 ≤ k ∧ k < l.length) : ∀ (m i : Nat) (x : List Int),w.length - i = m → i ≤ w.length → x.length = i + 1 → Ev (fun k => spec_l2Nodes.l0 k w x (i : Int) n l) (x ++ (w.drop i).map fun k => (arc l k.toNat).f1):=by
 intro m
 induction m with
 | zero =>
  intro i x hd hi hx;refine Ev.go ?_ (fun k => by rw [spec_l2Nodes.l0]);rw [List.drop_of_length_le (by omega)];exact Ev.neg (by omega) (Ev.is (by simp))
 | succ m ih =>
  intro i x hd hi hx;have hlt : i < w.length:=by omega
  have h1:=hk w[i] (List.getElem_mem hlt);have ih:=ih (i + 1) (x ++ [(arc l w[i].toNat).f1]) (by omega) (by omega) (by simp; omega);refine Ev.go ?_ (fun k => by rw [spec_l2Nodes.l0]);have ea : rd_T58 l w[i] = arc l w[i].toNat:=by rw [← rda]; congr 1; omega
  rw [rdg i,nth_get hlt,ea,up1 hlt (by simp only [maxLen]; omega)];refine Ev.pos (by omega) (Ev.pos (by omega) (Ev.pos (by omega) (Ev.pos (by omega) (Ev.pos (by omega) (ih.cast ?_)))));rw [drop_cons hlt,List.map_cons];simp
def zns (z : List Int) (x : List Int) : List Int:=x.map fun v => nth z v.toNat
theorem l12In_mem (x : List Int) (v : Int) (hm : x.length ≤ maxLen) : Ev (fun k => spec_l12In.f k x v) (decide (v ∈ x)):=by
 refine (l12In_l x v hm _ 0 rfl (Nat.zero_le _)).cast ?_
 unfold Bp
 by_cases h : v ∈ x
 case pos =>
  obtain ⟨i,hi,e⟩:=mem_getD h;rw [decide_eq_true h];exact Bp_true ⟨i,hi,Nat.zero_le _,e⟩
 rw [decide_eq_false h];exact Bp_false (fun ⟨j,h1,_,h3⟩ => h (by rw [← h3]; exact getD_mem h1))
theorem rdz (z : List Int) {v : Int} (h : 0 ≤ v) : rd z v = nth z v.toNat:=by
 rw [← rdg]; congr 1; omega
theorem specZones_l {z x : List Int} (hx : x.length ≤ 1000) (hk : ∀ v ∈ x,0 ≤ v ∧ v < z.length) : ∀ (m i : Nat) (o : List Int),x.length - i = m → i ≤ x.length → o.length ≤ i → o = dd (zns z (x.take i)) → Ev (fun k => spec_l28Zones.l0 k z o x (i : Int)) ((dd (zns z x)).length : Int):=by
 intro m
 induction m with
 | zero =>
  intro i o hd hi ho he;refine Ev.go ?_ (fun k => by rw [spec_l28Zones.l0]);rw [List.take_of_length_le (by omega)] at he;rw [he];exact Ev.neg (by omega) (Ev.now _)
 | succ m ih =>
  intro i o hd hi ho he;have hlt : i < x.length:=by omega
  have h1:=hk x[i] (List.getElem_mem hlt);have hn : dd (zns z (x.take (i + 1))) = Go.Proofs.Ytlhmljngjdfbpaa.Dd.addZ o (nth z x[i].toNat):=by
   rw [he,← dd_snoc]
   congr 1
   unfold zns
   rw [List.take_succ_eq_append_getElem hlt,List.map_append];rfl
  refine Ev.go ?_ (fun k => by rw [spec_l28Zones.l0]);rw [rdg i,nth_get hlt,rdz z h1.1,up1 hlt (by simp only [maxLen]; omega)];refine Ev.pos (by omega) (Ev.pos (by omega) (Ev.pos (by omega) (Ev.pos (by omega) (Ev.bind (l12In_mem o _ (by simp only [maxLen]; omega)) ?_))))
  by_cases c : nth z x[i].toNat ∈ o
  case pos =>
   have e : Go.Proofs.Ytlhmljngjdfbpaa.Dd.addZ o (nth z x[i].toNat) = o:=by unfold Go.Proofs.Ytlhmljngjdfbpaa.Dd.addZ; rw [if_pos c]
   exact Ev.pos (decide_eq_true c) (ih (i + 1) o (by omega) (by omega) (by omega) (by rw [hn,e]))
  have e : Go.Proofs.Ytlhmljngjdfbpaa.Dd.addZ o (nth z x[i].toNat) = o ++ [nth z x[i].toNat]:=by unfold Go.Proofs.Ytlhmljngjdfbpaa.Dd.addZ; rw [if_neg c]
  exact Ev.neg (by rw [decide_eq_false c]; simp) (Ev.pos (by omega) (ih (i + 1) _ (by omega) (by omega) (by simp; omega) (by rw [hn,e])))
def partB (n : Int) (l : List Arc) (z : List Int) : Bool:=netOkB n l && decide ((z.length : Int) = n) && z.all (okN 4)
theorem specParts_l (n : Int) (l : List Arc) {z : List Int} (hm : z.length ≤ maxLen) : ∀ (m i : Nat),z.length - i = m → i ≤ z.length → Ev (fun k => spec_l10Parts.l0 k z (i : Int) n l) ((z.drop i).all (okN 4) && decide ((z.length : Int) = n)):=by
 intro m
 induction m with
 | zero =>
  intro i hd hi;refine Ev.go ?_ (fun k => by rw [spec_l10Parts.l0]);rw [List.drop_of_length_le (by omega)];refine Ev.neg (by omega) (Ev.is ?_)
  by_cases c : (z.length : Int) = n <;> simp [c]
 | succ m ih =>
  intro i hd hi;have hlt : i < z.length:=by omega
  refine Ev.go ?_ (fun k => by rw [spec_l10Parts.l0]);rw [rdg i,up1 hlt hm,drop_cons hlt,← nth_get hlt,List.all_cons];refine Ev.pos (by omega) (Ev.pos (by omega) (Ev.bind0 (in1 _ _ _) ?_));have e : inB (nth z i) 0 3 = okN 4 (nth z i):=rfl;rw [e];cases okN 4 (nth z i) with
  | true => exact Ev.pos rfl ((ih (i + 1) (by omega) (by omega)).cast (by simp))
  | false => exact Ev.neg (by simp) (Ev.is (by simp))
theorem specParts_ev (n : Int) (l : List Arc) {z : List Int} (hm : z.length ≤ maxLen) : Ev (fun k => spec_l10Parts.f k n l z) (z.all (okN 4) && decide ((z.length : Int) = n)):=(specParts_l n l hm _ 0 rfl (Nat.zero_le _)).cast (by rw [List.drop_zero])
theorem fareB_len {s : List Int} {d w : Int} (h : fareB s d w = true) : s.length = 4:=(Bp_iff.1 h).1
noncomputable def rideV (s : List Int) (d wk n : Int) (l : List Arc) (z w : List Int) : Int:=if fareB s d wk && (partB n l z && (walkV n l w && !decide (w.length = 0))) then nth s ((dd (zns z (alongV l w))).length - 1) else -1
theorem ride_ok {n : Int} {l : List Arc} {z w : List Int} (hp : partB n l z = true) (hw : walkV n l w = true) (h0 : w.length ≠ 0) : NetGood n l ∧ (z.length : Int) = n ∧ (∀ v ∈ z,0 ≤ v ∧ v < 4) ∧ w.length ≤ 20 ∧ wkB l none w = true ∧ (∀ k ∈ w,0 ≤ k ∧ k < l.length) ∧ (alongV l w).length = w.length + 1 ∧ (∀ v ∈ alongV l w,0 ≤ v ∧ v < (z.length : Int)) ∧ 0 < (dd (zns z (alongV l w))).length ∧ (dd (zns z (alongV l w))).length ≤ 4:=by
 unfold partB at hp
 rw [Bool.and_eq_true,Bool.and_eq_true,decide_eq_true_eq,List.all_eq_true] at hp
 unfold walkV at hw
 rw [Bool.and_eq_true,Bool.and_eq_true,decide_eq_true_eq] at hw;have hg:=(netOkB_iff n l).1 hw.1;have hr:=wkB_rng w none hw.2.2;have hz : ∀ v ∈ z,0 ≤ v ∧ v < 4:=fun v hv => by
  have:=hp.2 v hv;simp only [okN,Bool.and_eq_true,decide_eq_true_eq] at this;omega
 have hl : (alongV l w).length = w.length + 1:=by unfold alongV; simp
 have ha : ∀ v ∈ alongV l w,0 ≤ v ∧ v < (z.length : Int):=fun v hv => by
  unfold alongV at hv
  rcases List.mem_cons.1 hv with rfl | hv
  ·have:=hr (nth w 0) (getD_mem (by omega));have:=(hg.ok (nth w 0).toNat (by omega)).1;omega
  ·obtain ⟨k,hk,rfl⟩:=List.mem_map.1 hv;have:=hr k hk;have:=(hg.ok k.toNat (by omega)).2.1;omega
 refine ⟨hg,hp.1.2,hz,hw.2.1,hw.2.2,hr,hl,ha,dd_pos ?_,dd_four (fun x hx => ?_)⟩
 ·intro e;have:=congrArg List.length e
  unfold zns at this
  rw [List.length_map,hl] at this;simp at this
 ·unfold zns at hx
  obtain ⟨v,hv,rfl⟩:=List.mem_map.1 hx;have:=ha v hv;exact hz _ (getD_mem (by omega))
theorem zonesF_eq {z : List Int} (hz : ∀ v ∈ z,0 ≤ v ∧ v < 4) : ∀ (x o : List Int),(∀ v ∈ x,0 ≤ v ∧ v < (z.length : Int)) → zonesF z o x = some ((zns z x).foldl Go.Proofs.Ytlhmljngjdfbpaa.Dd.addZ o)
 | [],o,_ => rfl
 | v :: x,o,h => by
  have hv:=h v (List.mem_cons_self ..);have hq:=hz (nth z v.toNat) (getD_mem (by omega));have ih:=zonesF_eq hz x (Go.Proofs.Ytlhmljngjdfbpaa.Dd.addZ o (nth z v.toNat)) (fun u hu => h u (List.mem_cons_of_mem _ hu))
  unfold zonesF
  rw [if_pos hv.1,if_pos hv.2,rdz z hv.1,if_pos hq];exact ih
theorem implRide_ev (s : List Int) (d wk n : Int) (l : List Arc) (z w : List Int) (hs : s.length ≤ maxLen) : Ev (fun k => impl_FareRide.f k s d wk n l z w) (rideV s d wk n l z w):=by
 unfold impl_FareRide.f rideV
 refine Ev.bind (implFareOk_ev s d wk hs) ?_;cases hf : fareB s d wk with
 | false => exact Ev.neg (by simp) (Ev.is (by simp))
 | true =>
  refine Ev.pos rfl (Ev.bind0 (show impl_partOk.f n l z = some (partB n l z) from rfl) ?_);cases hp : partB n l z with
  | false => exact Ev.neg (by simp) (Ev.is (by simp))
  | true =>
   refine Ev.pos rfl (Ev.bind (walkOk_ev n l w) ?_);cases hw : walkV n l w with
   | false => exact Ev.neg (by simp) (Ev.is (by simp))
   | true =>
    refine Ev.pos rfl ?_
    by_cases h0 : w.length = 0
    case pos => exact Ev.pos h0 (Ev.is (by simp [h0]))
    obtain ⟨hg,r1,r2,r3,r4,r5,r6,r7,r8,r9⟩:=ride_ok hp hw h0;have h1:=hg.n1;obtain ⟨N,rfl⟩:=Int.eq_ofNat_of_zero_le (show 0 ≤ n by omega);have hne : w ≠ []:=fun e => h0 (by rw [e]; rfl)
    have hfl:=fareB_len hf;refine Ev.neg h0 (Ev.bind (along_ev hg hne (by omega) r5) (Ev.bind0 (zonesF_eq r2 _ _ r7) (Ev.pos ⟨by omega,r8,by rw [hfl]; exact r9⟩ (Ev.is ?_))))
    show rd s (((dd (zns z (alongV l w))).length : Int) - 1) = _
    rw [rdz s (by omega)];simp only [h0,Bool.true_and,decide_false,Bool.not_false,if_true]
    congr 1
    omega
theorem specRide_ev (s : List Int) (d wk n : Int) (l : List Arc) (z w : List Int) (hs : s.length ≤ maxLen) (hl : l.length ≤ maxLen) (hz : z.length ≤ maxLen) (hwl : w.length ≤ maxLen) : Ev (fun k => spec_FareRide.f k s d wk n l z w) (rideV s d wk n l z w):=by
 unfold spec_FareRide.f rideV
 refine Ev.bind (specFareOk_ev s d wk hs) ?_;cases hf : fareB s d wk with
 | false => exact Ev.neg (by simp) (Ev.is (by simp))
 | true =>
  refine Ev.pos rfl (Ev.bind (l1Ok_ev n l hl) ?_);have ep : partB n l z = (netOkB n l && (z.all (okN 4) && decide ((z.length : Int) = n))):=by unfold partB; cases netOkB n l <;> cases z.all (okN 4) <;> cases decide ((z.length : Int) = n) <;> rfl
  have ew : walkV n l w = (netOkB n l && (wkB l none w && decide (w.length ≤ 20))):=by unfold walkV; cases netOkB n l <;> cases wkB l none w <;> cases decide (w.length ≤ 20) <;> rfl
  cases hn : netOkB n l with
  | false => exact Ev.neg (by simp) (Ev.is (by simp [ep,hn]))
  | true =>
   have hg:=(netOkB_iff n l).1 hn;have h16:=hg.len;rw [hn,Bool.true_and] at ep ew;refine Ev.pos rfl (Ev.bind (specParts_ev n l hz) ?_);rw [← ep];cases hp : partB n l z with
   | false => exact Ev.neg (by simp) (Ev.is (by simp))
   | true =>
    refine Ev.pos rfl (Ev.bind (specL2Ok_ev n (by omega) hwl) ?_);rw [← ew];cases hw : walkV n l w with
    | false => exact Ev.neg (by simp) (Ev.is (by simp))
    | true =>
     refine Ev.pos rfl ?_
     by_cases h0 : w.length = 0
     case pos => exact Ev.pos (by omega) (Ev.is (by simp [h0]))
     obtain ⟨_,r1,r2,r3,r4,r5,r6,r7,r8,r9⟩:=ride_ok hp hw h0;have hfl:=fareB_len hf;have hw0:=r5 (nth w 0) (getD_mem (by omega));have e0 : rd w 0 = nth w 0:=rdg 0;have ea : rd_T58 l (nth w 0) = arc l (nth w 0).toNat:=by rw [← rda]; congr 1; omega
     have hnodes : Ev (fun k => spec_l2Nodes.f k n l w ((arc l (nth w 0).toNat).f0)) (alongV l w):=(specNodes_l n (by omega) r5 _ 0 _ rfl (Nat.zero_le _) rfl).cast (by simp [alongV]);have hzones : Ev (fun k => spec_l28Zones.f k n l z w) ((dd (zns z (alongV l w))).length : Int):=by
      unfold spec_l28Zones.f
      rw [e0,ea];exact Ev.pos (by omega) (Ev.pos (by omega) (Ev.pos (by omega) (Ev.bind hnodes (specZones_l (by omega) r7 _ 0 _ rfl (Nat.zero_le _) (by simp) rfl))))
     refine Ev.neg (by omega) (Ev.bind hzones ?_);rw [w64 (n:=((dd (zns z (alongV l w))).length : Int) - 1) (by omega) (by omega)];refine Ev.pos (by omega) (Ev.pos (by omega) (Ev.is ?_));rw [rdz s (by omega)];simp only [h0,Bool.true_and,decide_false,Bool.not_false,if_true]
     congr 1
     omega
end Go.Proofs.Ytlhmljngjdfbpaa.Pure
end
section
set_option linter.unusedSimpArgs false
set_option linter.unusedVariables false
namespace Go.Proofs.Ytlhmljngjdfbpaa.Pure
open Go.RowKit Go.Proofs.Ytlhmljngjdfbpaa.Pr Go.Proofs.YtlhmljngjdfbpaaW.PrintWords Go.Proofs.YtlhmljngjdfbpaaW.PrintLast Go.Proofs.YtlhmljngjdfbpaaW.PrintMore
structure Rdr (b : List Int) : Prop where
 len : b.length ≤ 2000
 rng : ∀ i,i < b.length → 0 ≤ nth b i ∧ nth b i ≤ 255
theorem Rdr.rd {b : List Int} (h : Rdr b) (i : Int) : 0 ≤ Go.Proofs.YtlhmljngjdfbpaaW.PrintWords.rd b i ∧ Go.Proofs.YtlhmljngjdfbpaaW.PrintWords.rd b i ≤ 255:=by
 have e : Go.Proofs.YtlhmljngjdfbpaaW.PrintWords.rd b i = nth b i.toNat:=rfl;rw [e]
 by_cases c : i.toNat < b.length
 case pos => exact h.rng _ c
 have c2 : b.length ≤ i.toNat:=by omega
 simp [nth,List.getElem?_eq_none c2]
theorem tm {x a : Int} (hx : 0 ≤ x) (ha : 0 < a) : 0 ≤ Int.tmod x a ∧ Int.tmod x a < a:=by
 rw [Int.tmod_eq_emod_of_nonneg hx];exact ⟨Int.emod_nonneg _ (by omega),Int.emod_lt_of_pos _ ha⟩
theorem td {x a : Int} (hx : 0 ≤ x) (ha : 0 < a) : 0 ≤ Int.tdiv x a ∧ Int.tdiv x a ≤ x:=by
 rw [Int.tdiv_eq_ediv_of_nonneg hx];exact ⟨Int.ediv_nonneg hx (by omega),Int.ediv_le_self _ hx⟩
theorem xor_nn {x y : Int} (hx : 0 ≤ x) (hx' : x < 4294967296) (hy : 0 ≤ y) (hy' : y < 4294967296) : 0 ≤ Go.bits .xor .i64 x y:=by
 obtain ⟨x,rfl⟩:=Int.eq_ofNat_of_zero_le hx;obtain ⟨y,rfl⟩:=Int.eq_ofNat_of_zero_le hy;have h1 : x ^^^ y < 2 ^ 32:=Nat.xor_lt_two_pow (by omega) (by omega);have e : Go.bits .xor .i64 ((x : Nat) : Int) ((y : Nat) : Int) = wrap64 (((BitVec.ofInt 64 ((x : Nat) : Int) ^^^ BitVec.ofInt 64 ((y : Nat) : Int)).toNat : Nat) : Int):=by
  unfold Go.bits
  simp only [i64_w];rfl
 rw [e,BitVec.toNat_xor,BitVec.ofInt_natCast,BitVec.ofInt_natCast,BitVec.toNat_ofNat,BitVec.toNat_ofNat,Nat.mod_eq_of_lt (by omega),Nat.mod_eq_of_lt (by omega),w64 (by omega) (by omega)];omega
theorem pick_pv {b : List Int} (h : Rdr b) {p a : Int} (hp : 0 ≤ p) (hp' : p ≤ 1000000) : Pv (fun k => spec_l30Rd_pick.f k b p a) (fun r => (0 ≤ r.1 ∧ (a < 1 → r.1 = 0) ∧ (1 ≤ a → r.1 < a)) ∧ r.2 = p + 1):=by
 have w1 : wrap64 (p + 1) = p + 1:=w64 (by omega) (by omega);have w2 : wrap64 (p + 1 - 1) = p:=by rw [w64 (by omega) (by omega)]; omega
 unfold spec_l30Rd_pick.f
 refine Pv.ite (fun c => ?_) (fun c => ?_)
 ·refine Pv.go ?_ (fun k => by rw [spec_l30Rd_pick.j0]);exact Pv.pos rfl (Pv.now ⟨⟨Int.le_refl _,fun _ => rfl,fun c2 => by omega⟩,w1⟩)
 ·refine Pv.go ?_ (fun k => by rw [spec_l30Rd_pick.j0]);refine Pv.ite (fun _ => Pv.now ⟨⟨Int.le_refl _,fun _ => rfl,fun c2 => by dsimp only; omega⟩,w1⟩) (fun c0 => ?_);have hb : 0 < (b.length : Int):=by
   have : (b.length : Int) ≠ 0:=by simpa using c0
   omega
  have hb2:=h.len;rw [w1,w2];have fin : ∀ X : Int,0 ≤ X → Pv (fun _ => some (Int.tmod X a,p + 1)) (fun r => (0 ≤ r.1 ∧ (a < 1 → r.1 = 0) ∧ (1 ≤ a → r.1 < a)) ∧ r.2 = p + 1):=by
   intro X hX;have:=tm hX (show 0 < a by omega);exact Pv.now ⟨⟨this.1,fun c2 => absurd c2 c,fun _ => this.2⟩,rfl⟩
  refine Pv.ite (fun c1 => Pv.pos hp (Pv.neg (by omega) ?_)) (fun c1 => ?_)
  ·have:=h.rd p;rw [w64 (n:=Go.Proofs.YtlhmljngjdfbpaaW.PrintWords.rd b p) (by omega) (by omega)];exact fin _ (by omega)
  ·have t1:=tm hp hb;have e1 : wrap64 (p * 7) = p * 7:=w64 (by omega) (by omega);have e2 : wrap64 (p * 7 + 3) = p * 7 + 3:=w64 (by omega) (by omega);rw [e1,e2];have t2:=tm (show 0 ≤ p * 7 + 3 by omega) hb;have r1:=h.rd (Int.tmod p b.length);have r2:=h.rd (Int.tmod (p * 7 + 3) b.length);have d1:=td hp hb;refine Pv.neg (by omega) (Pv.pos t1.1 (Pv.pos t1.2 (Pv.pos t2.1 (Pv.pos t2.2 (Pv.neg (by omega) ?_)))));generalize Go.Proofs.YtlhmljngjdfbpaaW.PrintWords.rd b (Int.tmod p b.length) = u at r1;generalize Go.Proofs.YtlhmljngjdfbpaaW.PrintWords.rd b (Int.tmod (p * 7 + 3) b.length) = v at r2;generalize Int.tdiv p b.length = q at d1;rw [w64 (n:=u) (by omega) (by omega),w64 (n:=v) (by omega) (by omega),w64 (n:=q) (by omega) (by omega),w64 (n:=u * 131) (by omega) (by omega),w64 (n:=v * 1117) (by omega) (by omega),w64 (n:=p * 29) (by omega) (by omega),w64 (n:=q * 53) (by omega) (by omega),w64 (n:=u * 131 + v * 1117) (by omega) (by omega),w64 (n:=u * 131 + v * 1117 + p * 29) (by omega) (by omega),w64 (n:=u * 131 + v * 1117 + p * 29 + q * 53) (by omega) (by omega)];have d2:=td (show 0 ≤ u * 131 + v * 1117 + p * 29 + q * 53 by omega) (show (0 : Int) < 64 by omega);generalize Int.tdiv (u * 131 + v * 1117 + p * 29 + q * 53) 64 = z at d2;rw [w64 (n:=z) (by omega) (by omega)];exact fin _ (xor_nn (by omega) (by omega) (by omega) (by omega))
theorem one_pv {b : List Int} (h : Rdr b) {p : Int} (hp : 0 ≤ p) (hp' : p ≤ 1000000) {l : List Int} (hl : 0 < l.length) : Pv (fun k => spec_l30Rd_one.f k b p l) (fun r => r.1 ∈ l ∧ r.2 = p + 1):=by
 unfold spec_l30Rd_one.f
 refine Pv.bind (pick_pv h hp hp') (fun r ⟨⟨h1,_,h2⟩,h3⟩ => ?_);have h2:=h2 (by omega);refine Pv.pos h1 (Pv.pos h2 (Pv.now ⟨?_,h3⟩));have e : Go.Proofs.YtlhmljngjdfbpaaW.PrintWords.rd l r.1 = nth l r.1.toNat:=rfl;dsimp only;rw [e];exact getD_mem (by omega)
theorem u8_range {x : Int} (h : (Lit.int .u8 x).wf = true) : 0 ≤ x ∧ x ≤ 255:=by
 simp only [Lit.wf] at h;have h2 : IntKind.u8.min ≤ x ∧ x ≤ IntKind.u8.max:=by simpa using h
 have e1 : IntKind.u8.min = 0:=by decide
 have e2 : IntKind.u8.max = 255:=by decide
 omega
theorem open_pv {l : List Int} (hl : ∀ x ∈ l,(Lit.int .u8 x).wf = true) : ∃ b,spec_l30Open.f l = some (b,0) ∧ Rdr b:=by
 have key : ∀ m : List Int,m.length ≤ 2000 → (∀ x ∈ m,x ∈ l) → Rdr m:=fun m h1 h2 => ⟨h1,fun i hi => u8_range (hl _ (h2 _ (getD_mem hi)))⟩
 unfold spec_l30Open.f
 by_cases c : (l.length : Int) > 2000
 case neg =>
  rw [if_neg c];exact ⟨_,rfl,key _ (by omega) (fun x hx => hx)⟩
 rw [if_pos c,if_pos (by omega)];exact ⟨_,rfl,key _ (by simp; omega) (fun x hx => List.mem_of_mem_take hx)⟩
def NetSz (p : Int) (r : Int × List Arc × Int) : Prop:=(0 ≤ r.1 ∧ r.1 ≤ 9) ∧ r.2.1.length ≤ 13 ∧ (p ≤ r.2.2 ∧ r.2.2 ≤ p + 100)
theorem net_l {b : List Int} (h : Rdr b) (n : Int) (hn : 1 ≤ n ∧ n ≤ 9) : ∀ (m : Nat) (p : Int) (l : List Arc),0 ≤ p → p + 6 * m ≤ 100000 → m ≤ 13 → l.length ≤ 13 - m → Pv (fun k => spec_l30Net.l0 k (m : Int) b p n l) (fun r => r.1 = n ∧ r.2.1.length ≤ 13 ∧ (p ≤ r.2.2 ∧ r.2.2 ≤ p + 6 * m)):=by
 intro m
 induction m with
 | zero =>
  intro p l hp hp' hm hl;refine Pv.go ?_ (fun k => by rw [spec_l30Net.l0]);exact Pv.neg (by omega) (Pv.now ⟨rfl,by dsimp only; omega,by dsimp only; omega⟩)
 | succ m ih =>
  intro p l hp hp' hm hl;have hw : wrap64 (((m + 1 : Nat) : Int) - 1) = (m : Int):=by rw [w64 (by omega) (by omega)]; omega
  refine Pv.go ?_ (fun k => by rw [spec_l30Net.l0]);rw [hw];refine Pv.pos (by omega) (Pv.bind (pick_pv h hp (by omega)) (fun r1 ⟨a1,e1⟩ => Pv.bind (pick_pv h (p:=r1.2) (by omega) (by omega)) (fun r2 ⟨a2,e2⟩ => Pv.bind (pick_pv h (p:=r2.2) (by omega) (by omega)) (fun r3 ⟨a3,e3⟩ => Pv.bind (one_pv h (p:=r3.2) (by omega) (by omega) (by simp)) (fun r4 ⟨a4,e4⟩ => Pv.bind (one_pv h (p:=r4.2) (by omega) (by omega) (by simp)) (fun r5 ⟨a5,e5⟩ => Pv.bind (pick_pv h (p:=r5.2) (by omega) (by omega)) (fun r6 ⟨a6,e6⟩ => ?_)))))));have step : ∀ x : Arc,Pv (fun k => spec_l30Net.l0 k (m : Int) b r6.2 n (l ++ [x])) (fun r => r.1 = n ∧ r.2.1.length ≤ 13 ∧ (p ≤ r.2.2 ∧ r.2.2 ≤ p + 6 * ((m + 1 : Nat) : Int))):=fun x => (ih r6.2 (l ++ [x]) (by omega) (by omega) (by omega) (by simp; omega)).mono (fun r hr => ⟨hr.1,hr.2.1,by omega,by omega⟩)
  refine Pv.ite (fun _ => Pv.neg (by omega) (Pv.pos (by omega) (step _))) (fun _ => Pv.pos (by omega) (step _))
theorem net_pv {b : List Int} (h : Rdr b) {p : Int} (hp : 0 ≤ p) (hp' : p ≤ 10000) : Pv (fun k => spec_l30Net.f k b p) (fun r => (2 ≤ r.1 ∧ r.1 ≤ 6) ∧ r.2.1.length ≤ 13 ∧ (p ≤ r.2.2 ∧ r.2.2 ≤ p + 90)):=by
 unfold spec_l30Net.f
 refine Pv.bind (pick_pv h hp (by omega)) (fun r1 ⟨a1,e1⟩ => Pv.bind (pick_pv h (p:=r1.2) (by omega) (by omega)) (fun r2 ⟨a2,e2⟩ => ?_));have b1:=a1.2.2 (by omega);have b2:=a2.2.2 (by omega);have hw : wrap64 (2 + r1.1) = 2 + r1.1:=w64 (by omega) (by omega);rw [hw];have:=net_l h (2 + r1.1) (by omega) r2.1.toNat r2.2 [] (by omega) (by omega) (by omega) (by simp);rw [Int.toNat_of_nonneg a2.1] at this;exact this.mono (fun r hr => ⟨⟨by omega,by omega⟩,hr.2.1,by omega,by omega⟩)
theorem anyNet_pv {b : List Int} (h : Rdr b) {p : Int} (hp : 0 ≤ p) (hp' : p ≤ 10000) : Pv (fun k => spec_l30AnyNet.f k b p) (NetSz p):=by
 unfold spec_l30AnyNet.f
 refine Pv.bind (net_pv h hp hp') (fun r0 ⟨a0,l0,e0⟩ => ?_);refine Pv.ite (fun c => ?_) (fun c => Pv.now ⟨by dsimp only; omega,l0,by dsimp only; omega⟩);refine Pv.bind (pick_pv h (p:=r0.2.2) (by omega) (by omega)) (fun r1 ⟨a1,e1⟩ => Pv.bind (pick_pv h (p:=r1.2) (by omega) (by omega)) (fun r2 ⟨a2,e2⟩ => ?_));have b1:=a1.2.2 (by omega);refine Pv.ite (fun c1 => Pv.pos a1.1 (Pv.pos b1 (Pv.bind (one_pv h (p:=r2.2) (by omega) (by omega) (by simp)) (fun r3 ⟨a3,e3⟩ => Pv.now ⟨by dsimp only; omega,by simpa using l0,by dsimp only; omega⟩)))) (fun c1 => ?_);refine Pv.ite (fun c2 => Pv.bind (one_pv h (p:=r2.2) (by omega) (by omega) (by simp)) (fun r3 ⟨a3,e3⟩ => Pv.pos a1.1 (Pv.pos b1 (Pv.now ⟨by dsimp only; omega,by simpa using l0,by dsimp only; omega⟩)))) (fun c2 => ?_);refine Pv.ite (fun c3 => Pv.bind (one_pv h (p:=r2.2) (by omega) (by omega) (by simp)) (fun r3 ⟨a3,e3⟩ => Pv.now ⟨?_,l0,by dsimp only; omega⟩)) (fun c3 => Pv.now ⟨by dsimp only; omega,l0,by dsimp only; omega⟩);simp only [List.mem_cons,List.not_mem_nil,or_false] at a3;dsimp only;omega
theorem part_l {b : List Int} (h : Rdr b) (n a : Int) (hn : 0 ≤ n ∧ n ≤ 9) (l : List Arc) : ∀ (m : Nat) (i p : Int) (x : List Int),n - i = m → 0 ≤ i → 0 ≤ p → p + m ≤ 100000 → x.length + m ≤ 9 → Pv (fun k => spec_l30Part.l0 k x a i b p n l) (fun r => r.1.length ≤ 10 ∧ (p ≤ r.2 ∧ r.2 ≤ p + m + 1)):=by
 intro m
 induction m with
 | zero =>
  intro i p x hd hi hp hp' hl;refine Pv.go ?_ (fun k => by rw [spec_l30Part.l0]);refine Pv.neg (by omega) (Pv.bind (pick_pv h hp (by omega)) (fun r1 ⟨a1,e1⟩ => ?_));refine Pv.ite (fun _ => Pv.pos (by omega) (Pv.now ⟨by simp; omega,by dsimp only; omega⟩)) (fun _ => Pv.now ⟨by dsimp only; omega,by dsimp only; omega⟩)
 | succ m ih =>
  intro i p x hd hi hp hp' hl;have hw : wrap64 (i + 1) = i + 1:=w64 (by omega) (by omega);refine Pv.go ?_ (fun k => by rw [spec_l30Part.l0]);rw [hw];refine Pv.pos (by omega) (Pv.bind (pick_pv h hp (by omega)) (fun r1 ⟨a1,e1⟩ => Pv.pos (by omega) ?_));exact (ih (i + 1) r1.2 (x ++ [r1.1]) (by omega) (by omega) (by omega) (by omega) (by simp; omega)).mono (fun r hr => ⟨hr.1,by omega,by omega⟩)
theorem part_pv {b : List Int} (h : Rdr b) {n p : Int} (hn : 0 ≤ n ∧ n ≤ 9) (l : List Arc) (hp : 0 ≤ p) (hp' : p ≤ 10000) : Pv (fun k => spec_l30Part.f k b p n l) (fun r => r.1.length ≤ 10 ∧ (p ≤ r.2 ∧ r.2 ≤ p + 20)):=by
 unfold spec_l30Part.f
 refine Pv.bind (pick_pv h hp (by omega)) (fun r1 ⟨a1,e1⟩ => ?_);exact (part_l h n _ hn l n.toNat 0 r1.2 [] (by omega) (by omega) (by omega) (by omega) (by simp; omega)).mono (fun r hr => ⟨hr.1,by omega,by omega⟩)
theorem walkD_l {b : List Int} (h : Rdr b) (n : Int) (l : List Arc) (hl : l.length ≤ 13) : ∀ (m : Nat) (p u : Int) (x : List Int),0 ≤ p → p + m ≤ 100000 → x.length + m ≤ 30 → Pv (fun k => spec_l30Walk.l0 k x u (m : Int) b p n l) (fun r => r.1.length ≤ 30 ∧ (p ≤ r.2 ∧ r.2 ≤ p + m)):=by
 intro m
 induction m with
 | zero =>
  intro p u x hp hp' hx;refine Pv.go ?_ (fun k => by rw [spec_l30Walk.l0]);exact Pv.neg (by omega) (Pv.now ⟨by dsimp only; omega,by dsimp only; omega⟩)
 | succ m ih =>
  intro p u x hp hp' hx;have hw : wrap64 (((m + 1 : Nat) : Int) - 1) = (m : Int):=by rw [w64 (by omega) (by omega)]; omega
  have inner : ∀ (d i : Nat) (o : List Int),l.length - i = d → i ≤ l.length → o.length ≤ i → (∀ v ∈ o,0 ≤ v ∧ v < l.length) → Pv (fun k => spec_l30Walk.l1 k x u ((m + 1 : Nat) : Int) o (i : Int) b p n l) (fun r => r.1.length ≤ 30 ∧ (p ≤ r.2 ∧ r.2 ≤ p + ((m + 1 : Nat) : Int))):=by
   intro d
   induction d with
   | zero =>
    intro i o hd hi ho hv;refine Pv.go ?_ (fun k => by rw [spec_l30Walk.l1]);refine Pv.neg (by omega) (Pv.ite (fun _ => Pv.now ⟨by dsimp only; omega,by dsimp only; omega⟩) (fun c => Pv.bind (pick_pv h hp (by omega)) (fun r1 ⟨a1,e1⟩ => ?_)));have b1:=a1.2.2 (by omega);have hz : r1.1.toNat < o.length:=by omega
    have hrd : rd o r1.1 = nth o r1.1.toNat:=by rw [← rdg]; congr 1; omega
    have hq:=hv _ (getD_mem hz);rw [hrd,hw];refine Pv.pos a1.1 (Pv.pos b1 (Pv.pos (by omega) (Pv.pos hq.1 (Pv.pos hq.2 ?_))));exact (ih r1.2 _ (x ++ [nth o r1.1.toNat]) (by omega) (by omega) (by simp; omega)).mono (fun r hr => ⟨hr.1,by omega,by omega⟩)
   | succ d ihd =>
    intro i o hd hi ho hv;have hlt : i < l.length:=by omega
    refine Pv.go ?_ (fun k => by rw [spec_l30Walk.l1]);rw [up1 hlt (by simp only [maxLen]; omega)];refine Pv.pos (by omega) (Pv.pos (by omega) (Pv.ite (fun _ => Pv.pos (by omega) (ihd (i + 1) (o ++ [(i : Int)]) (by omega) (by omega) (by simp; omega) (fun v hv' => ?_))) (fun _ => ihd (i + 1) o (by omega) (by omega) (by omega) hv)))
    rcases List.mem_append.1 hv' with h1 | h1
    ·exact hv v h1
    ·rw [List.mem_singleton] at h1; omega
  refine Pv.go ?_ (fun k => by rw [spec_l30Walk.l0]);exact Pv.pos (by omega) (inner _ 0 [] rfl (Nat.zero_le _) (Nat.le_refl _) (fun v hv => by simp at hv))
theorem anyWalk_pv {b : List Int} (h : Rdr b) {n p : Int} {l : List Arc} (hl : l.length ≤ 13) (hp : 0 ≤ p) (hp' : p ≤ 10000) : Pv (fun k => spec_l30AnyWalk.f k b p n l) (fun r => r.1.length ≤ 31 ∧ (p ≤ r.2 ∧ r.2 ≤ p + 40)):=by
 unfold spec_l30AnyWalk.f
 refine Pv.bind (R:=fun _ => True) (Pv.of (l1Ok_ev n l (by simp only [maxLen]; omega)) trivial) (fun t _ => Pv.ite (fun _ => ?_) (fun _ => Pv.now ⟨by simp,by dsimp only; omega⟩));refine Pv.bind (pick_pv h hp (by omega)) (fun r1 ⟨a1,e1⟩ => Pv.bind (one_pv h (p:=r1.2) (by omega) (by omega) (by simp)) (fun r2 ⟨a2,e2⟩ => ?_));have hr2 : 3 ≤ r2.1 ∧ r2.1 ≤ 21:=by
  simp only [List.mem_cons,List.not_mem_nil,or_false] at a2;omega
 have hw : Pv (fun k => spec_l30Walk.f k b r2.2 n l r1.1 r2.1) (fun r => r.1.length ≤ 30 ∧ (r2.2 ≤ r.2 ∧ r.2 ≤ r2.2 + 30)):=by
  unfold spec_l30Walk.f
  rw [w64 (n:=r2.1 + 1) (by omega) (by omega)];refine Pv.bind (pick_pv h (p:=r2.2) (by omega) (by omega)) (fun r3 ⟨a3,e3⟩ => ?_);have b3:=a3.2.2 (by omega);have:=walkD_l h n l hl r3.1.toNat r3.2 r1.1 [] (by omega) (by omega) (by simp; omega);rw [Int.toNat_of_nonneg a3.1] at this;exact this.mono (fun r hr => ⟨hr.1,by omega,by omega⟩)
 refine Pv.bind hw (fun r4 ⟨a4,e4⟩ => Pv.bind (pick_pv h (p:=r4.2) (by omega) (by omega)) (fun r5 ⟨a5,e5⟩ => Pv.ite (fun _ => Pv.bind (pick_pv h (p:=r5.2) (by omega) (by omega)) (fun r6 ⟨a6,e6⟩ => Pv.pos (by omega) (Pv.now ⟨by simp; omega,by dsimp only; omega⟩))) (fun _ => Pv.now ⟨by dsimp only; omega,by dsimp only; omega⟩)))
end Go.Proofs.Ytlhmljngjdfbpaa.Pure
end
section
set_option linter.unusedSimpArgs false
set_option linter.unusedVariables false
set_option linter.unusedVariables false
end
section
set_option linter.unusedSimpArgs false
set_option linter.unusedVariables false
namespace Go.Proofs.Ytlhmljngjdfbpaa.Pure
open Go.RowKit Go.Proofs.Ytlhmljngjdfbpaa.Pr Go.Proofs.YtlhmljngjdfbpaaW.PrintWords Go.Proofs.YtlhmljngjdfbpaaW.PrintLast Go.Proofs.YtlhmljngjdfbpaaW.PrintMore
theorem fare_l {b : List Int} (h : Rdr b) (d w : Int) : ∀ (m : Nat) (c p : Int) (l : List Int),(0 ≤ p ∧ p + m ≤ 100000) → (0 ≤ c ∧ c + 5 * m ≤ 1000) → m ≤ 4 → l.length + m = 4 → Pv (fun k => spec_l30Fare.l0 k c (4 - (m : Int)) b p l d w) (fun r => r.1.length ≤ 4 ∧ (p ≤ r.2.2.2 ∧ r.2.2.2 ≤ p + m + 3)):=by
 intro m
 induction m with
 | zero =>
  intro c p l hp hc hm hl;refine Pv.go ?_ (fun k => by rw [spec_l30Fare.l0]);refine Pv.neg (by omega) (Pv.bind (pick_pv h (by omega) (by omega)) (fun r1 ⟨a1,e1⟩ => ?_));refine Pv.ite (fun c1 => Pv.bind (one_pv h (p:=r1.2) (by omega) (by omega) (by simp)) (fun r2 ⟨a2,e2⟩ => Pv.pos (by omega) (Pv.now ⟨by simp; omega,by dsimp only; omega⟩))) (fun c1 => ?_);refine Pv.ite (fun c2 => Pv.bind (one_pv h (p:=r1.2) (by omega) (by omega) (by simp)) (fun r2 ⟨a2,e2⟩ => Pv.now ⟨by dsimp only; omega,by dsimp only; omega⟩)) (fun c2 => ?_);exact Pv.ite (fun c3 => Pv.pos (by omega) (Pv.now ⟨by simp; omega,by dsimp only; omega⟩)) (fun c3 => Pv.now ⟨by dsimp only; omega,by dsimp only; omega⟩)
 | succ m ih =>
  intro c p l hp hc hm hl;refine Pv.go ?_ (fun k => by rw [spec_l30Fare.l0]);refine Pv.pos (by omega) (Pv.pos (by omega) (Pv.bind (pick_pv h (by omega) (by omega)) (fun r1 ⟨a1,e1⟩ => ?_)));have b1:=a1.2.2 (by omega);have w1 : wrap64 (c + r1.1) = c + r1.1:=w64 (by omega) (by omega);have w2 : wrap64 (4 - ((m + 1 : Nat) : Int) + 1) = 4 - (m : Int):=by rw [w64 (by omega) (by omega)]; omega
  rw [w1,w2];exact (ih (c + r1.1) r1.2 (l ++ [c]) (by omega) (by omega) (by omega) (by simp; omega)).mono (fun r hr => ⟨hr.1,by omega⟩)
theorem fare_pv {b : List Int} (h : Rdr b) {p : Int} (hp : 0 ≤ p) (hp' : p ≤ 10000) : Pv (fun k => spec_l30Fare.f k b p) (fun r => r.1.length ≤ 4 ∧ (p ≤ r.2.2.2 ∧ r.2.2.2 ≤ p + 10)):=by
 unfold spec_l30Fare.f
 refine Pv.bind (pick_pv h hp (by omega)) (fun r1 ⟨a1,e1⟩ => Pv.bind (pick_pv h (p:=r1.2) (by omega) (by omega)) (fun r2 ⟨a2,e2⟩ => Pv.bind (pick_pv h (p:=r2.2) (by omega) (by omega)) (fun r3 ⟨a3,e3⟩ => ?_)));have b3:=a3.2.2 (by omega);exact (fare_l h _ _ 4 r3.1 r3.2 [] (by omega) (by omega) (by omega) (by simp)).mono (fun r hr => ⟨hr.1,by omega⟩)
end Go.Proofs.Ytlhmljngjdfbpaa.Pure
end
section
set_option linter.unusedSimpArgs false
set_option linter.unusedVariables false
namespace Go.Proofs.Ytlhmljngjdfbpaa.Pure
open Go.RowKit Go.Proofs.Ytlhmljngjdfbpaa.Pr Go.Proofs.YtlhmljngjdfbpaaW.PrintWords Go.Proofs.YtlhmljngjdfbpaaW.PrintLast Go.Proofs.YtlhmljngjdfbpaaW.PrintMore
open Go.Proofs.Ytlhmljngjdfbpaa.Dd (dd dd_take dd_one)
theorem wkB_take {l : List Arc} : ∀ (w : List Int) (p : Option Int) (k : Nat),wkB l p w = true → wkB l p (w.take k) = true
 | [],p,k,_ => by simp [wkB]
 | a :: w,p,0,_ => by simp [wkB]
 | a :: w,p,k + 1,h => by
  rw [List.take_succ_cons];have h : ((inB a 0 ((l.length : Int) - 1) && _) && wkB l (some a) w) = true:=h;rw [Bool.and_eq_true] at h
  show ((inB a 0 ((l.length : Int) - 1) && _) && wkB l (some a) (w.take k)) = true
  rw [Bool.and_eq_true];exact ⟨h.1,wkB_take w _ k h.2⟩
theorem walkV_take {n : Int} {l : List Arc} {w : List Int} (k : Nat) (h : walkV n l w = true) : walkV n l (w.take k) = true:=by
 unfold walkV at h ⊢
 rw [Bool.and_eq_true,Bool.and_eq_true,decide_eq_true_eq] at h ⊢;exact ⟨h.1,by rw [List.length_take]; omega,wkB_take w _ k h.2.2⟩
theorem along_take {l : List Arc} {w : List Int} {k : Nat} (hk : 0 < k) : alongV l (w.take k) = (alongV l w).take (k + 1):=by
 unfold alongV
 rw [List.take_succ_cons,List.map_take]
 congr 3
 obtain ⟨k,rfl⟩ : ∃ q,k = q + 1:=⟨k - 1,by omega⟩
 cases w <;> simp [nth]
theorem rises_le {s : List Int} {d wk : Int} (h : FareGood s d wk) : ∀ (j i : Nat),i ≤ j → j < 4 → nth s i ≤ nth s j:=by
 intro j
 induction j with
 | zero =>
  intro i hi _;rw [Nat.le_zero.1 hi];exact Int.le_refl _
 | succ j ih =>
  intro i hi hj
  by_cases e : i = j + 1
  case pos => rw [e]; exact Int.le_refl _
  have h1:=ih i (by omega) (by omega);have h2:=(h.2.1 (j + 1) (by rw [h.1]; omega) (Nat.zero_le _)).2 (by omega);rw [Nat.add_sub_cancel] at h2;omega
theorem FnFareRide : laws_FnFareRide.Asked:=by
 intro b more hc hmore;refine Pv.rounds ?_
 unfold laws_FnFareRide.f
 have early : Pv (fun k => laws_FnFareRide.j0 k b more true) (fun r => r = true):=Pv.go (Pv.pos rfl (Pv.now rfl)) (fun k => by rw [laws_FnFareRide.j0])
 by_cases hs : (b.length : Int) > 1048576
 ·exact Pv.pos hs early
 refine Pv.neg hs ?_
 by_cases hs2 : (more.length : Int) > 1048576
 ·rw [decide_eq_true hs2]; exact early
 rw [decide_eq_false hs2];refine Pv.go ?_ (fun k => by rw [laws_FnFareRide.j0]);refine Pv.neg (by simp) ?_
 unfold spec_DrawFareRide.f
 obtain ⟨bb,e,hb⟩:=open_pv hc.2;refine Pv.bind (R:=fun r => r.1.length ≤ 4 ∧ r.2.2.2.2.1.length ≤ 13 ∧ r.2.2.2.2.2.1.length ≤ 10 ∧ r.2.2.2.2.2.2.length ≤ 31) (Pv.bind0 e (Pv.bind (fare_pv hb (p:=0) (by omega) (by omega)) (fun r1 h1 => Pv.bind (anyNet_pv hb (p:=r1.2.2.2) (by omega) (by omega)) (fun r2 h2 => Pv.bind (part_pv hb (p:=r2.2.2) h2.1 r2.2.1 (by have:=h2.2.2; omega) (by have:=h2.2.2; omega)) (fun r3 h3 => Pv.bind (anyWalk_pv hb (p:=r3.2) h2.2.1 (by have:=h2.2.2; omega) (by have:=h2.2.2; omega)) (fun r4 h4 => Pv.now ⟨h1.1,h2.2.1,h3.1,h4.1⟩)))))) (fun r hr => ?_);obtain ⟨s,d,wk,n,l,z,w⟩:=r;dsimp only at hr ⊢;have hsm : s.length ≤ maxLen:=by simp only [maxLen]; omega
 have hlm : l.length ≤ maxLen:=by simp only [maxLen]; omega
 have hzm : z.length ≤ maxLen:=by simp only [maxLen]; omega
 have hwm : w.length ≤ maxLen:=by simp only [maxLen]; omega
 have hspec:=specRide_ev s d wk n l z w hsm hlm hzm hwm;have hok2 : Ev (fun k => spec_FareOk.f k s d wk) (fareB s d wk):=by
  unfold spec_FareOk.f
  exact Ev.bind (specFareOk_ev s d wk hsm) (Ev.now _)
 refine Pv.of (Ev.bind (implRide_ev s d wk n l z w hsm) (Ev.bind hspec (Ev.pos rfl (Ev.bind (implFareOk_ev s d wk hsm) (Ev.bind hok2 (Ev.neg (by simp) (Ev.go (r:=true) ?_ (fun k => by rw [laws_FnFareRide.j1])))))))) rfl
 by_cases hneg : rideV s d wk n l z w < 0
 case pos =>
  rw [decide_eq_true hneg];exact Ev.pos rfl (Ev.bind hspec (Ev.pos rfl (Ev.bind (implFareOk_ev s d wk hsm) (Ev.bind hok2 (Ev.is (by simp))))))
 rw [decide_eq_false hneg];have hgood : fareB s d wk = true ∧ partB n l z = true ∧ walkV n l w = true ∧ w.length ≠ 0:=by
  unfold rideV at hneg
  by_cases hc2 : (fareB s d wk && (partB n l z && (walkV n l w && !decide (w.length = 0)))) = true
  case neg => rw [if_neg hc2] at hneg; exact absurd (by omega) hneg
  simp only [Bool.and_eq_true,Bool.not_eq_true',decide_eq_false_iff_not] at hc2;exact ⟨hc2.1,hc2.2.1,hc2.2.2.1,hc2.2.2.2⟩
 obtain ⟨g1,g2,g3,g4⟩:=hgood;have hfg : FareGood s d wk:=Bp_iff.1 g1;obtain ⟨hg,r1,r2,r3,r4,r5,r6,r7,r8,r9⟩:=ride_ok g2 g3 g4;have hval : ∀ z' w',partB n l z' = true → walkV n l w' = true → w'.length ≠ 0 → rideV s d wk n l z' w' = nth s ((dd (zns z' (alongV l w'))).length - 1):=by
  intro z' w' h1 h2 h3
  unfold rideV
  rw [g1,h1,h2];simp [h3]
 have hn1:=hg.n1;have hn8:=hg.n8;have hm0:=Int.emod_nonneg (more.length : Int) (show (w.length : Int) ≠ 0 by omega);have hm1:=Int.emod_lt_of_pos (more.length : Int) (show (0 : Int) < (w.length : Int) by omega);rw [w64 (n:=1 + (more.length : Int) % (w.length : Int)) (by omega) (by omega)];obtain ⟨q,hq⟩:=Int.eq_ofNat_of_zero_le hm0;rw [hq] at hm1 ⊢;have hq2 : ((1 : Int) + (q : Int)).toNat = q + 1:=by omega
 rw [hq2];have hwt : (w.take (q + 1)).length = q + 1:=by rw [List.length_take]; omega
 have hle : rideV s d wk n l z (w.take (q + 1)) ≤ rideV s d wk n l z w:=by
  rw [hval z _ g2 (walkV_take _ g3) (by omega),hval z w g2 g3 g4,along_take (by omega)];have h1 : zns z ((alongV l w).take (q + 1 + 1)) = (zns z (alongV l w)).take (q + 1 + 1):=by unfold zns; rw [List.map_take]
  rw [h1];have h2:=dd_take (zns z (alongV l w)) (q + 1 + 1);exact rises_le hfg _ _ (by omega) (by omega)
 have hp0 : partB n l (List.replicate n.toNat 0) = true:=by
  unfold partB at g2 ⊢
  rw [Bool.and_eq_true,Bool.and_eq_true] at g2 ⊢;refine ⟨⟨g2.1.1,by simp; omega⟩,?_⟩;rw [List.all_eq_true];intro x hx;rw [List.eq_of_mem_replicate hx];rfl
 have hzero : rideV s d wk n l (List.replicate n.toNat 0) w = nth s 0:=by
  rw [hval _ w hp0 g3 g4];have : (dd (zns (List.replicate n.toNat 0) (alongV l w))).length = 1:=dd_one (c:=0) (fun e => by
   have:=congrArg List.length e
   unfold zns at this
   rw [List.length_map,r6] at this;simp at this) (fun x hx => by
   unfold zns at hx
   obtain ⟨v,_,rfl⟩:=List.mem_map.1 hx;simp [nth,List.getElem?_replicate]
   split <;> rfl)
  rw [this]
 have hfin : nth s 0 ≤ rideV s d wk n l z w:=by
  rw [hval z w g2 g3 g4];exact rises_le hfg _ _ (Nat.zero_le _) (by omega)
 have hlen:=hfg.1;refine Ev.neg (by simp) (Ev.neg (by omega) (Ev.pos (by omega) (Ev.pos (by omega) (Ev.bind (implRide_ev s d wk n l z _ hsm) (Ev.pos hle (Ev.pos (by omega) (Ev.pos (by omega) (Ev.bind (implRide_ev s d wk n l _ w hsm) (Ev.pos (by omega) (Ev.pos ?_ (Ev.is ?_)))))))))))
 ·rw [hzero]; rfl
 ·have e : rd s 0 = nth s 0:=rdg 0;rw [e];exact decide_eq_true hfin
end Go.Proofs.Ytlhmljngjdfbpaa.Pure
end
section
namespace Go.Proofs.Ytlhmljngjdfbpaa.fnFareRide
open Go.ChangeShapes Go.WideShapes Go.ChangeAt Go.RowKit Go.Proofs.YtlhmljngjdfbpaaW.PrintWords Go.Proofs.Ytlhmljngjdfbpaa.Pr
open Go.ChangeMaps (open_string shut_string)
set_option linter.unusedVariables false
set_option linter.unusedSimpArgs false
theorem own : ownKnob Try.prog.godebug = none:=by kernel_rfl
theorem laidOut : laidOutB Try.prog = true:=by kernel_rfl
theorem opens0 : Opens Try.prog (Kd.slice 5 (Kd.int .u8)) 22 (fun l => l.length ≤ maxLen ∧ ∀ x ∈ l,(fun n => (Lit.int .u8 n).wf = true) x):=(opens_slice (P:=Try.prog) Try.underlying22 (by kernel_rfl) (opens_int (P:=Try.prog) (k:=.u8) Try.underlying5))
theorem opens1 : Opens Try.prog (Kd.slice 5 (Kd.int .u8)) 22 (fun l => l.length ≤ maxLen ∧ ∀ x ∈ l,(fun n => (Lit.int .u8 n).wf = true) x):=(opens_slice (P:=Try.prog) Try.underlying22 (by kernel_rfl) (opens_int (P:=Try.prog) (k:=.u8) Try.underlying5))
set_option maxRecDepth 100000 in
set_option maxHeartbeats 2000000 in
theorem lifted (os : Os) (started : os.Started) (H : Type) (enc : TypeId × Value → H) :
  ReturnsInHanded {} Try.checked os 4 .any (Rows.fnFareRideSpec.pre6 enc Try.prog Try.f4 Rows.fnFareRideRow.domain false) (Rows.fnFareRideSpec.post enc Try.prog Try.f4 false true false false):=by
 refine returnsInHanded_of_change_sized (C:=Try.checked) own started (by kernel_rfl) Try.func4
  (ChangeSpec.witness6 (enc:=enc) (C:=Try.checked) false ⟨#[],#[(.slice none 0 0),(.slice none 0 0)],[]⟩ 8 (by kernel_rfl) (by kernel_rfl) (by kernel_rfl) (by kernel_rfl)) ?_
 intro W base args ds gs before hval0 hW hcnd hsz0 _;have hval : ∀ (j : Nat) t v,Try.f4.params[j]? = some t → args[j]? = some v → Value.okWide Try.prog W .any base t v:=hval0
 have hW':=hW;obtain ⟨p,q,hA0,hV,rfl,hfz,hnd⟩:=hW;have hA : DataW.TrodAll enc Try.prog W 0 (fun _ => true) true Try.f4.params.toList args.toList ds p:=hA0;rw [Try.params4] at hA hval;obtain ⟨v0,vs0,d0,ds0,p0,q0,hargs,rfl,rfl,h0,r0⟩:=trodAll_cons hA;obtain ⟨v1,vs1,d1,ds1,p1,q1,rfl,rfl,rfl,h1,r1⟩:=trodAll_cons r0;obtain ⟨rfl,rfl,rfl⟩:=trodAll_nil r1;obtain rfl : args = #[v0,v1]:=by cases args; simp_all
 obtain ⟨rfl,rfl⟩:=trodVars_none hV;have k0:=h0;have lt0 : ∀ x ∈ p0,x.block < W.heap.size:=by obtain ⟨m,hm⟩:=k0; exact DataW.trod_lt m _ _ _ hm
 obtain ⟨a0,len0,cap0,rfl⟩:=okWide_slice Try.underlying22 (hval 0 22 v0 rfl rfl);obtain ⟨fuel0,hf0⟩:=h0;obtain ⟨l0,⟨A0,c0,e0,hc0,hr0⟩,w0⟩:=opens0 hf0;have e0' : (Value.slice a0 len0 cap0) = .slice A0 l0.length c0:=(List.cons.inj e0).1;injection e0' with e0a e0b e0c
 subst e0a e0b e0c;have k1:=h1;have lt1 : ∀ x ∈ p1,x.block < W.heap.size:=by obtain ⟨m,hm⟩:=k1; exact DataW.trod_lt m _ _ _ hm
 obtain ⟨a1,len1,cap1,rfl⟩:=okWide_slice Try.underlying22 (hval 1 22 v1 rfl rfl);obtain ⟨fuel1,hf1⟩:=h1;obtain ⟨l1,⟨A1,c1,e1,hc1,hr1⟩,w1⟩:=opens1 hf1;have e1' : (Value.slice a1 len1 cap1) = .slice A1 l1.length c1:=(List.cons.inj e1).1;injection e1' with e1a e1b e1c
 subst e1a e1b e1c;obtain ⟨k,hh⟩:=Pure.FnFareRide l0 l1 w0 w1;refine (laws_FnFareRide.calls k _ _ l0 _ _ l1 true W hr0 hc0 hr1 hc1 hh).mono fun e W' ⟨he,bel0⟩ => ?_
 have bel : Below W.heap.size W W':=bel0;subst he;exact ⟨_,rfl,_,_,_,[],_,[],hW',trodAll_mk1 (shut_bool Try.underlying4 _),(trodAll_cons_mk (Below.trod laidOut (by kernel_rfl) (of_decide_eq_true (by kernel_rfl)) k0 bel lt0) (trodAll_cons_mk (Below.trod laidOut (by kernel_rfl) (of_decide_eq_true (by kernel_rfl)) k1 bel lt1) trodAll_mk0)),rfl,bel.frame _,fun h => by cases h⟩
theorem over : Rows.fnFareRideRow.holds Try.pinned (OpenSpec.ofChange Rows.fnFareRideSpec) :=
 OpenClaim.holds_of_wide 4 Try.f4 rfl rfl rfl rfl rfl rfl rfl ⟨rfl,rfl,rfl,rfl,rfl⟩ rfl rfl rfl rfl rfl (by kernel_rfl) Try.func4 (by kernel_rfl)
  (of_decide_eq_true (by kernel_rfl)) (by unfold Func.isWrapper; first | (rw [if_pos (by decide +kernel)]; kernel_rfl) | (rw [if_neg (by decide +kernel)]; exact ⟨rfl,rfl⟩))
  (fun os started H enc _ => lifted os started H enc)
theorem proved : Rows.FnFareRideSaid:=over
#print axioms proved
end Go.Proofs.Ytlhmljngjdfbpaa.fnFareRide
namespace Go.Proofs.Ytlhmljngjdfbpaa
theorem fnFareRide_holds : Rows.FnFareRideSaid:=fnFareRide.proved
end Go.Proofs.Ytlhmljngjdfbpaa
end
