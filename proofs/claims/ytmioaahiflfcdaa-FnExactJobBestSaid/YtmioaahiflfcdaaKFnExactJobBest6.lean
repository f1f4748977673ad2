/- For the statement FnExactJobBest of this seat: it is proved here, with no further conditions (part 7 of its texts: words, walks of the functions, the plain law, the row). -/
import Derived.ChangeArms
import Derived.ChangeSlices
import Derived.Deep.Slices
import Derived.WideShapes
import Derived.DataReads
import Derived.Lib.SlicesCompact
import Derived.RangeFuncFrom
import Derived.Shelf.SortM.SortNone
import Derived.Shelf.SortM.Plain
import Derived.Sort.OwnSortedInts
import Derived.Maps.AppendAt
import Derived.RangeFuncBox
import Derived.Laws.AppendOwn
import Derived.LoopIn
import Derived.TacticsInMore
import Derived.RegionIn
import Derived.OwnWalkIn
import Derived.Test.YtmioaahiflfcdaaKFnExactJobBest5
section
namespace Go.Proofs.Ytmioaahiflfcdaa.Pr
open Go.RowKit Go.Proofs.YtmioaahiflfcdaaW.PrintWords Go.Proofs.YtmioaahiflfcdaaW.PrintLast Go.Proofs.YtmioaahiflfcdaaW.PrintMore
attribute [local go_sem] max2_int min2_int max_two min_two max_three min_three max_four min_four
set_option linter.unusedVariables false
set_option linter.unusedSimpArgs false
open List renaming setIfInBounds_toArray → J,set_cons_zero → U,set_cons_succ → Z
open Go.Proofs.YtmioaahiflfcdaaW.PrintWords.Aside0 renaming mk → zx
mutual
def laws_FnExactJobBest.j0 : Nat → List Int → List Int → List Int → Int → List Int → List Int → List Int → Int → Bool → Int → List (S89) → Int → List (S80) → Option (Bool)
 | 0,_,_,_,_,_,_,_,_,_,_,_,_,_ => none
 | k + 1,x1,x2,x8,x9,x11,x12,x13,x14,x62,x490000,x490001,x510000,x510001 => if x62 = true then (some false) else ((laws_toNet.f k x490000 x490001).bind fun bt521 => ((laws_eqNet.f k x510000 x510001 bt521.1 bt521.2).bind fun t525 => (if t525 = true then ((laws_toIntS.f k x1).bind fun t526 => ((laws_eqIntS.f k x11 t526).bind fun t529 => (if t529 = true then ((laws_toIntS.f k x2).bind fun t530 => ((laws_eqIntS.f k x12 t530).bind fun t533 => (if t533 = true then ((laws_markNet.f k x510000 x510001 1).bind fun bt534 => ((laws_markIntS.f k x11 bt534.1).bind fun bt536 => ((laws_markIntS.f k x12 bt536.1).bind fun bt538 => (if bt538.1 < 0 then (laws_FnExactJobBest.j1 k x1 x2 x8 x9 x13 true x490000 x490001) else ((laws_eqIntS.f k x13 x8).bind fun t540 => (if t540 = true then (laws_FnExactJobBest.j1 k x1 x2 x8 x9 x13 (x14 != x9) x490000 x490001) else (laws_FnExactJobBest.j1 k x1 x2 x8 x9 x13 true x490000 x490001))))))) else (some false)))) else (some false)))) else (some false))))
def laws_FnExactJobBest.j1 : Nat → List Int → List Int → List Int → Int → List Int → Bool → Int → List (S89) → Option (Bool)
 | 0,_,_,_,_,_,_,_,_ => none
 | k + 1,x1,x2,x8,x9,x13,x99,x490000,x490001 => if x99 = true then (some false) else ((laws_markIntS.f k x13 1).bind fun bt541 => ((laws_heldIntS.f k bt541.2 1).bind fun t543 => (if t543 < 0 then (some false) else (if t543 = bt541.1 then ((laws_toNet.f k x490000 x490001).bind fun bt544 => ((laws_toIntS.f k x1).bind fun t548 => ((laws_toIntS.f k x2).bind fun t551 => ((impl_JobBest.f k bt544.1 bt544.2 t548 t551).bind fun bt554 => ((laws_eqIntS.f k bt554.1 x8).bind fun t558 => (if t558 = true then (laws_FnExactJobBest.j2 k bt541.2 bt541.1 (bt554.2 != x9)) else (laws_FnExactJobBest.j2 k bt541.2 bt541.1 true))))))) else (some false)))))
def laws_FnExactJobBest.j2 : Nat → List Int → Int → Bool → Option (Bool)
 | 0,_,_,_ => none
 | k + 1,x13,x16,x129 => if x129 = true then (some false) else ((laws_heldIntS.f k x13 1).bind fun t559 => (if t559 < 0 then (some false) else (if t559 = x16 then (some true) else (some false))))
end
def laws_FnExactJobBest.f (k : Nat) (a0_0 : Int) (l0_1 : List (S89)) (l1 : List Int) (l2 : List Int) : Option (Bool):=if (l1.length : Int) > 1048576 then (some true) else (if (l2.length : Int) > 1048576 then (some true) else ((laws_szNet.f a0_0 l0_1 1048576).bind fun t490 => (if t490 < 0 then (some true) else ((laws_toNet.f k a0_0 l0_1).bind fun bt491 => ((laws_toIntS.f k l1).bind fun t495 => ((laws_toIntS.f k l2).bind fun t498 => ((spec_JobBest.f k bt491.1 bt491.2 t495 t498).bind fun bt501 => ((laws_toNet.f k a0_0 l0_1).bind fun bt505 => ((laws_toIntS.f k l1).bind fun t510 => ((laws_toIntS.f k l2).bind fun t513 => ((impl_JobBest.f k bt505.1 bt505.2 t510 t513).bind fun bt516 => ((laws_eqIntS.f k bt516.1 bt501.1).bind fun t520 => (if t520 = true then (laws_FnExactJobBest.j0 k l1 l2 bt501.1 bt501.2 t510 t513 bt516.1 bt516.2 (bt516.2 != bt501.2) a0_0 l0_1 bt505.1 bt505.2) else (laws_FnExactJobBest.j0 k l1 l2 bt501.1 bt501.2 t510 t513 bt516.1 bt516.2 true a0_0 l0_1 bt505.1 bt505.2))))))))))))))
set_option maxHeartbeats 8000000 in
set_option maxRecDepth 100000 in
theorem laws_FnExactJobBest.calls (k : Nat) (a0_0 : Int) (A0_1 : Option Addr) (c0_1 : Nat) (l0_1 : List (S89)) (A1 : Option Addr) (c1 : Nat) (l1 : List Int) (A2 : Option Addr) (c2 : Nat) (l2 : List Int) (r : Bool) (w : World) (hr0_1 : Kd.C k89 w A0_1 l0_1.length l0_1) (hc0_1 : l0_1.length ≤ c0_1) (hr1 : Kd.C (Kd.int .i64) w A1 l1.length l1) (hc1 : l1.length ≤ c1) (hr2 : Kd.C (Kd.int .i64) w A2 l2.length l2) (hc2 : l2.length ≤ c2) (h : laws_FnExactJobBest.f k a0_0 l0_1 l1 l2 = some r) (hrT_ : r = true:=by rfl) :
  Calls Try.prog 4 #[.agg #[.int .i64 a0_0,.slice A0_1 l0_1.length c0_1],.slice A1 l1.length c1,.slice A2 l2.length c2] w fun e w' => e = .returned (.bool r) ∧ Below w.heap.size w w':=by
 have HRT_:=zx hrT_;clear hrT_;have hu36:=Try.underlying36;have hu25:=Try.underlying25;have HR0_1:=zx hr0_1;have HC0_1:=zx hc0_1;clear hr0_1 hc0_1;have HR1:=zx hr1;have HC1:=zx hc1;clear hr1 hc1;have HR2:=zx hr2;have HC2:=zx hc2;clear hr2 hc2;have HB:=zx (Below.refl w.heap.size w);have H : (if (l1.length : Int) > 1048576 then (some true) else (if (l2.length : Int) > 1048576 then (some true) else ((laws_szNet.f a0_0 l0_1 1048576).bind fun t490 => (if t490 < 0 then (some true) else ((laws_toNet.f k a0_0 l0_1).bind fun bt491 => ((laws_toIntS.f k l1).bind fun t495 => ((laws_toIntS.f k l2).bind fun t498 => ((spec_JobBest.f k bt491.1 bt491.2 t495 t498).bind fun bt501 => ((laws_toNet.f k a0_0 l0_1).bind fun bt505 => ((laws_toIntS.f k l1).bind fun t510 => ((laws_toIntS.f k l2).bind fun t513 => ((impl_JobBest.f k bt505.1 bt505.2 t510 t513).bind fun bt516 => ((laws_eqIntS.f k bt516.1 bt501.1).bind fun t520 => (if t520 = true then (laws_FnExactJobBest.j0 k l1 l2 bt501.1 bt501.2 t510 t513 bt516.1 bt516.2 (bt516.2 != bt501.2) a0_0 l0_1 bt505.1 bt505.2) else (laws_FnExactJobBest.j0 k l1 l2 bt501.1 bt501.2 t510 t513 bt516.1 bt516.2 true a0_0 l0_1 bt505.1 bt505.2))))))))))))))) = some r:=h;clear h
 by_cases c4 : (l1.length : Int) > 1048576
 case pos =>
  rw [if_pos c4] at H;have c4b0 : decide (1048576 < (l1.length : Int)) = true:=decide_eq_true c4;have c4b1 : decide (1048576 < l1.length) = true:=decide_eq_true (by omega);clear c4;obtain rfl:=Option.some.inj H
  go_enter Try.func4,Try.ntmps4
  go_wp2_with (first | ((with_reducible refine gate_dst (N:=3) rfl ?_); refine box_event ?hg (N:=3) ?hd (cs:=#[.int .i64 a0_0,.slice A0_1 l0_1.length c0_1]) (t:=36) ?hr ?_; (case hd => rfl); (case hg => rfl); (case hr => first | (go_simp; done) | (go_simp; rfl)); intro gb489 hg w5 hbox hb; have n0_:=zx (below_step (by repeat (first | (with_reducible first | exact HB.out | apply below_alloc | apply pw_below_drewN | apply below_drew1) | exact HB.out)) hb); have n1_:=zx (hbox); have n2_:=zx ((by rw [hg]; exact (below_size (by repeat (first | (with_reducible first | exact HB.out | apply below_alloc | apply pw_below_drewN | apply below_drew1) | exact HB.out))) : w.heap.size ≤ gb489)); have n3_:=zx ((by rw [hg]; exact (below_size (by repeat (first | (with_reducible first | exact HB.out | apply below_alloc | apply pw_below_drewN | apply below_drew1) | exact HB.out))) : w.heap.size ≤ gb489)); clear HB; have HB:=n0_; have BK489:=n1_; have GW489:=n2_; have GE489:=n3_; clear n0_ n1_ n2_ n3_; clear hb hbox hg))
  go_ret;exact ⟨by first | rfl | (simp [errW_none,errW_some] <;> rfl) | (simp [*,errW_none,errW_some] <;> rfl),by repeat (first | (with_reducible first | exact HB.out | apply below_alloc | apply pw_below_drewN | apply below_drew1 | refine below_set ?_ GE489.out) | exact HB.out)⟩
 rw [if_neg c4] at H;have c4b0 : decide (1048576 < (l1.length : Int)) = false:=decide_eq_false c4;have c4b1 : decide (1048576 < l1.length) = false:=decide_eq_false (by omega);clear c4
 by_cases c6 : (l2.length : Int) > 1048576
 case pos =>
  rw [if_pos c6] at H;have c6b0 : decide (1048576 < (l2.length : Int)) = true:=decide_eq_true c6;have c6b1 : decide (1048576 < l2.length) = true:=decide_eq_true (by omega);clear c6;obtain rfl:=Option.some.inj H
  go_enter Try.func4,Try.ntmps4
  go_wp2_with (first | ((with_reducible refine gate_dst (N:=3) rfl ?_); refine box_event ?hg (N:=3) ?hd (cs:=#[.int .i64 a0_0,.slice A0_1 l0_1.length c0_1]) (t:=36) ?hr ?_; (case hd => rfl); (case hg => rfl); (case hr => first | (go_simp; done) | (go_simp; rfl)); intro gb489 hg w7 hbox hb; have n0_:=zx (below_step (by repeat (first | (with_reducible first | exact HB.out | apply below_alloc | apply pw_below_drewN | apply below_drew1) | exact HB.out)) hb); have n1_:=zx (hbox); have n2_:=zx ((by rw [hg]; exact (below_size (by repeat (first | (with_reducible first | exact HB.out | apply below_alloc | apply pw_below_drewN | apply below_drew1) | exact HB.out))) : w.heap.size ≤ gb489)); have n3_:=zx ((by rw [hg]; exact (below_size (by repeat (first | (with_reducible first | exact HB.out | apply below_alloc | apply pw_below_drewN | apply below_drew1) | exact HB.out))) : w.heap.size ≤ gb489)); clear HB; have HB:=n0_; have BK489:=n1_; have GW489:=n2_; have GE489:=n3_; clear n0_ n1_ n2_ n3_; clear hb hbox hg))
  go_ret;exact ⟨by first | rfl | (simp [errW_none,errW_some] <;> rfl) | (simp [*,errW_none,errW_some] <;> rfl),by repeat (first | (with_reducible first | exact HB.out | apply below_alloc | apply pw_below_drewN | apply below_drew1 | refine below_set ?_ GE489.out) | exact HB.out)⟩
 rw [if_neg c6] at H;have c6b0 : decide (1048576 < (l2.length : Int)) = false:=decide_eq_false c6;have c6b1 : decide (1048576 < l2.length) = false:=decide_eq_false (by omega);clear c6;replace H:=Option.bind_eq_some_iff.mp H;obtain ⟨t490,A80,H⟩:=H;replace H : (if t490 < 0 then (some true) else ((laws_toNet.f k a0_0 l0_1).bind fun bt491 => ((laws_toIntS.f k l1).bind fun t495 => ((laws_toIntS.f k l2).bind fun t498 => ((spec_JobBest.f k bt491.1 bt491.2 t495 t498).bind fun bt501 => ((laws_toNet.f k a0_0 l0_1).bind fun bt505 => ((laws_toIntS.f k l1).bind fun t510 => ((laws_toIntS.f k l2).bind fun t513 => ((impl_JobBest.f k bt505.1 bt505.2 t510 t513).bind fun bt516 => ((laws_eqIntS.f k bt516.1 bt501.1).bind fun t520 => (if t520 = true then (laws_FnExactJobBest.j0 k l1 l2 bt501.1 bt501.2 t510 t513 bt516.1 bt516.2 (bt516.2 != bt501.2) a0_0 l0_1 bt505.1 bt505.2) else (laws_FnExactJobBest.j0 k l1 l2 bt501.1 bt501.2 t510 t513 bt516.1 bt516.2 true a0_0 l0_1 bt505.1 bt505.2)))))))))))) = some r:=H;have A8:=zx A80;clear A80
 by_cases c9 : t490 < 0
 case pos =>
  rw [if_pos c9] at H;have c9b0 : decide (t490 < 0) = true:=decide_eq_true c9;clear c9;obtain rfl:=Option.some.inj H
  go_enter Try.func4,Try.ntmps4
  go_wp2_with (first | ((with_reducible refine gate_dst (N:=3) rfl ?_); refine box_event ?hg (N:=3) ?hd (cs:=#[.int .i64 a0_0,.slice A0_1 l0_1.length c0_1]) (t:=36) ?hr ?_; (case hd => rfl); (case hg => rfl); (case hr => first | (go_simp; done) | (go_simp; rfl)); intro gb489 hg w10 hbox hb; have n0_:=zx (below_step (by repeat (first | (with_reducible first | exact HB.out | apply below_alloc | apply pw_below_drewN | apply below_drew1) | exact HB.out)) hb); have n1_:=zx (hbox); have n2_:=zx ((by rw [hg]; exact (below_size (by repeat (first | (with_reducible first | exact HB.out | apply below_alloc | apply pw_below_drewN | apply below_drew1) | exact HB.out))) : w.heap.size ≤ gb489)); have n3_:=zx ((by rw [hg]; exact (below_size (by repeat (first | (with_reducible first | exact HB.out | apply below_alloc | apply pw_below_drewN | apply below_drew1) | exact HB.out))) : w.heap.size ≤ gb489)); clear HB; have HB:=n0_; have BK489:=n1_; have GW489:=n2_; have GE489:=n3_; clear n0_ n1_ n2_ n3_; clear hb hbox hg; have hcz11_0 : w10.cell? ⟨gb489,0,none⟩ = some (.int .i64 a0_0):=(blk_cell BK489.out 0).trans rfl; have hcz11_1 : w10.cell? ⟨gb489,1,none⟩ = some (.slice A0_1 l0_1.length c0_1):=(blk_cell BK489.out 1).trans rfl; have hfz11_0:=blk_frozen BK489.out 0; have hfz11_1:=blk_frozen BK489.out 1) | ((with_reducible refine gate_callee (f:=13) rfl ?_); refine goesL_ (some 28) rfl rfl Try.func13 (by kernel_rfl) rfl #[.agg #[.int .i64 a0_0,.slice A0_1 l0_1.length c0_1],.int .i64 1048576] rfl (by (try simp only [List.map_toArray,List.map_cons,List.map_nil]); first | done | rfl | (simp only [List.length_drop,List.length_take]; rfl)) ?_; (with_reducible refine (laws_szNet.calls a0_0 _ _ l0_1 1048576 t490 _ ?side1 ?side2 A8.out).mono ?_); (case side1 => repeat (first | exact (Kd.C_below HR0_1.out HB.out) | (with_reducible refine Kd.C_alloc ?_ _) | (with_reducible refine Kd.C_drewN ?_ _) | (with_reducible refine Kd.C_drew ?_))); (case side2 => exact HC0_1.out); rintro e w12 ⟨rfl,hb⟩; refine ⟨_,rfl,?_⟩; have n0_:=zx (blk_below (g:=gb489) (o:=.cells #[.int .i64 a0_0,.slice A0_1 l0_1.length c0_1] 36 (0,0)) (by (with_reducible repeat (first | refine blk_drewN ?_ _ | refine blk_drew ?_ | refine blk_alloc ?_ _)); exact BK489.out) hb); have n1_:=zx (below_step (by repeat (first | (with_reducible first | exact HB.out | apply below_alloc | apply pw_below_drewN | apply below_drew1 | refine below_set ?_ GE489.out) | exact HB.out)) hb); clear BK489; clear HB; have BK489:=n0_; have HB:=n1_; clear n0_ n1_; (try clear hb); (try clear hb2); (try clear hk); (try clear hi)))
  go_ret;exact ⟨by first | rfl | (simp [errW_none,errW_some] <;> rfl) | (simp [*,errW_none,errW_some] <;> rfl),by repeat (first | (with_reducible first | exact HB.out | apply below_alloc | apply pw_below_drewN | apply below_drew1 | refine below_set ?_ GE489.out) | exact HB.out)⟩
 rw [if_neg c9] at H;have c9b0 : decide (t490 < 0) = false:=decide_eq_false c9;clear c9;replace H:=Option.bind_eq_some_iff.mp H;obtain ⟨⟨t491,t492⟩,A130,H⟩:=H;replace H : ((laws_toIntS.f k l1).bind fun t495 => ((laws_toIntS.f k l2).bind fun t498 => ((spec_JobBest.f k t491 t492 t495 t498).bind fun bt501 => ((laws_toNet.f k a0_0 l0_1).bind fun bt505 => ((laws_toIntS.f k l1).bind fun t510 => ((laws_toIntS.f k l2).bind fun t513 => ((impl_JobBest.f k bt505.1 bt505.2 t510 t513).bind fun bt516 => ((laws_eqIntS.f k bt516.1 bt501.1).bind fun t520 => (if t520 = true then (laws_FnExactJobBest.j0 k l1 l2 bt501.1 bt501.2 t510 t513 bt516.1 bt516.2 (bt516.2 != bt501.2) a0_0 l0_1 bt505.1 bt505.2) else (laws_FnExactJobBest.j0 k l1 l2 bt501.1 bt501.2 t510 t513 bt516.1 bt516.2 true a0_0 l0_1 bt505.1 bt505.2)))))))))) = some r:=H;have A13:=zx A130;clear A130;replace H:=Option.bind_eq_some_iff.mp H;obtain ⟨t495,A140,H⟩:=H;replace H : ((laws_toIntS.f k l2).bind fun t498 => ((spec_JobBest.f k t491 t492 t495 t498).bind fun bt501 => ((laws_toNet.f k a0_0 l0_1).bind fun bt505 => ((laws_toIntS.f k l1).bind fun t510 => ((laws_toIntS.f k l2).bind fun t513 => ((impl_JobBest.f k bt505.1 bt505.2 t510 t513).bind fun bt516 => ((laws_eqIntS.f k bt516.1 bt501.1).bind fun t520 => (if t520 = true then (laws_FnExactJobBest.j0 k l1 l2 bt501.1 bt501.2 t510 t513 bt516.1 bt516.2 (bt516.2 != bt501.2) a0_0 l0_1 bt505.1 bt505.2) else (laws_FnExactJobBest.j0 k l1 l2 bt501.1 bt501.2 t510 t513 bt516.1 bt516.2 true a0_0 l0_1 bt505.1 bt505.2))))))))) = some r:=H;have A14:=zx A140;clear A140;replace H:=Option.bind_eq_some_iff.mp H;obtain ⟨t498,A150,H⟩:=H;replace H : ((spec_JobBest.f k t491 t492 t495 t498).bind fun bt501 => ((laws_toNet.f k a0_0 l0_1).bind fun bt505 => ((laws_toIntS.f k l1).bind fun t510 => ((laws_toIntS.f k l2).bind fun t513 => ((impl_JobBest.f k bt505.1 bt505.2 t510 t513).bind fun bt516 => ((laws_eqIntS.f k bt516.1 bt501.1).bind fun t520 => (if t520 = true then (laws_FnExactJobBest.j0 k l1 l2 bt501.1 bt501.2 t510 t513 bt516.1 bt516.2 (bt516.2 != bt501.2) a0_0 l0_1 bt505.1 bt505.2) else (laws_FnExactJobBest.j0 k l1 l2 bt501.1 bt501.2 t510 t513 bt516.1 bt516.2 true a0_0 l0_1 bt505.1 bt505.2)))))))) = some r:=H;have A15:=zx A150;clear A150;replace H:=Option.bind_eq_some_iff.mp H;obtain ⟨⟨t501,t504⟩,A160,H⟩:=H;replace H : ((laws_toNet.f k a0_0 l0_1).bind fun bt505 => ((laws_toIntS.f k l1).bind fun t510 => ((laws_toIntS.f k l2).bind fun t513 => ((impl_JobBest.f k bt505.1 bt505.2 t510 t513).bind fun bt516 => ((laws_eqIntS.f k bt516.1 t501).bind fun t520 => (if t520 = true then (laws_FnExactJobBest.j0 k l1 l2 t501 t504 t510 t513 bt516.1 bt516.2 (bt516.2 != t504) a0_0 l0_1 bt505.1 bt505.2) else (laws_FnExactJobBest.j0 k l1 l2 t501 t504 t510 t513 bt516.1 bt516.2 true a0_0 l0_1 bt505.1 bt505.2))))))) = some r:=H;have A16:=zx A160;clear A160;replace H:=Option.bind_eq_some_iff.mp H;obtain ⟨⟨t505,t506⟩,A170,H⟩:=H
 replace H : ((laws_toIntS.f k l1).bind fun t510 => ((laws_toIntS.f k l2).bind fun t513 => ((impl_JobBest.f k t505 t506 t510 t513).bind fun bt516 => ((laws_eqIntS.f k bt516.1 t501).bind fun t520 => (if t520 = true then (laws_FnExactJobBest.j0 k l1 l2 t501 t504 t510 t513 bt516.1 bt516.2 (bt516.2 != t504) a0_0 l0_1 t505 t506) else (laws_FnExactJobBest.j0 k l1 l2 t501 t504 t510 t513 bt516.1 bt516.2 true a0_0 l0_1 t505 t506)))))) = some r:=H;have A17:=zx A170;clear A170;replace H:=Option.bind_eq_some_iff.mp H;obtain ⟨t510,A180,H⟩:=H;replace H : ((laws_toIntS.f k l2).bind fun t513 => ((impl_JobBest.f k t505 t506 t510 t513).bind fun bt516 => ((laws_eqIntS.f k bt516.1 t501).bind fun t520 => (if t520 = true then (laws_FnExactJobBest.j0 k l1 l2 t501 t504 t510 t513 bt516.1 bt516.2 (bt516.2 != t504) a0_0 l0_1 t505 t506) else (laws_FnExactJobBest.j0 k l1 l2 t501 t504 t510 t513 bt516.1 bt516.2 true a0_0 l0_1 t505 t506))))) = some r:=H;have A18:=zx A180;clear A180;replace H:=Option.bind_eq_some_iff.mp H;obtain ⟨t513,A190,H⟩:=H;replace H : ((impl_JobBest.f k t505 t506 t510 t513).bind fun bt516 => ((laws_eqIntS.f k bt516.1 t501).bind fun t520 => (if t520 = true then (laws_FnExactJobBest.j0 k l1 l2 t501 t504 t510 t513 bt516.1 bt516.2 (bt516.2 != t504) a0_0 l0_1 t505 t506) else (laws_FnExactJobBest.j0 k l1 l2 t501 t504 t510 t513 bt516.1 bt516.2 true a0_0 l0_1 t505 t506)))) = some r:=H;have A19:=zx A190;clear A190;replace H:=Option.bind_eq_some_iff.mp H;obtain ⟨⟨t516,t519⟩,A200,H⟩:=H;replace H : ((laws_eqIntS.f k t516 t501).bind fun t520 => (if t520 = true then (laws_FnExactJobBest.j0 k l1 l2 t501 t504 t510 t513 t516 t519 (t519 != t504) a0_0 l0_1 t505 t506) else (laws_FnExactJobBest.j0 k l1 l2 t501 t504 t510 t513 t516 t519 true a0_0 l0_1 t505 t506))) = some r:=H;have A20:=zx A200;clear A200;have HC21:=zx H;clear H
 go_enter Try.func4,Try.ntmps4
 go_upto_region 14 with (first | ((with_reducible refine gate_dst (N:=3) rfl ?_); refine box_event ?hg (N:=3) ?hd (cs:=#[.int .i64 a0_0,.slice A0_1 l0_1.length c0_1]) (t:=36) ?hr ?_; (case hd => rfl); (case hg => rfl); (case hr => first | (go_simp; done) | (go_simp; rfl)); intro gb489 hg w22 hbox hb; have n0_:=zx (below_step (by repeat (first | (with_reducible first | exact HB.out | apply below_alloc | apply pw_below_drewN | apply below_drew1) | exact HB.out)) hb); have n1_:=zx (hbox); have n2_:=zx ((by rw [hg]; exact (below_size (by repeat (first | (with_reducible first | exact HB.out | apply below_alloc | apply pw_below_drewN | apply below_drew1) | exact HB.out))) : w.heap.size ≤ gb489)); have n3_:=zx ((by rw [hg]; exact (below_size (by repeat (first | (with_reducible first | exact HB.out | apply below_alloc | apply pw_below_drewN | apply below_drew1) | exact HB.out))) : w.heap.size ≤ gb489)); clear HB; have HB:=n0_; have BK489:=n1_; have GW489:=n2_; have GE489:=n3_; clear n0_ n1_ n2_ n3_; clear hb hbox hg; have hcz23_0 : w22.cell? ⟨gb489,0,none⟩ = some (.int .i64 a0_0):=(blk_cell BK489.out 0).trans rfl; have hcz23_1 : w22.cell? ⟨gb489,1,none⟩ = some (.slice A0_1 l0_1.length c0_1):=(blk_cell BK489.out 1).trans rfl; have hfz23_0:=blk_frozen BK489.out 0; have hfz23_1:=blk_frozen BK489.out 1) | ((with_reducible refine gate_callee (f:=13) rfl ?_); refine goesL_ (some 28) rfl rfl Try.func13 (by kernel_rfl) rfl #[.agg #[.int .i64 a0_0,.slice A0_1 l0_1.length c0_1],.int .i64 1048576] rfl (by (try simp only [List.map_toArray,List.map_cons,List.map_nil]); first | done | rfl | (simp only [List.length_drop,List.length_take]; rfl)) ?_; (with_reducible refine (laws_szNet.calls a0_0 _ _ l0_1 1048576 t490 _ ?side1 ?side2 A8.out).mono ?_); (case side1 => repeat (first | exact (Kd.C_below HR0_1.out HB.out) | (with_reducible refine Kd.C_alloc ?_ _) | (with_reducible refine Kd.C_drewN ?_ _) | (with_reducible refine Kd.C_drew ?_))); (case side2 => exact HC0_1.out); rintro e w24 ⟨rfl,hb⟩; refine ⟨_,rfl,?_⟩; have n0_:=zx (blk_below (g:=gb489) (o:=.cells #[.int .i64 a0_0,.slice A0_1 l0_1.length c0_1] 36 (0,0)) (by (with_reducible repeat (first | refine blk_drewN ?_ _ | refine blk_drew ?_ | refine blk_alloc ?_ _)); exact BK489.out) hb); have n1_:=zx (below_step (by repeat (first | (with_reducible first | exact HB.out | apply below_alloc | apply pw_below_drewN | apply below_drew1 | refine below_set ?_ GE489.out) | exact HB.out)) hb); clear BK489; clear HB; have BK489:=n0_; have HB:=n1_; clear n0_ n1_; (try clear hb); (try clear hb2); (try clear hk); (try clear hi); have hcz25_0 : w24.cell? ⟨gb489,0,none⟩ = some (.int .i64 a0_0):=(blk_cell BK489.out 0).trans rfl; have hcz25_1 : w24.cell? ⟨gb489,1,none⟩ = some (.slice A0_1 l0_1.length c0_1):=(blk_cell BK489.out 1).trans rfl; have hfz25_0:=blk_frozen BK489.out 0; have hfz25_1:=blk_frozen BK489.out 1) | ((with_reducible refine gate_callee (f:=14) rfl ?_); refine goesL_ (some 33) rfl rfl Try.func14 (by kernel_rfl) rfl #[.agg #[.int .i64 a0_0,.slice A0_1 l0_1.length c0_1]] rfl (by (try simp only [List.map_toArray,List.map_cons,List.map_nil]); first | done | rfl | (simp only [List.length_drop,List.length_take]; rfl)) ?_; (with_reducible refine (laws_toNet.calls k a0_0 _ _ l0_1 t491 t492 _ ?side1 ?side2 A13.out).mono ?_); (case side1 => repeat (first | exact (Kd.C_below HR0_1.out HB.out) | (with_reducible refine Kd.C_alloc ?_ _) | (with_reducible refine Kd.C_drewN ?_ _) | (with_reducible refine Kd.C_drew ?_))); (case side2 => exact HC0_1.out); rintro e w26 ⟨v493,rfl,ho0,hb⟩; refine ⟨_,rfl,?_⟩; have n0_:=zx (Kd.R_lower ho0 (below_size (by repeat (first | (with_reducible first | exact HB.out | apply below_alloc | apply pw_below_drewN | apply below_drew1 | refine below_set ?_ GE489.out) | exact HB.out)))); have n1_:=zx (blk_below (g:=gb489) (o:=.cells #[.int .i64 a0_0,.slice A0_1 l0_1.length c0_1] 36 (0,0)) (by (with_reducible repeat (first | refine blk_drewN ?_ _ | refine blk_drew ?_ | refine blk_alloc ?_ _)); exact BK489.out) hb); have n2_:=zx (below_step (by repeat (first | (with_reducible first | exact HB.out | apply below_alloc | apply pw_below_drewN | apply below_drew1 | refine below_set ?_ GE489.out) | exact HB.out)) hb); clear BK489; clear HB; have HO494:=n0_; have BK489:=n1_; have HB:=n2_; clear n0_ n1_ n2_; (try clear hb); (try clear hb2); (try clear hk); (try clear hi); (try clear ho0)) | ((with_reducible refine gate_callee (f:=15) rfl ?_); refine goesL_ (some 35) rfl rfl Try.func15 (by kernel_rfl) rfl #[.slice A1 l1.length c1] rfl (by (try simp only [List.map_toArray,List.map_cons,List.map_nil]); first | done | rfl | (simp only [List.length_drop,List.length_take]; rfl)) ?_; (with_reducible refine (laws_toIntS.calls k _ _ l1 t495 _ ?side1 ?side2 A14.out).mono ?_); (case side1 => repeat (first | exact (Kd.C_below HR1.out HB.out) | (with_reducible refine Kd.C_alloc ?_ _) | (with_reducible refine Kd.C_drewN ?_ _) | (with_reducible refine Kd.C_drew ?_))); (case side2 => exact HC1.out); rintro e w27 ⟨v496,rfl,ho0,hb⟩; refine ⟨_,rfl,?_⟩; have n0_:=zx (Kd.R_below (by (with_reducible repeat (first | apply Kd.R_alloc | apply Kd.R_drewN | apply Kd.R_drew)); exact HO494.out) hb); have n1_:=zx (Kd.R_lower ho0 (below_size (by repeat (first | (with_reducible first | exact HB.out | apply below_alloc | apply pw_below_drewN | apply below_drew1 | refine below_set ?_ GE489.out) | exact HB.out)))); have n2_:=zx (blk_below (g:=gb489) (o:=.cells #[.int .i64 a0_0,.slice A0_1 l0_1.length c0_1] 36 (0,0)) (by (with_reducible repeat (first | refine blk_drewN ?_ _ | refine blk_drew ?_ | refine blk_alloc ?_ _)); exact BK489.out) hb); have n3_:=zx (below_step (by repeat (first | (with_reducible first | exact HB.out | apply below_alloc | apply pw_below_drewN | apply below_drew1 | refine below_set ?_ GE489.out) | exact HB.out)) hb); clear HO494; clear BK489; clear HB; have HO494:=n0_; have HO497:=n1_; have BK489:=n2_; have HB:=n3_; clear n0_ n1_ n2_ n3_; (try clear hb); (try clear hb2); (try clear hk); (try clear hi); (try clear ho0)) | ((with_reducible refine gate_callee (f:=15) rfl ?_); refine goesL_ (some 37) rfl rfl Try.func15 (by kernel_rfl) rfl #[.slice A2 l2.length c2] rfl (by (try simp only [List.map_toArray,List.map_cons,List.map_nil]); first | done | rfl | (simp only [List.length_drop,List.length_take]; rfl)) ?_; (with_reducible refine (laws_toIntS.calls k _ _ l2 t498 _ ?side1 ?side2 A15.out).mono ?_); (case side1 => repeat (first | exact (Kd.C_below HR2.out HB.out) | (with_reducible refine Kd.C_alloc ?_ _) | (with_reducible refine Kd.C_drewN ?_ _) | (with_reducible refine Kd.C_drew ?_))); (case side2 => exact HC2.out); rintro e w28 ⟨v499,rfl,ho0,hb⟩; refine ⟨_,rfl,?_⟩; have n0_:=zx (Kd.R_below (by (with_reducible repeat (first | apply Kd.R_alloc | apply Kd.R_drewN | apply Kd.R_drew)); exact HO494.out) hb); have n1_:=zx (Kd.R_elder' (by (with_reducible repeat (first | apply Kd.R_alloc | apply Kd.R_drewN | apply Kd.R_drew)); exact HO497.out) (Kd.R_base ho0) hb); have n2_:=zx (Kd.R_lower (Kd.R_new' ho0 (Kd.R_lt (by (with_reducible repeat (first | apply Kd.R_alloc | apply Kd.R_drewN | apply Kd.R_drew)); exact HO497.out))) (below_size (by repeat (first | (with_reducible first | exact HB.out | apply below_alloc | apply pw_below_drewN | apply below_drew1 | refine below_set ?_ GE489.out) | exact HB.out)))); have n3_:=zx (blk_below (g:=gb489) (o:=.cells #[.int .i64 a0_0,.slice A0_1 l0_1.length c0_1] 36 (0,0)) (by (with_reducible repeat (first | refine blk_drewN ?_ _ | refine blk_drew ?_ | refine blk_alloc ?_ _)); exact BK489.out) hb); have n4_:=zx (below_step (by repeat (first | (with_reducible first | exact HB.out | apply below_alloc | apply pw_below_drewN | apply below_drew1 | refine below_set ?_ GE489.out) | exact HB.out)) hb); clear HO494; clear HO497; clear BK489; clear HB; have HO494:=n0_; have HO497:=n1_; have HO500:=n2_; have BK489:=n3_; have HB:=n4_; clear n0_ n1_ n2_ n3_ n4_; (try clear hb); (try clear hb2); (try clear hk); (try clear hi); (try clear ho0); obtain ⟨Ao29,co29,eo29⟩:=Kd.R_slice HO494.out; subst eo29; obtain ⟨Ao30,co30,eo30⟩:=Kd.R_slice HO497.out; subst eo30; obtain ⟨Ao31,co31,eo31⟩:=Kd.R_slice HO500.out; subst eo31) | ((with_reducible refine gate_callee (f:=10) rfl ?_); refine goesL_ (some 38) rfl rfl Try.func10 (by kernel_rfl) rfl #[.agg #[.int .i64 t491,.slice Ao29 t492.length co29],.slice Ao30 t495.length co30,.slice Ao31 t498.length co31] rfl (by (try simp only [List.map_toArray,List.map_cons,List.map_nil]); first | done | rfl | (simp only [List.length_drop,List.length_take]; rfl)) ?_; (with_reducible refine (spec_JobBest.calls k t491 _ _ t492 _ _ t495 _ _ t498 t501 t504 _ ?side1 ?side2 ?side3 ?side4 ?side5 ?side6 A16.out).mono ?_); (case side1 => repeat (first | exact (Kd.R_reads' HO494.out).2.2 | (with_reducible refine Kd.C_alloc ?_ _) | (with_reducible refine Kd.C_drewN ?_ _) | (with_reducible refine Kd.C_drew ?_))); (case side2 => exact (Kd.R_reads' HO494.out).2.1); (case side3 => repeat (first | exact (Kd.R_reads' HO497.out).2.2 | (with_reducible refine Kd.C_alloc ?_ _) | (with_reducible refine Kd.C_drewN ?_ _) | (with_reducible refine Kd.C_drew ?_))); (case side4 => exact (Kd.R_reads' HO497.out).2.1); (case side5 => repeat (first | exact (Kd.R_reads' HO500.out).2.2 | (with_reducible refine Kd.C_alloc ?_ _) | (with_reducible refine Kd.C_drewN ?_ _) | (with_reducible refine Kd.C_drew ?_))); (case side6 => exact (Kd.R_reads' HO500.out).2.1); rintro e w32 ⟨v502,rfl,ho0,hb⟩; refine ⟨_,rfl,?_⟩; have n0_:=zx (Kd.R_below (by (with_reducible repeat (first | apply Kd.R_alloc | apply Kd.R_drewN | apply Kd.R_drew)); exact HO494.out) hb); have n1_:=zx (Kd.R_below (by (with_reducible repeat (first | apply Kd.R_alloc | apply Kd.R_drewN | apply Kd.R_drew)); exact HO497.out) hb); have n2_:=zx (Kd.R_below (by (with_reducible repeat (first | apply Kd.R_alloc | apply Kd.R_drewN | apply Kd.R_drew)); exact HO500.out) hb); have n3_:=zx (Kd.V_lower (Kd.V_mono (ok':=fun k_ => some k_ ≠ (.slice Ao29 t492.length co29 : Value).ownBlock ∧ some k_ ≠ (.slice Ao30 t495.length co30 : Value).ownBlock ∧ some k_ ≠ (.slice Ao31 t498.length co31 : Value).ownBlock ∧ k_ ≠ gb489) ho0 (fun k_ hk_ => ⟨(Kd.fresh' (Kd.R_lt (by (with_reducible repeat (first | apply Kd.R_alloc | apply Kd.R_drewN | apply Kd.R_drew)); exact HO494.out)) k_ hk_),(Kd.fresh' (Kd.R_lt (by (with_reducible repeat (first | apply Kd.R_alloc | apply Kd.R_drewN | apply Kd.R_drew)); exact HO497.out)) k_ hk_),(Kd.fresh' (Kd.R_lt (by (with_reducible repeat (first | apply Kd.R_alloc | apply Kd.R_drewN | apply Kd.R_drew)); exact HO500.out)) k_ hk_),(Kd.freshB (g:=gb489) (o:=.cells #[.int .i64 a0_0,.slice A0_1 l0_1.length c0_1] 36 (0,0)) (by (with_reducible repeat (first | refine blk_drewN ?_ _ | refine blk_drew ?_ | refine blk_alloc ?_ _)); exact BK489.out) k_ hk_)⟩)) (below_size (by repeat (first | (with_reducible first | exact HB.out | apply below_alloc | apply pw_below_drewN | apply below_drew1 | refine below_set ?_ GE489.out) | exact HB.out)))); have n4_:=zx (blk_below (g:=gb489) (o:=.cells #[.int .i64 a0_0,.slice A0_1 l0_1.length c0_1] 36 (0,0)) (by (with_reducible repeat (first | refine blk_drewN ?_ _ | refine blk_drew ?_ | refine blk_alloc ?_ _)); exact BK489.out) hb); have n5_:=zx (below_step (by repeat (first | (with_reducible first | exact HB.out | apply below_alloc | apply pw_below_drewN | apply below_drew1 | refine below_set ?_ GE489.out) | exact HB.out)) hb); clear HO494; clear HO497; clear HO500; clear BK489; clear HB; have HO494:=n0_; have HO497:=n1_; have HO500:=n2_; have HO503:=n3_; have BK489:=n4_; have HB:=n5_; clear n0_ n1_ n2_ n3_ n4_ n5_; (try clear hb); (try clear hb2); (try clear hk); (try clear hi); (try clear ho0); have hcz33_0 : w32.cell? ⟨gb489,0,none⟩ = some (.int .i64 a0_0):=(blk_cell BK489.out 0).trans rfl; have hcz33_1 : w32.cell? ⟨gb489,1,none⟩ = some (.slice A0_1 l0_1.length c0_1):=(blk_cell BK489.out 1).trans rfl; have hfz33_0:=blk_frozen BK489.out 0; have hfz33_1:=blk_frozen BK489.out 1) | ((with_reducible refine gate_callee (f:=14) rfl ?_); refine goesL_ (some 42) rfl rfl Try.func14 (by kernel_rfl) rfl #[.agg #[.int .i64 a0_0,.slice A0_1 l0_1.length c0_1]] rfl (by (try simp only [List.map_toArray,List.map_cons,List.map_nil]); first | done | rfl | (simp only [List.length_drop,List.length_take]; rfl)) ?_; (with_reducible refine (laws_toNet.calls k a0_0 _ _ l0_1 t505 t506 _ ?side1 ?side2 A17.out).mono ?_); (case side1 => repeat (first | exact (Kd.C_below HR0_1.out HB.out) | (with_reducible refine Kd.C_alloc ?_ _) | (with_reducible refine Kd.C_drewN ?_ _) | (with_reducible refine Kd.C_drew ?_))); (case side2 => exact HC0_1.out); rintro e w34 ⟨v507,rfl,ho0,hb⟩; refine ⟨_,rfl,?_⟩; have n0_:=zx (Kd.R_elder' (by (with_reducible repeat (first | apply Kd.R_alloc | apply Kd.R_drewN | apply Kd.R_drew)); exact HO494.out) (Kd.R_base ho0) hb); have n1_:=zx (Kd.R_below (by (with_reducible repeat (first | apply Kd.R_alloc | apply Kd.R_drewN | apply Kd.R_drew)); exact HO497.out) hb); have n2_:=zx (Kd.R_below (by (with_reducible repeat (first | apply Kd.R_alloc | apply Kd.R_drewN | apply Kd.R_drew)); exact HO500.out) hb); have n3_:=zx (Kd.V_elder' (by (with_reducible repeat (first | apply Kd.V_alloc | apply Kd.V_drewN | apply Kd.V_drew)); exact HO503.out) (Kd.R_base ho0) hb); have n4_:=zx (Kd.R_lower (Kd.R_new' ho0 (Kd.R_lt (by (with_reducible repeat (first | apply Kd.R_alloc | apply Kd.R_drewN | apply Kd.R_drew)); exact HO494.out))) (below_size (by repeat (first | (with_reducible first | exact HB.out | apply below_alloc | apply pw_below_drewN | apply below_drew1 | refine below_set ?_ GE489.out) | exact HB.out)))); have n5_:=zx (blk_below (g:=gb489) (o:=.cells #[.int .i64 a0_0,.slice A0_1 l0_1.length c0_1] 36 (0,0)) (by (with_reducible repeat (first | refine blk_drewN ?_ _ | refine blk_drew ?_ | refine blk_alloc ?_ _)); exact BK489.out) hb); have n6_:=zx (below_step (by repeat (first | (with_reducible first | exact HB.out | apply below_alloc | apply pw_below_drewN | apply below_drew1 | refine below_set ?_ GE489.out) | exact HB.out)) hb); clear HO494; clear HO497; clear HO500; clear HO503; clear BK489; clear HB; have HO494:=n0_; have HO497:=n1_; have HO500:=n2_; have HO503:=n3_; have HO508:=n4_; have BK489:=n5_; have HB:=n6_; clear n0_ n1_ n2_ n3_ n4_ n5_ n6_; (try clear hb); (try clear hb2); (try clear hk); (try clear hi); (try clear ho0)) | ((with_reducible refine gate_dst (N:=10) rfl ?_); refine box_event ?hg (N:=10) ?hd (cs:=#[.int .i64 0,.slice none 0 0]) (t:=25) ?hr ?_; (case hd => rfl); (case hg => rfl); (case hr => first | (go_simp; done) | (go_simp; rfl)); intro gb509 hg w35 hbox hb; have n0_:=zx (Kd.R_below (by (with_reducible repeat (first | apply Kd.R_alloc | apply Kd.R_drewN | apply Kd.R_drew)); exact HO494.out) hb); have n1_:=zx (Kd.R_below (by (with_reducible repeat (first | apply Kd.R_alloc | apply Kd.R_drewN | apply Kd.R_drew)); exact HO497.out) hb); have n2_:=zx (Kd.R_below (by (with_reducible repeat (first | apply Kd.R_alloc | apply Kd.R_drewN | apply Kd.R_drew)); exact HO500.out) hb); have n3_:=zx (Kd.V_below (Kd.V_elderB (by (with_reducible repeat (first | apply Kd.V_alloc | apply Kd.V_drewN | apply Kd.V_drew)); exact HO503.out) gb509 (Nat.le_of_eq hg.symm)) hb); have n4_:=zx (Kd.R_below (by (with_reducible repeat (first | apply Kd.R_alloc | apply Kd.R_drewN | apply Kd.R_drew)); exact HO508.out) hb); have n5_:=zx (blk_below (g:=gb489) (o:=.cells #[.int .i64 a0_0,.slice A0_1 l0_1.length c0_1] 36 (0,0)) (by (with_reducible repeat (first | refine blk_drewN ?_ _ | refine blk_drew ?_ | refine blk_alloc ?_ _)); exact BK489.out) hb); have n6_:=zx (below_step (by repeat (first | (with_reducible first | exact HB.out | apply below_alloc | apply pw_below_drewN | apply below_drew1 | refine below_set ?_ GE489.out) | exact HB.out)) hb); have n7_:=zx (hbox); have n8_:=zx ((by rw [hg]; exact (below_size (by repeat (first | (with_reducible first | exact HB.out | apply below_alloc | apply pw_below_drewN | apply below_drew1 | refine below_set ?_ GE489.out) | exact HB.out))) : w.heap.size ≤ gb509)); have n9_:=zx ((by rw [hg]; exact (below_size (by repeat (first | (with_reducible first | exact HB.out | apply below_alloc | apply pw_below_drewN | apply below_drew1 | refine below_set ?_ GE489.out) | exact HB.out))) : w.heap.size ≤ gb509)); have n10_:=zx ((by rw [hg]; exact Nat.ne_of_lt (blk_lt (g:=gb489) (o:=.cells #[.int .i64 a0_0,.slice A0_1 l0_1.length c0_1] 36 (0,0)) (by (with_reducible repeat (first | refine blk_drewN ?_ _ | refine blk_drew ?_ | refine blk_alloc ?_ _)); exact BK489.out)) : gb489 ≠ gb509)); have n11_:=zx ((by rw [hg]; exact Nat.ne_of_gt (blk_lt (g:=gb489) (o:=.cells #[.int .i64 a0_0,.slice A0_1 l0_1.length c0_1] 36 (0,0)) (by (with_reducible repeat (first | refine blk_drewN ?_ _ | refine blk_drew ?_ | refine blk_alloc ?_ _)); exact BK489.out)) : gb509 ≠ gb489)); clear HO494; clear HO497; clear HO500; clear HO503; clear HO508; clear BK489; clear HB; have HO494:=n0_; have HO497:=n1_; have HO500:=n2_; have HO503:=n3_; have HO508:=n4_; have BK489:=n5_; have HB:=n6_; have BK509:=n7_; have GW509:=n8_; have GE509:=n9_; have NB489_509:=n10_; have NB509_489:=n11_; clear n0_ n1_ n2_ n3_ n4_ n5_ n6_ n7_ n8_ n9_ n10_ n11_; clear hb hbox hg; have hnb36:=NB509_489.out; have hnc36:=NB489_509.out; have hcz37_0 : w35.cell? ⟨gb509,0,none⟩ = some (.int .i64 0):=(blk_cell BK509.out 0).trans rfl; have hcz37_1 : w35.cell? ⟨gb509,1,none⟩ = some (.slice none 0 0):=(blk_cell BK509.out 1).trans rfl; have hfz37_0:=blk_frozen BK509.out 0; have hfz37_1:=blk_frozen BK509.out 1; obtain ⟨Ao38,co38,eo38⟩:=Kd.R_slice HO508.out; subst eo38) | ((with_reducible refine gate_callee (f:=15) rfl ?_); refine goesL_ (some 44) rfl rfl Try.func15 (by kernel_rfl) rfl #[.slice A1 l1.length c1] rfl (by (try simp only [List.map_toArray,List.map_cons,List.map_nil]); first | done | rfl | (simp only [List.length_drop,List.length_take]; rfl)) ?_; (with_reducible refine (laws_toIntS.calls k _ _ l1 t510 _ ?side1 ?side2 A18.out).mono ?_); (case side1 => exact Kd.C_below HR1.out (by repeat (first | (with_reducible first | exact HB.out | apply below_alloc | apply pw_below_drewN | apply below_drew1 | refine below_set ?_ GE489.out | refine below_set ?_ GE509.out) | exact HB.out))); (case side2 => exact HC1.out); rintro e w39 ⟨v511,rfl,ho0,hb⟩; refine ⟨_,rfl,?_⟩; have n0_:=zx (Kd.R_below (by (with_reducible repeat (first | apply Kd.R_alloc | apply Kd.R_drewN | apply Kd.R_drew)); exact (Kd.R_mono (Kd.R_far (p:=⟨gb509,1,none⟩) (Kd.R_far (p:=⟨gb509,0,none⟩) (Kd.R_types HO494.out BK509.out (by decide)) (fun _ hk => hk.2) (.int .i64 t505)) (fun _ hk => hk.2) (.slice Ao38 t506.length co38)) (fun _ h_ => h_.1))) hb); have n1_:=zx (Kd.R_elder' (by (with_reducible repeat (first | apply Kd.R_alloc | apply Kd.R_drewN | apply Kd.R_drew)); exact (Kd.R_mono (Kd.R_far (p:=⟨gb509,1,none⟩) (Kd.R_far (p:=⟨gb509,0,none⟩) (Kd.R_types HO497.out BK509.out (by decide)) (fun _ hk => hk.2) (.int .i64 t505)) (fun _ hk => hk.2) (.slice Ao38 t506.length co38)) (fun _ h_ => h_.1))) (Kd.R_base ho0) hb); have n2_:=zx (Kd.R_elder' (by (with_reducible repeat (first | apply Kd.R_alloc | apply Kd.R_drewN | apply Kd.R_drew)); exact (Kd.R_mono (Kd.R_far (p:=⟨gb509,1,none⟩) (Kd.R_far (p:=⟨gb509,0,none⟩) (Kd.R_types HO500.out BK509.out (by decide)) (fun _ hk => hk.2) (.int .i64 t505)) (fun _ hk => hk.2) (.slice Ao38 t506.length co38)) (fun _ h_ => h_.1))) (Kd.R_base ho0) hb); have n3_:=zx (Kd.V_elder' (by (with_reducible repeat (first | apply Kd.V_alloc | apply Kd.V_drewN | apply Kd.V_drew)); exact (Kd.V_mono (Kd.V_far (p:=⟨gb509,1,none⟩) (Kd.V_far (p:=⟨gb509,0,none⟩) (Kd.V_mono HO503.out (fun k_ hk => (⟨hk,hk.2⟩ : _ ∧ k_ ≠ gb509))) (fun _ hk => hk.2) (.int .i64 t505)) (fun _ hk => hk.2) (.slice Ao38 t506.length co38)) (fun _ h_ => h_.1))) (Kd.R_base ho0) hb); have n4_:=zx (Kd.R_below (by (with_reducible repeat (first | apply Kd.R_alloc | apply Kd.R_drewN | apply Kd.R_drew)); exact (Kd.R_mono (Kd.R_far (p:=⟨gb509,1,none⟩) (Kd.R_far (p:=⟨gb509,0,none⟩) (Kd.R_types HO508.out BK509.out (by decide)) (fun _ hk => hk.2) (.int .i64 t505)) (fun _ hk => hk.2) (.slice Ao38 t506.length co38)) (fun _ h_ => h_.1))) hb); have n5_:=zx (Kd.R_lower (Kd.R_new' (Kd.R_new' ho0 (Kd.R_lt (by (with_reducible repeat (first | apply Kd.R_alloc | apply Kd.R_drewN | apply Kd.R_drew)); exact (Kd.R_mono (Kd.R_far (p:=⟨gb509,1,none⟩) (Kd.R_far (p:=⟨gb509,0,none⟩) (Kd.R_types HO497.out BK509.out (by decide)) (fun _ hk => hk.2) (.int .i64 t505)) (fun _ hk => hk.2) (.slice Ao38 t506.length co38)) (fun _ h_ => h_.1))))) (Kd.R_lt (by (with_reducible repeat (first | apply Kd.R_alloc | apply Kd.R_drewN | apply Kd.R_drew)); exact (Kd.R_mono (Kd.R_far (p:=⟨gb509,1,none⟩) (Kd.R_far (p:=⟨gb509,0,none⟩) (Kd.R_types HO500.out BK509.out (by decide)) (fun _ hk => hk.2) (.int .i64 t505)) (fun _ hk => hk.2) (.slice Ao38 t506.length co38)) (fun _ h_ => h_.1))))) (below_size (by repeat (first | (with_reducible first | exact HB.out | apply below_alloc | apply pw_below_drewN | apply below_drew1 | refine below_set ?_ GE489.out | refine below_set ?_ GE509.out) | exact HB.out)))); have n6_:=zx (blk_below (g:=gb489) (o:=.cells #[.int .i64 a0_0,.slice A0_1 l0_1.length c0_1] 36 (0,0)) (by (with_reducible repeat (first | refine blk_drewN ?_ _ | refine blk_drew ?_ | refine blk_alloc ?_ _)); refine blk_far ?_ NB489_509.out _; (with_reducible repeat (first | refine blk_drewN ?_ _ | refine blk_drew ?_ | refine blk_alloc ?_ _)); refine blk_far ?_ NB489_509.out _; (with_reducible repeat (first | refine blk_drewN ?_ _ | refine blk_drew ?_ | refine blk_alloc ?_ _)); exact BK489.out) hb); have n7_:=zx (blk_below (g:=gb509) (o:=.cells #[.int .i64 t505,.slice Ao38 t506.length co38] 25 (0,0)) (by (with_reducible repeat (first | refine blk_drewN ?_ _ | refine blk_drew ?_ | refine blk_alloc ?_ _)); refine blk_put (cs:=#[.int .i64 t505,.slice none 0 0]) ?_ 1 _ rfl; (with_reducible repeat (first | refine blk_drewN ?_ _ | refine blk_drew ?_ | refine blk_alloc ?_ _)); refine blk_put (cs:=#[.int .i64 0,.slice none 0 0]) ?_ 0 _ rfl; (with_reducible repeat (first | refine blk_drewN ?_ _ | refine blk_drew ?_ | refine blk_alloc ?_ _)); exact BK509.out) hb); have n8_:=zx (below_step (by repeat (first | (with_reducible first | exact HB.out | apply below_alloc | apply pw_below_drewN | apply below_drew1 | refine below_set ?_ GE489.out | refine below_set ?_ GE509.out) | exact HB.out)) hb); clear HO494; clear HO497; clear HO500; clear HO503; clear HO508; clear BK489; clear BK509; clear HB; have HO494:=n0_; have HO497:=n1_; have HO500:=n2_; have HO503:=n3_; have HO508:=n4_; have HO512:=n5_; have BK489:=n6_; have BK509:=n7_; have HB:=n8_; clear n0_ n1_ n2_ n3_ n4_ n5_ n6_ n7_ n8_; (try clear hb); (try clear hb2); (try clear hk); (try clear hi); (try clear ho0)) | ((with_reducible refine gate_callee (f:=15) rfl ?_); refine goesL_ (some 46) rfl rfl Try.func15 (by kernel_rfl) rfl #[.slice A2 l2.length c2] rfl (by (try simp only [List.map_toArray,List.map_cons,List.map_nil]); first | done | rfl | (simp only [List.length_drop,List.length_take]; rfl)) ?_; (with_reducible refine (laws_toIntS.calls k _ _ l2 t513 _ ?side1 ?side2 A19.out).mono ?_); (case side1 => repeat (first | exact (Kd.C_below HR2.out HB.out) | (with_reducible refine Kd.C_alloc ?_ _) | (with_reducible refine Kd.C_drewN ?_ _) | (with_reducible refine Kd.C_drew ?_))); (case side2 => exact HC2.out); rintro e w40 ⟨v514,rfl,ho0,hb⟩; refine ⟨_,rfl,?_⟩; have n0_:=zx (Kd.R_below (by (with_reducible repeat (first | apply Kd.R_alloc | apply Kd.R_drewN | apply Kd.R_drew)); exact HO494.out) hb); have n1_:=zx (Kd.R_elder' (by (with_reducible repeat (first | apply Kd.R_alloc | apply Kd.R_drewN | apply Kd.R_drew)); exact HO497.out) (Kd.R_base ho0) hb); have n2_:=zx (Kd.R_elder' (by (with_reducible repeat (first | apply Kd.R_alloc | apply Kd.R_drewN | apply Kd.R_drew)); exact HO500.out) (Kd.R_base ho0) hb); have n3_:=zx (Kd.V_elder' (by (with_reducible repeat (first | apply Kd.V_alloc | apply Kd.V_drewN | apply Kd.V_drew)); exact HO503.out) (Kd.R_base ho0) hb); have n4_:=zx (Kd.R_below (by (with_reducible repeat (first | apply Kd.R_alloc | apply Kd.R_drewN | apply Kd.R_drew)); exact HO508.out) hb); have n5_:=zx (Kd.R_elder' (by (with_reducible repeat (first | apply Kd.R_alloc | apply Kd.R_drewN | apply Kd.R_drew)); exact HO512.out) (Kd.R_base ho0) hb); have n6_:=zx (Kd.R_lower (Kd.R_new' (Kd.R_new' (Kd.R_new' ho0 (Kd.R_lt (by (with_reducible repeat (first | apply Kd.R_alloc | apply Kd.R_drewN | apply Kd.R_drew)); exact HO497.out))) (Kd.R_lt (by (with_reducible repeat (first | apply Kd.R_alloc | apply Kd.R_drewN | apply Kd.R_drew)); exact HO500.out))) (Kd.R_lt (by (with_reducible repeat (first | apply Kd.R_alloc | apply Kd.R_drewN | apply Kd.R_drew)); exact HO512.out))) (below_size (by repeat (first | (with_reducible first | exact HB.out | apply below_alloc | apply pw_below_drewN | apply below_drew1 | refine below_set ?_ GE489.out | refine below_set ?_ GE509.out) | exact HB.out)))); have n7_:=zx (blk_below (g:=gb489) (o:=.cells #[.int .i64 a0_0,.slice A0_1 l0_1.length c0_1] 36 (0,0)) (by (with_reducible repeat (first | refine blk_drewN ?_ _ | refine blk_drew ?_ | refine blk_alloc ?_ _)); exact BK489.out) hb); have n8_:=zx (blk_below (g:=gb509) (o:=.cells #[.int .i64 t505,.slice Ao38 t506.length co38] 25 (0,0)) (by (with_reducible repeat (first | refine blk_drewN ?_ _ | refine blk_drew ?_ | refine blk_alloc ?_ _)); exact BK509.out) hb); have n9_:=zx (below_step (by repeat (first | (with_reducible first | exact HB.out | apply below_alloc | apply pw_below_drewN | apply below_drew1 | refine below_set ?_ GE489.out | refine below_set ?_ GE509.out) | exact HB.out)) hb); clear HO494; clear HO497; clear HO500; clear HO503; clear HO508; clear HO512; clear BK489; clear BK509; clear HB; have HO494:=n0_; have HO497:=n1_; have HO500:=n2_; have HO503:=n3_; have HO508:=n4_; have HO512:=n5_; have HO515:=n6_; have BK489:=n7_; have BK509:=n8_; have HB:=n9_; clear n0_ n1_ n2_ n3_ n4_ n5_ n6_ n7_ n8_ n9_; (try clear hb); (try clear hb2); (try clear hk); (try clear hi); (try clear ho0); have hcz41_0 : w40.cell? ⟨gb509,0,none⟩ = some (.int .i64 t505):=(blk_cell BK509.out 0).trans rfl; have hcz41_1 : w40.cell? ⟨gb509,1,none⟩ = some (.slice Ao38 t506.length co38):=(blk_cell BK509.out 1).trans rfl; have hfz41_0:=blk_frozen BK509.out 0; have hfz41_1:=blk_frozen BK509.out 1; obtain ⟨Ao42,co42,eo42⟩:=Kd.R_slice HO512.out; subst eo42; obtain ⟨Ao43,co43,eo43⟩:=Kd.R_slice HO515.out; subst eo43) | ((with_reducible refine gate_callee (f:=9) rfl ?_); refine goesL_ (some 51) rfl rfl Try.func9 (by kernel_rfl) rfl #[.agg #[.int .i64 t505,.slice Ao38 t506.length co38],.slice Ao42 t510.length co42,.slice Ao43 t513.length co43] rfl (by (try simp only [List.map_toArray,List.map_cons,List.map_nil]); first | done | rfl | (simp only [List.length_drop,List.length_take]; rfl)) ?_; (with_reducible refine (impl_JobBest.calls k t505 _ _ t506 _ _ t510 _ _ t513 t516 t519 _ ?side1 ?side2 ?side3 ?side4 ?side5 ?side6 A20.out).mono ?_); (case side1 => repeat (first | exact (Kd.R_reads' HO508.out).2.2 | (with_reducible refine Kd.C_alloc ?_ _) | (with_reducible refine Kd.C_drewN ?_ _) | (with_reducible refine Kd.C_drew ?_))); (case side2 => exact (Kd.R_reads' HO508.out).2.1); (case side3 => repeat (first | exact (Kd.R_reads' HO512.out).2.2 | (with_reducible refine Kd.C_alloc ?_ _) | (with_reducible refine Kd.C_drewN ?_ _) | (with_reducible refine Kd.C_drew ?_))); (case side4 => exact (Kd.R_reads' HO512.out).2.1); (case side5 => repeat (first | exact (Kd.R_reads' HO515.out).2.2 | (with_reducible refine Kd.C_alloc ?_ _) | (with_reducible refine Kd.C_drewN ?_ _) | (with_reducible refine Kd.C_drew ?_))); (case side6 => exact (Kd.R_reads' HO515.out).2.1); rintro e w44 ⟨v517,rfl,ho0,hb⟩; refine ⟨_,rfl,?_⟩; have n0_:=zx (Kd.R_below (by (with_reducible repeat (first | apply Kd.R_alloc | apply Kd.R_drewN | apply Kd.R_drew)); exact HO494.out) hb); have n1_:=zx (Kd.R_elder' (by (with_reducible repeat (first | apply Kd.R_alloc | apply Kd.R_drewN | apply Kd.R_drew)); exact HO497.out) (Kd.R_base ho0) hb); have n2_:=zx (Kd.R_elder' (by (with_reducible repeat (first | apply Kd.R_alloc | apply Kd.R_drewN | apply Kd.R_drew)); exact HO500.out) (Kd.R_base ho0) hb); have n3_:=zx (Kd.V_elder' (by (with_reducible repeat (first | apply Kd.V_alloc | apply Kd.V_drewN | apply Kd.V_drew)); exact HO503.out) (Kd.R_base ho0) hb); have n4_:=zx (Kd.R_below (by (with_reducible repeat (first | apply Kd.R_alloc | apply Kd.R_drewN | apply Kd.R_drew)); exact HO508.out) hb); have n5_:=zx (Kd.R_elder' (by (with_reducible repeat (first | apply Kd.R_alloc | apply Kd.R_drewN | apply Kd.R_drew)); exact HO512.out) (Kd.R_base ho0) hb); have n6_:=zx (Kd.R_elder' (by (with_reducible repeat (first | apply Kd.R_alloc | apply Kd.R_drewN | apply Kd.R_drew)); exact HO515.out) (Kd.R_base ho0) hb); have n7_:=zx (Kd.R_lower (Kd.R_new' (Kd.R_new' (Kd.R_new' (Kd.R_new' ho0 (Kd.R_lt (by (with_reducible repeat (first | apply Kd.R_alloc | apply Kd.R_drewN | apply Kd.R_drew)); exact HO497.out))) (Kd.R_lt (by (with_reducible repeat (first | apply Kd.R_alloc | apply Kd.R_drewN | apply Kd.R_drew)); exact HO500.out))) (Kd.R_lt (by (with_reducible repeat (first | apply Kd.R_alloc | apply Kd.R_drewN | apply Kd.R_drew)); exact HO512.out))) (Kd.R_lt (by (with_reducible repeat (first | apply Kd.R_alloc | apply Kd.R_drewN | apply Kd.R_drew)); exact HO515.out))) (below_size (by repeat (first | (with_reducible first | exact HB.out | apply below_alloc | apply pw_below_drewN | apply below_drew1 | refine below_set ?_ GE489.out | refine below_set ?_ GE509.out) | exact HB.out)))); have n8_:=zx (blk_below (g:=gb489) (o:=.cells #[.int .i64 a0_0,.slice A0_1 l0_1.length c0_1] 36 (0,0)) (by (with_reducible repeat (first | refine blk_drewN ?_ _ | refine blk_drew ?_ | refine blk_alloc ?_ _)); exact BK489.out) hb); have n9_:=zx (blk_below (g:=gb509) (o:=.cells #[.int .i64 t505,.slice Ao38 t506.length co38] 25 (0,0)) (by (with_reducible repeat (first | refine blk_drewN ?_ _ | refine blk_drew ?_ | refine blk_alloc ?_ _)); exact BK509.out) hb); have n10_:=zx (below_step (by repeat (first | (with_reducible first | exact HB.out | apply below_alloc | apply pw_below_drewN | apply below_drew1 | refine below_set ?_ GE489.out | refine below_set ?_ GE509.out) | exact HB.out)) hb); clear HO494; clear HO497; clear HO500; clear HO503; clear HO508; clear HO512; clear HO515; clear BK489; clear BK509; clear HB; have HO494:=n0_; have HO497:=n1_; have HO500:=n2_; have HO503:=n3_; have HO508:=n4_; have HO512:=n5_; have HO515:=n6_; have HO518:=n7_; have BK489:=n8_; have BK509:=n9_; have HB:=n10_; clear n0_ n1_ n2_ n3_ n4_ n5_ n6_ n7_ n8_ n9_ n10_; (try clear hb); (try clear hb2); (try clear hk); (try clear hi); (try clear ho0)))
 (try simp only [Act.put,J,U,Z])
 go_cut [62] (fun v62 wc => ∃ (kq : Nat) (x62_20 : Bool),v62 = .bool x62_20 ∧ Aside0 (laws_FnExactJobBest.j0 kq l1 l2 t501 t504 t510 t513 t516 t519 x62_20 a0_0 l0_1 t505 t506 = some r) ∧ Aside0 (kq ≤ k) ∧ Aside0 (Kd.V (Kd.int .i64) 3 wc w.heap.size (fun k_ => some k_ ≠ ((.slice Ao42 t510.length co42) : Value).ownBlock ∧ some k_ ≠ ((.slice Ao43 t513.length co43) : Value).ownBlock ∧ some k_ ≠ (v517 : Value).ownBlock ∧ some k_ ≠ ((.slice Ao38 t506.length co38) : Value).ownBlock ∧ k_ ≠ gb489 ∧ k_ ≠ gb509) v502 t501) ∧ Aside0 (Kd.R (Kd.int .i64) 3 wc w.heap.size (fun k_ => some k_ ≠ ((.slice Ao43 t513.length co43) : Value).ownBlock ∧ some k_ ≠ (v517 : Value).ownBlock) (.slice Ao42 t510.length co42) t510) ∧ Aside0 (Kd.R (Kd.int .i64) 3 wc w.heap.size (fun k_ => some k_ ≠ ((.slice Ao42 t510.length co42) : Value).ownBlock ∧ some k_ ≠ (v517 : Value).ownBlock) (.slice Ao43 t513.length co43) t513) ∧ Aside0 (Kd.R (Kd.int .i64) 3 wc w.heap.size (fun k_ => some k_ ≠ ((.slice Ao42 t510.length co42) : Value).ownBlock ∧ some k_ ≠ ((.slice Ao43 t513.length co43) : Value).ownBlock) v517 t516) ∧ Aside0 (Kd.R k80 80 wc w.heap.size (fun _ => True) (.slice Ao38 t506.length co38) t506) ∧ Aside0 (wc.heap[gb489]? = some (.cells #[.int .i64 a0_0,(.slice A0_1 l0_1.length c0_1)] 36 (0,0))) ∧ Aside0 (wc.heap[gb509]? = some (.cells #[.int .i64 t505,(.slice Ao38 t506.length co38)] 25 (0,0))) ∧ Aside0 (Below w.heap.size w wc))
 case first =>
  have H:=HC21.out;clear HC21;replace H:=Option.bind_eq_some_iff.mp H;obtain ⟨t520,A450,H⟩:=H;replace H : (if t520 = true then (laws_FnExactJobBest.j0 k l1 l2 t501 t504 t510 t513 t516 t519 (t519 != t504) a0_0 l0_1 t505 t506) else (laws_FnExactJobBest.j0 k l1 l2 t501 t504 t510 t513 t516 t519 true a0_0 l0_1 t505 t506)) = some r:=H;have A45:=zx A450;clear A450
  by_cases c46 : t520 = true
  case pos =>
   subst c46;have H1 : (laws_FnExactJobBest.j0 k l1 l2 t501 t504 t510 t513 t516 t519 (t519 != t504) a0_0 l0_1 t505 t506) = some r:=by rw [if_pos rfl] at H; exact H
   clear H;have H:=H1;clear H1;have H':=zx H;clear H;obtain ⟨Ao47,co47,eo47⟩:=Kd.R_slice HO518.out;subst eo47;obtain ⟨Ao48,co48,eo48⟩:=Kd.V_slice HO503.out;subst eo48
   go_wp2_with (first | ((with_reducible refine gate_callee (f:=16) rfl ?_); refine goesL_ (some 56) rfl rfl Try.func16 (by kernel_rfl) rfl #[.slice Ao47 t516.length co47,.slice Ao48 t501.length co48] rfl (by (try simp only [List.map_toArray,List.map_cons,List.map_nil]); first | done | rfl | (simp only [List.length_drop,List.length_take]; rfl)) ?_; (with_reducible refine (laws_eqIntS.calls k _ _ t516 _ _ t501 true _ ?side1 ?side2 ?side3 ?side4 A45.out).mono ?_); (case side1 => repeat (first | exact (Kd.R_reads' HO518.out).2.2 | (with_reducible refine Kd.C_alloc ?_ _) | (with_reducible refine Kd.C_drewN ?_ _) | (with_reducible refine Kd.C_drew ?_))); (case side2 => exact (Kd.R_reads' HO518.out).2.1); (case side3 => repeat (first | exact (Kd.V_reads' HO503.out).2.2 | (with_reducible refine Kd.C_alloc ?_ _) | (with_reducible refine Kd.C_drewN ?_ _) | (with_reducible refine Kd.C_drew ?_))); (case side4 => exact (Kd.V_reads' HO503.out).2.1); rintro e w' ⟨rfl,⟨nd,rfl⟩⟩; refine ⟨_,rfl,?_⟩))
   go_meet
   case rel => exact ⟨_,((t519 != t504)),(by first | rfl | (simp; done) | (simp [*]; done)),H',⟨by first | omega | exact Nat.le_refl _⟩,⟨by (with_reducible repeat (first | apply Kd.V_alloc | apply Kd.V_drewN | apply Kd.V_drew)); exact Kd.V_mono HO503.out (fun _ hk => ⟨hk.1.1.2,⟨hk.1.2,⟨hk.2,⟨hk.1.1.1.1.2,⟨hk.1.1.1.1.1.2.2.2,hk.1.1.1.2⟩⟩⟩⟩⟩)⟩,⟨by (with_reducible repeat (first | apply Kd.R_alloc | apply Kd.R_drewN | apply Kd.R_drew)); exact Kd.R_mono HO512.out (fun _ hk => ⟨hk.1.2,hk.2⟩)⟩,⟨by (with_reducible repeat (first | apply Kd.R_alloc | apply Kd.R_drewN | apply Kd.R_drew)); exact Kd.R_mono HO515.out (fun _ hk => ⟨hk.1.2,hk.2⟩)⟩,⟨by (with_reducible repeat (first | apply Kd.R_alloc | apply Kd.R_drewN | apply Kd.R_drew)); exact Kd.R_mono HO518.out (fun _ hk => ⟨hk.1.2,hk.2⟩)⟩,⟨by (with_reducible repeat (first | apply Kd.R_alloc | apply Kd.R_drewN | apply Kd.R_drew)); exact Kd.R_mono HO508.out (fun _ hk => trivial)⟩,⟨by (with_reducible repeat (first | refine blk_drewN ?_ _ | refine blk_drew ?_ | refine blk_alloc ?_ _)); exact BK489.out⟩,⟨by (with_reducible repeat (first | refine blk_drewN ?_ _ | refine blk_drew ?_ | refine blk_alloc ?_ _)); exact BK509.out⟩,⟨by repeat (first | (with_reducible first | exact HB.out | apply below_alloc | apply pw_below_drewN | apply below_drew1 | refine below_set ?_ GE489.out | refine below_set ?_ GE509.out) | exact HB.out)⟩⟩
  replace c46:=Bool.eq_false_iff.mpr c46;subst c46;have H1 : (laws_FnExactJobBest.j0 k l1 l2 t501 t504 t510 t513 t516 t519 true a0_0 l0_1 t505 t506) = some r:=by rw [if_neg (show ¬ (false = true) by decide)] at H; exact H
  clear H;have H:=H1;clear H1;have H':=zx H;clear H;obtain ⟨Ao49,co49,eo49⟩:=Kd.R_slice HO518.out;subst eo49;obtain ⟨Ao50,co50,eo50⟩:=Kd.V_slice HO503.out;subst eo50
  go_wp2_with (first | ((with_reducible refine gate_callee (f:=16) rfl ?_); refine goesL_ (some 56) rfl rfl Try.func16 (by kernel_rfl) rfl #[.slice Ao49 t516.length co49,.slice Ao50 t501.length co50] rfl (by (try simp only [List.map_toArray,List.map_cons,List.map_nil]); first | done | rfl | (simp only [List.length_drop,List.length_take]; rfl)) ?_; (with_reducible refine (laws_eqIntS.calls k _ _ t516 _ _ t501 false _ ?side1 ?side2 ?side3 ?side4 A45.out).mono ?_); (case side1 => repeat (first | exact (Kd.R_reads' HO518.out).2.2 | (with_reducible refine Kd.C_alloc ?_ _) | (with_reducible refine Kd.C_drewN ?_ _) | (with_reducible refine Kd.C_drew ?_))); (case side2 => exact (Kd.R_reads' HO518.out).2.1); (case side3 => repeat (first | exact (Kd.V_reads' HO503.out).2.2 | (with_reducible refine Kd.C_alloc ?_ _) | (with_reducible refine Kd.C_drewN ?_ _) | (with_reducible refine Kd.C_drew ?_))); (case side4 => exact (Kd.V_reads' HO503.out).2.1); rintro e w' ⟨rfl,⟨nd,rfl⟩⟩; refine ⟨_,rfl,?_⟩))
  go_meet
  case rel => exact ⟨_,(true),(by first | rfl | (simp; done) | (simp [*]; done)),H',⟨by first | omega | exact Nat.le_refl _⟩,⟨by (with_reducible repeat (first | apply Kd.V_alloc | apply Kd.V_drewN | apply Kd.V_drew)); exact Kd.V_mono HO503.out (fun _ hk => ⟨hk.1.1.2,⟨hk.1.2,⟨hk.2,⟨hk.1.1.1.1.2,⟨hk.1.1.1.1.1.2.2.2,hk.1.1.1.2⟩⟩⟩⟩⟩)⟩,⟨by (with_reducible repeat (first | apply Kd.R_alloc | apply Kd.R_drewN | apply Kd.R_drew)); exact Kd.R_mono HO512.out (fun _ hk => ⟨hk.1.2,hk.2⟩)⟩,⟨by (with_reducible repeat (first | apply Kd.R_alloc | apply Kd.R_drewN | apply Kd.R_drew)); exact Kd.R_mono HO515.out (fun _ hk => ⟨hk.1.2,hk.2⟩)⟩,⟨by (with_reducible repeat (first | apply Kd.R_alloc | apply Kd.R_drewN | apply Kd.R_drew)); exact Kd.R_mono HO518.out (fun _ hk => ⟨hk.1.2,hk.2⟩)⟩,⟨by (with_reducible repeat (first | apply Kd.R_alloc | apply Kd.R_drewN | apply Kd.R_drew)); exact Kd.R_mono HO508.out (fun _ hk => trivial)⟩,⟨by (with_reducible repeat (first | refine blk_drewN ?_ _ | refine blk_drew ?_ | refine blk_alloc ?_ _)); exact BK489.out⟩,⟨by (with_reducible repeat (first | refine blk_drewN ?_ _ | refine blk_drew ?_ | refine blk_alloc ?_ _)); exact BK509.out⟩,⟨by repeat (first | (with_reducible first | exact HB.out | apply below_alloc | apply pw_below_drewN | apply below_drew1 | refine below_set ?_ GE489.out | refine below_set ?_ GE509.out) | exact HB.out)⟩⟩
 case rest =>
  clear HC21
  try clear c1
  try clear c2
  try clear p2
  try clear c3
  try clear c4
  try clear c4b0
  try clear c4b1
  try clear c6
  try clear c6b0
  try clear c6b1
  try clear c9
  try clear c9b0
  try clear c10
  try clear c13
  try clear c14
  try clear c15
  try clear c16
  try clear c36
  try clear c46
  try clear hcz11_0
  try clear hcz11_1
  try clear hcz23_0
  try clear hcz23_1
  try clear hcz25_0
  try clear hcz25_1
  try clear hcz33_0
  try clear hcz33_1
  try clear hcz37_0
  try clear hcz37_1
  try clear hcz41_0
  try clear hcz41_1
  try clear hfz11_0
  try clear hfz11_1
  try clear hfz23_0
  try clear hfz23_1
  try clear hfz25_0
  try clear hfz25_1
  try clear hfz33_0
  try clear hfz33_1
  try clear hfz37_0
  try clear hfz37_1
  try clear hfz41_0
  try clear hfz41_1
  obtain ⟨kq,x62_20,rfl,HA,HJ20,HO_8,HO_11,HO_12,HO_13,HO_510001,BK489,BK509,HB⟩:=hcut;cases kq with
  | zero => exact absurd HA.out (by simp [laws_FnExactJobBest.j0])
  | succ kj20 =>
   have H:=HA.out;clear HA;simp only [laws_FnExactJobBest.j0] at H
   by_cases c51 : x62_20 = true
   case pos =>
    subst c51;have H1 : (some false) = some r:=by rw [if_pos rfl] at H; exact H
    exact absurd ((Option.some.inj H1).trans HRT_.out) (by decide)
   replace c51:=Bool.eq_false_iff.mpr c51;subst c51;have H1 : ((laws_toNet.f kj20 a0_0 l0_1).bind fun bt521 => ((laws_eqNet.f kj20 t505 t506 bt521.1 bt521.2).bind fun t525 => (if t525 = true then ((laws_toIntS.f kj20 l1).bind fun t526 => ((laws_eqIntS.f kj20 t510 t526).bind fun t529 => (if t529 = true then ((laws_toIntS.f kj20 l2).bind fun t530 => ((laws_eqIntS.f kj20 t513 t530).bind fun t533 => (if t533 = true then ((laws_markNet.f kj20 t505 t506 1).bind fun bt534 => ((laws_markIntS.f kj20 t510 bt534.1).bind fun bt536 => ((laws_markIntS.f kj20 t513 bt536.1).bind fun bt538 => (if bt538.1 < 0 then (laws_FnExactJobBest.j1 kj20 l1 l2 t501 t504 t516 true a0_0 l0_1) else ((laws_eqIntS.f kj20 t516 t501).bind fun t540 => (if t540 = true then (laws_FnExactJobBest.j1 kj20 l1 l2 t501 t504 t516 (t519 != t504) a0_0 l0_1) else (laws_FnExactJobBest.j1 kj20 l1 l2 t501 t504 t516 true a0_0 l0_1))))))) else (some false)))) else (some false)))) else (some false)))) = some r:=by rw [if_neg (show ¬ (false = true) by decide)] at H; exact H
   clear H;have H:=H1;clear H1;replace H:=Option.bind_eq_some_iff.mp H;obtain ⟨⟨t521,t522⟩,A520,H⟩:=H;replace H : ((laws_eqNet.f kj20 t505 t506 t521 t522).bind fun t525 => (if t525 = true then ((laws_toIntS.f kj20 l1).bind fun t526 => ((laws_eqIntS.f kj20 t510 t526).bind fun t529 => (if t529 = true then ((laws_toIntS.f kj20 l2).bind fun t530 => ((laws_eqIntS.f kj20 t513 t530).bind fun t533 => (if t533 = true then ((laws_markNet.f kj20 t505 t506 1).bind fun bt534 => ((laws_markIntS.f kj20 t510 bt534.1).bind fun bt536 => ((laws_markIntS.f kj20 t513 bt536.1).bind fun bt538 => (if bt538.1 < 0 then (laws_FnExactJobBest.j1 kj20 l1 l2 t501 t504 t516 true a0_0 l0_1) else ((laws_eqIntS.f kj20 t516 t501).bind fun t540 => (if t540 = true then (laws_FnExactJobBest.j1 kj20 l1 l2 t501 t504 t516 (t519 != t504) a0_0 l0_1) else (laws_FnExactJobBest.j1 kj20 l1 l2 t501 t504 t516 true a0_0 l0_1))))))) else (some false)))) else (some false)))) else (some false))) = some r:=H;have A52:=zx A520;clear A520;replace H:=Option.bind_eq_some_iff.mp H;obtain ⟨t525,A530,H⟩:=H;replace H : (if t525 = true then ((laws_toIntS.f kj20 l1).bind fun t526 => ((laws_eqIntS.f kj20 t510 t526).bind fun t529 => (if t529 = true then ((laws_toIntS.f kj20 l2).bind fun t530 => ((laws_eqIntS.f kj20 t513 t530).bind fun t533 => (if t533 = true then ((laws_markNet.f kj20 t505 t506 1).bind fun bt534 => ((laws_markIntS.f kj20 t510 bt534.1).bind fun bt536 => ((laws_markIntS.f kj20 t513 bt536.1).bind fun bt538 => (if bt538.1 < 0 then (laws_FnExactJobBest.j1 kj20 l1 l2 t501 t504 t516 true a0_0 l0_1) else ((laws_eqIntS.f kj20 t516 t501).bind fun t540 => (if t540 = true then (laws_FnExactJobBest.j1 kj20 l1 l2 t501 t504 t516 (t519 != t504) a0_0 l0_1) else (laws_FnExactJobBest.j1 kj20 l1 l2 t501 t504 t516 true a0_0 l0_1))))))) else (some false)))) else (some false)))) else (some false)) = some r:=H;have A53:=zx A530;clear A530
   by_cases c54 : t525 = true
   case neg =>
    replace c54:=Bool.eq_false_iff.mpr c54;subst c54;have H1 : (some false) = some r:=by rw [if_neg (show ¬ (false = true) by decide)] at H; exact H
    exact absurd ((Option.some.inj H1).trans HRT_.out) (by decide)
   subst c54;have H1 : ((laws_toIntS.f kj20 l1).bind fun t526 => ((laws_eqIntS.f kj20 t510 t526).bind fun t529 => (if t529 = true then ((laws_toIntS.f kj20 l2).bind fun t530 => ((laws_eqIntS.f kj20 t513 t530).bind fun t533 => (if t533 = true then ((laws_markNet.f kj20 t505 t506 1).bind fun bt534 => ((laws_markIntS.f kj20 t510 bt534.1).bind fun bt536 => ((laws_markIntS.f kj20 t513 bt536.1).bind fun bt538 => (if bt538.1 < 0 then (laws_FnExactJobBest.j1 kj20 l1 l2 t501 t504 t516 true a0_0 l0_1) else ((laws_eqIntS.f kj20 t516 t501).bind fun t540 => (if t540 = true then (laws_FnExactJobBest.j1 kj20 l1 l2 t501 t504 t516 (t519 != t504) a0_0 l0_1) else (laws_FnExactJobBest.j1 kj20 l1 l2 t501 t504 t516 true a0_0 l0_1))))))) else (some false)))) else (some false)))) = some r:=by rw [if_pos rfl] at H; exact H
   clear H;have H:=H1;clear H1;replace H:=Option.bind_eq_some_iff.mp H;obtain ⟨t526,A550,H⟩:=H;replace H : ((laws_eqIntS.f kj20 t510 t526).bind fun t529 => (if t529 = true then ((laws_toIntS.f kj20 l2).bind fun t530 => ((laws_eqIntS.f kj20 t513 t530).bind fun t533 => (if t533 = true then ((laws_markNet.f kj20 t505 t506 1).bind fun bt534 => ((laws_markIntS.f kj20 t510 bt534.1).bind fun bt536 => ((laws_markIntS.f kj20 t513 bt536.1).bind fun bt538 => (if bt538.1 < 0 then (laws_FnExactJobBest.j1 kj20 l1 l2 t501 t504 t516 true a0_0 l0_1) else ((laws_eqIntS.f kj20 t516 t501).bind fun t540 => (if t540 = true then (laws_FnExactJobBest.j1 kj20 l1 l2 t501 t504 t516 (t519 != t504) a0_0 l0_1) else (laws_FnExactJobBest.j1 kj20 l1 l2 t501 t504 t516 true a0_0 l0_1))))))) else (some false)))) else (some false))) = some r:=H;have A55:=zx A550;clear A550;replace H:=Option.bind_eq_some_iff.mp H;obtain ⟨t529,A560,H⟩:=H;replace H : (if t529 = true then ((laws_toIntS.f kj20 l2).bind fun t530 => ((laws_eqIntS.f kj20 t513 t530).bind fun t533 => (if t533 = true then ((laws_markNet.f kj20 t505 t506 1).bind fun bt534 => ((laws_markIntS.f kj20 t510 bt534.1).bind fun bt536 => ((laws_markIntS.f kj20 t513 bt536.1).bind fun bt538 => (if bt538.1 < 0 then (laws_FnExactJobBest.j1 kj20 l1 l2 t501 t504 t516 true a0_0 l0_1) else ((laws_eqIntS.f kj20 t516 t501).bind fun t540 => (if t540 = true then (laws_FnExactJobBest.j1 kj20 l1 l2 t501 t504 t516 (t519 != t504) a0_0 l0_1) else (laws_FnExactJobBest.j1 kj20 l1 l2 t501 t504 t516 true a0_0 l0_1))))))) else (some false)))) else (some false)) = some r:=H;have A56:=zx A560;clear A560
   by_cases c57 : t529 = true
   case neg =>
    replace c57:=Bool.eq_false_iff.mpr c57;subst c57;have H1 : (some false) = some r:=by rw [if_neg (show ¬ (false = true) by decide)] at H; exact H
    exact absurd ((Option.some.inj H1).trans HRT_.out) (by decide)
   subst c57;have H1 : ((laws_toIntS.f kj20 l2).bind fun t530 => ((laws_eqIntS.f kj20 t513 t530).bind fun t533 => (if t533 = true then ((laws_markNet.f kj20 t505 t506 1).bind fun bt534 => ((laws_markIntS.f kj20 t510 bt534.1).bind fun bt536 => ((laws_markIntS.f kj20 t513 bt536.1).bind fun bt538 => (if bt538.1 < 0 then (laws_FnExactJobBest.j1 kj20 l1 l2 t501 t504 t516 true a0_0 l0_1) else ((laws_eqIntS.f kj20 t516 t501).bind fun t540 => (if t540 = true then (laws_FnExactJobBest.j1 kj20 l1 l2 t501 t504 t516 (t519 != t504) a0_0 l0_1) else (laws_FnExactJobBest.j1 kj20 l1 l2 t501 t504 t516 true a0_0 l0_1))))))) else (some false)))) = some r:=by rw [if_pos rfl] at H; exact H
   clear H;have H:=H1;clear H1;replace H:=Option.bind_eq_some_iff.mp H;obtain ⟨t530,A580,H⟩:=H;replace H : ((laws_eqIntS.f kj20 t513 t530).bind fun t533 => (if t533 = true then ((laws_markNet.f kj20 t505 t506 1).bind fun bt534 => ((laws_markIntS.f kj20 t510 bt534.1).bind fun bt536 => ((laws_markIntS.f kj20 t513 bt536.1).bind fun bt538 => (if bt538.1 < 0 then (laws_FnExactJobBest.j1 kj20 l1 l2 t501 t504 t516 true a0_0 l0_1) else ((laws_eqIntS.f kj20 t516 t501).bind fun t540 => (if t540 = true then (laws_FnExactJobBest.j1 kj20 l1 l2 t501 t504 t516 (t519 != t504) a0_0 l0_1) else (laws_FnExactJobBest.j1 kj20 l1 l2 t501 t504 t516 true a0_0 l0_1))))))) else (some false))) = some r:=H;have A58:=zx A580;clear A580;replace H:=Option.bind_eq_some_iff.mp H;obtain ⟨t533,A590,H⟩:=H;replace H : (if t533 = true then ((laws_markNet.f kj20 t505 t506 1).bind fun bt534 => ((laws_markIntS.f kj20 t510 bt534.1).bind fun bt536 => ((laws_markIntS.f kj20 t513 bt536.1).bind fun bt538 => (if bt538.1 < 0 then (laws_FnExactJobBest.j1 kj20 l1 l2 t501 t504 t516 true a0_0 l0_1) else ((laws_eqIntS.f kj20 t516 t501).bind fun t540 => (if t540 = true then (laws_FnExactJobBest.j1 kj20 l1 l2 t501 t504 t516 (t519 != t504) a0_0 l0_1) else (laws_FnExactJobBest.j1 kj20 l1 l2 t501 t504 t516 true a0_0 l0_1))))))) else (some false)) = some r:=H;have A59:=zx A590;clear A590
   by_cases c60 : t533 = true
   case neg =>
    replace c60:=Bool.eq_false_iff.mpr c60;subst c60;have H1 : (some false) = some r:=by rw [if_neg (show ¬ (false = true) by decide)] at H; exact H
    exact absurd ((Option.some.inj H1).trans HRT_.out) (by decide)
   subst c60;have H1 : ((laws_markNet.f kj20 t505 t506 1).bind fun bt534 => ((laws_markIntS.f kj20 t510 bt534.1).bind fun bt536 => ((laws_markIntS.f kj20 t513 bt536.1).bind fun bt538 => (if bt538.1 < 0 then (laws_FnExactJobBest.j1 kj20 l1 l2 t501 t504 t516 true a0_0 l0_1) else ((laws_eqIntS.f kj20 t516 t501).bind fun t540 => (if t540 = true then (laws_FnExactJobBest.j1 kj20 l1 l2 t501 t504 t516 (t519 != t504) a0_0 l0_1) else (laws_FnExactJobBest.j1 kj20 l1 l2 t501 t504 t516 true a0_0 l0_1))))))) = some r:=by rw [if_pos rfl] at H; exact H
   clear H;have H:=H1;clear H1;replace H:=Option.bind_eq_some_iff.mp H;obtain ⟨⟨t534,t535⟩,A610,H⟩:=H;replace H : ((laws_markIntS.f kj20 t510 t534).bind fun bt536 => ((laws_markIntS.f kj20 t513 bt536.1).bind fun bt538 => (if bt538.1 < 0 then (laws_FnExactJobBest.j1 kj20 l1 l2 t501 t504 t516 true a0_0 l0_1) else ((laws_eqIntS.f kj20 t516 t501).bind fun t540 => (if t540 = true then (laws_FnExactJobBest.j1 kj20 l1 l2 t501 t504 t516 (t519 != t504) a0_0 l0_1) else (laws_FnExactJobBest.j1 kj20 l1 l2 t501 t504 t516 true a0_0 l0_1)))))) = some r:=H;have A61:=zx A610;clear A610;replace H:=Option.bind_eq_some_iff.mp H;obtain ⟨⟨t536,t537⟩,A620,H⟩:=H;replace H : ((laws_markIntS.f kj20 t513 t536).bind fun bt538 => (if bt538.1 < 0 then (laws_FnExactJobBest.j1 kj20 l1 l2 t501 t504 t516 true a0_0 l0_1) else ((laws_eqIntS.f kj20 t516 t501).bind fun t540 => (if t540 = true then (laws_FnExactJobBest.j1 kj20 l1 l2 t501 t504 t516 (t519 != t504) a0_0 l0_1) else (laws_FnExactJobBest.j1 kj20 l1 l2 t501 t504 t516 true a0_0 l0_1))))) = some r:=H;have A62:=zx A620;clear A620;replace H:=Option.bind_eq_some_iff.mp H;obtain ⟨⟨t538,t539⟩,A630,H⟩:=H;replace H : (if t538 < 0 then (laws_FnExactJobBest.j1 kj20 l1 l2 t501 t504 t516 true a0_0 l0_1) else ((laws_eqIntS.f kj20 t516 t501).bind fun t540 => (if t540 = true then (laws_FnExactJobBest.j1 kj20 l1 l2 t501 t504 t516 (t519 != t504) a0_0 l0_1) else (laws_FnExactJobBest.j1 kj20 l1 l2 t501 t504 t516 true a0_0 l0_1)))) = some r:=H;have A63:=zx A630;clear A630;have HC64:=zx H;clear H
   try go_wp2
   have n0_:=zx (Kd.V_drew HO_8.out);have n1_:=zx (Kd.R_drew HO_11.out);have n2_:=zx (Kd.R_drew HO_12.out);have n3_:=zx (Kd.R_drew HO_13.out);have n4_:=zx (Kd.R_drew HO_510001.out);have n5_:=zx (blk_drew BK489.out);have n6_:=zx (blk_drew BK509.out);have n7_:=zx (below_drew1 HB.out);clear HO_8;clear HO_11;clear HO_12;clear HO_13;clear HO_510001;clear BK489;clear BK509;clear HB;have HO_8:=n0_;have HO_11:=n1_;have HO_12:=n2_;have HO_13:=n3_;have HO_510001:=n4_;have BK489:=n5_;have BK509:=n6_;have HB:=n7_;clear n0_ n1_ n2_ n3_ n4_ n5_ n6_ n7_;refine start_ (n:=5) (S:=fun w' => w'.cell? ⟨gb509,0,none⟩ = some (.int .i64 t505) ∧ w'.cell? ⟨gb509,1,none⟩ = some (.slice Ao38 t506.length co38) ∧ w'.cell? ⟨gb489,0,none⟩ = some (.int .i64 a0_0) ∧ w'.cell? ⟨gb489,1,none⟩ = some (.slice A0_1 l0_1.length c0_1)) (ds:=[]) #[false,false,false,false,false] (by kernel_rfl) rfl rfl ⟨(blk_cell BK509.out 0).trans rfl,(blk_cell BK509.out 1).trans rfl,(blk_cell BK489.out 0).trans rfl,(blk_cell BK489.out 1).trans rfl⟩ (fun hHeld => ?_);generalize wc.drew = w65 at HO_8 HO_11 HO_12 HO_13 HO_510001 BK489 BK509 HB hHeld ⊢;refine take_ (i:=0) (N:=some 63) (v:=?_) (a':=?_) #[true,false,false,false,false] rfl rfl (by kernel_rfl) (fun _ _ _ h => h) (Or.inl ⟨by rfl,?_⟩) hHeld ?_ ?_;rotate_left
   ·rintro w' ⟨s0,s1,s2,s3⟩;go_simp;with_reducible rfl
   rotate_left
   ·simp only [Act.put,J,U,Z,i64_w,i32_w];rfl
   refine take_ (i:=1) (N:=some 64) (v:=?_) (a':=?_) #[true,true,false,false,false] rfl rfl (by kernel_rfl) (fun _ _ _ h => h) (Or.inl ⟨by rfl,?_⟩) hHeld ?_ ?_;rotate_left
   ·rintro w' ⟨s0,s1,s2,s3⟩;go_simp;with_reducible rfl
   rotate_left
   ·simp only [Act.put,J,U,Z,i64_w,i32_w];rfl
   refine one_ (i:=2) (N:=some 65) #[true,true,true,false,false] rfl rfl (by kernel_rfl) (by decide) (fun K hK => ?_);refine goes_ Try.func14 (by kernel_rfl) rfl #[.agg #[.int .i64 a0_0,.slice A0_1 l0_1.length c0_1]] (by rfl) rfl rfl (by (try simp only [List.map_toArray,List.map_cons,List.map_nil]); first | done | rfl | (simp only [List.length_drop,List.length_take]; rfl)) ?_;with_reducible refine (laws_toNet.calls kj20 a0_0 _ _ l0_1 t521 t522 _ ?side1 ?side2 A52.out).mono ?_
   (case side1 => repeat (first | exact (Kd.C_below HR0_1.out HB.out) | (with_reducible refine Kd.C_alloc ?_ _) | (with_reducible refine Kd.C_drewN ?_ _) | (with_reducible refine Kd.C_drew ?_)))
   (case side2 => exact HC0_1.out)
   rintro e w66 ⟨v523,rfl,ho0,hb⟩;refine ⟨_,rfl,?_⟩;have n0_:=zx (Kd.V_elder' (by (with_reducible repeat (first | apply Kd.V_alloc | apply Kd.V_drewN | apply Kd.V_drew)); exact HO_8.out) (Kd.R_base ho0) hb);have n1_:=zx (Kd.R_below (by (with_reducible repeat (first | apply Kd.R_alloc | apply Kd.R_drewN | apply Kd.R_drew)); exact HO_11.out) hb);have n2_:=zx (Kd.R_below (by (with_reducible repeat (first | apply Kd.R_alloc | apply Kd.R_drewN | apply Kd.R_drew)); exact HO_12.out) hb);have n3_:=zx (Kd.R_below (by (with_reducible repeat (first | apply Kd.R_alloc | apply Kd.R_drewN | apply Kd.R_drew)); exact HO_13.out) hb);have n4_:=zx (Kd.R_elder' (by (with_reducible repeat (first | apply Kd.R_alloc | apply Kd.R_drewN | apply Kd.R_drew)); exact HO_510001.out) (Kd.R_base ho0) hb);have n5_:=zx (Kd.R_lower (Kd.R_new' ho0 (Kd.R_lt (by (with_reducible repeat (first | apply Kd.R_alloc | apply Kd.R_drewN | apply Kd.R_drew)); exact HO_510001.out))) (below_size (by repeat (first | (with_reducible first | exact HB.out | apply below_alloc | apply pw_below_drewN | apply below_drew1 | refine below_set ?_ GE489.out | refine below_set ?_ GE509.out) | exact HB.out))));have n6_:=zx (blk_below (g:=gb489) (o:=.cells #[.int .i64 a0_0,.slice A0_1 l0_1.length c0_1] 36 (0,0)) (by (with_reducible repeat (first | refine blk_drewN ?_ _ | refine blk_drew ?_ | refine blk_alloc ?_ _)); exact BK489.out) hb);have n7_:=zx (blk_below (g:=gb509) (o:=.cells #[.int .i64 t505,.slice Ao38 t506.length co38] 25 (0,0)) (by (with_reducible repeat (first | refine blk_drewN ?_ _ | refine blk_drew ?_ | refine blk_alloc ?_ _)); exact BK509.out) hb);have n8_:=zx (below_step (by repeat (first | (with_reducible first | exact HB.out | apply below_alloc | apply pw_below_drewN | apply below_drew1 | refine below_set ?_ GE489.out | refine below_set ?_ GE509.out) | exact HB.out)) hb);clear HO_8;clear HO_11;clear HO_12;clear HO_13;clear HO_510001;clear BK489;clear BK509;clear HB;have HO_8:=n0_;have HO_11:=n1_;have HO_12:=n2_;have HO_13:=n3_;have HO_510001:=n4_;have HO524:=n5_;have BK489:=n6_;have BK509:=n7_;have HB:=n8_;clear n0_ n1_ n2_ n3_ n4_ n5_ n6_ n7_ n8_
   (try clear hb)
   (try clear hb2)
   (try clear hk)
   (try clear hi)
   (try clear ho0)
   obtain ⟨Ao67,co67,eo67⟩:=Kd.R_slice HO524.out
   (first | subst eo67 | (injection eo67 with f1_ f2_ f3_; have f4_:=f1_.symm; have f5_:=f3_.symm; clear f1_ f2_ f3_; subst f4_; subst f5_))
   refine hK.out _ _ ⟨(blk_cell BK509.out 0).trans rfl,(blk_cell BK509.out 1).trans rfl,(blk_cell BK489.out 0).trans rfl,(blk_cell BK489.out 1).trans rfl⟩ (fun hHeld => ?_);clear hK K;refine norm_ (a':=?_) ?_ ?_;rotate_left
   ·show Act.put _ (some 65) _ = _
    simp only [Act.put,J,U,Z,i64_w,i32_w];rfl
   refine one_ (i:=3) (N:=some 66) #[true,true,true,true,false] rfl rfl (by kernel_rfl) (by decide) (fun K hK => ?_);refine goes_ Try.func17 (by kernel_rfl) rfl #[.agg #[.int .i64 t505,.slice Ao38 t506.length co38],.agg #[.int .i64 t521,.slice Ao67 t522.length co67]] (by rfl) rfl rfl (by (try simp only [List.map_toArray,List.map_cons,List.map_nil]); first | done | rfl | (simp only [List.length_drop,List.length_take]; rfl)) ?_;with_reducible refine (laws_eqNet.calls kj20 t505 _ _ t506 t521 _ _ t522 true _ ?side1 ?side2 ?side3 ?side4 A53.out).mono ?_
   (case side1 => repeat (first | exact (Kd.R_reads' HO_510001.out).2.2 | (with_reducible refine Kd.C_alloc ?_ _) | (with_reducible refine Kd.C_drewN ?_ _) | (with_reducible refine Kd.C_drew ?_)))
   (case side2 => exact (Kd.R_reads' HO_510001.out).2.1)
   (case side3 => repeat (first | exact (Kd.R_reads' HO524.out).2.2 | (with_reducible refine Kd.C_alloc ?_ _) | (with_reducible refine Kd.C_drewN ?_ _) | (with_reducible refine Kd.C_drew ?_)))
   (case side4 => exact (Kd.R_reads' HO524.out).2.1)
   rintro e w68 ⟨rfl,hb⟩;refine ⟨_,rfl,?_⟩;have n0_:=zx (Kd.V_below (by (with_reducible repeat (first | apply Kd.V_alloc | apply Kd.V_drewN | apply Kd.V_drew)); exact HO_8.out) hb);have n1_:=zx (Kd.R_below (by (with_reducible repeat (first | apply Kd.R_alloc | apply Kd.R_drewN | apply Kd.R_drew)); exact HO_11.out) hb);have n2_:=zx (Kd.R_below (by (with_reducible repeat (first | apply Kd.R_alloc | apply Kd.R_drewN | apply Kd.R_drew)); exact HO_12.out) hb);have n3_:=zx (Kd.R_below (by (with_reducible repeat (first | apply Kd.R_alloc | apply Kd.R_drewN | apply Kd.R_drew)); exact HO_13.out) hb);have n4_:=zx (Kd.R_below (by (with_reducible repeat (first | apply Kd.R_alloc | apply Kd.R_drewN | apply Kd.R_drew)); exact HO_510001.out) hb);have n5_:=zx (Kd.R_below (by (with_reducible repeat (first | apply Kd.R_alloc | apply Kd.R_drewN | apply Kd.R_drew)); exact HO524.out) hb);have n6_:=zx (blk_below (g:=gb489) (o:=.cells #[.int .i64 a0_0,.slice A0_1 l0_1.length c0_1] 36 (0,0)) (by (with_reducible repeat (first | refine blk_drewN ?_ _ | refine blk_drew ?_ | refine blk_alloc ?_ _)); exact BK489.out) hb);have n7_:=zx (blk_below (g:=gb509) (o:=.cells #[.int .i64 t505,.slice Ao38 t506.length co38] 25 (0,0)) (by (with_reducible repeat (first | refine blk_drewN ?_ _ | refine blk_drew ?_ | refine blk_alloc ?_ _)); exact BK509.out) hb);have n8_:=zx (below_step (by repeat (first | (with_reducible first | exact HB.out | apply below_alloc | apply pw_below_drewN | apply below_drew1 | refine below_set ?_ GE489.out | refine below_set ?_ GE509.out) | exact HB.out)) hb);clear HO_8;clear HO_11;clear HO_12;clear HO_13;clear HO_510001;clear HO524;clear BK489;clear BK509;clear HB;have HO_8:=n0_;have HO_11:=n1_;have HO_12:=n2_;have HO_13:=n3_;have HO_510001:=n4_;have HO524:=n5_;have BK489:=n6_;have BK509:=n7_;have HB:=n8_;clear n0_ n1_ n2_ n3_ n4_ n5_ n6_ n7_ n8_
   (try clear hb)
   (try clear hb2)
   (try clear hk)
   (try clear hi)
   refine hK.out _ _ ⟨(blk_cell BK509.out 0).trans rfl,(blk_cell BK509.out 1).trans rfl,(blk_cell BK489.out 0).trans rfl,(blk_cell BK489.out 1).trans rfl⟩ (fun hHeld => ?_);clear hK K;refine norm_ (a':=?_) ?_ ?_;rotate_left
   ·show Act.put _ (some 66) _ = _
    simp only [Act.put,J,U,Z,i64_w,i32_w];rfl
   refine pure_ (i:=4) (N:=some 67) (v:=?_) (a':=?_) #[true,true,true,true,true] rfl rfl (by kernel_rfl) (fun _ _ _ h => h) (Or.inl ⟨by rfl,?_⟩) ?_ ?_;rotate_left
   ·intro w';go_simp;with_reducible rfl
   rotate_left
   ·simp only [Act.put,J,U,Z,i64_w,i32_w];rfl
   refine done_ (by kernel_rfl) ?_
   go_upto_region 26 with (first | ((with_reducible refine gate_callee (f:=15) rfl ?_); refine goesL_ (some 70) rfl rfl Try.func15 (by kernel_rfl) rfl #[.slice A1 l1.length c1] rfl (by (try simp only [List.map_toArray,List.map_cons,List.map_nil]); first | done | rfl | (simp only [List.length_drop,List.length_take]; rfl)) ?_; (with_reducible refine (laws_toIntS.calls kj20 _ _ l1 t526 _ ?side1 ?side2 A55.out).mono ?_); (case side1 => repeat (first | exact (Kd.C_below HR1.out HB.out) | (with_reducible refine Kd.C_alloc ?_ _) | (with_reducible refine Kd.C_drewN ?_ _) | (with_reducible refine Kd.C_drew ?_))); (case side2 => exact HC1.out); rintro e w69 ⟨v527,rfl,ho0,hb⟩; refine ⟨_,rfl,?_⟩; have n0_:=zx (Kd.V_elder' (by (with_reducible repeat (first | apply Kd.V_alloc | apply Kd.V_drewN | apply Kd.V_drew)); exact HO_8.out) (Kd.R_base ho0) hb); have n1_:=zx (Kd.R_elder' (by (with_reducible repeat (first | apply Kd.R_alloc | apply Kd.R_drewN | apply Kd.R_drew)); exact HO_11.out) (Kd.R_base ho0) hb); have n2_:=zx (Kd.R_elder' (by (with_reducible repeat (first | apply Kd.R_alloc | apply Kd.R_drewN | apply Kd.R_drew)); exact HO_12.out) (Kd.R_base ho0) hb); have n3_:=zx (Kd.R_elder' (by (with_reducible repeat (first | apply Kd.R_alloc | apply Kd.R_drewN | apply Kd.R_drew)); exact HO_13.out) (Kd.R_base ho0) hb); have n4_:=zx (Kd.R_below (by (with_reducible repeat (first | apply Kd.R_alloc | apply Kd.R_drewN | apply Kd.R_drew)); exact HO_510001.out) hb); have n5_:=zx (Kd.R_below (by (with_reducible repeat (first | apply Kd.R_alloc | apply Kd.R_drewN | apply Kd.R_drew)); exact HO524.out) hb); have n6_:=zx (Kd.R_lower (Kd.R_new' (Kd.R_new' (Kd.R_new' ho0 (Kd.R_lt (by (with_reducible repeat (first | apply Kd.R_alloc | apply Kd.R_drewN | apply Kd.R_drew)); exact HO_11.out))) (Kd.R_lt (by (with_reducible repeat (first | apply Kd.R_alloc | apply Kd.R_drewN | apply Kd.R_drew)); exact HO_12.out))) (Kd.R_lt (by (with_reducible repeat (first | apply Kd.R_alloc | apply Kd.R_drewN | apply Kd.R_drew)); exact HO_13.out))) (below_size (by repeat (first | (with_reducible first | exact HB.out | apply below_alloc | apply pw_below_drewN | apply below_drew1 | refine below_set ?_ GE489.out | refine below_set ?_ GE509.out) | exact HB.out)))); have n7_:=zx (blk_below (g:=gb489) (o:=.cells #[.int .i64 a0_0,.slice A0_1 l0_1.length c0_1] 36 (0,0)) (by (with_reducible repeat (first | refine blk_drewN ?_ _ | refine blk_drew ?_ | refine blk_alloc ?_ _)); exact BK489.out) hb); have n8_:=zx (blk_below (g:=gb509) (o:=.cells #[.int .i64 t505,.slice Ao38 t506.length co38] 25 (0,0)) (by (with_reducible repeat (first | refine blk_drewN ?_ _ | refine blk_drew ?_ | refine blk_alloc ?_ _)); exact BK509.out) hb); have n9_:=zx (below_step (by repeat (first | (with_reducible first | exact HB.out | apply below_alloc | apply pw_below_drewN | apply below_drew1 | refine below_set ?_ GE489.out | refine below_set ?_ GE509.out) | exact HB.out)) hb); clear HO_8; clear HO_11; clear HO_12; clear HO_13; clear HO_510001; clear HO524; clear BK489; clear BK509; clear HB; have HO_8:=n0_; have HO_11:=n1_; have HO_12:=n2_; have HO_13:=n3_; have HO_510001:=n4_; have HO524:=n5_; have HO528:=n6_; have BK489:=n7_; have BK509:=n8_; have HB:=n9_; clear n0_ n1_ n2_ n3_ n4_ n5_ n6_ n7_ n8_ n9_; (try clear hb); (try clear hb2); (try clear hk); (try clear hi); (try clear ho0); obtain ⟨Ao70,co70,eo70⟩:=Kd.R_slice HO528.out; subst eo70) | ((with_reducible refine gate_callee (f:=16) rfl ?_); refine goesL_ (some 71) rfl rfl Try.func16 (by kernel_rfl) rfl #[.slice Ao42 t510.length co42,.slice Ao70 t526.length co70] rfl (by (try simp only [List.map_toArray,List.map_cons,List.map_nil]); first | done | rfl | (simp only [List.length_drop,List.length_take]; rfl)) ?_; (with_reducible refine (laws_eqIntS.calls kj20 _ _ t510 _ _ t526 true _ ?side1 ?side2 ?side3 ?side4 A56.out).mono ?_); (case side1 => repeat (first | exact (Kd.R_reads' HO_11.out).2.2 | (with_reducible refine Kd.C_alloc ?_ _) | (with_reducible refine Kd.C_drewN ?_ _) | (with_reducible refine Kd.C_drew ?_))); (case side2 => exact (Kd.R_reads' HO_11.out).2.1); (case side3 => repeat (first | exact (Kd.R_reads' HO528.out).2.2 | (with_reducible refine Kd.C_alloc ?_ _) | (with_reducible refine Kd.C_drewN ?_ _) | (with_reducible refine Kd.C_drew ?_))); (case side4 => exact (Kd.R_reads' HO528.out).2.1); rintro e w' ⟨rfl,⟨nd,rfl⟩⟩; refine ⟨_,rfl,?_⟩) | ((with_reducible refine gate_callee (f:=15) rfl ?_); refine goesL_ (some 75) rfl rfl Try.func15 (by kernel_rfl) rfl #[.slice A2 l2.length c2] rfl (by (try simp only [List.map_toArray,List.map_cons,List.map_nil]); first | done | rfl | (simp only [List.length_drop,List.length_take]; rfl)) ?_; (with_reducible refine (laws_toIntS.calls kj20 _ _ l2 t530 _ ?side1 ?side2 A58.out).mono ?_); (case side1 => repeat (first | exact (Kd.C_below HR2.out (by repeat (first | (with_reducible first | exact HB.out | apply below_alloc | apply pw_below_drewN | apply below_drew1 | refine below_set ?_ GE489.out | refine below_set ?_ GE509.out) | exact HB.out))) | (with_reducible refine Kd.C_alloc ?_ _) | (with_reducible refine Kd.C_drewN ?_ _) | (with_reducible refine Kd.C_drew ?_))); (case side2 => exact HC2.out); rintro e w71 ⟨v531,rfl,ho0,hb⟩; refine ⟨_,rfl,?_⟩; have n0_:=zx (Kd.V_elder' (by (with_reducible repeat (first | apply Kd.V_alloc | apply Kd.V_drewN | apply Kd.V_drew)); exact HO_8.out) (Kd.R_base ho0) hb); have n1_:=zx (Kd.R_elder' (by (with_reducible repeat (first | apply Kd.R_alloc | apply Kd.R_drewN | apply Kd.R_drew)); exact HO_11.out) (Kd.R_base ho0) hb); have n2_:=zx (Kd.R_elder' (by (with_reducible repeat (first | apply Kd.R_alloc | apply Kd.R_drewN | apply Kd.R_drew)); exact HO_12.out) (Kd.R_base ho0) hb); have n3_:=zx (Kd.R_elder' (by (with_reducible repeat (first | apply Kd.R_alloc | apply Kd.R_drewN | apply Kd.R_drew)); exact HO_13.out) (Kd.R_base ho0) hb); have n4_:=zx (Kd.R_below (by (with_reducible repeat (first | apply Kd.R_alloc | apply Kd.R_drewN | apply Kd.R_drew)); exact HO_510001.out) hb); have n5_:=zx (Kd.R_below (by (with_reducible repeat (first | apply Kd.R_alloc | apply Kd.R_drewN | apply Kd.R_drew)); exact HO524.out) hb); have n6_:=zx (Kd.R_elder' (by (with_reducible repeat (first | apply Kd.R_alloc | apply Kd.R_drewN | apply Kd.R_drew)); exact HO528.out) (Kd.R_base ho0) hb); have n7_:=zx (Kd.R_lower (Kd.R_new' (Kd.R_new' (Kd.R_new' (Kd.R_new' ho0 (Kd.R_lt (by (with_reducible repeat (first | apply Kd.R_alloc | apply Kd.R_drewN | apply Kd.R_drew)); exact HO_11.out))) (Kd.R_lt (by (with_reducible repeat (first | apply Kd.R_alloc | apply Kd.R_drewN | apply Kd.R_drew)); exact HO_12.out))) (Kd.R_lt (by (with_reducible repeat (first | apply Kd.R_alloc | apply Kd.R_drewN | apply Kd.R_drew)); exact HO_13.out))) (Kd.R_lt (by (with_reducible repeat (first | apply Kd.R_alloc | apply Kd.R_drewN | apply Kd.R_drew)); exact HO528.out))) (below_size (by repeat (first | (with_reducible first | exact HB.out | apply below_alloc | apply pw_below_drewN | apply below_drew1 | refine below_set ?_ GE489.out | refine below_set ?_ GE509.out) | exact HB.out)))); have n8_:=zx (blk_below (g:=gb489) (o:=.cells #[.int .i64 a0_0,.slice A0_1 l0_1.length c0_1] 36 (0,0)) (by (with_reducible repeat (first | refine blk_drewN ?_ _ | refine blk_drew ?_ | refine blk_alloc ?_ _)); exact BK489.out) hb); have n9_:=zx (blk_below (g:=gb509) (o:=.cells #[.int .i64 t505,.slice Ao38 t506.length co38] 25 (0,0)) (by (with_reducible repeat (first | refine blk_drewN ?_ _ | refine blk_drew ?_ | refine blk_alloc ?_ _)); exact BK509.out) hb); have n10_:=zx (below_step (by repeat (first | (with_reducible first | exact HB.out | apply below_alloc | apply pw_below_drewN | apply below_drew1 | refine below_set ?_ GE489.out | refine below_set ?_ GE509.out) | exact HB.out)) hb); clear HO_8; clear HO_11; clear HO_12; clear HO_13; clear HO_510001; clear HO524; clear HO528; clear BK489; clear BK509; clear HB; have HO_8:=n0_; have HO_11:=n1_; have HO_12:=n2_; have HO_13:=n3_; have HO_510001:=n4_; have HO524:=n5_; have HO528:=n6_; have HO532:=n7_; have BK489:=n8_; have BK509:=n9_; have HB:=n10_; clear n0_ n1_ n2_ n3_ n4_ n5_ n6_ n7_ n8_ n9_ n10_; (try clear hb); (try clear hb2); (try clear hk); (try clear hi); (try clear ho0); obtain ⟨Ao72,co72,eo72⟩:=Kd.R_slice HO532.out; subst eo72) | ((with_reducible refine gate_callee (f:=16) rfl ?_); refine goesL_ (some 76) rfl rfl Try.func16 (by kernel_rfl) rfl #[.slice Ao43 t513.length co43,.slice Ao72 t530.length co72] rfl (by (try simp only [List.map_toArray,List.map_cons,List.map_nil]); first | done | rfl | (simp only [List.length_drop,List.length_take]; rfl)) ?_; (with_reducible refine (laws_eqIntS.calls kj20 _ _ t513 _ _ t530 true _ ?side1 ?side2 ?side3 ?side4 A59.out).mono ?_); (case side1 => repeat (first | exact (Kd.R_reads' HO_12.out).2.2 | (with_reducible refine Kd.C_alloc ?_ _) | (with_reducible refine Kd.C_drewN ?_ _) | (with_reducible refine Kd.C_drew ?_))); (case side2 => exact (Kd.R_reads' HO_12.out).2.1); (case side3 => repeat (first | exact (Kd.R_reads' HO532.out).2.2 | (with_reducible refine Kd.C_alloc ?_ _) | (with_reducible refine Kd.C_drewN ?_ _) | (with_reducible refine Kd.C_drew ?_))); (case side4 => exact (Kd.R_reads' HO532.out).2.1); rintro e w' ⟨rfl,⟨nd,rfl⟩⟩; refine ⟨_,rfl,?_⟩; have hnb73:=NB509_489.out; have hnc73:=NB489_509.out; have hcz74_0 : w71.cell? ⟨gb509,0,none⟩ = some (.int .i64 t505):=(blk_cell BK509.out 0).trans rfl; have hcz74_1 : w71.cell? ⟨gb509,1,none⟩ = some (.slice Ao38 t506.length co38):=(blk_cell BK509.out 1).trans rfl; have hfz74_0:=blk_frozen BK509.out 0; have hfz74_1:=blk_frozen BK509.out 1) | ((with_reducible refine gate_callee (f:=18) rfl ?_); refine goesL_ (some 80) rfl rfl Try.func18 (by kernel_rfl) rfl #[.agg #[.int .i64 t505,.slice Ao38 t506.length co38],.int .i64 1] rfl (by (try simp only [List.map_toArray,List.map_cons,List.map_nil]); first | done | rfl | (simp only [List.length_drop,List.length_take]; rfl)) ?_; (with_reducible refine (laws_markNet.calls kj20 t505 (fun k_ => some k_ = (.slice Ao38 t506.length co38 : Value).ownBlock) (.slice Ao38 t506.length co38) t506 1 t534 t535 w _ ?side1 ?side2 A61.out).mono ?_); (case side1 => repeat (first | (with_reducible first | exact HB.out | apply below_alloc | apply pw_below_drewN | apply below_drew1 | refine below_set ?_ GE489.out | refine below_set ?_ GE509.out) | exact HB.out)); (case side2 => exact Kd.R_tight rfl HO_510001.out); rintro e w75 ⟨rfl,hy0,hb,hkp⟩; refine ⟨_,rfl,?_⟩; have n0_:=zx (Kd.V_mono (ok':=fun k_ => some k_ ≠ (.slice Ao42 t510.length co42 : Value).ownBlock ∧ some k_ ≠ (.slice Ao43 t513.length co43 : Value).ownBlock ∧ some k_ ≠ (v517 : Value).ownBlock ∧ some k_ ≠ (.slice Ao38 t506.length co38 : Value).ownBlock ∧ some k_ ≠ (.slice Ao67 t522.length co67 : Value).ownBlock ∧ some k_ ≠ (.slice Ao70 t526.length co70 : Value).ownBlock ∧ some k_ ≠ (.slice Ao72 t530.length co72 : Value).ownBlock ∧ k_ ≠ gb489 ∧ k_ ≠ gb509) (Kd.V_keptB (HO_8.out) hkp (fun k_ hk_ hs_ => (hk_.1.1.1.2.2.2.1) hs_)) (fun k_ hk_ => ⟨hk_.1.1.1.1.1,hk_.1.1.1.1.2.1,hk_.1.1.1.1.2.2.1,hk_.1.1.1.1.2.2.2.1,hk_.1.1.1.2,hk_.1.1.2,hk_.1.2,hk_.1.1.1.1.2.2.2.2.1,hk_.1.1.1.1.2.2.2.2.2⟩)); have n1_:=zx (Kd.R_mono (ok':=fun k_ => some k_ ≠ (.slice Ao43 t513.length co43 : Value).ownBlock ∧ some k_ ≠ (v517 : Value).ownBlock ∧ some k_ ≠ (.slice Ao70 t526.length co70 : Value).ownBlock ∧ some k_ ≠ (.slice Ao72 t530.length co72 : Value).ownBlock) (Kd.R_keptB ((Kd.R_apart' HO_11.out (Kd.R_typed HO_510001.out) (by decide))) hkp (fun k_ hk_ hs_ => (hk_.2) hs_)) (fun k_ hk_ => ⟨hk_.1.1.1.1.1,hk_.1.1.1.1.2,hk_.1.1.1.2,hk_.1.1.2⟩)); have n2_:=zx (Kd.R_mono (ok':=fun k_ => some k_ ≠ (.slice Ao42 t510.length co42 : Value).ownBlock ∧ some k_ ≠ (v517 : Value).ownBlock ∧ some k_ ≠ (.slice Ao70 t526.length co70 : Value).ownBlock ∧ some k_ ≠ (.slice Ao72 t530.length co72 : Value).ownBlock) (Kd.R_keptB ((Kd.R_apart' HO_12.out (Kd.R_typed HO_510001.out) (by decide))) hkp (fun k_ hk_ hs_ => (hk_.2) hs_)) (fun k_ hk_ => ⟨hk_.1.1.1.1.1,hk_.1.1.1.1.2,hk_.1.1.1.2,hk_.1.1.2⟩)); have n3_:=zx (Kd.R_mono (ok':=fun k_ => some k_ ≠ (.slice Ao42 t510.length co42 : Value).ownBlock ∧ some k_ ≠ (.slice Ao43 t513.length co43 : Value).ownBlock ∧ some k_ ≠ (.slice Ao70 t526.length co70 : Value).ownBlock ∧ some k_ ≠ (.slice Ao72 t530.length co72 : Value).ownBlock) (Kd.R_keptB ((Kd.R_apart' HO_13.out (Kd.R_typed HO_510001.out) (by decide))) hkp (fun k_ hk_ hs_ => (hk_.2) hs_)) (fun k_ hk_ => ⟨hk_.1.1.1.1.1,hk_.1.1.1.1.2,hk_.1.1.1.2,hk_.1.1.2⟩)); have n4_:=zx (Kd.R_reok rfl hy0 (fun k_ e_ => HO_510001.out.1 k_ e_)); have n5_:=zx (blk_kept (by (with_reducible repeat (first | refine blk_drewN ?_ _ | refine blk_drew ?_ | refine blk_alloc ?_ _)); exact BK489.out) hkp (fun hs_ => (fun e_ => (Kd.R_ne HO_510001.out BK489.out (by decide)) e_) hs_)); have n6_:=zx (blk_kept (by (with_reducible repeat (first | refine blk_drewN ?_ _ | refine blk_drew ?_ | refine blk_alloc ?_ _)); exact BK509.out) hkp (fun hs_ => (fun e_ => (Kd.R_ne HO_510001.out BK509.out (by decide)) e_) hs_)); have n7_:=zx (Kd.R_mono (ok':=fun k_ => some k_ ≠ (.slice Ao38 t506.length co38 : Value).ownBlock) (Kd.R_keptB (HO524.out) hkp (fun k_ hk_ hs_ => (hk_.2) hs_)) (fun k_ hk_ => hk_.1.2)); have n8_:=zx (Kd.R_mono (ok':=fun k_ => some k_ ≠ (.slice Ao42 t510.length co42 : Value).ownBlock ∧ some k_ ≠ (.slice Ao43 t513.length co43 : Value).ownBlock ∧ some k_ ≠ (v517 : Value).ownBlock ∧ some k_ ≠ (.slice Ao72 t530.length co72 : Value).ownBlock) (Kd.R_keptB ((Kd.R_apart' HO528.out (Kd.R_typed HO_510001.out) (by decide))) hkp (fun k_ hk_ hs_ => (hk_.2) hs_)) (fun k_ hk_ => ⟨hk_.1.1.1.1.1.2,hk_.1.1.1.1.2,hk_.1.1.1.2,hk_.1.1.2⟩)); have n9_:=zx (Kd.R_mono (ok':=fun k_ => some k_ ≠ (.slice Ao42 t510.length co42 : Value).ownBlock ∧ some k_ ≠ (.slice Ao43 t513.length co43 : Value).ownBlock ∧ some k_ ≠ (v517 : Value).ownBlock ∧ some k_ ≠ (.slice Ao70 t526.length co70 : Value).ownBlock) (Kd.R_keptB ((Kd.R_apart' HO532.out (Kd.R_typed HO_510001.out) (by decide))) hkp (fun k_ hk_ hs_ => (hk_.2) hs_)) (fun k_ hk_ => ⟨hk_.1.1.1.1.1.2,hk_.1.1.1.1.2,hk_.1.1.1.2,hk_.1.1.2⟩)); have n10_:=zx (hb); clear HO_8; clear HO_11; clear HO_12; clear HO_13; clear HO_510001; clear BK489; clear BK509; clear HO524; clear HO528; clear HO532; clear HB; have HO_8:=n0_; have HO_11:=n1_; have HO_12:=n2_; have HO_13:=n3_; have HO_510001:=n4_; have BK489:=n5_; have BK509:=n6_; have HO524:=n7_; have HO528:=n8_; have HO532:=n9_; have HB:=n10_; clear n0_ n1_ n2_ n3_ n4_ n5_ n6_ n7_ n8_ n9_ n10_; (try clear hb); (try clear hkp); (try clear hy0)) | ((with_reducible refine gate_callee (f:=19) rfl ?_); refine goesL_ (some 83) rfl rfl Try.func19 (by kernel_rfl) rfl #[.slice Ao42 t510.length co42,.int .i64 t534] rfl (by (try simp only [List.map_toArray,List.map_cons,List.map_nil]); first | done | rfl | (simp only [List.length_drop,List.length_take]; rfl)) ?_; (with_reducible refine (laws_markIntS.calls kj20 (fun k_ => some k_ = (.slice Ao42 t510.length co42 : Value).ownBlock) (.slice Ao42 t510.length co42) t510 t534 t536 t537 w _ ?side1 ?side2 A62.out).mono ?_); (case side1 => repeat (first | (with_reducible first | exact HB.out | apply below_alloc | apply pw_below_drewN | apply below_drew1 | refine below_set ?_ GE489.out | refine below_set ?_ GE509.out) | exact HB.out)); (case side2 => exact Kd.R_tight rfl HO_11.out); rintro e w76 ⟨rfl,hy0,hb,hkp⟩; refine ⟨_,rfl,?_⟩; have n0_:=zx (Kd.V_mono (ok':=fun k_ => some k_ ≠ (.slice Ao42 t510.length co42 : Value).ownBlock ∧ some k_ ≠ (.slice Ao43 t513.length co43 : Value).ownBlock ∧ some k_ ≠ (v517 : Value).ownBlock ∧ some k_ ≠ (.slice Ao38 t506.length co38 : Value).ownBlock ∧ some k_ ≠ (.slice Ao67 t522.length co67 : Value).ownBlock ∧ some k_ ≠ (.slice Ao70 t526.length co70 : Value).ownBlock ∧ some k_ ≠ (.slice Ao72 t530.length co72 : Value).ownBlock ∧ k_ ≠ gb489 ∧ k_ ≠ gb509) (Kd.V_keptB (HO_8.out) hkp (fun k_ hk_ hs_ => (hk_.1) hs_)) (fun k_ hk_ => ⟨hk_.1.1,hk_.1.2.1,hk_.1.2.2.1,hk_.1.2.2.2.1,hk_.1.2.2.2.2.1,hk_.1.2.2.2.2.2.1,hk_.1.2.2.2.2.2.2.1,hk_.1.2.2.2.2.2.2.2.1,hk_.1.2.2.2.2.2.2.2.2⟩)); have n1_:=zx (Kd.R_reok rfl hy0 (fun k_ e_ => HO_11.out.1 k_ e_)); have n2_:=zx (Kd.R_mono (ok':=fun k_ => some k_ ≠ (.slice Ao42 t510.length co42 : Value).ownBlock ∧ some k_ ≠ (v517 : Value).ownBlock ∧ some k_ ≠ (.slice Ao70 t526.length co70 : Value).ownBlock ∧ some k_ ≠ (.slice Ao72 t530.length co72 : Value).ownBlock) (Kd.R_keptB (HO_12.out) hkp (fun k_ hk_ hs_ => (hk_.1) hs_)) (fun k_ hk_ => ⟨hk_.1.1,hk_.1.2.1,hk_.1.2.2.1,hk_.1.2.2.2⟩)); have n3_:=zx (Kd.R_mono (ok':=fun k_ => some k_ ≠ (.slice Ao42 t510.length co42 : Value).ownBlock ∧ some k_ ≠ (.slice Ao43 t513.length co43 : Value).ownBlock ∧ some k_ ≠ (.slice Ao70 t526.length co70 : Value).ownBlock ∧ some k_ ≠ (.slice Ao72 t530.length co72 : Value).ownBlock) (Kd.R_keptB (HO_13.out) hkp (fun k_ hk_ hs_ => (hk_.1) hs_)) (fun k_ hk_ => ⟨hk_.1.1,hk_.1.2.1,hk_.1.2.2.1,hk_.1.2.2.2⟩)); have n4_:=zx (Kd.R_mono (ok':=fun k_ => some k_ ≠ (.slice Ao67 t522.length co67 : Value).ownBlock) (Kd.R_keptB ((Kd.R_apart' HO_510001.out (Kd.R_typed HO_11.out) (by decide))) hkp (fun k_ hk_ hs_ => (hk_.2) hs_)) (by intro k_ hk_; first | exact hk_.1.1.2 | exact hk_.1.1)); have n5_:=zx (blk_kept (by (with_reducible repeat (first | refine blk_drewN ?_ _ | refine blk_drew ?_ | refine blk_alloc ?_ _)); exact BK489.out) hkp (fun hs_ => (fun e_ => (Kd.R_ne HO_11.out BK489.out (by decide)) e_) hs_)); have n6_:=zx (blk_kept (by (with_reducible repeat (first | refine blk_drewN ?_ _ | refine blk_drew ?_ | refine blk_alloc ?_ _)); exact BK509.out) hkp (fun hs_ => (fun e_ => (Kd.R_ne HO_11.out BK509.out (by decide)) e_) hs_)); have n7_:=zx (Kd.R_mono (ok':=fun k_ => some k_ ≠ (.slice Ao38 t506.length co38 : Value).ownBlock) (Kd.R_keptB ((Kd.R_apart' HO524.out (Kd.R_typed HO_11.out) (by decide))) hkp (fun k_ hk_ hs_ => (hk_.2) hs_)) (fun k_ hk_ => hk_.1.1)); have n8_:=zx (Kd.R_mono (ok':=fun k_ => some k_ ≠ (.slice Ao42 t510.length co42 : Value).ownBlock ∧ some k_ ≠ (.slice Ao43 t513.length co43 : Value).ownBlock ∧ some k_ ≠ (v517 : Value).ownBlock ∧ some k_ ≠ (.slice Ao72 t530.length co72 : Value).ownBlock) (Kd.R_keptB (HO528.out) hkp (fun k_ hk_ hs_ => (hk_.1) hs_)) (fun k_ hk_ => ⟨hk_.1.1,hk_.1.2.1,hk_.1.2.2.1,hk_.1.2.2.2⟩)); have n9_:=zx (Kd.R_mono (ok':=fun k_ => some k_ ≠ (.slice Ao42 t510.length co42 : Value).ownBlock ∧ some k_ ≠ (.slice Ao43 t513.length co43 : Value).ownBlock ∧ some k_ ≠ (v517 : Value).ownBlock ∧ some k_ ≠ (.slice Ao70 t526.length co70 : Value).ownBlock) (Kd.R_keptB (HO532.out) hkp (fun k_ hk_ hs_ => (hk_.1) hs_)) (fun k_ hk_ => ⟨hk_.1.1,hk_.1.2.1,hk_.1.2.2.1,hk_.1.2.2.2⟩)); have n10_:=zx (hb); clear HO_8; clear HO_11; clear HO_12; clear HO_13; clear HO_510001; clear BK489; clear BK509; clear HO524; clear HO528; clear HO532; clear HB; have HO_8:=n0_; have HO_11:=n1_; have HO_12:=n2_; have HO_13:=n3_; have HO_510001:=n4_; have BK489:=n5_; have BK509:=n6_; have HO524:=n7_; have HO528:=n8_; have HO532:=n9_; have HB:=n10_; clear n0_ n1_ n2_ n3_ n4_ n5_ n6_ n7_ n8_ n9_ n10_; (try clear hb); (try clear hkp); (try clear hy0)) | ((with_reducible refine gate_callee (f:=19) rfl ?_); refine goesL_ (some 86) rfl rfl Try.func19 (by kernel_rfl) rfl #[.slice Ao43 t513.length co43,.int .i64 t536] rfl (by (try simp only [List.map_toArray,List.map_cons,List.map_nil]); first | done | rfl | (simp only [List.length_drop,List.length_take]; rfl)) ?_; (with_reducible refine (laws_markIntS.calls kj20 (fun k_ => some k_ = (.slice Ao43 t513.length co43 : Value).ownBlock) (.slice Ao43 t513.length co43) t513 t536 t538 t539 w _ ?side1 ?side2 A63.out).mono ?_); (case side1 => repeat (first | (with_reducible first | exact HB.out | apply below_alloc | apply pw_below_drewN | apply below_drew1 | refine below_set ?_ GE489.out | refine below_set ?_ GE509.out) | exact HB.out)); (case side2 => exact Kd.R_tight rfl HO_12.out); rintro e w77 ⟨rfl,hy0,hb,hkp⟩; refine ⟨_,rfl,?_⟩; have n0_:=zx (Kd.V_mono (ok':=fun k_ => some k_ ≠ (.slice Ao42 t510.length co42 : Value).ownBlock ∧ some k_ ≠ (.slice Ao43 t513.length co43 : Value).ownBlock ∧ some k_ ≠ (v517 : Value).ownBlock ∧ some k_ ≠ (.slice Ao38 t506.length co38 : Value).ownBlock ∧ some k_ ≠ (.slice Ao67 t522.length co67 : Value).ownBlock ∧ some k_ ≠ (.slice Ao70 t526.length co70 : Value).ownBlock ∧ some k_ ≠ (.slice Ao72 t530.length co72 : Value).ownBlock ∧ k_ ≠ gb489 ∧ k_ ≠ gb509) (Kd.V_keptB (HO_8.out) hkp (fun k_ hk_ hs_ => (hk_.2.1) hs_)) (fun k_ hk_ => ⟨hk_.1.1,hk_.1.2.1,hk_.1.2.2.1,hk_.1.2.2.2.1,hk_.1.2.2.2.2.1,hk_.1.2.2.2.2.2.1,hk_.1.2.2.2.2.2.2.1,hk_.1.2.2.2.2.2.2.2.1,hk_.1.2.2.2.2.2.2.2.2⟩)); have n1_:=zx (Kd.R_mono (ok':=fun k_ => some k_ ≠ (.slice Ao43 t513.length co43 : Value).ownBlock ∧ some k_ ≠ (v517 : Value).ownBlock ∧ some k_ ≠ (.slice Ao70 t526.length co70 : Value).ownBlock ∧ some k_ ≠ (.slice Ao72 t530.length co72 : Value).ownBlock) (Kd.R_keptB (HO_11.out) hkp (fun k_ hk_ hs_ => (hk_.1) hs_)) (fun k_ hk_ => ⟨hk_.1.1,hk_.1.2.1,hk_.1.2.2.1,hk_.1.2.2.2⟩)); have n2_:=zx (Kd.R_reok rfl hy0 (fun k_ e_ => HO_12.out.1 k_ e_)); have n3_:=zx (Kd.R_mono (ok':=fun k_ => some k_ ≠ (.slice Ao42 t510.length co42 : Value).ownBlock ∧ some k_ ≠ (.slice Ao43 t513.length co43 : Value).ownBlock ∧ some k_ ≠ (.slice Ao70 t526.length co70 : Value).ownBlock ∧ some k_ ≠ (.slice Ao72 t530.length co72 : Value).ownBlock) (Kd.R_keptB (HO_13.out) hkp (fun k_ hk_ hs_ => (hk_.2.1) hs_)) (fun k_ hk_ => ⟨hk_.1.1,hk_.1.2.1,hk_.1.2.2.1,hk_.1.2.2.2⟩)); have n4_:=zx (Kd.R_mono (ok':=fun k_ => some k_ ≠ (.slice Ao67 t522.length co67 : Value).ownBlock) (Kd.R_keptB ((Kd.R_apart' HO_510001.out (Kd.R_typed HO_12.out) (by decide))) hkp (fun k_ hk_ hs_ => (hk_.2) hs_)) (fun k_ hk_ => hk_.1.1)); have n5_:=zx (blk_kept (by (with_reducible repeat (first | refine blk_drewN ?_ _ | refine blk_drew ?_ | refine blk_alloc ?_ _)); exact BK489.out) hkp (fun hs_ => (fun e_ => (Kd.R_ne HO_12.out BK489.out (by decide)) e_) hs_)); have n6_:=zx (blk_kept (by (with_reducible repeat (first | refine blk_drewN ?_ _ | refine blk_drew ?_ | refine blk_alloc ?_ _)); exact BK509.out) hkp (fun hs_ => (fun e_ => (Kd.R_ne HO_12.out BK509.out (by decide)) e_) hs_)); have n7_:=zx (Kd.R_mono (ok':=fun k_ => some k_ ≠ (.slice Ao38 t506.length co38 : Value).ownBlock) (Kd.R_keptB ((Kd.R_apart' HO524.out (Kd.R_typed HO_12.out) (by decide))) hkp (fun k_ hk_ hs_ => (hk_.2) hs_)) (fun k_ hk_ => hk_.1.1)); have n8_:=zx (Kd.R_mono (ok':=fun k_ => some k_ ≠ (.slice Ao42 t510.length co42 : Value).ownBlock ∧ some k_ ≠ (.slice Ao43 t513.length co43 : Value).ownBlock ∧ some k_ ≠ (v517 : Value).ownBlock ∧ some k_ ≠ (.slice Ao72 t530.length co72 : Value).ownBlock) (Kd.R_keptB (HO528.out) hkp (fun k_ hk_ hs_ => (hk_.2.1) hs_)) (fun k_ hk_ => ⟨hk_.1.1,hk_.1.2.1,hk_.1.2.2.1,hk_.1.2.2.2⟩)); have n9_:=zx (Kd.R_mono (ok':=fun k_ => some k_ ≠ (.slice Ao42 t510.length co42 : Value).ownBlock ∧ some k_ ≠ (.slice Ao43 t513.length co43 : Value).ownBlock ∧ some k_ ≠ (v517 : Value).ownBlock ∧ some k_ ≠ (.slice Ao70 t526.length co70 : Value).ownBlock) (Kd.R_keptB (HO532.out) hkp (fun k_ hk_ hs_ => (hk_.2.1) hs_)) (fun k_ hk_ => ⟨hk_.1.1,hk_.1.2.1,hk_.1.2.2.1,hk_.1.2.2.2⟩)); have n10_:=zx (hb); clear HO_8; clear HO_11; clear HO_12; clear HO_13; clear HO_510001; clear BK489; clear BK509; clear HO524; clear HO528; clear HO532; clear HB; have HO_8:=n0_; have HO_11:=n1_; have HO_12:=n2_; have HO_13:=n3_; have HO_510001:=n4_; have BK489:=n5_; have BK509:=n6_; have HO524:=n7_; have HO528:=n8_; have HO532:=n9_; have HB:=n10_; clear n0_ n1_ n2_ n3_ n4_ n5_ n6_ n7_ n8_ n9_ n10_; (try clear hb); (try clear hkp); (try clear hy0)))
   (try simp only [Act.put,J,U,Z])
   go_cut [99] (fun v99 wc => ∃ (kq : Nat) (x99_63 : Bool),v99 = .bool x99_63 ∧ Aside0 (laws_FnExactJobBest.j1 kq l1 l2 t501 t504 t516 x99_63 a0_0 l0_1 = some r) ∧ Aside0 (kq ≤ kj20) ∧ Aside0 (Kd.V (Kd.int .i64) 3 wc w.heap.size (fun k_ => some k_ ≠ (v517 : Value).ownBlock ∧ some k_ ≠ ((.slice Ao38 t506.length co38) : Value).ownBlock ∧ k_ ≠ gb489 ∧ k_ ≠ gb509) v502 t501) ∧ Aside0 (Kd.R (Kd.int .i64) 3 wc w.heap.size (fun _ => True) v517 t516) ∧ Aside0 (Kd.R k80 80 wc w.heap.size (fun _ => True) (.slice Ao38 t506.length co38) t535) ∧ Aside0 (wc.heap[gb489]? = some (.cells #[.int .i64 a0_0,(.slice A0_1 l0_1.length c0_1)] 36 (0,0))) ∧ Aside0 (wc.heap[gb509]? = some (.cells #[.int .i64 t505,(.slice Ao38 t506.length co38)] 25 (0,0))) ∧ Aside0 (Below w.heap.size w wc))
   case first =>
    have H:=HC64.out;clear HC64
    by_cases c78 : t538 < 0
    case pos =>
     rw [if_pos c78] at H;have c78b0 : decide (t538 < 0) = true:=decide_eq_true c78;clear c78
     (first | rw [c78b0] | (simp only [i64_w,i32_w]; rw [c78b0]) | skip)
     have H':=zx H;clear H
     go_wp2
     go_meet
     case rel => exact ⟨_,(true),(by first | rfl | (simp; done) | (simp [*]; done)),H',⟨by have:=HJ20.out; first | omega | exact Nat.le_refl _⟩,⟨by (with_reducible repeat (first | apply Kd.V_alloc | apply Kd.V_drewN | apply Kd.V_drew)); exact Kd.V_mono HO_8.out (fun _ hk => ⟨hk.2.2.1,⟨hk.2.2.2.1,⟨hk.2.2.2.2.2.2.2.1,hk.2.2.2.2.2.2.2.2⟩⟩⟩)⟩,⟨by (with_reducible repeat (first | apply Kd.R_alloc | apply Kd.R_drewN | apply Kd.R_drew)); exact Kd.R_mono HO_13.out (fun _ hk => trivial)⟩,⟨by (with_reducible repeat (first | apply Kd.R_alloc | apply Kd.R_drewN | apply Kd.R_drew)); exact Kd.R_mono HO_510001.out (fun _ hk => trivial)⟩,⟨by (with_reducible repeat (first | refine blk_drewN ?_ _ | refine blk_drew ?_ | refine blk_alloc ?_ _)); exact BK489.out⟩,⟨by (with_reducible repeat (first | refine blk_drewN ?_ _ | refine blk_drew ?_ | refine blk_alloc ?_ _)); exact BK509.out⟩,⟨by repeat (first | (with_reducible first | exact HB.out | apply below_alloc | apply pw_below_drewN | apply below_drew1 | refine below_set ?_ GE489.out | refine below_set ?_ GE509.out) | exact HB.out)⟩⟩
    rw [if_neg c78] at H;have c78b0 : decide (t538 < 0) = false:=decide_eq_false c78;clear c78
    (first | rw [c78b0] | (simp only [i64_w,i32_w]; rw [c78b0]) | skip)
    replace H:=Option.bind_eq_some_iff.mp H;obtain ⟨t540,A790,H⟩:=H;replace H : (if t540 = true then (laws_FnExactJobBest.j1 kj20 l1 l2 t501 t504 t516 (t519 != t504) a0_0 l0_1) else (laws_FnExactJobBest.j1 kj20 l1 l2 t501 t504 t516 true a0_0 l0_1)) = some r:=H;have A79:=zx A790;clear A790
    by_cases c80 : t540 = true
    case pos =>
     subst c80;have H1 : (laws_FnExactJobBest.j1 kj20 l1 l2 t501 t504 t516 (t519 != t504) a0_0 l0_1) = some r:=by rw [if_pos rfl] at H; exact H
     clear H;have H:=H1;clear H1;have H':=zx H;clear H;obtain ⟨Ao81,co81,eo81⟩:=Kd.R_slice HO_13.out;subst eo81;obtain ⟨Ao82,co82,eo82⟩:=Kd.V_slice HO_8.out;subst eo82
     go_wp2_with (first | (go_at_call 16; (with_reducible refine (laws_eqIntS.calls kj20 _ _ t516 _ _ t501 true _ ?side1 ?side2 ?side3 ?side4 A79.out).mono ?_); (case side1 => repeat (first | exact (Kd.R_reads' HO_13.out).2.2 | (with_reducible refine Kd.C_alloc ?_ _) | (with_reducible refine Kd.C_drewN ?_ _) | (with_reducible refine Kd.C_drew ?_))); (case side2 => exact (Kd.R_reads' HO_13.out).2.1); (case side3 => repeat (first | exact (Kd.V_reads' HO_8.out).2.2 | (with_reducible refine Kd.C_alloc ?_ _) | (with_reducible refine Kd.C_drewN ?_ _) | (with_reducible refine Kd.C_drew ?_))); (case side4 => exact (Kd.V_reads' HO_8.out).2.1); rintro e w' ⟨rfl,⟨nd,rfl⟩⟩))
     go_meet
     case rel => exact ⟨_,((t519 != t504)),(by first | rfl | (simp; done) | (simp [*]; done)),H',⟨by have:=HJ20.out; first | omega | exact Nat.le_refl _⟩,⟨by (with_reducible repeat (first | apply Kd.V_alloc | apply Kd.V_drewN | apply Kd.V_drew)); exact Kd.V_mono HO_8.out (fun _ hk => ⟨hk.2.2.1,⟨hk.2.2.2.1,⟨hk.2.2.2.2.2.2.2.1,hk.2.2.2.2.2.2.2.2⟩⟩⟩)⟩,⟨by (with_reducible repeat (first | apply Kd.R_alloc | apply Kd.R_drewN | apply Kd.R_drew)); exact Kd.R_mono HO_13.out (fun _ hk => trivial)⟩,⟨by (with_reducible repeat (first | apply Kd.R_alloc | apply Kd.R_drewN | apply Kd.R_drew)); exact Kd.R_mono HO_510001.out (fun _ hk => trivial)⟩,⟨by (with_reducible repeat (first | refine blk_drewN ?_ _ | refine blk_drew ?_ | refine blk_alloc ?_ _)); exact BK489.out⟩,⟨by (with_reducible repeat (first | refine blk_drewN ?_ _ | refine blk_drew ?_ | refine blk_alloc ?_ _)); exact BK509.out⟩,⟨by repeat (first | (with_reducible first | exact HB.out | apply below_alloc | apply pw_below_drewN | apply below_drew1 | refine below_set ?_ GE489.out | refine below_set ?_ GE509.out) | exact HB.out)⟩⟩
    replace c80:=Bool.eq_false_iff.mpr c80;subst c80;have H1 : (laws_FnExactJobBest.j1 kj20 l1 l2 t501 t504 t516 true a0_0 l0_1) = some r:=by rw [if_neg (show ¬ (false = true) by decide)] at H; exact H
    clear H;have H:=H1;clear H1;have H':=zx H;clear H;obtain ⟨Ao83,co83,eo83⟩:=Kd.R_slice HO_13.out;subst eo83;obtain ⟨Ao84,co84,eo84⟩:=Kd.V_slice HO_8.out;subst eo84
    go_wp2_with (first | (go_at_call 16; (with_reducible refine (laws_eqIntS.calls kj20 _ _ t516 _ _ t501 false _ ?side1 ?side2 ?side3 ?side4 A79.out).mono ?_); (case side1 => repeat (first | exact (Kd.R_reads' HO_13.out).2.2 | (with_reducible refine Kd.C_alloc ?_ _) | (with_reducible refine Kd.C_drewN ?_ _) | (with_reducible refine Kd.C_drew ?_))); (case side2 => exact (Kd.R_reads' HO_13.out).2.1); (case side3 => repeat (first | exact (Kd.V_reads' HO_8.out).2.2 | (with_reducible refine Kd.C_alloc ?_ _) | (with_reducible refine Kd.C_drewN ?_ _) | (with_reducible refine Kd.C_drew ?_))); (case side4 => exact (Kd.V_reads' HO_8.out).2.1); rintro e w' ⟨rfl,⟨nd,rfl⟩⟩))
    go_meet
    case rel => exact ⟨_,(true),(by first | rfl | (simp; done) | (simp [*]; done)),H',⟨by have:=HJ20.out; first | omega | exact Nat.le_refl _⟩,⟨by (with_reducible repeat (first | apply Kd.V_alloc | apply Kd.V_drewN | apply Kd.V_drew)); exact Kd.V_mono HO_8.out (fun _ hk => ⟨hk.2.2.1,⟨hk.2.2.2.1,⟨hk.2.2.2.2.2.2.2.1,hk.2.2.2.2.2.2.2.2⟩⟩⟩)⟩,⟨by (with_reducible repeat (first | apply Kd.R_alloc | apply Kd.R_drewN | apply Kd.R_drew)); exact Kd.R_mono HO_13.out (fun _ hk => trivial)⟩,⟨by (with_reducible repeat (first | apply Kd.R_alloc | apply Kd.R_drewN | apply Kd.R_drew)); exact Kd.R_mono HO_510001.out (fun _ hk => trivial)⟩,⟨by (with_reducible repeat (first | refine blk_drewN ?_ _ | refine blk_drew ?_ | refine blk_alloc ?_ _)); exact BK489.out⟩,⟨by (with_reducible repeat (first | refine blk_drewN ?_ _ | refine blk_drew ?_ | refine blk_alloc ?_ _)); exact BK509.out⟩,⟨by repeat (first | (with_reducible first | exact HB.out | apply below_alloc | apply pw_below_drewN | apply below_drew1 | refine below_set ?_ GE489.out | refine below_set ?_ GE509.out) | exact HB.out)⟩⟩
   case rest =>
    clear HC64
    try clear c1
    try clear c2
    try clear p2
    try clear c3
    try clear c4
    try clear c4b0
    try clear c4b1
    try clear c5
    try clear c6
    try clear c6b0
    try clear c6b1
    try clear c7
    try clear c8
    try clear c9
    try clear c9b0
    try clear c10
    try clear c13
    try clear c14
    try clear c15
    try clear c16
    try clear c17
    try clear c18
    try clear c19
    try clear c36
    try clear c46
    try clear c51
    try clear c54
    try clear c57
    try clear c60
    try clear c73
    try clear c78
    try clear c78b0
    try clear c80
    try clear hcz11_0
    try clear hcz11_1
    try clear hcz23_0
    try clear hcz23_1
    try clear hcz25_0
    try clear hcz25_1
    try clear hcz33_0
    try clear hcz33_1
    try clear hcz37_0
    try clear hcz37_1
    try clear hcz41_0
    try clear hcz41_1
    try clear hcz74_0
    try clear hcz74_1
    try clear hfz11_0
    try clear hfz11_1
    try clear hfz23_0
    try clear hfz23_1
    try clear hfz25_0
    try clear hfz25_1
    try clear hfz33_0
    try clear hfz33_1
    try clear hfz37_0
    try clear hfz37_1
    try clear hfz41_0
    try clear hfz41_1
    try clear hfz74_0
    try clear hfz74_1
    try clear p2
    obtain ⟨kq,x99_63,rfl,HA,HJ63,HO_8,HO_13,HO_510001,BK489,BK509,HB⟩:=hcut;have hl510001_63:=(Kd.R_reads' HO_510001.out).1;rw [hl510001_63] at HO_510001
    (try simp only [hl510001_63])
    (try simp only [hl510001_63] at BK489)
    (try simp only [hl510001_63] at BK509)
    (try simp only [hl510001_63] at HO_8)
    (try simp only [hl510001_63] at HO_13)
    cases kq with
    | zero => exact absurd HA.out (by simp [laws_FnExactJobBest.j1])
    | succ kj63 =>
     have H:=HA.out;clear HA;simp only [laws_FnExactJobBest.j1] at H
     by_cases c85 : x99_63 = true
     case pos =>
      subst c85;have H1 : (some false) = some r:=by rw [if_pos rfl] at H; exact H
      exact absurd ((Option.some.inj H1).trans HRT_.out) (by decide)
     replace c85:=Bool.eq_false_iff.mpr c85;subst c85;have H1 : ((laws_markIntS.f kj63 t516 1).bind fun bt541 => ((laws_heldIntS.f kj63 bt541.2 1).bind fun t543 => (if t543 < 0 then (some false) else (if t543 = bt541.1 then ((laws_toNet.f kj63 a0_0 l0_1).bind fun bt544 => ((laws_toIntS.f kj63 l1).bind fun t548 => ((laws_toIntS.f kj63 l2).bind fun t551 => ((impl_JobBest.f kj63 bt544.1 bt544.2 t548 t551).bind fun bt554 => ((laws_eqIntS.f kj63 bt554.1 t501).bind fun t558 => (if t558 = true then (laws_FnExactJobBest.j2 kj63 bt541.2 bt541.1 (bt554.2 != t504)) else (laws_FnExactJobBest.j2 kj63 bt541.2 bt541.1 true))))))) else (some false))))) = some r:=by rw [if_neg (show ¬ (false = true) by decide)] at H; exact H
     clear H;have H:=H1;clear H1;replace H:=Option.bind_eq_some_iff.mp H;obtain ⟨⟨t541,t542⟩,A860,H⟩:=H;replace H : ((laws_heldIntS.f kj63 t542 1).bind fun t543 => (if t543 < 0 then (some false) else (if t543 = t541 then ((laws_toNet.f kj63 a0_0 l0_1).bind fun bt544 => ((laws_toIntS.f kj63 l1).bind fun t548 => ((laws_toIntS.f kj63 l2).bind fun t551 => ((impl_JobBest.f kj63 bt544.1 bt544.2 t548 t551).bind fun bt554 => ((laws_eqIntS.f kj63 bt554.1 t501).bind fun t558 => (if t558 = true then (laws_FnExactJobBest.j2 kj63 t542 t541 (bt554.2 != t504)) else (laws_FnExactJobBest.j2 kj63 t542 t541 true))))))) else (some false)))) = some r:=H;have A86:=zx A860;clear A860;replace H:=Option.bind_eq_some_iff.mp H;obtain ⟨t543,A870,H⟩:=H;replace H : (if t543 < 0 then (some false) else (if t543 = t541 then ((laws_toNet.f kj63 a0_0 l0_1).bind fun bt544 => ((laws_toIntS.f kj63 l1).bind fun t548 => ((laws_toIntS.f kj63 l2).bind fun t551 => ((impl_JobBest.f kj63 bt544.1 bt544.2 t548 t551).bind fun bt554 => ((laws_eqIntS.f kj63 bt554.1 t501).bind fun t558 => (if t558 = true then (laws_FnExactJobBest.j2 kj63 t542 t541 (bt554.2 != t504)) else (laws_FnExactJobBest.j2 kj63 t542 t541 true))))))) else (some false))) = some r:=H;have A87:=zx A870;clear A870
     by_cases c88 : t543 < 0
     case pos =>
      rw [if_pos c88] at H;have c88b0 : decide (t543 < 0) = true:=decide_eq_true c88;clear c88;obtain rfl:=Option.some.inj H;obtain ⟨Ao89,co89,eo89⟩:=Kd.R_slice HO_13.out;subst eo89
      go_wp2_with (first | ((with_reducible refine gate_callee (f:=19) rfl ?_); refine goesL_ (some 102) rfl rfl Try.func19 (by kernel_rfl) rfl #[.slice Ao89 t516.length co89,.int .i64 1] rfl (by (try simp only [List.map_toArray,List.map_cons,List.map_nil]); first | done | rfl | (simp only [List.length_drop,List.length_take]; rfl)) ?_; (with_reducible refine (laws_markIntS.calls kj63 (fun k_ => some k_ = (.slice Ao89 t516.length co89 : Value).ownBlock) (.slice Ao89 t516.length co89) t516 1 t541 t542 w _ ?side1 ?side2 A86.out).mono ?_); (case side1 => repeat (first | (with_reducible first | exact HB.out | apply below_alloc | apply pw_below_drewN | apply below_drew1 | refine below_set ?_ GE489.out | refine below_set ?_ GE509.out) | exact HB.out)); (case side2 => exact Kd.R_tight rfl HO_13.out); rintro e w90 ⟨rfl,hy0,hb,hkp⟩; refine ⟨_,rfl,?_⟩; have n0_:=zx (Kd.V_mono (ok':=fun k_ => some k_ ≠ (.slice Ao89 t516.length co89 : Value).ownBlock ∧ some k_ ≠ (.slice Ao38 t535.length co38 : Value).ownBlock ∧ k_ ≠ gb489 ∧ k_ ≠ gb509) (Kd.V_keptB (HO_8.out) hkp (fun k_ hk_ hs_ => (hk_.1) hs_)) (fun k_ hk_ => ⟨hk_.1.1,hk_.1.2.1,hk_.1.2.2.1,hk_.1.2.2.2⟩)); have n1_:=zx (Kd.R_reok rfl hy0 (fun k_ e_ => HO_13.out.1 k_ e_)); have n2_:=zx (Kd.R_mono (ok':=fun k_ => True) (Kd.R_keptB ((Kd.R_apart' HO_510001.out (Kd.R_typed HO_13.out) (by decide))) hkp (fun k_ hk_ hs_ => (hk_.2) hs_)) (fun k_ hk_ => trivial)); have n3_:=zx (blk_kept (by (with_reducible repeat (first | refine blk_drewN ?_ _ | refine blk_drew ?_ | refine blk_alloc ?_ _)); exact BK489.out) hkp (fun hs_ => (fun e_ => (Kd.R_ne HO_13.out BK489.out (by decide)) e_) hs_)); have n4_:=zx (blk_kept (by (with_reducible repeat (first | refine blk_drewN ?_ _ | refine blk_drew ?_ | refine blk_alloc ?_ _)); exact BK509.out) hkp (fun hs_ => (fun e_ => (Kd.R_ne HO_13.out BK509.out (by decide)) e_) hs_)); have n5_:=zx (hb); clear HO_8; clear HO_13; clear HO_510001; clear BK489; clear BK509; clear HB; have HO_8:=n0_; have HO_13:=n1_; have HO_510001:=n2_; have BK489:=n3_; have BK509:=n4_; have HB:=n5_; clear n0_ n1_ n2_ n3_ n4_ n5_; (try clear hb); (try clear hkp); (try clear hy0)) | ((with_reducible refine gate_callee (f:=20) rfl ?_); refine goesL_ (some 105) rfl rfl Try.func20 (by kernel_rfl) rfl #[.slice Ao89 t542.length co89,.int .i64 1] rfl (by (try simp only [List.map_toArray,List.map_cons,List.map_nil]); first | done | (rw [show t542.length = t516.length from (Kd.R_reads' HO_13.out).1.symm] <;> rfl) | rfl | (simp only [List.length_drop,List.length_take]; rfl)) ?_; (with_reducible refine (laws_heldIntS.calls kj63 _ _ t542 1 t543 _ ?side1 ?side2 A87.out).mono ?_); (case side1 => repeat (first | exact (Kd.R_reads' HO_13.out).2.2 | (with_reducible refine Kd.C_alloc ?_ _) | (with_reducible refine Kd.C_drewN ?_ _) | (with_reducible refine Kd.C_drew ?_))); (case side2 => rw [show t542.length = t516.length from (Kd.R_reads' HO_13.out).1.symm]; exact (Kd.R_reads' HO_13.out).2.1); rintro e w' ⟨rfl,⟨nd,rfl⟩⟩; refine ⟨_,rfl,?_⟩))
      go_ret;exact ⟨by first | rfl | (simp [errW_none,errW_some] <;> rfl) | (simp [*,errW_none,errW_some] <;> rfl),by repeat (first | (with_reducible first | exact HB.out | apply below_alloc | apply pw_below_drewN | apply below_drew1 | refine below_set ?_ GE489.out | refine below_set ?_ GE509.out) | exact HB.out)⟩
     rw [if_neg c88] at H;have c88b0 : decide (t543 < 0) = false:=decide_eq_false c88;clear c88
     by_cases c91 : t543 = t541
     case neg =>
      rw [if_neg c91] at H;have c91b0 : (t543 == t541) = false:=beq_eq_false_iff_ne.mpr c91;have c91b1 : (t543 != t541) = true:=bne_iff_ne.mpr c91;obtain rfl:=Option.some.inj H;obtain ⟨Ao118,co118,eo118⟩:=Kd.R_slice HO_13.out;subst eo118
      go_wp2_with (first | ((with_reducible refine gate_callee (f:=19) rfl ?_); refine goesL_ (some 102) rfl rfl Try.func19 (by kernel_rfl) rfl #[.slice Ao118 t516.length co118,.int .i64 1] rfl (by (try simp only [List.map_toArray,List.map_cons,List.map_nil]); first | done | rfl | (simp only [List.length_drop,List.length_take]; rfl)) ?_; (with_reducible refine (laws_markIntS.calls kj63 (fun k_ => some k_ = (.slice Ao118 t516.length co118 : Value).ownBlock) (.slice Ao118 t516.length co118) t516 1 t541 t542 w _ ?side1 ?side2 A86.out).mono ?_); (case side1 => repeat (first | (with_reducible first | exact HB.out | apply below_alloc | apply pw_below_drewN | apply below_drew1 | refine below_set ?_ GE489.out | refine below_set ?_ GE509.out) | exact HB.out)); (case side2 => exact Kd.R_tight rfl HO_13.out); rintro e w119 ⟨rfl,hy0,hb,hkp⟩; refine ⟨_,rfl,?_⟩; have n0_:=zx (Kd.V_mono (ok':=fun k_ => some k_ ≠ (.slice Ao118 t516.length co118 : Value).ownBlock ∧ some k_ ≠ (.slice Ao38 t535.length co38 : Value).ownBlock ∧ k_ ≠ gb489 ∧ k_ ≠ gb509) (Kd.V_keptB (HO_8.out) hkp (fun k_ hk_ hs_ => (hk_.1) hs_)) (fun k_ hk_ => ⟨hk_.1.1,hk_.1.2.1,hk_.1.2.2.1,hk_.1.2.2.2⟩)); have n1_:=zx (Kd.R_reok rfl hy0 (fun k_ e_ => HO_13.out.1 k_ e_)); have n2_:=zx (Kd.R_mono (ok':=fun k_ => True) (Kd.R_keptB ((Kd.R_apart' HO_510001.out (Kd.R_typed HO_13.out) (by decide))) hkp (fun k_ hk_ hs_ => (hk_.2) hs_)) (fun k_ hk_ => trivial)); have n3_:=zx (blk_kept (by (with_reducible repeat (first | refine blk_drewN ?_ _ | refine blk_drew ?_ | refine blk_alloc ?_ _)); exact BK489.out) hkp (fun hs_ => (fun e_ => (Kd.R_ne HO_13.out BK489.out (by decide)) e_) hs_)); have n4_:=zx (blk_kept (by (with_reducible repeat (first | refine blk_drewN ?_ _ | refine blk_drew ?_ | refine blk_alloc ?_ _)); exact BK509.out) hkp (fun hs_ => (fun e_ => (Kd.R_ne HO_13.out BK509.out (by decide)) e_) hs_)); have n5_:=zx (hb); clear HO_8; clear HO_13; clear HO_510001; clear BK489; clear BK509; clear HB; have HO_8:=n0_; have HO_13:=n1_; have HO_510001:=n2_; have BK489:=n3_; have BK509:=n4_; have HB:=n5_; clear n0_ n1_ n2_ n3_ n4_ n5_; (try clear hb); (try clear hkp); (try clear hy0)) | ((with_reducible refine gate_callee (f:=20) rfl ?_); refine goesL_ (some 105) rfl rfl Try.func20 (by kernel_rfl) rfl #[.slice Ao118 t542.length co118,.int .i64 1] rfl (by (try simp only [List.map_toArray,List.map_cons,List.map_nil]); first | done | (rw [show t542.length = t516.length from (Kd.R_reads' HO_13.out).1.symm] <;> rfl) | rfl | (simp only [List.length_drop,List.length_take]; rfl)) ?_; (with_reducible refine (laws_heldIntS.calls kj63 _ _ t542 1 t543 _ ?side1 ?side2 A87.out).mono ?_); (case side1 => repeat (first | exact (Kd.R_reads' HO_13.out).2.2 | (with_reducible refine Kd.C_alloc ?_ _) | (with_reducible refine Kd.C_drewN ?_ _) | (with_reducible refine Kd.C_drew ?_))); (case side2 => rw [show t542.length = t516.length from (Kd.R_reads' HO_13.out).1.symm]; exact (Kd.R_reads' HO_13.out).2.1); rintro e w' ⟨rfl,⟨nd,rfl⟩⟩; refine ⟨_,rfl,?_⟩))
      go_ret;exact ⟨by first | rfl | (simp [errW_none,errW_some] <;> rfl) | (simp [*,errW_none,errW_some] <;> rfl),by repeat (first | (with_reducible first | exact HB.out | apply below_alloc | apply pw_below_drewN | apply below_drew1 | refine below_set ?_ GE489.out | refine below_set ?_ GE509.out) | exact HB.out)⟩
     rw [if_pos c91] at H;have c91b0 : (t543 == t541) = true:=beq_iff_eq.mpr c91;have c91b1 : (t543 != t541) = false:=bne_eq_false_iff_eq.mpr c91;clear c91;replace H:=Option.bind_eq_some_iff.mp H;obtain ⟨⟨t544,t545⟩,A920,H⟩:=H;replace H : ((laws_toIntS.f kj63 l1).bind fun t548 => ((laws_toIntS.f kj63 l2).bind fun t551 => ((impl_JobBest.f kj63 t544 t545 t548 t551).bind fun bt554 => ((laws_eqIntS.f kj63 bt554.1 t501).bind fun t558 => (if t558 = true then (laws_FnExactJobBest.j2 kj63 t542 t541 (bt554.2 != t504)) else (laws_FnExactJobBest.j2 kj63 t542 t541 true)))))) = some r:=H;have A92:=zx A920;clear A920;replace H:=Option.bind_eq_some_iff.mp H;obtain ⟨t548,A930,H⟩:=H;replace H : ((laws_toIntS.f kj63 l2).bind fun t551 => ((impl_JobBest.f kj63 t544 t545 t548 t551).bind fun bt554 => ((laws_eqIntS.f kj63 bt554.1 t501).bind fun t558 => (if t558 = true then (laws_FnExactJobBest.j2 kj63 t542 t541 (bt554.2 != t504)) else (laws_FnExactJobBest.j2 kj63 t542 t541 true))))) = some r:=H;have A93:=zx A930;clear A930;replace H:=Option.bind_eq_some_iff.mp H;obtain ⟨t551,A940,H⟩:=H;replace H : ((impl_JobBest.f kj63 t544 t545 t548 t551).bind fun bt554 => ((laws_eqIntS.f kj63 bt554.1 t501).bind fun t558 => (if t558 = true then (laws_FnExactJobBest.j2 kj63 t542 t541 (bt554.2 != t504)) else (laws_FnExactJobBest.j2 kj63 t542 t541 true)))) = some r:=H;have A94:=zx A940;clear A940;replace H:=Option.bind_eq_some_iff.mp H;obtain ⟨⟨t554,t557⟩,A950,H⟩:=H;replace H : ((laws_eqIntS.f kj63 t554 t501).bind fun t558 => (if t558 = true then (laws_FnExactJobBest.j2 kj63 t542 t541 (t557 != t504)) else (laws_FnExactJobBest.j2 kj63 t542 t541 true))) = some r:=H;have A95:=zx A950;clear A950;have HC96:=zx H;clear H;obtain ⟨Ao97,co97,eo97⟩:=Kd.R_slice HO_13.out;subst eo97
     go_upto_region 37 with (first | ((with_reducible refine gate_callee (f:=19) rfl ?_); refine goesL_ (some 102) rfl rfl Try.func19 (by kernel_rfl) rfl #[.slice Ao97 t516.length co97,.int .i64 1] rfl (by (try simp only [List.map_toArray,List.map_cons,List.map_nil]); first | done | rfl | (simp only [List.length_drop,List.length_take]; rfl)) ?_; (with_reducible refine (laws_markIntS.calls kj63 (fun k_ => some k_ = (.slice Ao97 t516.length co97 : Value).ownBlock) (.slice Ao97 t516.length co97) t516 1 t541 t542 w _ ?side1 ?side2 A86.out).mono ?_); (case side1 => repeat (first | (with_reducible first | exact HB.out | apply below_alloc | apply pw_below_drewN | apply below_drew1 | refine below_set ?_ GE489.out | refine below_set ?_ GE509.out) | exact HB.out)); (case side2 => exact Kd.R_tight rfl HO_13.out); rintro e w98 ⟨rfl,hy0,hb,hkp⟩; refine ⟨_,rfl,?_⟩; have n0_:=zx (Kd.V_mono (ok':=fun k_ => some k_ ≠ (.slice Ao97 t516.length co97 : Value).ownBlock ∧ some k_ ≠ (.slice Ao38 t535.length co38 : Value).ownBlock ∧ k_ ≠ gb489 ∧ k_ ≠ gb509) (Kd.V_keptB (HO_8.out) hkp (fun k_ hk_ hs_ => (hk_.1) hs_)) (fun k_ hk_ => ⟨hk_.1.1,hk_.1.2.1,hk_.1.2.2.1,hk_.1.2.2.2⟩)); have n1_:=zx (Kd.R_reok rfl hy0 (fun k_ e_ => HO_13.out.1 k_ e_)); have n2_:=zx (Kd.R_mono (ok':=fun k_ => True) (Kd.R_keptB ((Kd.R_apart' HO_510001.out (Kd.R_typed HO_13.out) (by decide))) hkp (fun k_ hk_ hs_ => (hk_.2) hs_)) (fun k_ hk_ => trivial)); have n3_:=zx (blk_kept (by (with_reducible repeat (first | refine blk_drewN ?_ _ | refine blk_drew ?_ | refine blk_alloc ?_ _)); exact BK489.out) hkp (fun hs_ => (fun e_ => (Kd.R_ne HO_13.out BK489.out (by decide)) e_) hs_)); have n4_:=zx (blk_kept (by (with_reducible repeat (first | refine blk_drewN ?_ _ | refine blk_drew ?_ | refine blk_alloc ?_ _)); exact BK509.out) hkp (fun hs_ => (fun e_ => (Kd.R_ne HO_13.out BK509.out (by decide)) e_) hs_)); have n5_:=zx (hb); clear HO_8; clear HO_13; clear HO_510001; clear BK489; clear BK509; clear HB; have HO_8:=n0_; have HO_13:=n1_; have HO_510001:=n2_; have BK489:=n3_; have BK509:=n4_; have HB:=n5_; clear n0_ n1_ n2_ n3_ n4_ n5_; (try clear hb); (try clear hkp); (try clear hy0)) | ((with_reducible refine gate_callee (f:=20) rfl ?_); refine goesL_ (some 105) rfl rfl Try.func20 (by kernel_rfl) rfl #[.slice Ao97 t542.length co97,.int .i64 1] rfl (by (try simp only [List.map_toArray,List.map_cons,List.map_nil]); first | done | (rw [show t542.length = t516.length from (Kd.R_reads' HO_13.out).1.symm] <;> rfl) | rfl | (simp only [List.length_drop,List.length_take]; rfl)) ?_; (with_reducible refine (laws_heldIntS.calls kj63 _ _ t542 1 t543 _ ?side1 ?side2 A87.out).mono ?_); (case side1 => repeat (first | exact (Kd.R_reads' HO_13.out).2.2 | (with_reducible refine Kd.C_alloc ?_ _) | (with_reducible refine Kd.C_drewN ?_ _) | (with_reducible refine Kd.C_drew ?_))); (case side2 => rw [show t542.length = t516.length from (Kd.R_reads' HO_13.out).1.symm]; exact (Kd.R_reads' HO_13.out).2.1); rintro e w' ⟨rfl,⟨nd,rfl⟩⟩; refine ⟨_,rfl,?_⟩; have hnb99:=NB489_509.out; have hnc99:=NB509_489.out; have hcz100_0 : w98.cell? ⟨gb489,0,none⟩ = some (.int .i64 a0_0):=(blk_cell BK489.out 0).trans rfl; have hcz100_1 : w98.cell? ⟨gb489,1,none⟩ = some (.slice A0_1 l0_1.length c0_1):=(blk_cell BK489.out 1).trans rfl; have hfz100_0:=blk_frozen BK489.out 0; have hfz100_1:=blk_frozen BK489.out 1) | ((with_reducible refine gate_callee (f:=14) rfl ?_); refine goesL_ (some 113) rfl rfl Try.func14 (by kernel_rfl) rfl #[.agg #[.int .i64 a0_0,.slice A0_1 l0_1.length c0_1]] rfl (by (try simp only [List.map_toArray,List.map_cons,List.map_nil]); first | done | rfl | (simp only [List.length_drop,List.length_take]; rfl)) ?_; (with_reducible refine (laws_toNet.calls kj63 a0_0 _ _ l0_1 t544 t545 _ ?side1 ?side2 A92.out).mono ?_); (case side1 => repeat (first | exact (Kd.C_below HR0_1.out (by repeat (first | (with_reducible first | exact HB.out | apply below_alloc | apply pw_below_drewN | apply below_drew1 | refine below_set ?_ GE489.out | refine below_set ?_ GE509.out) | exact HB.out))) | (with_reducible refine Kd.C_alloc ?_ _) | (with_reducible refine Kd.C_drewN ?_ _) | (with_reducible refine Kd.C_drew ?_))); (case side2 => exact HC0_1.out); rintro e w101 ⟨v546,rfl,ho0,hb⟩; refine ⟨_,rfl,?_⟩; have n0_:=zx (Kd.V_elder' (by (with_reducible repeat (first | apply Kd.V_alloc | apply Kd.V_drewN | apply Kd.V_drew)); exact HO_8.out) (Kd.R_base ho0) hb); have n1_:=zx (Kd.R_below (by (with_reducible repeat (first | apply Kd.R_alloc | apply Kd.R_drewN | apply Kd.R_drew)); exact HO_13.out) hb); have n2_:=zx (Kd.R_elder' (by (with_reducible repeat (first | apply Kd.R_alloc | apply Kd.R_drewN | apply Kd.R_drew)); exact HO_510001.out) (Kd.R_base ho0) hb); have n3_:=zx (Kd.R_lower (Kd.R_new' ho0 (Kd.R_lt (by (with_reducible repeat (first | apply Kd.R_alloc | apply Kd.R_drewN | apply Kd.R_drew)); exact HO_510001.out))) (below_size (by repeat (first | (with_reducible first | exact HB.out | apply below_alloc | apply pw_below_drewN | apply below_drew1 | refine below_set ?_ GE489.out | refine below_set ?_ GE509.out) | exact HB.out)))); have n4_:=zx (blk_below (g:=gb489) (o:=.cells #[.int .i64 a0_0,.slice A0_1 l0_1.length c0_1] 36 (0,0)) (by (with_reducible repeat (first | refine blk_drewN ?_ _ | refine blk_drew ?_ | refine blk_alloc ?_ _)); exact BK489.out) hb); have n5_:=zx (blk_below (g:=gb509) (o:=.cells #[.int .i64 t505,.slice Ao38 t535.length co38] 25 (0,0)) (by (with_reducible repeat (first | refine blk_drewN ?_ _ | refine blk_drew ?_ | refine blk_alloc ?_ _)); exact BK509.out) hb); have n6_:=zx (below_step (by repeat (first | (with_reducible first | exact HB.out | apply below_alloc | apply pw_below_drewN | apply below_drew1 | refine below_set ?_ GE489.out | refine below_set ?_ GE509.out) | exact HB.out)) hb); clear HO_8; clear HO_13; clear HO_510001; clear BK489; clear BK509; clear HB; have HO_8:=n0_; have HO_13:=n1_; have HO_510001:=n2_; have HO547:=n3_; have BK489:=n4_; have BK509:=n5_; have HB:=n6_; clear n0_ n1_ n2_ n3_ n4_ n5_ n6_; (try clear hb); (try clear hb2); (try clear hk); (try clear hi); (try clear ho0)) | ((with_reducible refine gate_callee (f:=15) rfl ?_); refine goesL_ (some 115) rfl rfl Try.func15 (by kernel_rfl) rfl #[.slice A1 l1.length c1] rfl (by (try simp only [List.map_toArray,List.map_cons,List.map_nil]); first | done | rfl | (simp only [List.length_drop,List.length_take]; rfl)) ?_; (with_reducible refine (laws_toIntS.calls kj63 _ _ l1 t548 _ ?side1 ?side2 A93.out).mono ?_); (case side1 => repeat (first | exact (Kd.C_below HR1.out HB.out) | (with_reducible refine Kd.C_alloc ?_ _) | (with_reducible refine Kd.C_drewN ?_ _) | (with_reducible refine Kd.C_drew ?_))); (case side2 => exact HC1.out); rintro e w102 ⟨v549,rfl,ho0,hb⟩; refine ⟨_,rfl,?_⟩; have n0_:=zx (Kd.V_elder' (by (with_reducible repeat (first | apply Kd.V_alloc | apply Kd.V_drewN | apply Kd.V_drew)); exact HO_8.out) (Kd.R_base ho0) hb); have n1_:=zx (Kd.R_elder' (by (with_reducible repeat (first | apply Kd.R_alloc | apply Kd.R_drewN | apply Kd.R_drew)); exact HO_13.out) (Kd.R_base ho0) hb); have n2_:=zx (Kd.R_below (by (with_reducible repeat (first | apply Kd.R_alloc | apply Kd.R_drewN | apply Kd.R_drew)); exact HO_510001.out) hb); have n3_:=zx (Kd.R_below (by (with_reducible repeat (first | apply Kd.R_alloc | apply Kd.R_drewN | apply Kd.R_drew)); exact HO547.out) hb); have n4_:=zx (Kd.R_lower (Kd.R_new' ho0 (Kd.R_lt (by (with_reducible repeat (first | apply Kd.R_alloc | apply Kd.R_drewN | apply Kd.R_drew)); exact HO_13.out))) (below_size (by repeat (first | (with_reducible first | exact HB.out | apply below_alloc | apply pw_below_drewN | apply below_drew1 | refine below_set ?_ GE489.out | refine below_set ?_ GE509.out) | exact HB.out)))); have n5_:=zx (blk_below (g:=gb489) (o:=.cells #[.int .i64 a0_0,.slice A0_1 l0_1.length c0_1] 36 (0,0)) (by (with_reducible repeat (first | refine blk_drewN ?_ _ | refine blk_drew ?_ | refine blk_alloc ?_ _)); exact BK489.out) hb); have n6_:=zx (blk_below (g:=gb509) (o:=.cells #[.int .i64 t505,.slice Ao38 t535.length co38] 25 (0,0)) (by (with_reducible repeat (first | refine blk_drewN ?_ _ | refine blk_drew ?_ | refine blk_alloc ?_ _)); exact BK509.out) hb); have n7_:=zx (below_step (by repeat (first | (with_reducible first | exact HB.out | apply below_alloc | apply pw_below_drewN | apply below_drew1 | refine below_set ?_ GE489.out | refine below_set ?_ GE509.out) | exact HB.out)) hb); clear HO_8; clear HO_13; clear HO_510001; clear HO547; clear BK489; clear BK509; clear HB; have HO_8:=n0_; have HO_13:=n1_; have HO_510001:=n2_; have HO547:=n3_; have HO550:=n4_; have BK489:=n5_; have BK509:=n6_; have HB:=n7_; clear n0_ n1_ n2_ n3_ n4_ n5_ n6_ n7_; (try clear hb); (try clear hb2); (try clear hk); (try clear hi); (try clear ho0)) | ((with_reducible refine gate_callee (f:=15) rfl ?_); refine goesL_ (some 117) rfl rfl Try.func15 (by kernel_rfl) rfl #[.slice A2 l2.length c2] rfl (by (try simp only [List.map_toArray,List.map_cons,List.map_nil]); first | done | rfl | (simp only [List.length_drop,List.length_take]; rfl)) ?_; (with_reducible refine (laws_toIntS.calls kj63 _ _ l2 t551 _ ?side1 ?side2 A94.out).mono ?_); (case side1 => repeat (first | exact (Kd.C_below HR2.out HB.out) | (with_reducible refine Kd.C_alloc ?_ _) | (with_reducible refine Kd.C_drewN ?_ _) | (with_reducible refine Kd.C_drew ?_))); (case side2 => exact HC2.out); rintro e w103 ⟨v552,rfl,ho0,hb⟩; refine ⟨_,rfl,?_⟩; have n0_:=zx (Kd.V_elder' (by (with_reducible repeat (first | apply Kd.V_alloc | apply Kd.V_drewN | apply Kd.V_drew)); exact HO_8.out) (Kd.R_base ho0) hb); have n1_:=zx (Kd.R_elder' (by (with_reducible repeat (first | apply Kd.R_alloc | apply Kd.R_drewN | apply Kd.R_drew)); exact HO_13.out) (Kd.R_base ho0) hb); have n2_:=zx (Kd.R_below (by (with_reducible repeat (first | apply Kd.R_alloc | apply Kd.R_drewN | apply Kd.R_drew)); exact HO_510001.out) hb); have n3_:=zx (Kd.R_below (by (with_reducible repeat (first | apply Kd.R_alloc | apply Kd.R_drewN | apply Kd.R_drew)); exact HO547.out) hb); have n4_:=zx (Kd.R_elder' (by (with_reducible repeat (first | apply Kd.R_alloc | apply Kd.R_drewN | apply Kd.R_drew)); exact HO550.out) (Kd.R_base ho0) hb); have n5_:=zx (Kd.R_lower (Kd.R_new' (Kd.R_new' ho0 (Kd.R_lt (by (with_reducible repeat (first | apply Kd.R_alloc | apply Kd.R_drewN | apply Kd.R_drew)); exact HO_13.out))) (Kd.R_lt (by (with_reducible repeat (first | apply Kd.R_alloc | apply Kd.R_drewN | apply Kd.R_drew)); exact HO550.out))) (below_size (by repeat (first | (with_reducible first | exact HB.out | apply below_alloc | apply pw_below_drewN | apply below_drew1 | refine below_set ?_ GE489.out | refine below_set ?_ GE509.out) | exact HB.out)))); have n6_:=zx (blk_below (g:=gb489) (o:=.cells #[.int .i64 a0_0,.slice A0_1 l0_1.length c0_1] 36 (0,0)) (by (with_reducible repeat (first | refine blk_drewN ?_ _ | refine blk_drew ?_ | refine blk_alloc ?_ _)); exact BK489.out) hb); have n7_:=zx (blk_below (g:=gb509) (o:=.cells #[.int .i64 t505,.slice Ao38 t535.length co38] 25 (0,0)) (by (with_reducible repeat (first | refine blk_drewN ?_ _ | refine blk_drew ?_ | refine blk_alloc ?_ _)); exact BK509.out) hb); have n8_:=zx (below_step (by repeat (first | (with_reducible first | exact HB.out | apply below_alloc | apply pw_below_drewN | apply below_drew1 | refine below_set ?_ GE489.out | refine below_set ?_ GE509.out) | exact HB.out)) hb); clear HO_8; clear HO_13; clear HO_510001; clear HO547; clear HO550; clear BK489; clear BK509; clear HB; have HO_8:=n0_; have HO_13:=n1_; have HO_510001:=n2_; have HO547:=n3_; have HO550:=n4_; have HO553:=n5_; have BK489:=n6_; have BK509:=n7_; have HB:=n8_; clear n0_ n1_ n2_ n3_ n4_ n5_ n6_ n7_ n8_; (try clear hb); (try clear hb2); (try clear hk); (try clear hi); (try clear ho0); obtain ⟨Ao104,co104,eo104⟩:=Kd.R_slice HO547.out; subst eo104; obtain ⟨Ao105,co105,eo105⟩:=Kd.R_slice HO550.out; subst eo105; obtain ⟨Ao106,co106,eo106⟩:=Kd.R_slice HO553.out; subst eo106) | ((with_reducible refine gate_callee (f:=9) rfl ?_); refine goesL_ (some 118) rfl rfl Try.func9 (by kernel_rfl) rfl #[.agg #[.int .i64 t544,.slice Ao104 t545.length co104],.slice Ao105 t548.length co105,.slice Ao106 t551.length co106] rfl (by (try simp only [List.map_toArray,List.map_cons,List.map_nil]); first | done | rfl | (simp only [List.length_drop,List.length_take]; rfl)) ?_; (with_reducible refine (impl_JobBest.calls kj63 t544 _ _ t545 _ _ t548 _ _ t551 t554 t557 _ ?side1 ?side2 ?side3 ?side4 ?side5 ?side6 A95.out).mono ?_); (case side1 => repeat (first | exact (Kd.R_reads' HO547.out).2.2 | (with_reducible refine Kd.C_alloc ?_ _) | (with_reducible refine Kd.C_drewN ?_ _) | (with_reducible refine Kd.C_drew ?_))); (case side2 => exact (Kd.R_reads' HO547.out).2.1); (case side3 => repeat (first | exact (Kd.R_reads' HO550.out).2.2 | (with_reducible refine Kd.C_alloc ?_ _) | (with_reducible refine Kd.C_drewN ?_ _) | (with_reducible refine Kd.C_drew ?_))); (case side4 => exact (Kd.R_reads' HO550.out).2.1); (case side5 => repeat (first | exact (Kd.R_reads' HO553.out).2.2 | (with_reducible refine Kd.C_alloc ?_ _) | (with_reducible refine Kd.C_drewN ?_ _) | (with_reducible refine Kd.C_drew ?_))); (case side6 => exact (Kd.R_reads' HO553.out).2.1); rintro e w107 ⟨v555,rfl,ho0,hb⟩; refine ⟨_,rfl,?_⟩; have n0_:=zx (Kd.V_elder' (by (with_reducible repeat (first | apply Kd.V_alloc | apply Kd.V_drewN | apply Kd.V_drew)); exact HO_8.out) (Kd.R_base ho0) hb); have n1_:=zx (Kd.R_elder' (by (with_reducible repeat (first | apply Kd.R_alloc | apply Kd.R_drewN | apply Kd.R_drew)); exact HO_13.out) (Kd.R_base ho0) hb); have n2_:=zx (Kd.R_below (by (with_reducible repeat (first | apply Kd.R_alloc | apply Kd.R_drewN | apply Kd.R_drew)); exact HO_510001.out) hb); have n3_:=zx (Kd.R_below (by (with_reducible repeat (first | apply Kd.R_alloc | apply Kd.R_drewN | apply Kd.R_drew)); exact HO547.out) hb); have n4_:=zx (Kd.R_elder' (by (with_reducible repeat (first | apply Kd.R_alloc | apply Kd.R_drewN | apply Kd.R_drew)); exact HO550.out) (Kd.R_base ho0) hb); have n5_:=zx (Kd.R_elder' (by (with_reducible repeat (first | apply Kd.R_alloc | apply Kd.R_drewN | apply Kd.R_drew)); exact HO553.out) (Kd.R_base ho0) hb); have n6_:=zx (Kd.R_lower (Kd.R_new' (Kd.R_new' (Kd.R_new' ho0 (Kd.R_lt (by (with_reducible repeat (first | apply Kd.R_alloc | apply Kd.R_drewN | apply Kd.R_drew)); exact HO_13.out))) (Kd.R_lt (by (with_reducible repeat (first | apply Kd.R_alloc | apply Kd.R_drewN | apply Kd.R_drew)); exact HO550.out))) (Kd.R_lt (by (with_reducible repeat (first | apply Kd.R_alloc | apply Kd.R_drewN | apply Kd.R_drew)); exact HO553.out))) (below_size (by repeat (first | (with_reducible first | exact HB.out | apply below_alloc | apply pw_below_drewN | apply below_drew1 | refine below_set ?_ GE489.out | refine below_set ?_ GE509.out) | exact HB.out)))); have n7_:=zx (blk_below (g:=gb489) (o:=.cells #[.int .i64 a0_0,.slice A0_1 l0_1.length c0_1] 36 (0,0)) (by (with_reducible repeat (first | refine blk_drewN ?_ _ | refine blk_drew ?_ | refine blk_alloc ?_ _)); exact BK489.out) hb); have n8_:=zx (blk_below (g:=gb509) (o:=.cells #[.int .i64 t505,.slice Ao38 t535.length co38] 25 (0,0)) (by (with_reducible repeat (first | refine blk_drewN ?_ _ | refine blk_drew ?_ | refine blk_alloc ?_ _)); exact BK509.out) hb); have n9_:=zx (below_step (by repeat (first | (with_reducible first | exact HB.out | apply below_alloc | apply pw_below_drewN | apply below_drew1 | refine below_set ?_ GE489.out | refine below_set ?_ GE509.out) | exact HB.out)) hb); clear HO_8; clear HO_13; clear HO_510001; clear HO547; clear HO550; clear HO553; clear BK489; clear BK509; clear HB; have HO_8:=n0_; have HO_13:=n1_; have HO_510001:=n2_; have HO547:=n3_; have HO550:=n4_; have HO553:=n5_; have HO556:=n6_; have BK489:=n7_; have BK509:=n8_; have HB:=n9_; clear n0_ n1_ n2_ n3_ n4_ n5_ n6_ n7_ n8_ n9_; (try clear hb); (try clear hb2); (try clear hk); (try clear hi); (try clear ho0)))
     (try simp only [Act.put,J,U,Z])
     go_cut [129] (fun v129 wc => ∃ (kq : Nat) (x129_95 : Bool),v129 = .bool x129_95 ∧ Aside0 (laws_FnExactJobBest.j2 kq t542 t541 x129_95 = some r) ∧ Aside0 (kq ≤ kj63) ∧ Aside0 (Kd.R (Kd.int .i64) 3 wc w.heap.size (fun _ => True) (.slice Ao97 t516.length co97) t542) ∧ Aside0 (Kd.R k80 80 wc w.heap.size (fun _ => True) (.slice Ao38 t535.length co38) t535) ∧ Aside0 (wc.heap[gb489]? = some (.cells #[.int .i64 a0_0,(.slice A0_1 l0_1.length c0_1)] 36 (0,0))) ∧ Aside0 (wc.heap[gb509]? = some (.cells #[.int .i64 t505,(.slice Ao38 t535.length co38)] 25 (0,0))) ∧ Aside0 (Below w.heap.size w wc))
     case first =>
      have H:=HC96.out;clear HC96;replace H:=Option.bind_eq_some_iff.mp H;obtain ⟨t558,A1080,H⟩:=H;replace H : (if t558 = true then (laws_FnExactJobBest.j2 kj63 t542 t541 (t557 != t504)) else (laws_FnExactJobBest.j2 kj63 t542 t541 true)) = some r:=H;have A108:=zx A1080;clear A1080
      by_cases c109 : t558 = true
      case pos =>
       subst c109;have H1 : (laws_FnExactJobBest.j2 kj63 t542 t541 (t557 != t504)) = some r:=by rw [if_pos rfl] at H; exact H
       clear H;have H:=H1;clear H1;have H':=zx H;clear H;obtain ⟨Ao110,co110,eo110⟩:=Kd.R_slice HO556.out;subst eo110;obtain ⟨Ao111,co111,eo111⟩:=Kd.V_slice HO_8.out;subst eo111
       go_wp2_with (first | ((with_reducible refine gate_callee (f:=16) rfl ?_); refine goesL_ (some 123) rfl rfl Try.func16 (by kernel_rfl) rfl #[.slice Ao110 t554.length co110,.slice Ao111 t501.length co111] rfl (by (try simp only [List.map_toArray,List.map_cons,List.map_nil]); first | done | rfl | (simp only [List.length_drop,List.length_take]; rfl)) ?_; (with_reducible refine (laws_eqIntS.calls kj63 _ _ t554 _ _ t501 true _ ?side1 ?side2 ?side3 ?side4 A108.out).mono ?_); (case side1 => repeat (first | exact (Kd.R_reads' HO556.out).2.2 | (with_reducible refine Kd.C_alloc ?_ _) | (with_reducible refine Kd.C_drewN ?_ _) | (with_reducible refine Kd.C_drew ?_))); (case side2 => exact (Kd.R_reads' HO556.out).2.1); (case side3 => repeat (first | exact (Kd.V_reads' HO_8.out).2.2 | (with_reducible refine Kd.C_alloc ?_ _) | (with_reducible refine Kd.C_drewN ?_ _) | (with_reducible refine Kd.C_drew ?_))); (case side4 => exact (Kd.V_reads' HO_8.out).2.1); rintro e w' ⟨rfl,⟨nd,rfl⟩⟩; refine ⟨_,rfl,?_⟩))
       go_meet
       case rel => exact ⟨_,((t557 != t504)),(by first | rfl | (simp; done) | (simp [*]; done)),H',⟨by have:=HJ20.out; have:=HJ63.out; first | omega | exact Nat.le_refl _⟩,⟨by (try simp only [hl510001_63]); (with_reducible repeat (first | apply Kd.R_alloc | apply Kd.R_drewN | apply Kd.R_drew)); exact Kd.R_mono HO_13.out (fun _ hk => trivial)⟩,⟨by (try simp only [hl510001_63]); (with_reducible repeat (first | apply Kd.R_alloc | apply Kd.R_drewN | apply Kd.R_drew)); exact Kd.R_mono HO_510001.out (fun _ hk => trivial)⟩,⟨by (try simp only [hl510001_63]); (with_reducible repeat (first | refine blk_drewN ?_ _ | refine blk_drew ?_ | refine blk_alloc ?_ _)); exact BK489.out⟩,⟨by (try simp only [hl510001_63]); (with_reducible repeat (first | refine blk_drewN ?_ _ | refine blk_drew ?_ | refine blk_alloc ?_ _)); exact BK509.out⟩,⟨by repeat (first | (with_reducible first | exact HB.out | apply below_alloc | apply pw_below_drewN | apply below_drew1 | refine below_set ?_ GE489.out | refine below_set ?_ GE509.out) | exact HB.out)⟩⟩
      replace c109:=Bool.eq_false_iff.mpr c109;subst c109;have H1 : (laws_FnExactJobBest.j2 kj63 t542 t541 true) = some r:=by rw [if_neg (show ¬ (false = true) by decide)] at H; exact H
      clear H;have H:=H1;clear H1;have H':=zx H;clear H;obtain ⟨Ao112,co112,eo112⟩:=Kd.R_slice HO556.out;subst eo112;obtain ⟨Ao113,co113,eo113⟩:=Kd.V_slice HO_8.out;subst eo113
      go_wp2_with (first | ((with_reducible refine gate_callee (f:=16) rfl ?_); refine goesL_ (some 123) rfl rfl Try.func16 (by kernel_rfl) rfl #[.slice Ao112 t554.length co112,.slice Ao113 t501.length co113] rfl (by (try simp only [List.map_toArray,List.map_cons,List.map_nil]); first | done | rfl | (simp only [List.length_drop,List.length_take]; rfl)) ?_; (with_reducible refine (laws_eqIntS.calls kj63 _ _ t554 _ _ t501 false _ ?side1 ?side2 ?side3 ?side4 A108.out).mono ?_); (case side1 => repeat (first | exact (Kd.R_reads' HO556.out).2.2 | (with_reducible refine Kd.C_alloc ?_ _) | (with_reducible refine Kd.C_drewN ?_ _) | (with_reducible refine Kd.C_drew ?_))); (case side2 => exact (Kd.R_reads' HO556.out).2.1); (case side3 => repeat (first | exact (Kd.V_reads' HO_8.out).2.2 | (with_reducible refine Kd.C_alloc ?_ _) | (with_reducible refine Kd.C_drewN ?_ _) | (with_reducible refine Kd.C_drew ?_))); (case side4 => exact (Kd.V_reads' HO_8.out).2.1); rintro e w' ⟨rfl,⟨nd,rfl⟩⟩; refine ⟨_,rfl,?_⟩))
      go_meet
      case rel => exact ⟨_,(true),(by first | rfl | (simp; done) | (simp [*]; done)),H',⟨by have:=HJ20.out; have:=HJ63.out; first | omega | exact Nat.le_refl _⟩,⟨by (try simp only [hl510001_63]); (with_reducible repeat (first | apply Kd.R_alloc | apply Kd.R_drewN | apply Kd.R_drew)); exact Kd.R_mono HO_13.out (fun _ hk => trivial)⟩,⟨by (try simp only [hl510001_63]); (with_reducible repeat (first | apply Kd.R_alloc | apply Kd.R_drewN | apply Kd.R_drew)); exact Kd.R_mono HO_510001.out (fun _ hk => trivial)⟩,⟨by (try simp only [hl510001_63]); (with_reducible repeat (first | refine blk_drewN ?_ _ | refine blk_drew ?_ | refine blk_alloc ?_ _)); exact BK489.out⟩,⟨by (try simp only [hl510001_63]); (with_reducible repeat (first | refine blk_drewN ?_ _ | refine blk_drew ?_ | refine blk_alloc ?_ _)); exact BK509.out⟩,⟨by repeat (first | (with_reducible first | exact HB.out | apply below_alloc | apply pw_below_drewN | apply below_drew1 | refine below_set ?_ GE489.out | refine below_set ?_ GE509.out) | exact HB.out)⟩⟩
     case rest =>
      clear HC96
      try clear c1
      try clear c2
      try clear p2
      try clear c3
      try clear c4
      try clear c4b0
      try clear c4b1
      try clear c5
      try clear c6
      try clear c6b0
      try clear c6b1
      try clear c7
      try clear c8
      try clear c9
      try clear c9b0
      try clear c10
      try clear c13
      try clear c14
      try clear c15
      try clear c16
      try clear c17
      try clear c18
      try clear c19
      try clear c20
      try clear c36
      try clear c46
      try clear c51
      try clear c54
      try clear c57
      try clear c60
      try clear c73
      try clear c78
      try clear c78b0
      try clear c80
      try clear c85
      try clear c88
      try clear c88b0
      try clear c91
      try clear c91b0
      try clear c91b1
      try clear c99
      try clear c109
      try clear hcz100_0
      try clear hcz100_1
      try clear hcz11_0
      try clear hcz11_1
      try clear hcz23_0
      try clear hcz23_1
      try clear hcz25_0
      try clear hcz25_1
      try clear hcz33_0
      try clear hcz33_1
      try clear hcz37_0
      try clear hcz37_1
      try clear hcz41_0
      try clear hcz41_1
      try clear hcz74_0
      try clear hcz74_1
      try clear hfz100_0
      try clear hfz100_1
      try clear hfz11_0
      try clear hfz11_1
      try clear hfz23_0
      try clear hfz23_1
      try clear hfz25_0
      try clear hfz25_1
      try clear hfz33_0
      try clear hfz33_1
      try clear hfz37_0
      try clear hfz37_1
      try clear hfz41_0
      try clear hfz41_1
      try clear hfz74_0
      try clear hfz74_1
      try clear p2
      obtain ⟨kq,x129_95,rfl,HA,HJ95,HO_13,HO_510001,BK489,BK509,HB⟩:=hcut;have hl13_95:=(Kd.R_reads' HO_13.out).1;rw [hl13_95] at HO_13
      (try simp only [hl13_95])
      (try simp only [hl13_95] at BK489)
      (try simp only [hl13_95] at BK509)
      (try simp only [hl13_95] at HO_510001)
      cases kq with
      | zero => exact absurd HA.out (by simp [laws_FnExactJobBest.j2])
      | succ kj95 =>
       have H:=HA.out;clear HA;simp only [laws_FnExactJobBest.j2] at H
       by_cases c114 : x129_95 = true
       case pos =>
        subst c114;have H1 : (some false) = some r:=by rw [if_pos rfl] at H; exact H
        exact absurd ((Option.some.inj H1).trans HRT_.out) (by decide)
       replace c114:=Bool.eq_false_iff.mpr c114;subst c114;have H1 : ((laws_heldIntS.f kj95 t542 1).bind fun t559 => (if t559 < 0 then (some false) else (if t559 = t541 then (some true) else (some false)))) = some r:=by rw [if_neg (show ¬ (false = true) by decide)] at H; exact H
       clear H;have H:=H1;clear H1;replace H:=Option.bind_eq_some_iff.mp H;obtain ⟨t559,A1150,H⟩:=H;replace H : (if t559 < 0 then (some false) else (if t559 = t541 then (some true) else (some false))) = some r:=H;have A115:=zx A1150;clear A1150
       by_cases c116 : t559 < 0
       case pos =>
        rw [if_pos c116] at H;have c116b0 : decide (t559 < 0) = true:=decide_eq_true c116;clear c116;obtain rfl:=Option.some.inj H
        go_wp2_with (first | ((with_reducible refine gate_callee (f:=20) rfl ?_); refine goesL_ (some 132) rfl rfl Try.func20 (by kernel_rfl) rfl #[.slice Ao97 t542.length co97,.int .i64 1] rfl (by (try simp only [List.map_toArray,List.map_cons,List.map_nil]); first | done | rfl | (simp only [List.length_drop,List.length_take]; rfl)) ?_; (with_reducible refine (laws_heldIntS.calls kj95 _ _ t542 1 t559 _ ?side1 ?side2 A115.out).mono ?_); (case side1 => repeat (first | exact (Kd.R_reads' HO_13.out).2.2 | (with_reducible refine Kd.C_alloc ?_ _) | (with_reducible refine Kd.C_drewN ?_ _) | (with_reducible refine Kd.C_drew ?_))); (case side2 => exact (Kd.R_reads' HO_13.out).2.1); rintro e w' ⟨rfl,⟨nd,rfl⟩⟩; refine ⟨_,rfl,?_⟩))
        go_ret;exact ⟨by first | rfl | (simp [errW_none,errW_some] <;> rfl) | (simp [*,errW_none,errW_some] <;> rfl),by repeat (first | (with_reducible first | exact HB.out | apply below_alloc | apply pw_below_drewN | apply below_drew1 | refine below_set ?_ GE489.out | refine below_set ?_ GE509.out) | exact HB.out)⟩
       rw [if_neg c116] at H;have c116b0 : decide (t559 < 0) = false:=decide_eq_false c116;clear c116
       by_cases c117 : t559 = t541
       case neg =>
        rw [if_neg c117] at H;have c117b0 : (t559 == t541) = false:=beq_eq_false_iff_ne.mpr c117;have c117b1 : (t559 != t541) = true:=bne_iff_ne.mpr c117;obtain rfl:=Option.some.inj H
        go_wp2_with (first | ((with_reducible refine gate_callee (f:=20) rfl ?_); refine goesL_ (some 132) rfl rfl Try.func20 (by kernel_rfl) rfl #[.slice Ao97 t542.length co97,.int .i64 1] rfl (by (try simp only [List.map_toArray,List.map_cons,List.map_nil]); first | done | rfl | (simp only [List.length_drop,List.length_take]; rfl)) ?_; (with_reducible refine (laws_heldIntS.calls kj95 _ _ t542 1 t559 _ ?side1 ?side2 A115.out).mono ?_); (case side1 => repeat (first | exact (Kd.R_reads' HO_13.out).2.2 | (with_reducible refine Kd.C_alloc ?_ _) | (with_reducible refine Kd.C_drewN ?_ _) | (with_reducible refine Kd.C_drew ?_))); (case side2 => exact (Kd.R_reads' HO_13.out).2.1); rintro e w' ⟨rfl,⟨nd,rfl⟩⟩; refine ⟨_,rfl,?_⟩))
        go_ret;exact ⟨by first | rfl | (simp [errW_none,errW_some] <;> rfl) | (simp [*,errW_none,errW_some] <;> rfl),by repeat (first | (with_reducible first | exact HB.out | apply below_alloc | apply pw_below_drewN | apply below_drew1 | refine below_set ?_ GE489.out | refine below_set ?_ GE509.out) | exact HB.out)⟩
       rw [if_pos c117] at H;have c117b0 : (t559 == t541) = true:=beq_iff_eq.mpr c117;have c117b1 : (t559 != t541) = false:=bne_eq_false_iff_eq.mpr c117;clear c117;obtain rfl:=Option.some.inj H
       go_wp2_with (first | ((with_reducible refine gate_callee (f:=20) rfl ?_); refine goesL_ (some 132) rfl rfl Try.func20 (by kernel_rfl) rfl #[.slice Ao97 t542.length co97,.int .i64 1] rfl (by (try simp only [List.map_toArray,List.map_cons,List.map_nil]); first | done | rfl | (simp only [List.length_drop,List.length_take]; rfl)) ?_; (with_reducible refine (laws_heldIntS.calls kj95 _ _ t542 1 t559 _ ?side1 ?side2 A115.out).mono ?_); (case side1 => repeat (first | exact (Kd.R_reads' HO_13.out).2.2 | (with_reducible refine Kd.C_alloc ?_ _) | (with_reducible refine Kd.C_drewN ?_ _) | (with_reducible refine Kd.C_drew ?_))); (case side2 => exact (Kd.R_reads' HO_13.out).2.1); rintro e w' ⟨rfl,⟨nd,rfl⟩⟩; refine ⟨_,rfl,?_⟩))
       go_ret;exact ⟨by first | rfl | (simp [errW_none,errW_some] <;> rfl) | (simp [*,errW_none,errW_some] <;> rfl),by repeat (first | (with_reducible first | exact HB.out | apply below_alloc | apply pw_below_drewN | apply below_drew1 | refine below_set ?_ GE489.out | refine below_set ?_ GE509.out) | exact HB.out)⟩
end Go.Proofs.Ytmioaahiflfcdaa.Pr
end
section
set_option linter.unusedVariables false
namespace Go.Proofs.YtmioaahiflfcdaaW.PrintWords
open Go.RowKit Go.ChangeShapes Go.WideShapes
def Opens (P : Program) {α : Type} (d : Kd α) (t : TypeId) (wf : α → Prop) : Prop :=
 ∀ {H : Type} {enc : TypeId × Value → H} {w : World} {sp : Nat → Bool} {held : Bool} {fuel : Nat} {cs : List Value} {x : DataW H × List MemPlace},DataW.trod enc P w 0 sp held fuel t cs = some x → ∃ a,d.K w a cs ∧ wf a
def OpensF (P : Program) {α : Type} (d : Kd α) (fs : List Field) (off tot : Nat) (wf : α → Prop) : Prop :=
 ∀ {H : Type} {enc : TypeId × Value → H} {w : World} {sp : Nat → Bool} {held : Bool} {fuel : Nat} {cs : List Value},cs.length = tot → (∀ f ∈ fs,∃ y,DataW.trod enc P w 0 sp held fuel f.type ((cs.drop f.offset).take (P.cellsOf f.type)) = some y) → ∃ a,d.K w a (cs.drop off) ∧ wf a
section
variable {P : Program} {α β : Type}
def I64 (n : Int) : Prop:=-9223372036854775808 ≤ n ∧ n ≤ 9223372036854775807
theorem I64_of {n : Int} (h : (Lit.int .i64 n).wf = true) : I64 n:=by
 simp only [Lit.wf,Bool.and_eq_true,decide_eq_true_eq] at h;have h1 : IntKind.i64.min = -9223372036854775808:=rfl;have h2 : IntKind.i64.max = 9223372036854775807:=rfl
 unfold I64
 omega
theorem opens_i64 {t : TypeId} (ht : P.underlying t = some (.int .i64)) : Opens P (Kd.int .i64) t I64:=by
 intro H enc w sp held fuel cs x h;obtain ⟨n,rfl,_,hw⟩:=DataW.trod_int ht h;exact ⟨n,rfl,I64_of hw⟩
theorem addr_add_add (a : Addr) (i j : Nat) : (a.add i).add j = a.add (i + j):=by
 unfold Addr.add
 by_cases hi : i = 0 <;> by_cases hj : j = 0 <;> simp [hi,hj,Nat.add_assoc]
theorem opens_slice [Inhabited α] {d : Kd α} {t e : TypeId} {wf : α → Prop} (ht : P.underlying t = some (.slice e)) (hc : P.cellsOf e = d.sz) (he : Opens P d e wf) : Opens P (Kd.slice e d) t (fun l => l.length ≤ maxLen ∧ ∀ x ∈ l,wf x):=by
 intro H enc w sp held fuel cs x h
 rcases Deep.open_slice ht h with ⟨rfl,_⟩ | ⟨a,len,cap,m,n,D,Pl,rfl,_,hl,hm,hmm,_,hel⟩
 ·exact ⟨[],⟨none,0,rfl,Nat.le_refl _,Kd.C_nil d w⟩,by simp,by simp⟩
 ·have hlm : len ≤ m:=by rw [hmm]; split <;> omega
  have hx : ∀ i,i < len → ∃ y : α,(∃ c,c.length = d.sz ∧ d.K w y c ∧ ∀ j u,c[j]? = some u → w.cell? (a.add (i * d.sz + j)) = some u) ∧ wf y:=by
   intro i hi;obtain ⟨cs',hcs,htr⟩:=hel i (by omega);obtain ⟨y,hk,hw⟩:=he htr;obtain ⟨_,hlen,hcell⟩:=World.cells?_some hcs;refine ⟨y,⟨cs',d.K_len hk,hk,fun j u hu => ?_⟩,hw⟩;have hj : j < P.cellsOf e:=by
    have:=(List.getElem?_eq_some_iff.1 hu).1;omega
   have:=hcell j hj;rw [addr_add_add,hc,hu] at this;exact this
  obtain ⟨f,hf⟩:=Deep.choose_lt hx;refine ⟨(List.range len).map f,⟨some a,cap,by simp,by simpa using hl,by simp,by simp only [maxLen] at hm; simp; omega,fun _ => ⟨a,rfl,fun j p hj => ?_⟩⟩,by simp; omega,fun y hy => ?_⟩
  ·obtain ⟨hj1,hj2⟩:=List.getElem?_eq_some_iff.1 hj;simp at hj1 hj2;subst hj2;exact (hf j hj1).1
  ·simp only [List.mem_map,List.mem_range] at hy;obtain ⟨i,hi,rfl⟩:=hy;exact (hf i hi).2
theorem opensF_last {d : Kd α} {f : Field} {off tot : Nat} {wf : α → Prop} (ho : f.offset = off) (hn : off + P.cellsOf f.type = tot) (h : Opens P d f.type wf) : OpensF P d [f] off tot wf:=by
 intro H enc w sp held fuel cs hl hf;obtain ⟨y,hy⟩:=hf f (by simp);obtain ⟨a,hk,hw⟩:=h hy;refine ⟨a,?_,hw⟩
 rwa [ho,List.take_of_length_le (by rw [List.length_drop]; omega)] at hk
theorem opensF_cons {d : Kd α} {d' : Kd β} {f : Field} {fs : List Field} {off tot : Nat} {wf : α → Prop} {wf' : β → Prop} (ho : f.offset = off) (h : Opens P d f.type wf) (h' : OpensF P d' fs (off + P.cellsOf f.type) tot wf') :
  OpensF P (Kd.pair d d') (f :: fs) off tot (fun x => wf x.1 ∧ wf' x.2):=by
 intro H enc w sp held fuel cs hl hf;obtain ⟨y,hy⟩:=hf f (by simp);obtain ⟨a,hk,hw⟩:=h hy;obtain ⟨b,hk',hw'⟩:=h' hl (fun g hg => hf g (by simp [hg]));refine ⟨(a,b),⟨_,_,?_,hk,hk'⟩,hw,hw'⟩;rw [ho,← List.drop_drop,List.take_append_drop]
theorem opens_struct {d : Kd α} {t : TypeId} {fs : Array Field} {wf : α → Prop} (ht : P.underlying t = some (.struct fs)) (h : OpensF P d fs.toList 0 (P.cellsOf t) wf) : Opens P d t wf:=by
 intro H enc w sp held fuel cs x hx;obtain ⟨xs,n,_,_,hl,hlen,hf⟩:=DataW.trod_struct ht hx;obtain ⟨a,hk,hw⟩:=h hl (fun f hfm => by
  obtain ⟨i,hi,rfl⟩:=List.getElem_of_mem hfm;have hi' : i < fs.size:=by simpa using hi
  have h1:=hf i fs[i] (Array.getElem?_eq_getElem hi');rw [List.getElem?_eq_getElem (by omega)] at h1;exact ⟨_,by simpa using h1⟩)
 exact ⟨a,by simpa using hk,hw⟩
theorem opens_iso {d : Kd α} {t : TypeId} {wf : α → Prop} (f : β → α) (g : α → β) (hfg : ∀ a,f (g a) = a) (h : Opens P d t wf) : Opens P (Kd.iso d f) t (fun b => wf (f b)):=by
 intro H enc w sp held fuel cs x hx;obtain ⟨a,hk,hw⟩:=h hx;exact ⟨g a,by show d.K w (f (g a)) cs; rw [hfg]; exact hk,by show wf (f (g a)); rw [hfg]; exact hw⟩
end
end Go.Proofs.YtmioaahiflfcdaaW.PrintWords
end
section
namespace Go.Proofs.Ytmioaahiflfcdaa.Pr
open Go.RowKit Go.Proofs.YtmioaahiflfcdaaW.PrintWords Go.Proofs.YtmioaahiflfcdaaW.PrintLast Go.Proofs.YtmioaahiflfcdaaW.PrintMore
open List renaming setIfInBounds_toArray → J,set_cons_zero → U,set_cons_succ → Z
open Go.Proofs.YtmioaahiflfcdaaW.PrintWords.Aside0 renaming mk → zx
def laws_FnExactJobBest.Asked : Prop:=∀ (a0_0 : Int) (l0_1 : List (S89)) (l1 : List Int) (l2 : List Int),I64 a0_0 → (l0_1.length ≤ maxLen ∧ ∀ x_ ∈ l0_1,(I64 x_.f0 ∧ I64 x_.f1 ∧ I64 x_.f2 ∧ I64 x_.f3 ∧ I64 x_.f4)) → (l1.length ≤ maxLen ∧ ∀ x_ ∈ l1,I64 x_) → (l2.length ≤ maxLen ∧ ∀ x_ ∈ l2,I64 x_) → ∃ k,laws_FnExactJobBest.f k a0_0 l0_1 l1 l2 = some true
end Go.Proofs.Ytmioaahiflfcdaa.Pr
end
section
set_option linter.unusedSectionVars false
namespace Go.Proofs.Ytmioaahiflfcdaa.Fl
def sm (F : Nat → Int) : Nat → Int
 | 0 => 0
 | n + 1 => sm F n + F n
section
variable {n m : Nat} {fr tw : Nat → Nat} {f : Nat → Int} (hf : ∀ i,i < m → fr i < n) (ht : ∀ i,i < m → tw i < n)
def net (m : Nat) (fr tw : Nat → Nat) (f : Nat → Int) (v : Nat) : Int:=sm (fun i => (if fr i = v then f i else 0) - (if tw i = v then f i else 0)) m
include hf ht
end
section
variable {n m : Nat} {fr tw : Nat → Nat} {f cap : Nat → Int} (hf : ∀ i,i < m → fr i < n) (ht : ∀ i,i < m → tw i < n) (h0 : ∀ i,i < m → 0 ≤ f i ∧ f i ≤ cap i) {s t : Nat} (hs : s < n) (hz : ∀ v,v < n → v ≠ s → v ≠ t → net m fr tw f v = 0)
include hf ht h0 hs hz
end
end Go.Proofs.Ytmioaahiflfcdaa.Fl
end
section
set_option linter.unusedSectionVars false
namespace Go.Proofs.Ytmioaahiflfcdaa.Pm
def perms (n : Nat) : Nat → List Nat → List (List Nat)
 | 0,b => [b]
 | f + 1,b => ((List.range n).filter fun i => !b.contains i).flatMap fun i => perms n f (b ++ [i])
theorem perms_len {n f : Nat} {b p : List Nat} (h : p ∈ perms n f b) : p.length = b.length + f:=by
 induction f generalizing b with
 | zero => simp [perms] at h; simp [h]
 | succ f ih =>
  simp only [perms,List.mem_flatMap] at h;obtain ⟨i,_,h2⟩:=h;have:=ih h2;simp at this;omega
theorem perms_ok {n f : Nat} {b p : List Nat} (hb : b.Nodup) (hl : ∀ x ∈ b,x < n) (h : p ∈ perms n f b) : p.Nodup ∧ ∀ x ∈ p,x < n:=by
 induction f generalizing b with
 | zero => simp [perms] at h; subst h; exact ⟨hb,hl⟩
 | succ f ih =>
  simp only [perms,List.mem_flatMap,List.mem_filter,List.mem_range] at h;obtain ⟨i,⟨h1,h3⟩,h2⟩:=h;refine ih ?_ ?_ h2
  ·rw [List.nodup_append];refine ⟨hb,by simp,fun a ha c hc => ?_⟩;rintro rfl;obtain rfl : a = i:=by simpa using hc
   simp [ha] at h3
  ·intro x hx
   rcases List.mem_append.1 hx with h | h
   ·exact hl x h
   ·obtain rfl : x = i:=by simpa using h
    exact h1
def pick (cost : List Nat → Int) : List (List Nat) → List Nat × Int → List Nat × Int
 | [],s => s
 | p :: l,s => pick cost l (if cost p < s.2 then (p,cost p) else s)
theorem pick_append (cost : List Nat → Int) (l l' : List (List Nat)) : ∀ s,pick cost (l ++ l') s = pick cost l' (pick cost l s):=by
 induction l with
 | nil => intro s; rfl
 | cons p l ih => intro s; exact ih _
theorem pick_from (cost : List Nat → Int) : ∀ (l : List (List Nat)) (s : List Nat × Int),pick cost l s = s ∨ ∃ p ∈ l,pick cost l s = (p,cost p) ∧ cost p < s.2:=by
 intro l
 induction l with
 | nil => intro s; exact .inl rfl
 | cons q l ih =>
  intro s;simp only [pick]
  by_cases c : cost q < s.2
  case neg =>
   rw [if_neg c]
   rcases ih s with h | ⟨p,h1,h2,h3⟩
   ·exact .inl h
   ·exact .inr ⟨p,by simp [h1],h2,h3⟩
  rw [if_pos c]
  rcases ih (q,cost q) with h | ⟨p,h1,h2,h3⟩
  ·exact .inr ⟨q,by simp,h,c⟩
  ·exact .inr ⟨p,by simp [h1],h2,by dsimp only at h3; omega⟩
end Go.Proofs.Ytmioaahiflfcdaa.Pm
namespace Go.Proofs.Ytmioaahiflfcdaa.Pm
open Go.Proofs.Ytmioaahiflfcdaa.Fl
def at_ (p : List Nat) (i : Nat) : Nat:=p.getD i 0
structure IsPerm (n : Nat) (p : List Nat) : Prop where
 len : p.length = n
 nd : p.Nodup
 lt : ∀ x ∈ p,x < n
theorem perm_mem_all {n : Nat} {p : List Nat} (h : IsPerm n p) : ∀ k,k < n → k ∈ p:=by
 intro k hk
 apply Classical.byContradiction
 intro hc;have : ∀ (n : Nat) (l : List Nat),l.Nodup → (∀ x ∈ l,x < n) → l.length ≤ n:=by
  intro n
  induction n with
  | zero =>
   intro l _ h;cases l with
   | nil => simp
   | cons a l => exact absurd (h a (by simp)) (by omega)
  | succ n ih =>
   intro l hn h;have h1:=ih (l.erase n) (hn.erase n) (fun x hx => by
    have h2:=h x (List.mem_of_mem_erase hx);have h3 : x ≠ n:=by
     rintro rfl;exact (List.Nodup.not_mem_erase hn) hx
    omega)
   have h4 : l.length ≤ (l.erase n).length + 1:=by
    rw [List.length_erase]
    split <;> omega
   omega
 have h1:=this n (k :: p) (List.nodup_cons.2 ⟨hc,h.nd⟩) (fun x hx => by
  rcases List.mem_cons.1 hx with rfl | hx
  ·exact hk
  ·exact h.lt x hx)
 have:=h.len;simp at h1;omega
def inv (n : Nat) (p : List Nat) : List Nat:=(List.range n).map fun k => p.idxOf k
theorem inv_at {n : Nat} {p : List Nat} (h : IsPerm n p) {k : Nat} (hk : k < n) : at_ (inv n p) k < n ∧ at_ p (at_ (inv n p) k) = k:=by
 have hm:=perm_mem_all h k hk;have h1:=List.idxOf_lt_length_of_mem hm;have e : at_ (inv n p) k = p.idxOf k:=by simp [at_,inv,hk]
 rw [e];refine ⟨by rw [← h.len]; exact h1,?_⟩;simp only [at_,List.getD_eq_getElem?_getD,List.getElem?_eq_getElem h1,Option.getD_some];exact List.getElem_idxOf h1
noncomputable def costOf (n : Nat) (D : Nat → Nat → Int) (p : List Nat) : Int:=@ite _ (∃ i,i < n ∧ D i (at_ p i) = 99999) (Classical.propDecidable _) 99999 (sm (fun i => D i (at_ p i)) n)
end Go.Proofs.Ytmioaahiflfcdaa.Pm
end
section
set_option linter.unusedVariables false
namespace Go.Proofs.YtmioaahiflfcdaaW.PrintWords
open Go.RowKit
section
variable {α β : Type}
theorem Ev.pos {c : Prop} [Decidable c] {t e : Nat → Option α} {r : α} (h : c) (k : Ev t r) : Ev (fun n => if c then t n else e n) r:=by
 simp only [if_pos h]; exact k
theorem Ev.neg {c : Prop} [Decidable c] {t e : Nat → Option α} {r : α} (h : ¬ c) (k : Ev e r) : Ev (fun n => if c then t n else e n) r:=by
 simp only [if_neg h]; exact k
theorem Ev.bind0 {g : Option α} {f : Nat → α → Option β} {a : α} {r : β} (h : g = some a) (k : Ev (fun n => f n a) r) : Ev (fun n => g.bind (f n)) r:=by
 subst h; exact k
theorem Ev.is {a r : α} (h : a = r) : Ev (fun _ => some a) r:=by subst h; exact Ev.now _
theorem Ev.cast {g : Nat → Option α} {a r : α} (k : Ev g a) (h : a = r) : Ev g r:=h ▸ k
theorem Ev.go {g f : Nat → Option α} {r : α} (k : Ev f r) (h : ∀ k,g (k + 1) = f k) : Ev g r:=Ev.step h k
end
theorem w64 {n : Int} (h : -9223372036854775808 ≤ n) (h' : n ≤ 9223372036854775807) : wrap64 n = n:=by unfold wrap64; omega
theorem rd_nat {l : List Int} {i : Nat} (h : i < l.length) : rd l (i : Int) = l[i]:=by simp [rd,h]
end Go.Proofs.YtmioaahiflfcdaaW.PrintWords
end
section
set_option linter.unusedSimpArgs false
set_option linter.unusedVariables false
namespace Go.Proofs.Ytmioaahiflfcdaa.Pure
open Go.RowKit Go.Proofs.Ytmioaahiflfcdaa.Pr Go.Proofs.YtmioaahiflfcdaaW.PrintWords Go.Proofs.YtmioaahiflfcdaaW.PrintLast Go.Proofs.YtmioaahiflfcdaaW.PrintMore
def inB (x a b : Int) : Bool:=decide (a ≤ x) && decide (x ≤ b)
theorem inB_iff {x a b : Int} : inB x a b = true ↔ a ≤ x ∧ x ≤ b:=by simp [inB]
theorem in1 (x a b : Int) : spec_l1In.f x a b = some (inB x a b):=by
 unfold spec_l1In.f inB
 by_cases h : x ≥ a
 case pos => rw [if_pos h]; simp [show a ≤ x from h]
 rw [if_neg h]; simp [show ¬ a ≤ x from h]
theorem within1 (x a b : Int) : impl_within.f x a b = some (inB x a b):=by
 unfold impl_within.f inB
 by_cases h : x ≥ a
 case pos => rw [if_pos h]; simp [show a ≤ x from h]
 rw [if_neg h]; simp [show ¬ a ≤ x from h]
theorem up1 {i n : Nat} (h : i < n) (hn : n ≤ maxLen) : wrap64 ((i : Int) + 1) = ((i + 1 : Nat) : Int):=by
 simp only [maxLen] at hn;rw [w64 (by omega) (by omega)]; omega
theorem rdn {l : List Int} {i : Nat} (h : i < l.length) : rd l (i : Int) = l[i]:=rd_nat h
def nth (l : List Int) (i : Nat) : Int:=l.getD i 0
theorem rdg {l : List Int} (i : Nat) : rd l (i : Int) = nth l i:=by simp [rd,nth]
theorem nth_get {l : List Int} {i : Nat} (h : i < l.length) : nth l i = l[i]:=by simp [nth,h]
theorem drop_cons {α : Type} {l : List α} {i : Nat} (h : i < l.length) : l.drop i = l[i] :: l.drop (i + 1):=List.drop_eq_getElem_cons h
def Pv {α : Type} (g : Nat → Option α) (P : α → Prop) : Prop:=∃ r,Ev g r ∧ P r
section
variable {α β : Type} {P : α → Prop}
theorem Pv.now {a : α} (h : P a) : Pv (fun _ => some a) P:=⟨a,Ev.now a,h⟩
theorem Pv.pos {c : Prop} [Decidable c] {t e : Nat → Option α} (h : c) (k : Pv t P) : Pv (fun n => if c then t n else e n) P:=by
 obtain ⟨r,k,hp⟩:=k;exact ⟨r,Ev.pos h k,hp⟩
theorem Pv.neg {c : Prop} [Decidable c] {t e : Nat → Option α} (h : ¬ c) (k : Pv e P) : Pv (fun n => if c then t n else e n) P:=by
 obtain ⟨r,k,hp⟩:=k;exact ⟨r,Ev.neg h k,hp⟩
theorem Pv.bind {g : Nat → Option β} {f : Nat → β → Option α} {R : β → Prop} (h : Pv g R) (k : ∀ b,R b → Pv (fun n => f n b) P) : Pv (fun n => (g n).bind (f n)) P:=by
 obtain ⟨b,h,hb⟩:=h;obtain ⟨r,k,hp⟩:=k b hb;exact ⟨r,Ev.bind h k,hp⟩
theorem Pv.go {g f : Nat → Option α} (k : Pv f P) (h : ∀ k,g (k + 1) = f k) : Pv g P:=by
 obtain ⟨r,k,hp⟩:=k;exact ⟨r,Ev.go k h,hp⟩
end
end Go.Proofs.Ytmioaahiflfcdaa.Pure
end
section
set_option linter.unusedSimpArgs false
set_option linter.unusedVariables false
namespace Go.Proofs.Ytmioaahiflfcdaa.Pure
open Go.RowKit Go.Proofs.Ytmioaahiflfcdaa.Pr Go.Proofs.YtmioaahiflfcdaaW.PrintWords Go.Proofs.YtmioaahiflfcdaaW.PrintLast Go.Proofs.YtmioaahiflfcdaaW.PrintMore
section
variable {t e : Nat → Option Bool} {r : Bool}
theorem Ev.and {b : Bool} (k : Ev t r) : Ev (fun n => if b = true then t n else some false) (b && r):=by
 cases b with
 | false => exact Ev.neg (by simp) (Ev.now _)
 | true => exact Ev.pos rfl k
theorem Ev.nand {c : Prop} [Decidable c] (k : Ev t r) : Ev (fun n => if c then some false else t n) (!decide c && r):=by
 by_cases h : c
 case pos => exact Ev.pos h (Ev.is (by simp [h]))
 exact Ev.neg h (k.cast (by simp [h]))
end
abbrev Arc:=S80
def arc (l : List Arc) (i : Nat) : Arc:=rd_T80 l (i : Int)
theorem rda (l : List Arc) (i : Nat) : rd_T80 l (i : Int) = arc l i:=rfl
theorem arc_get {l : List Arc} {i : Nat} (h : i < l.length) : arc l i = l[i]:=by simp [arc,rd_T80,h]
theorem arc_mem {l : List Arc} {i : Nat} (h : i < l.length) : arc l i ∈ l:=by
 rw [arc_get h];exact List.getElem_mem h
attribute [irreducible] arc
def okArcW (n : Int) (a : Arc) : Bool:=inB a.f0 0 (wrap64 (n - 1)) && (inB a.f1 0 (wrap64 (n - 1)) && (!decide (a.f0 = a.f1) && (inB a.f2 0 99 && (inB a.f3 0 99 && inB a.f4 0 9))))
theorem l1Ok_l (n : Int) (l : List Arc) (hm : l.length ≤ maxLen) : ∀ (m i : Nat),l.length - i = m → i ≤ l.length → Ev (fun k => spec_l1Ok.l0 k (i : Int) n l) ((l.drop i).all (okArcW n) && (inB n 1 8 && decide ((l.length : Int) ≤ 16))):=by
 intro m
 induction m with
 | zero =>
  intro i hd hi;refine Ev.go ?_ (fun k => by rw [spec_l1Ok.l0]);refine Ev.neg (by omega) (Ev.bind0 (in1 _ _ _) ?_);rw [List.drop_of_length_le (by omega)];exact (Ev.and (Ev.now _)).cast (by simp)
 | succ m ih =>
  intro i hd hi;have hlt : i < l.length:=by omega
  refine Ev.go ?_ (fun k => by rw [spec_l1Ok.l0]);rw [drop_cons hlt,← arc_get hlt,List.all_cons,rda,up1 hlt hm];refine Ev.pos (by omega) (Ev.pos (by omega) ?_);refine Ev.cast (Ev.bind0 (in1 _ _ _) (Ev.and (Ev.bind0 (in1 _ _ _) (Ev.and (Ev.nand (Ev.bind0 (in1 _ _ _) (Ev.and (Ev.bind0 (in1 _ _ _) (Ev.and (Ev.bind0 (in1 _ _ _) (Ev.and (ih (i + 1) (by omega) (by omega))))))))))))) ?_;simp only [okArcW,Bool.and_assoc]
theorem okArcW_okArc {n : Int} (h : 1 ≤ n) (h8 : n ≤ 8) (a : Arc) : okArcW n a = okArc n a:=by
 unfold okArcW okArc inB okN okC
 rw [w64 (by omega) (by omega)];have e : (a.f4 ≤ 9) ↔ (a.f4 ≤ 10 - 1):=by omega
 have e2 : (a.f0 == a.f1) = decide (a.f0 = a.f1):=by
  by_cases c : a.f0 = a.f1 <;> simp [c]
 rw [e2];simp only [Bool.and_assoc,e]
theorem l1Ok_ev (n : Int) (l : List Arc) (hm : l.length ≤ maxLen) : Ev (fun k => spec_l1Ok.f k n l) (netOkB n l):=by
 unfold spec_l1Ok.f
 refine (l1Ok_l n l hm _ 0 rfl (by omega)).cast ?_
 unfold netOkB
 rw [List.drop_zero]
 by_cases h : 1 ≤ n ∧ n ≤ 8
 case pos =>
  have e : l.all (okArcW n) = l.all (okArc n):=by
   congr 1
   funext a
   exact okArcW_okArc h.1 h.2 a
  rw [e,show inB n 1 8 = true from inB_iff.2 h];simp [h.1,h.2,Bool.and_comm]
 have e : inB n 1 8 = false:=by
  cases c : inB n 1 8 with
  | false => rfl
  | true => exact absurd (inB_iff.1 c) h
 rw [e];have e2 : (decide (1 ≤ n) && decide (n ≤ 8)) = false:=e;simp only [e2,Bool.false_and,Bool.and_false]
structure NetGood (n : Int) (l : List Arc) : Prop where
 n1 : 1 ≤ n
 n8 : n ≤ 8
 len : l.length ≤ 16
 ok : ∀ i,i < l.length → (0 ≤ (arc l i).f0 ∧ (arc l i).f0 < n) ∧ (0 ≤ (arc l i).f1 ∧ (arc l i).f1 < n) ∧ (arc l i).f0 ≠ (arc l i).f1 ∧ (0 ≤ (arc l i).f2 ∧ (arc l i).f2 ≤ 99) ∧ (0 ≤ (arc l i).f3 ∧ (arc l i).f3 ≤ 99) ∧ (0 ≤ (arc l i).f4 ∧ (arc l i).f4 ≤ 9)
theorem okArc_iff (n : Int) (a : Arc) : okArc n a = true ↔ (0 ≤ a.f0 ∧ a.f0 < n) ∧ (0 ≤ a.f1 ∧ a.f1 < n) ∧ a.f0 ≠ a.f1 ∧ (0 ≤ a.f2 ∧ a.f2 ≤ 99) ∧ (0 ≤ a.f3 ∧ a.f3 ≤ 99) ∧ (0 ≤ a.f4 ∧ a.f4 ≤ 9):=by
 simp only [okArc,okN,okC,Bool.and_eq_true,decide_eq_true_eq,Bool.not_eq_true',beq_eq_false_iff_ne];constructor
 ·rintro ⟨⟨⟨⟨⟨⟨a1,a2⟩,a3,a4⟩,a5⟩,a6⟩,a7⟩,a8,a9⟩;exact ⟨⟨a1,by omega⟩,⟨a3,by omega⟩,a5,a6,a7,a8,by omega⟩
 ·rintro ⟨⟨a1,a2⟩,⟨a3,a4⟩,a5,a6,a7,a8,a9⟩;exact ⟨⟨⟨⟨⟨⟨a1,by omega⟩,a3,by omega⟩,a5⟩,a6⟩,a7⟩,a8,by omega⟩
theorem netOkB_iff (n : Int) (l : List Arc) : netOkB n l = true ↔ NetGood n l:=by
 simp only [netOkB,Bool.and_eq_true,decide_eq_true_eq,List.all_eq_true];constructor
 ·rintro ⟨⟨⟨h1,h2⟩,h3⟩,h4⟩;exact ⟨h1,h2,by omega,fun i hi => (okArc_iff n _).1 (h4 _ (arc_mem hi))⟩
 ·rintro ⟨h1,h2,h3,h4⟩;refine ⟨⟨⟨h1,h2⟩,by omega⟩,fun a ha => ?_⟩;obtain ⟨i,hi,rfl⟩:=List.getElem_of_mem ha;rw [← arc_get hi];exact (okArc_iff n _).2 (h4 i hi)
theorem hasOf {n : Int} {l : List Arc} (h : NetGood n l) (v : List Int) : impl_Net_has.f n l v = some (v.all (okN n)):=by
 have:=h.n1;have:=h.n8
 unfold impl_Net_has.f
 rw [if_pos (by omega),if_pos (by omega)]
theorem nodesIn_eq (n : Int) (l : List Arc) (v : List Int) : impl_nodesIn.f n l v = some (netOkB n l && v.all (okN n)):=by
 unfold impl_nodesIn.f
 rw [show impl_NetOk.f n l = some (netOkB n l) from rfl,Option.bind_some];cases h : netOkB n l with
 | false => rfl
 | true => rw [if_pos rfl,hasOf ((netOkB_iff n l).1 h),Option.bind_some,Bool.true_and]
theorem szNet_eq (n : Int) (l : List S89) (a : Int) (ha : -1 ≤ a) (ha' : a ≤ 1048576) (hm : l.length ≤ maxLen) : laws_szNet.f n l a = some (if a - (l.length : Int) < 0 then -1 else a - (l.length : Int)):=by
 simp only [maxLen] at hm
 unfold laws_szNet.f laws_szArcS.f
 rw [w64 (by omega) (by omega)]
 by_cases c : a - (l.length : Int) < 0
 case neg => rw [if_neg c,if_neg c,Option.bind_some,if_neg c]
 rw [if_pos c,if_pos c,Option.bind_some,if_pos (by omega)]
def toA (a : S89) : Arc:=⟨a.f0,a.f1,a.f2,a.f3,a.f4⟩
theorem toArcS_l (l : List S89) (hm : l.length ≤ maxLen) : ∀ (d i : Nat) (x : List Arc),l.length - i = d → i ≤ l.length → x.length = l.length → x.take i = (l.map toA).take i → Ev (fun k => laws_toArcS.l0 k l x (i : Int)) (l.map toA):=by
 intro d
 induction d with
 | zero =>
  intro i x hd hi hx ht;refine Ev.go ?_ (fun k => by rw [laws_toArcS.l0]);refine Ev.neg (by omega) (Ev.is ?_);have e : i = l.length:=by omega
  subst e
  rwa [List.take_of_length_le (by omega),List.take_of_length_le (by simp)] at ht
 | succ d ih =>
  intro i x hd hi hx ht;have hlt : i < l.length:=by omega
  refine Ev.go ?_ (fun k => by rw [laws_toArcS.l0]);refine Ev.pos (by omega) (Ev.pos (by omega) (Ev.bind0 rfl (Ev.pos (by omega) ?_)));rw [up1 hlt hm];refine ih (i + 1) _ (by omega) (by omega) (by simp [hx]) ?_;have hr : rd_T89 l (i : Int) = l[i]:=by simp [rd_T89,hlt]
  simp only [Int.toNat_natCast,hr];rw [List.take_succ_eq_append_getElem (by simp; omega),List.take_succ_eq_append_getElem (l:=l.map toA) (by simpa using hlt),List.take_set_of_le (Nat.le_refl _),ht];simp [toA]
theorem toNet_ev (n : Int) (l : List S89) (hm : l.length ≤ 7036874417766) : Ev (fun k => laws_toNet.f k n l) (n,l.map toA):=by
 unfold laws_toNet.f
 refine Ev.bind (a:=l.map toA) ?_ (Ev.now _)
 unfold laws_toArcS.f
 refine Ev.pos (by omega) (Ev.pos (by simp; omega) ?_);exact toArcS_l l (by simp only [maxLen]; omega) _ 0 _ rfl (by omega) (by simp) (by simp)
theorem eqArcS_l (l : List Arc) (hm : l.length ≤ maxLen) : ∀ (d i : Nat),l.length - i = d → i ≤ l.length → Ev (fun k => laws_eqArcS.l0 k l l (i : Int)) true:=by
 intro d
 induction d with
 | zero =>
  intro i hd hi;refine Ev.go ?_ (fun k => by rw [laws_eqArcS.l0]);exact Ev.neg (by omega) (Ev.now _)
 | succ d ih =>
  intro i hd hi;have hlt : i < l.length:=by omega
  refine Ev.go ?_ (fun k => by rw [laws_eqArcS.l0]);refine Ev.pos (by omega) (Ev.pos (by omega) (Ev.pos (by omega) (Ev.bind0 (a:=true) (by simp [laws_eqArc.f]) (Ev.pos rfl ?_))));rw [up1 hlt hm];exact ih (i + 1) (by omega) (by omega)
theorem eqNet_ev (n : Int) (l : List Arc) (hm : l.length ≤ maxLen) : Ev (fun k => laws_eqNet.f k n l n l) true:=by
 unfold laws_eqNet.f
 refine Ev.pos rfl (Ev.bind (a:=true) ?_ (Ev.pos rfl (Ev.now _)))
 unfold laws_eqArcS.f
 exact Ev.pos rfl (eqArcS_l l hm _ 0 rfl (by omega))
end Go.Proofs.Ytmioaahiflfcdaa.Pure
end
section
set_option linter.unusedSimpArgs false
set_option linter.unusedVariables false
namespace Go.Proofs.Ytmioaahiflfcdaa.Pure
open Go.RowKit Go.Proofs.Ytmioaahiflfcdaa.Pr Go.Proofs.YtmioaahiflfcdaaW.PrintWords Go.Proofs.YtmioaahiflfcdaaW.PrintLast Go.Proofs.YtmioaahiflfcdaaW.PrintMore
def flip (a : Arc) : Arc:=⟨a.f1,a.f0,a.f2,a.f3,a.f4⟩
def back (l : List Arc) : List Arc:=l.map flip
theorem back_len (l : List Arc) : (back l).length = l.length:=by simp [back]
theorem back_arc {l : List Arc} {i : Nat} (h : i < l.length) : arc (back l) i = flip (arc l i):=by
 rw [arc_get (by rw [back_len]; exact h),arc_get h];simp [back]
theorem back_good {n : Int} {l : List Arc} (h : NetGood n l) : NetGood n (back l):=by
 refine ⟨h.n1,h.n8,by rw [back_len]; exact h.len,fun i hi => ?_⟩;rw [back_len] at hi;obtain ⟨a1,a2,a3,a4⟩:=h.ok i hi;rw [back_arc hi];exact ⟨a2,a1,fun e => a3 e.symm,a4⟩
theorem implBack_l (n : Int) (l : List Arc) (hm : l.length ≤ 1000) : ∀ (m i : Nat),l.length - i = m → i ≤ l.length → Ev (fun k => impl_Net_back.l0 k l (l.length : Int) (i : Int) n ((back l).take i)) (n,back l):=by
 intro m
 induction m with
 | zero =>
  intro i hd hi;refine Ev.go ?_ (fun k => by rw [impl_Net_back.l0]);refine Ev.neg (by omega) (Ev.is ?_);rw [List.take_of_length_le (by rw [back_len]; omega)]
 | succ m ih =>
  intro i hd hi;have hlt : i < l.length:=by omega
  refine Ev.go ?_ (fun k => by rw [impl_Net_back.l0]);have ih:=ih (i + 1) (by omega) (by omega);have hlt2 : i < (back l).length:=by rw [back_len]; exact hlt
  rw [List.take_succ_eq_append_getElem hlt2,← arc_get hlt2,back_arc hlt] at ih;rw [up1 hlt (by simp only [maxLen]; omega),rda];exact Ev.pos (by omega) (Ev.pos (by omega) (Ev.pos (by omega) (Ev.pos (by simp; omega) ih)))
theorem implBack_ev (n : Int) (l : List Arc) (hm : l.length ≤ 1000) : Ev (fun k => impl_Net_back.f k n l) (n,back l):=by
 unfold impl_Net_back.f
 exact Ev.pos (by omega) (Ev.pos (by omega) (by simpa using implBack_l n l hm _ 0 rfl (Nat.zero_le _)))
def lst (n : Nat) (F : Nat → Int) : List Int:=(List.range n).map F
theorem lst_len (n : Nat) (F : Nat → Int) : (lst n F).length = n:=by simp [lst]
theorem lst_nth {n v : Nat} (F : Nat → Int) (h : v < n) : nth (lst n F) v = F v:=by
 simp [nth,lst,h]
theorem lst_rd {n v : Nat} (F : Nat → Int) (h : v < n) : rd (lst n F) (v : Int) = F v:=by rw [rdg,lst_nth F h]
theorem lst_congr {n : Nat} {F G : Nat → Int} (h : ∀ v,v < n → F v = G v) : lst n F = lst n G:=by
 unfold lst
 exact List.map_congr_left (fun v hv => h v (List.mem_range.1 hv))
theorem lst_snoc (n : Nat) (F : Nat → Int) : lst n F ++ [F n] = lst (n + 1) F:=by
 simp [lst,List.range_succ]
theorem lst_of (l : List Int) : lst l.length (nth l) = l:=by
 apply List.ext_getElem (lst_len _ _)
 intro i h1 h2;have:=lst_nth (n:=l.length) (nth l) (v:=i) h2;rw [nth_get h1,nth_get h2] at this;exact this
def upd (F : Nat → Int) (a : Nat) (x : Int) : Nat → Int:=fun v => if v = a then x else F v
theorem lst_set {n a : Nat} (F : Nat → Int) (x : Int) : (lst n F).set a x = lst n (upd F a x):=by
 apply List.ext_getElem (by simp [lst])
 intro i h1 h2;have hi : i < n:=by simpa [lst] using h2
 simp only [List.getElem_set]
 by_cases e : a = i
 case pos => subst e; simp [lst,upd]
 simp [lst,upd,e,show ¬ i = a from fun h => e h.symm]
theorem upd_same (F : Nat → Int) (a : Nat) (x : Int) : upd F a x a = x:=by simp [upd]
theorem upd_far (F : Nat → Int) {a v : Nat} (x : Int) (h : v ≠ a) : upd F a x v = F v:=by simp [upd,h]
inductive Conn (E : Nat → Nat → Prop) : Nat → Nat → Prop
 | refl (v : Nat) : Conn E v v
 | tail {u v w : Nat} : Conn E u v → (E v w ∨ E w v) → Conn E u w
end Go.Proofs.Ytmioaahiflfcdaa.Pure
end
section
set_option linter.unusedSectionVars false
namespace Go.Proofs.Ytmioaahiflfcdaa.Sp
structure G where
 n : Nat
 m : Nat
 fr : Nat → Nat
 tw : Nat → Nat
 w : Nat → Int
 use : Nat → Bool
structure G.Ok (g : G) : Prop where
 fl : ∀ i,i < g.m → g.fr i < g.n
 tl : ∀ i,i < g.m → g.tw i < g.n
 w0 : ∀ i,i < g.m → 0 ≤ g.w i
inductive Wk (g : G) : Nat → Nat → Nat → Int → Prop
 | nil (v : Nat) : Wk g v v 0 0
 | cons {i v k : Nat} {c : Int} : i < g.m → g.use i = true → Wk g (g.tw i) v k c → Wk g (g.fr i) v (k + 1) (g.w i + c)
theorem Wk.cast {g : G} {u v k k' : Nat} {c c' : Int} (h : Wk g u v k c) (hk : k = k') (hc : c = c') : Wk g u v k' c':=by
 subst hk; subst hc; exact h
theorem Wk.nonneg {g : G} (ok : g.Ok) {u v k : Nat} {c : Int} (h : Wk g u v k c) : 0 ≤ c:=by
 induction h with
 | nil => omega
 | cons hi _ _ ih => have:=ok.w0 _ hi; omega
theorem nodup_len : ∀ (n : Nat) (l : List Nat),l.Nodup → (∀ x ∈ l,x < n) → l.length ≤ n:=by
 intro n
 induction n with
 | zero =>
  intro l _ h;cases l with
  | nil => simp
  | cons a l => exact absurd (h a (by simp)) (by omega)
 | succ n ih =>
  intro l hn h;have h1:=ih (l.erase n) (hn.erase n) (fun x hx => by
   have h2:=h x (List.mem_of_mem_erase hx);have h3 : x ≠ n:=by
    rintro rfl;exact (List.Nodup.not_mem_erase hn) hx
   omega)
  have:=List.length_erase_le (a:=n) (l:=l);have h4 : l.length ≤ (l.erase n).length + 1:=by
   rw [List.length_erase]
   split <;> omega
  omega
inductive Sm (g : G) (t : Nat) : Nat → List Nat → Nat → Int → Prop
 | nil : Sm g t t [t] 0 0
 | cons {i k : Nat} {L : List Nat} {c : Int} : i < g.m → g.use i = true → Sm g t (g.tw i) L k c → g.fr i ∉ L → Sm g t (g.fr i) (g.fr i :: L) (k + 1) (g.w i + c)
theorem Sm.wk {g : G} {t u k : Nat} {L : List Nat} {c : Int} (h : Sm g t u L k c) : Wk g u t k c:=by
 induction h with
 | nil => exact .nil _
 | cons hi hu _ _ ih => exact .cons hi hu ih
theorem Sm.facts {g : G} (ok : g.Ok) {t u k : Nat} (ht : t < g.n) {L : List Nat} {c : Int} (h : Sm g t u L k c) : L.Nodup ∧ (∀ x ∈ L,x < g.n) ∧ L.length = k + 1:=by
 induction h with
 | nil => simp [ht]
 | cons hi _ _ hn ih =>
  refine ⟨List.nodup_cons.2 ⟨hn,ih.1⟩,?_,by simp [ih.2.2]⟩;intro x hx
  rcases List.mem_cons.1 hx with rfl | hx
  ·exact ok.fl _ hi
  ·exact ih.2.1 x hx
theorem Sm.tail {g : G} (ok : g.Ok) {t u k : Nat} {L : List Nat} {c : Int} (h : Sm g t u L k c) {x : Nat} (hx : x ∈ L) : ∃ L' k' c',Sm g t x L' k' c' ∧ k' ≤ k ∧ c' ≤ c:=by
 induction h with
 | nil =>
  obtain rfl : x = t:=by simpa using hx
  exact ⟨_,_,_,.nil,Nat.le_refl _,Int.le_refl _⟩
 | cons hi hu h hn ih =>
  rcases List.mem_cons.1 hx with rfl | hx
  ·exact ⟨_,_,_,.cons hi hu h hn,Nat.le_refl _,Int.le_refl _⟩
  ·obtain ⟨L',k',c',h1,h2,h3⟩:=ih hx;have:=ok.w0 _ hi;exact ⟨L',k',c',h1,by omega,by omega⟩
theorem Wk.simple {g : G} (ok : g.Ok) {u v k : Nat} {c : Int} (h : Wk g u v k c) : ∃ L k' c',Sm g v u L k' c' ∧ k' ≤ k ∧ c' ≤ c:=by
 induction h with
 | nil v => exact ⟨_,_,_,.nil,Nat.le_refl _,Int.le_refl _⟩
 | @cons i v k c hi hu h ih =>
  obtain ⟨L,k',c',h1,h2,h3⟩:=ih
  by_cases hm : g.fr i ∈ L
  case neg => exact ⟨_,_,_,.cons hi hu h1 hm,by omega,by omega⟩
  obtain ⟨L'',k'',c'',h4,h5,h6⟩:=h1.tail ok hm;have:=ok.w0 _ hi;exact ⟨L'',k'',c'',h4,by omega,by omega⟩
theorem Wk.short {g : G} (ok : g.Ok) {u v k : Nat} (hv : v < g.n) {c : Int} (h : Wk g u v k c) : ∃ k' c',Wk g u v k' c' ∧ k' < g.n ∧ k' ≤ k ∧ c' ≤ c:=by
 obtain ⟨L,k',c',h1,h2,h3⟩:=h.simple ok;obtain ⟨f1,f2,f3⟩:=h1.facts ok hv;have:=nodup_len _ _ f1 f2;exact ⟨k',c',h1.wk,by omega,h2,h3⟩
def Opt (g : G) (t : Nat) (L : Nat → Option Int) : Prop:=∀ v,v < g.n → (∀ x,L v = some x → ∃ k,Wk g v t k x) ∧ (∀ k c,Wk g v t k c → ∃ x,L v = some x ∧ x ≤ c)
theorem Opt.uniq {g : G} {t : Nat} {L L' : Nat → Option Int} (h : Opt g t L) (h' : Opt g t L') : ∀ v,v < g.n → L v = L' v:=by
 intro v hv;obtain ⟨a,b⟩:=h v hv;obtain ⟨a',b'⟩:=h' v hv;cases e : L v with
 | none =>
  cases e' : L' v with
  | none => rfl
  | some y =>
   obtain ⟨k,hk⟩:=a' y e';obtain ⟨x,hx,_⟩:=b k y hk;rw [e] at hx; cases hx
 | some x =>
  obtain ⟨k,hk⟩:=a x e;obtain ⟨y,hy,h1⟩:=b' k x hk;obtain ⟨k',hk'⟩:=a' y hy;obtain ⟨x',hx',h2⟩:=b k' y hk';rw [e] at hx';obtain rfl:=Option.some.inj hx';rw [hy]
  congr 1
  omega
def lts (a : Int) : Option Int → Bool
 | none => true
 | some y => decide (a < y)
def put (L : Nat → Option Int) (a : Nat) (x : Int) : Nat → Option Int:=fun v => if v = a then some x else L v
def relax (g : G) (L : Nat → Option Int) (i : Nat) : Nat → Option Int :=
 if g.use i = true then
  match L (g.tw i) with
  | none => L
  | some x => if lts (x + g.w i) (L (g.fr i)) = true then put L (g.fr i) (x + g.w i) else L
 else L
theorem relax_cases (g : G) (L : Nat → Option Int) (i : Nat) : (relax g L i = L ∧ (g.use i = true → ∀ x,L (g.tw i) = some x → lts (x + g.w i) (L (g.fr i)) = false)) ∨ (g.use i = true ∧ ∃ x,L (g.tw i) = some x ∧ lts (x + g.w i) (L (g.fr i)) = true ∧ relax g L i = put L (g.fr i) (x + g.w i)):=by
 unfold relax
 by_cases hu : g.use i = true
 case neg =>
  rw [if_neg hu];exact .inl ⟨rfl,fun h => absurd h hu⟩
 rw [if_pos hu];cases e : L (g.tw i) with
 | none => exact .inl ⟨rfl,fun _ x hx => by cases hx⟩
 | some x =>
  dsimp only
  by_cases hl : lts (x + g.w i) (L (g.fr i)) = true
  case pos =>
   rw [if_pos hl];exact .inr ⟨hu,x,rfl,hl,rfl⟩
  rw [if_neg hl];refine .inl ⟨rfl,fun _ y hy => ?_⟩;obtain rfl:=Option.some.inj hy
  simpa using hl
def sweep (g : G) (L : Nat → Option Int) : Nat → (Nat → Option Int)
 | 0 => L
 | i + 1 => relax g (sweep g L i) i
def Le (a b : Option Int) : Prop:=∀ y,b = some y → ∃ x,a = some x ∧ x ≤ y
theorem Le.refl (a : Option Int) : Le a a:=fun y h => ⟨y,h,Int.le_refl _⟩
theorem Le.trans {a b c : Option Int} (h : Le a b) (k : Le b c) : Le a c:=by
 intro y hy;obtain ⟨x,hx,h1⟩:=k y hy;obtain ⟨z,hz,h2⟩:=h x hx;exact ⟨z,hz,by omega⟩
theorem put_same (L : Nat → Option Int) (a : Nat) (x : Int) : put L a x a = some x:=by simp [put]
theorem put_far (L : Nat → Option Int) {a v : Nat} (x : Int) (h : v ≠ a) : put L a x v = L v:=by simp [put,h]
theorem relax_le (g : G) (L : Nat → Option Int) (i v : Nat) : Le (relax g L i v) (L v):=by
 rcases relax_cases g L i with ⟨e,_⟩ | ⟨_,x,hx,hl,e⟩
 ·rw [e]; exact Le.refl _
 ·rw [e]
  by_cases hv : v = g.fr i
  case neg => rw [put_far _ _ hv]; exact Le.refl _
  subst hv;rw [put_same];intro y hy;rw [hy] at hl;exact ⟨_,rfl,by simp [lts] at hl; omega⟩
theorem relax_arc (g : G) (L : Nat → Option Int) (i : Nat) (hu : g.use i = true) {x : Int} (hx : L (g.tw i) = some x) : Le (relax g L i (g.fr i)) (some (x + g.w i)):=by
 intro y hy;obtain rfl:=Option.some.inj hy
 unfold relax
 rw [if_pos hu,hx];dsimp only
 split
 ·exact ⟨_,by simp [put],Int.le_refl _⟩
 ·rename_i hl;cases e : L (g.fr i) with
  | none => rw [e] at hl; simp [lts] at hl
  | some z => rw [e] at hl; exact ⟨z,rfl,by simp [lts] at hl; omega⟩
theorem sweep_le (g : G) (L : Nat → Option Int) (i s v : Nat) : Le (sweep g L (i + s) v) (sweep g L i v):=by
 induction s with
 | zero => exact Le.refl _
 | succ s ih => exact (relax_le g _ _ v).trans ih
theorem sweep_arc (g : G) (L : Nat → Option Int) {i : Nat} (hi : i < g.m) (hu : g.use i = true) {x : Int} (hx : L (g.tw i) = some x) : ∃ y,sweep g L g.m (g.fr i) = some y ∧ y ≤ x + g.w i:=by
 have h0:=sweep_le g L 0 i (g.tw i);rw [Nat.zero_add] at h0;obtain ⟨x',hx',h1⟩:=h0 x hx;have h2:=relax_arc g (sweep g L i) i hu hx';have h3:=sweep_le g L (i + 1) (g.m - (i + 1)) (g.fr i);rw [show i + 1 + (g.m - (i + 1)) = g.m by omega] at h3;obtain ⟨y,hy,h4⟩:=(h3.trans h2) _ rfl;exact ⟨y,hy,by omega⟩
def Real (g : G) (t : Nat) (L : Nat → Option Int) : Prop:=∀ v x,L v = some x → ∃ k,Wk g v t k x
theorem relax_real {g : G} {t : Nat} {L : Nat → Option Int} (h : Real g t L) {i : Nat} (hi : i < g.m) : Real g t (relax g L i):=by
 intro v x hx
 rcases relax_cases g L i with ⟨e,_⟩ | ⟨hu,y,hy,hl,e⟩
 ·rw [e] at hx; exact h v x hx
 ·rw [e] at hx
  by_cases hv : v = g.fr i
  case neg => rw [put_far _ _ hv] at hx; exact h v x hx
  subst hv;rw [put_same] at hx;obtain rfl:=Option.some.inj hx;obtain ⟨k,hk⟩:=h _ _ hy;exact ⟨k + 1,(Wk.cons hi hu hk).cast rfl (by omega)⟩
theorem sweep_real {g : G} {t : Nat} {L : Nat → Option Int} (h : Real g t L) : ∀ i,i ≤ g.m → Real g t (sweep g L i):=by
 intro i
 induction i with
 | zero => exact fun _ => h
 | succ i ih => exact fun hi => relax_real (ih (by omega)) (by omega)
theorem opt_of_fix {g : G} {t : Nat} {L : Nat → Option Int} (h : Real g t L) (ht : Le (L t) (some 0)) (hf : ∀ v,sweep g L g.m v = L v) : Opt g t L:=by
 intro v hv0;clear hv0;refine ⟨fun x hx => h v x hx,fun k c hw => ?_⟩;clear h
 induction hw with
 | nil =>
  obtain ⟨x,hx,h1⟩:=ht 0 rfl;exact ⟨x,hx,h1⟩
 | cons hi hu _ ih =>
  obtain ⟨x,hx,h1⟩:=ih ht;obtain ⟨y,hy,h2⟩:=sweep_arc g L hi hu hx;rw [hf] at hy;exact ⟨y,hy,by omega⟩
def start (t : Nat) : Nat → Option Int:=fun v => if v = t then some 0 else none
def rounds (g : G) (t : Nat) : Nat → (Nat → Option Int)
 | 0 => start t
 | r + 1 => sweep g (rounds g t r) g.m
theorem start_real (g : G) (t : Nat) : Real g t (start t):=by
 intro v x hx
 unfold start at hx
 split at hx
 ·rename_i e;obtain rfl:=Option.some.inj hx;subst e;exact ⟨0,.nil _⟩
 ·cases hx
theorem rounds_real (g : G) (t : Nat) : ∀ r,Real g t (rounds g t r):=by
 intro r
 induction r with
 | zero => exact start_real g t
 | succ r ih => exact sweep_real ih _ (Nat.le_refl _)
theorem rounds_le (g : G) (t r s v : Nat) : Le (rounds g t (r + s) v) (rounds g t r v):=by
 induction s with
 | zero => exact Le.refl _
 | succ s ih =>
  have:=sweep_le g (rounds g t (r + s)) 0 g.m v;rw [Nat.zero_add] at this;exact this.trans ih
theorem rounds_t (g : G) (t r : Nat) : Le (rounds g t r t) (some 0):=by
 have:=rounds_le g t 0 r t;rw [Nat.zero_add] at this;exact this.trans (by simp [rounds,start]; exact Le.refl _)
theorem rounds_walk {g : G} {t r u k : Nat} {c : Int} (h : Wk g u t k c) (hk : k ≤ r) : ∃ x,rounds g t r u = some x ∧ x ≤ c:=by
 induction h generalizing r with
 | nil => exact rounds_t g _ r 0 rfl
 | cons hi hu _ ih =>
  obtain ⟨r,rfl⟩ : ∃ q,r = q + 1:=⟨r - 1,by omega⟩
  obtain ⟨x,hx,h1⟩:=ih (r:=r) (by omega);obtain ⟨y,hy,h2⟩:=sweep_arc g _ hi hu hx;exact ⟨y,hy,by omega⟩
theorem rounds_opt {g : G} (ok : g.Ok) {t r : Nat} (ht : t < g.n) (hr : g.n ≤ r + 1) : Opt g t (rounds g t r):=by
 intro v _;refine ⟨fun x hx => rounds_real g t r v x hx,fun k c hw => ?_⟩;obtain ⟨k',c',h1,h2,h3,h4⟩:=hw.short ok ht;obtain ⟨x,hx,h5⟩:=rounds_walk (r:=r) h1 (by omega);exact ⟨x,hx,by omega⟩
theorem relax_none {g : G} {L : Nat → Option Int} (hn : ∀ v,g.n ≤ v → L v = none) (ok : g.Ok) {i : Nat} (hi : i < g.m) : ∀ v,g.n ≤ v → relax g L i v = none:=by
 intro v hv
 rcases relax_cases g L i with ⟨e,_⟩ | ⟨_,x,hx,hl,e⟩
 ·rw [e]; exact hn v hv
 ·rw [e,put_far _ _ (by have:=ok.fl i hi; omega)]; exact hn v hv
theorem sweep_none {g : G} {L : Nat → Option Int} (ok : g.Ok) (hn : ∀ v,g.n ≤ v → L v = none) : ∀ i,i ≤ g.m → ∀ v,g.n ≤ v → sweep g L i v = none:=by
 intro i
 induction i with
 | zero => exact fun _ => hn
 | succ i ih => exact fun hi => relax_none (ih (by omega)) ok (by omega)
theorem rounds_none {g : G} (ok : g.Ok) {t : Nat} (ht : t < g.n) : ∀ r v,g.n ≤ v → rounds g t r v = none:=by
 intro r
 induction r with
 | zero => intro v hv; simp [rounds,start]; omega
 | succ r ih => exact sweep_none ok ih _ (Nat.le_refl _)
theorem rounds_fix {g : G} (ok : g.Ok) {t r : Nat} (ht : t < g.n) (hr : g.n ≤ r + 1) : ∀ v,rounds g t (r + 1) v = rounds g t r v:=by
 intro v
 by_cases hv : v < g.n
 case pos => exact (rounds_opt ok ht (by omega)).uniq (rounds_opt ok ht hr) v hv
 rw [rounds_none ok ht _ v (by omega),rounds_none ok ht _ v (by omega)]
theorem sweep_same {g : G} {L : Nat → Option Int} (h : ∀ v,sweep g L g.m v = L v) {i : Nat} (hi : i ≤ g.m) : ∀ v,sweep g L i v = L v:=by
 intro v;have h1:=sweep_le g L 0 i v;have h2:=sweep_le g L i (g.m - i) v;rw [Nat.zero_add] at h1;rw [show i + (g.m - i) = g.m by omega,h v] at h2;cases e : L v with
 | none =>
  cases e' : sweep g L i v with
  | none => rfl
  | some y =>
   obtain ⟨x,hx,_⟩:=h2 y e';rw [e] at hx; cases hx
 | some x =>
  obtain ⟨y,hy,a1⟩:=h1 x (by simpa [sweep] using e);obtain ⟨x',hx',a2⟩:=h2 y hy;rw [e] at hx';obtain rfl:=Option.some.inj hx';rw [hy]; congr 1; omega
theorem relax_bd {g : G} {L : Nat → Option Int} {B : Int} (h : ∀ v x,L v = some x → 0 ≤ x ∧ x ≤ B) {i : Nat} {w1 : Int} (hw0 : 0 ≤ g.w i) (hw : g.w i ≤ w1) : ∀ v x,relax g L i v = some x → 0 ≤ x ∧ x ≤ B + w1:=by
 intro v x hx
 rcases relax_cases g L i with ⟨e,_⟩ | ⟨_,y,hy,hl,e⟩
 ·rw [e] at hx; have:=h v x hx; omega
 ·rw [e] at hx
  by_cases hv : v = g.fr i
  case neg => rw [put_far _ _ hv] at hx; have:=h v x hx; omega
  subst hv;rw [put_same] at hx;obtain rfl:=Option.some.inj hx;have:=h _ _ hy; omega
end Go.Proofs.Ytmioaahiflfcdaa.Sp
namespace Go.Proofs.Ytmioaahiflfcdaa.Sp
structure Dbl (g e s : G) (D : Nat → Option Int) : Prop where
 en : e.n = g.n
 em : e.m = g.m
 ef : e.fr = g.fr
 et : e.tw = g.tw
 eu : e.use = g.use
 ew : ∀ i,i < g.m → e.w i = 1000 * g.w i + 1
 sn : s.n = g.n
 sm : s.m = g.m
 sf : s.fr = g.fr
 st : s.tw = g.tw
 sw : ∀ i,i < g.m → s.w i = 1
 su : ∀ i,i < g.m → (s.use i = true ↔ g.use i = true ∧ ∃ x,D (g.tw i) = some x ∧ D (g.fr i) = some (g.w i + x))
def both (D S : Nat → Option Int) : Nat → Option Int:=fun v =>
 match D v with
 | none => none
 | some d => match S v with
  | none => none
  | some k => some (1000 * d + k)
section
variable {g e s : G} {t : Nat} {D S : Nat → Option Int} (h : Dbl g e s D) (ok : g.Ok) (hD : Opt g t D) (hS : Opt s t S) (ht : t < g.n)
include h
theorem Dbl.okS (ok : g.Ok) : s.Ok:=by
 refine ⟨?_,?_,?_⟩
 ·rw [h.sf,h.sm,h.sn]; exact ok.fl
 ·rw [h.st,h.sm,h.sn]; exact ok.tl
 ·intro i hi;rw [h.sm] at hi;rw [h.sw i hi]; omega
theorem Dbl.toE {u v k : Nat} {c : Int} (w : Wk g u v k c) : Wk e u v k (1000 * c + k):=by
 induction w with
 | nil => exact (Wk.nil _).cast rfl (by omega)
 | @cons i v k c hi hu _ ih =>
  have h1 : Wk e (e.tw i) v k (1000 * c + k):=by rw [h.et]; exact ih
  have h2:=Wk.cons (i:=i) (by rw [h.em]; exact hi) (by rw [h.eu]; exact hu) h1;rw [h.ef,h.ew i hi] at h2;exact h2.cast rfl (by omega)
theorem Dbl.ofE {u v k : Nat} {c : Int} (w : Wk e u v k c) : ∃ c',Wk g u v k c' ∧ c = 1000 * c' + k:=by
 induction w with
 | nil => exact ⟨0,.nil _,by omega⟩
 | @cons i v k c hi hu _ ih =>
  obtain ⟨c',h1,h2⟩:=ih;rw [h.em] at hi;rw [h.eu] at hu;rw [h.et] at h1;refine ⟨g.w i + c',?_,by rw [h.ew i hi]; omega⟩;rw [h.ef];exact .cons hi hu h1
theorem Dbl.ofS (hD : Opt g t D) (ht : t < g.n) (ok : g.Ok) {u k : Nat} {c : Int} (w : Wk s u t k c) : ∃ d,D u = some d ∧ Wk g u t k d ∧ c = k:=by
 generalize ev : t = v at w
 induction w with
 | nil v =>
  subst ev;obtain ⟨x,hx,h1⟩:=(hD t ht).2 0 0 (.nil _);obtain ⟨k,hk⟩:=(hD t ht).1 x hx;have:=hk.nonneg ok;have e0 : x = 0:=by omega
  subst e0;exact ⟨0,hx,.nil _,rfl⟩
 | @cons i v k c hi hu _ ih =>
  obtain ⟨d,h1,h2,h3⟩:=ih ev;rw [h.sm] at hi;obtain ⟨g1,x,g2,g3⟩:=(h.su i hi).1 hu;rw [h.st] at h1 h2;rw [g2] at h1;obtain rfl:=Option.some.inj h1;rw [h.sf];exact ⟨_,g3,.cons hi g1 h2,by rw [h.sw i hi,h3]; omega⟩
theorem Dbl.toS (hD : Opt g t D) (ok : g.Ok) {u k : Nat} {c : Int} (w : Wk g u t k c) (hc : D u = some c) : Wk s u t k k:=by
 generalize ev : t = v at w
 induction w with
 | nil => exact .nil _
 | @cons i v k c hi hu w ih =>
  subst ev;obtain ⟨x,hx,h1⟩:=(hD _ (ok.tl i hi)).2 k c w;obtain ⟨j,hj⟩:=(hD _ (ok.tl i hi)).1 x hx;obtain ⟨y,hy,h2⟩:=(hD _ (ok.fl i hi)).2 _ _ (Wk.cons hi hu hj);rw [hc] at hy;obtain rfl:=Option.some.inj hy;have ex : x = c:=by omega
  subst ex;have h3:=ih hx rfl;rw [← h.st] at h3;have h4:=Wk.cons (i:=i) (by rw [h.sm]; exact hi) ((h.su i hi).2 ⟨hu,x,hx,hc⟩) h3;rw [h.sf,h.sw i hi] at h4;exact h4.cast rfl (by omega)
theorem Dbl.some (hD : Opt g t D) (hS : Opt s t S) (ht : t < g.n) (ok : g.Ok) {v : Nat} (hv : v < g.n) {d : Int} (hd : D v = .some d) : ∃ k : Nat,S v = .some (k : Int) ∧ k < g.n ∧ Wk s v t k k:=by
 obtain ⟨k,hk⟩:=(hD v hv).1 d hd;have w:=h.toS hD ok hk hd;obtain ⟨x,hx,h1⟩:=(hS v (by rw [h.sn]; exact hv)).2 _ _ w;obtain ⟨j,hj⟩:=(hS v (by rw [h.sn]; exact hv)).1 x hx;obtain ⟨d',e1,e2,e3⟩:=h.ofS hD ht ok hj;obtain ⟨j',c',w1,w2,w3,w4⟩:=hj.short (h.okS ok) (by rw [h.sn]; exact ht);obtain ⟨y,hy,h5⟩:=(hS v (by rw [h.sn]; exact hv)).2 _ _ w1;rw [hx] at hy;obtain rfl:=Option.some.inj hy;obtain ⟨_,_,_,e5⟩:=h.ofS hD ht ok w1;rw [h.sn] at w2;exact ⟨j,by rw [hx,e3],by omega,e3 ▸ hj⟩
theorem Dbl.opt (hD : Opt g t D) (hS : Opt s t S) (ht : t < g.n) (ok : g.Ok) (h8 : g.n ≤ 1000) : Opt e t (both D S):=by
 intro v hv;rw [h.en] at hv;constructor
 ·intro x hx
  unfold both at hx
  cases ed : D v with
  | none => rw [ed] at hx; cases hx
  | some d =>
   obtain ⟨k,hk,h1,h2⟩:=h.some hD hS ht ok hv ed;rw [ed,hk] at hx;obtain rfl:=Option.some.inj hx;obtain ⟨d',g1,g2,g3⟩:=h.ofS hD ht ok h2;rw [ed] at g1;obtain rfl:=Option.some.inj g1;exact ⟨k,h.toE g2⟩
 ·intro k c w;obtain ⟨c',w1,rfl⟩:=h.ofE w;obtain ⟨d,hd,h1⟩:=(hD v hv).2 _ _ w1;obtain ⟨j,hj,h2,h3⟩:=h.some hD hS ht ok hv hd;refine ⟨1000 * d + j,by simp [both,hd,hj],?_⟩
  by_cases e0 : d = c'
  case neg => omega
  subst e0;have w2:=h.toS hD ok w1 hd;obtain ⟨x,hx,h4⟩:=(hS v (by rw [h.sn]; exact hv)).2 _ _ w2;rw [hj] at hx;obtain rfl:=Option.some.inj hx;omega
end
end Go.Proofs.Ytmioaahiflfcdaa.Sp
end
section
set_option linter.unusedSimpArgs false
set_option linter.unusedVariables false
set_option linter.unusedSectionVars false
namespace Go.Proofs.Ytmioaahiflfcdaa.Pure
open Go.RowKit Go.Proofs.Ytmioaahiflfcdaa.Pr Go.Proofs.YtmioaahiflfcdaaW.PrintWords Go.Proofs.YtmioaahiflfcdaaW.PrintLast Go.Proofs.YtmioaahiflfcdaaW.PrintMore
open Go.Proofs.Ytmioaahiflfcdaa.Sp (G Wk Opt lts put relax sweep rounds start Dbl)
def gr (N : Nat) (l : List Arc) : G:=⟨N,l.length,fun i => (arc l i).f0.toNat,fun i => (arc l i).f1.toNat,fun i => (arc l i).f2,fun _ => true⟩
def grE (N : Nat) (l : List Arc) : G:={ gr N l with w:=fun i => 1000 * (arc l i).f2 + 1 }
def grS (N : Nat) (l : List Arc) (D : Nat → Option Int) : G:={ gr N l with w:=fun _ => 1,use:=fun i => match D (arc l i).f1.toNat with | none => false | some x => decide (D (arc l i).f0.toNat = some ((arc l i).f2 + x)) }
section
variable {N : Nat} {l : List Arc} (hg : NetGood N l)
include hg
theorem gr_ok : (gr N l).Ok:=⟨fun i hi => by have:=hg.ok i hi; show (arc l i).f0.toNat < N; omega,fun i hi => by have:=hg.ok i hi; show (arc l i).f1.toNat < N; omega,fun i hi => by have:=hg.ok i hi; show 0 ≤ (arc l i).f2; omega⟩
theorem grE_ok : (grE N l).Ok:=⟨fun i hi => by have:=hg.ok i hi; show (arc l i).f0.toNat < N; omega,fun i hi => by have:=hg.ok i hi; show (arc l i).f1.toNat < N; omega,fun i hi => by have:=hg.ok i hi; show 0 ≤ 1000 * (arc l i).f2 + 1; omega⟩
theorem grS_ok (D : Nat → Option Int) : (grS N l D).Ok:=⟨fun i hi => by have:=hg.ok i hi; show (arc l i).f0.toNat < N; omega,fun i hi => by have:=hg.ok i hi; show (arc l i).f1.toNat < N; omega,fun i hi => by show (0 : Int) ≤ 1; omega⟩
end
theorem dbl (N : Nat) (l : List Arc) (D : Nat → Option Int) : Dbl (gr N l) (grE N l) (grS N l D) D:=by
 refine ⟨rfl,rfl,rfl,rfl,rfl,fun i _ => rfl,rfl,rfl,rfl,rfl,fun i _ => rfl,fun i _ => ?_⟩
 show (match D (arc l i).f1.toNat with | none => false | some x => decide (D (arc l i).f0.toNat = some ((arc l i).f2 + x))) = true ↔ _
 cases e : D (arc l i).f1.toNat with
 | none =>
  refine ⟨fun h => (by cases h),fun ⟨_,x,h,_⟩ => ?_⟩;have h : D (arc l i).f1.toNat = some x:=h;rw [e] at h; cases h
 | some x =>
  dsimp only;rw [decide_eq_true_iff];refine ⟨fun h => ⟨rfl,x,e,h⟩,fun ⟨_,y,h,h2⟩ => ?_⟩;have h : D (arc l i).f1.toNat = some y:=h;rw [e] at h;obtain rfl:=Option.some.inj h;exact h2
def dst (N : Nat) (l : List Arc) (t : Nat) : Nat → Option Int:=rounds (gr N l) t N
def stp (N : Nat) (l : List Arc) (t : Nat) : Nat → Option Int:=rounds (grS N l (dst N l t)) t N
section
variable {N : Nat} {l : List Arc} (hg : NetGood N l) {t : Nat} (ht : t < N)
include hg ht
theorem dst_opt : Opt (gr N l) t (dst N l t):=Sp.rounds_opt (gr_ok hg) ht (by show N ≤ N + 1; omega)
theorem stp_opt : Opt (grS N l (dst N l t)) t (stp N l t):=Sp.rounds_opt (grS_ok hg _) ht (by show N ≤ N + 1; omega)
theorem stp_some {v : Nat} (hv : v < N) {d : Int} (hd : dst N l t v = some d) : ∃ k : Nat,stp N l t v = some (k : Int) ∧ k < N:=by
 obtain ⟨k,h1,h2,_⟩:=(dbl N l (dst N l t)).some (dst_opt hg ht) (stp_opt hg ht) ht (gr_ok hg) hv hd;exact ⟨k,h1,h2⟩
theorem tow_both {v : Nat} (hv : v < N) : rounds (grE N l) t N v = Sp.both (dst N l t) (stp N l t) v:=by
 have h8:=hg.n8;have h1:=Sp.rounds_opt (g:=grE N l) (t:=t) (r:=N) (grE_ok hg) ht (by show N ≤ N + 1; omega);have h2:=(dbl N l (dst N l t)).opt (dst_opt hg ht) (stp_opt hg ht) ht (gr_ok hg) (by show N ≤ 1000; omega);exact h1.uniq h2 v hv
end
abbrev Msr:=S101
def ent : Option Int → Msr
 | none => ⟨99999,0⟩
 | some x => ⟨x / 1000,x % 1000⟩
def far : Option Int → Int
 | none => 99999
 | some x => x
def lstM (N : Nat) (F : Nat → Msr) : List Msr:=(List.range N).map F
theorem lstM_len (N : Nat) (F : Nat → Msr) : (lstM N F).length = N:=by simp [lstM]
theorem lstM_rd {N v : Nat} (F : Nat → Msr) (h : v < N) : rd_T101 (lstM N F) (v : Int) = F v:=by
 simp [rd_T101,lstM,h]
theorem lstM_congr {N : Nat} {F H : Nat → Msr} (h : ∀ v,v < N → F v = H v) : lstM N F = lstM N H:=by
 unfold lstM
 exact List.map_congr_left (fun v hv => h v (List.mem_range.1 hv))
theorem lstM_set {N a : Nat} (L : Nat → Option Int) (x : Int) : (lstM N (fun v => ent (L v))).set a (ent (some x)) = lstM N (fun v => ent (put L a x v)):=by
 apply List.ext_getElem (by simp [lstM])
 intro i h1 h2;simp only [List.getElem_set]
 by_cases e : a = i
 case pos => subst e; simp [lstM,put]
 simp [lstM,put,e,show ¬ i = a from fun h => e h.symm]
theorem less_eq (a b c d : Int) : impl_measure_less.f a b c d = some (decide (a < c ∨ a = c ∧ b < d)):=by
 unfold impl_measure_less.f
 by_cases h : a < c
 case pos => rw [if_pos h,decide_eq_true (.inl h)]
 rw [if_neg h]
 by_cases h2 : a = c
 case neg => rw [if_neg h2,decide_eq_false (fun h3 => h3.elim h (fun h4 => h2 h4.1))]
 rw [if_pos h2]
 congr 1
 simp only [decide_eq_decide];exact ⟨fun h3 => .inr ⟨h2,h3⟩,fun h3 => h3.elim (fun h4 => absurd h4 h) (fun h4 => h4.2)⟩
def Bd (s : Nat) (L : Nat → Option Int) : Prop:=∀ v x,L v = some x → 0 ≤ x ∧ x / 1000 ≤ 99 * (s : Int) ∧ x % 1000 ≤ (s : Int)
theorem Bd.relax {N : Nat} {l : List Arc} (hg : NetGood N l) {s : Nat} {L : Nat → Option Int} (h : Bd s L) (hs : s < 900) {i : Nat} (hi : i < l.length) : Bd (s + 1) (relax (grE N l) L i):=by
 obtain ⟨_,_,_,⟨a1,a2⟩,_⟩:=hg.ok i hi;intro v x hx
 rcases Sp.relax_cases (grE N l) L i with ⟨e,_⟩ | ⟨_,y,hy,hl,e⟩
 ·rw [e] at hx; have:=h v x hx; omega
 ·rw [e] at hx
  by_cases hv : v = (grE N l).fr i
  case neg => rw [Sp.put_far _ _ hv] at hx; have:=h v x hx; omega
  subst hv;rw [Sp.put_same] at hx;have hx : some (y + (1000 * (arc l i).f2 + 1)) = some x:=hx;obtain rfl:=Option.some.inj hx;have:=h _ _ hy;omega
theorem Bd.sweep {N : Nat} {l : List Arc} (hg : NetGood N l) {s : Nat} {L : Nat → Option Int} (h : Bd s L) : ∀ i,i ≤ l.length → s + i ≤ 900 → Bd (s + i) (sweep (grE N l) L i):=by
 intro i
 induction i with
 | zero => exact fun _ _ => h
 | succ i ih => exact fun hi hs => (ih (by omega) (by omega)).relax hg (by omega) (by omega)
theorem Bd.mono {s r : Nat} {L : Nat → Option Int} (h : Bd s L) (hs : s ≤ r) : Bd r L:=fun v x hx => by have:=h v x hx; omega
theorem Bd.rounds {N : Nat} {l : List Arc} (hg : NetGood N l) (t : Nat) : ∀ r,r ≤ 9 → Bd (16 * r) (rounds (grE N l) t r):=by
 intro r
 induction r with
 | zero =>
  intro _ v x hx
  unfold Sp.rounds Sp.start at hx
  split at hx
  ·obtain rfl:=Option.some.inj hx; omega
  ·cases hx
 | succ r ih =>
  intro hr;have:=hg.len;exact ((ih (by omega)).sweep hg l.length (Nat.le_refl _) (by omega)).mono (by omega)
def hit (g : G) (L : Nat → Option Int) (i : Nat) : Bool:=match L (g.tw i) with
 | none => false
 | some x => lts (x + g.w i) (L (g.fr i))
def fl (g : G) (L : Nat → Option Int) : Nat → Bool
 | 0 => false
 | i + 1 => fl g L i || hit g (sweep g L i) i
theorem relax_hit {g : G} {L : Nat → Option Int} {i : Nat} (h : hit g L i = false) : relax g L i = L:=by
 unfold hit at h
 unfold Sp.relax
 split
 ·cases e : L (g.tw i) with
  | none => rfl
  | some x => rw [e] at h; dsimp only at h ⊢; rw [h]; rfl
 ·rfl
theorem fl_none {g : G} {L : Nat → Option Int} : ∀ i,fl g L i = false → sweep g L i = L
 | 0,_ => rfl
 | i + 1,h => by
  have h : (fl g L i || hit g (sweep g L i) i) = false:=h;rw [Bool.or_eq_false_iff] at h
  show relax g (sweep g L i) i = L
  rw [relax_hit h.2,fl_none i h.1]
theorem fl_same {g : G} (hu : ∀ i,g.use i = true) {L : Nat → Option Int} (h : ∀ v,sweep g L g.m v = L v) : ∀ i,i ≤ g.m → fl g L i = false
 | 0,_ => rfl
 | i + 1,hi => by
  show (fl g L i || hit g (sweep g L i) i) = false
  rw [fl_same hu h i (by omega),Bool.false_or];have e1 : sweep g L i = L:=funext (Sp.sweep_same h (by omega));have e2 : relax g L i = L:=by
   have : sweep g L (i + 1) = L:=funext (Sp.sweep_same h hi);have e3 : sweep g L (i + 1) = relax g (sweep g L i) i:=rfl;rw [e3,e1] at this;exact this
  rw [e1]
  unfold hit
  unfold Sp.relax at e2
  rw [if_pos (hu i)] at e2;cases e : L (g.tw i) with
  | none => rfl
  | some x =>
   rw [e] at e2;dsimp only at e2 ⊢;cases hl : lts (x + g.w i) (L (g.fr i)) with
   | false => rfl
   | true =>
    rw [if_pos hl] at e2;have:=congrFun e2 (g.fr i);rw [Sp.put_same] at this;rw [← this] at hl;simp [Sp.lts] at hl
section
variable {N : Nat} {l : List Arc} (hg : NetGood N l)
include hg
theorem tow_l1 (L : Nat → Option Int) {s : Nat} (hs : s ≤ 700) (hL : Bd s L) {R : List Msr} : ∀ (m i : Nat),l.length - i = m → i ≤ l.length →
  Ev (fun k => impl_Net_toward.l0 k (lstM N (fun v => ent (sweep (grE N l) L l.length v))) (fl (grE N l) L l.length) N l) R →
  Ev (fun k => impl_Net_toward.l1 k (lstM N (fun v => ent (sweep (grE N l) L i v))) (fl (grE N l) L i) l (l.length : Int) (i : Int) N l) R:=by
 have h16:=hg.len;intro m
 induction m with
 | zero =>
  intro i hd hi h;have e : i = l.length:=by omega
  subst e;refine Ev.go ?_ (fun k => by rw [impl_Net_toward.l1]);exact Ev.neg (by omega) h
 | succ m ih =>
  intro i hd hi h;have hlt : i < l.length:=by omega
  have hn:=ih (i + 1) (by omega) (by omega) h;clear ih h;have hb:=hL.sweep hg i hi (by omega);obtain ⟨⟨a1,a2⟩,⟨a3,a4⟩,a5,⟨a6,a7⟩,_⟩:=hg.ok i hlt;have ef : (grE N l).fr i = (arc l i).f0.toNat:=rfl;have et : (grE N l).tw i = (arc l i).f1.toNat:=rfl;have ew : (grE N l).w i = 1000 * (arc l i).f2 + 1:=rfl;obtain ⟨f,hf⟩:=Int.eq_ofNat_of_zero_le a1;obtain ⟨t,ht⟩:=Int.eq_ofNat_of_zero_le a3;rw [hf,Int.toNat_natCast] at ef;rw [ht,Int.toNat_natCast] at et;have hfN : f < N:=by omega
  have htN : t < N:=by omega
  have hsw : sweep (grE N l) L (i + 1) = relax (grE N l) (sweep (grE N l) L i) i:=rfl;have hfl : fl (grE N l) L (i + 1) = (fl (grE N l) L i || hit (grE N l) (sweep (grE N l) L i) i):=rfl;rw [hsw,hfl] at hn;clear hsw hfl;generalize sweep (grE N l) L i = M at hn hb;generalize fl (grE N l) L i = b at hn;refine Ev.go ?_ (fun k => by rw [impl_Net_toward.l1]);rw [rda,up1 hlt (by simp only [maxLen]; omega),hf,ht,lstM_rd _ htN,lstM_rd _ hfN,lstM_len];refine Ev.pos (by omega) (Ev.pos (by omega) (Ev.pos (by omega) (Ev.pos (by omega) (Ev.pos (by omega) ?_))));cases et2 : M t with
  | none =>
   have hh : hit (grE N l) M i = false:=by unfold hit; rw [et,et2]
   rw [hh,relax_hit hh,Bool.or_false] at hn;exact Ev.pos rfl hn
  | some x =>
   have hx:=hb t x et2;have hq : 0 ≤ x / 1000:=by omega
   have hr : 0 ≤ x % 1000:=by omega
   have w1 : wrap64 (x / 1000 + (arc l i).f2) = x / 1000 + (arc l i).f2:=w64 (by omega) (by omega);have w2 : wrap64 (x % 1000 + 1) = x % 1000 + 1:=w64 (by omega) (by omega);have e1 : (x + (1000 * (arc l i).f2 + 1)) / 1000 = x / 1000 + (arc l i).f2:=by omega
   have e2 : (x + (1000 * (arc l i).f2 + 1)) % 1000 = x % 1000 + 1:=by omega
   have eent : (⟨x / 1000 + (arc l i).f2,x % 1000 + 1⟩ : Msr) = ent (some (x + (1000 * (arc l i).f2 + 1))):=by simp only [ent,e1,e2]
   have hne : ¬ ((ent (some x)).f0 = 99999):=by show ¬ (x / 1000 = 99999); omega
   have elts : decide ((x / 1000 + (arc l i).f2) < (ent (M f)).f0 ∨ (x / 1000 + (arc l i).f2) = (ent (M f)).f0 ∧ (x % 1000 + 1) < (ent (M f)).f1) = lts (x + (1000 * (arc l i).f2 + 1)) (M f):=by
    cases ef2 : M f with
    | none => exact decide_eq_true (.inl (by show x / 1000 + (arc l i).f2 < 99999; omega))
    | some y =>
     have hy:=hb f y ef2
     show decide (_ < y / 1000 ∨ _ = y / 1000 ∧ _ < y % 1000) = decide (_ < y)
     rw [decide_eq_decide];omega
   have hh : hit (grE N l) M i = lts (x + (1000 * (arc l i).f2 + 1)) (M f):=by unfold hit; rw [et,et2,ef,ew]
   have hre : relax (grE N l) M i = if lts (x + (1000 * (arc l i).f2 + 1)) (M f) = true then put M f (x + (1000 * (arc l i).f2 + 1)) else M:=by
    unfold Sp.relax
    rw [if_pos (show (grE N l).use i = true from rfl),et,et2,ef,ew]
   rw [hh,hre] at hn;clear hh hre;refine Ev.neg hne ?_
   show Ev (fun k => if 0 ≤ ((f : Nat) : Int) then _ else _) R
   rw [show (ent (some x)).f0 = x / 1000 from rfl,show (ent (some x)).f1 = x % 1000 from rfl,w1,w2,Int.toNat_natCast,eent,lstM_set];clear w1 w2 hne;refine Ev.pos (by omega) (Ev.pos (by omega) (Ev.bind0 (less_eq _ _ _ _) ?_));rw [elts];cases c : lts (x + (1000 * (arc l i).f2 + 1)) (M f) with
   | true =>
    rw [c,if_pos rfl,Bool.or_true] at hn;exact Ev.pos rfl hn
   | false =>
    rw [c,if_neg (by simp),Bool.or_false] at hn;exact Ev.neg (by simp) hn
theorem tow_l0 {t : Nat} (ht : t < N) : ∀ d r,r + d = N → Ev (fun k => impl_Net_toward.l0 k (lstM N (fun v => ent (rounds (grE N l) t r v))) true N l) (lstM N (fun v => ent (rounds (grE N l) t N v))):=by
 have h8:=hg.n8;have stop : ∀ r,r ≤ N → fl (grE N l) (rounds (grE N l) t r) l.length = false → lstM N (fun v => ent (rounds (grE N l) t (r + 1) v)) = lstM N (fun v => ent (rounds (grE N l) t N v)):=by
  intro r hr hf;have e:=fl_none l.length hf;have o1 : Opt (grE N l) t (rounds (grE N l) t r):=Sp.opt_of_fix (Sp.rounds_real _ _ _) (Sp.rounds_t _ _ _) (fun v => congrFun e v);have o2:=Sp.rounds_opt (g:=grE N l) (t:=t) (r:=N) (grE_ok hg) ht (by show N ≤ N + 1; omega);refine lstM_congr (fun v hv => ?_);have e2 : rounds (grE N l) t (r + 1) = rounds (grE N l) t r:=e;rw [e2,o1.uniq o2 v hv]
 intro d
 induction d with
 | zero =>
  intro r hr;obtain rfl : r = N:=by omega
  refine Ev.go ?_ (fun k => by rw [impl_Net_toward.l0]);refine Ev.pos rfl (tow_l1 hg (rounds (grE r l) t r) (s:=16 * r) (by omega) (Bd.rounds hg t r (by omega)) _ 0 rfl (Nat.zero_le _) ?_);have hf:=fl_same (g:=grE r l) (fun _ => rfl) (L:=rounds (grE r l) t r) (Sp.rounds_fix (grE_ok hg) ht (by show r ≤ r + 1; omega)) l.length (Nat.le_refl _);rw [hf];refine Ev.go ?_ (fun k => by rw [impl_Net_toward.l0]);exact Ev.neg (by simp) (Ev.is (stop r (Nat.le_refl _) hf))
 | succ d ih =>
  intro r hr;refine Ev.go ?_ (fun k => by rw [impl_Net_toward.l0]);refine Ev.pos rfl (tow_l1 hg (rounds (grE N l) t r) (s:=16 * r) (by omega) (Bd.rounds hg t r (by omega)) _ 0 rfl (Nat.zero_le _) ?_);cases hf : fl (grE N l) (rounds (grE N l) t r) l.length with
  | true => exact ih (r + 1) (by omega)
  | false =>
   refine Ev.go ?_ (fun k => by rw [impl_Net_toward.l0]);exact Ev.neg (by simp) (Ev.is (stop r (by omega) hf))
theorem tow_ev {t : Nat} (ht : t < N) : Ev (fun k => impl_Net_toward.f k N l (t : Int)) (lstM N (fun v => ent (rounds (grE N l) t N v))):=by
 have h8:=hg.n8
 unfold impl_Net_toward.f
 refine Ev.bind0 (rep_measure _ N (by omega)) ?_;refine Ev.pos (by omega) (Ev.pos (by simp; omega) ?_);have e : (List.replicate N (⟨99999,0⟩ : Msr)).set (t : Int).toNat ⟨0,0⟩ = lstM N (fun v => ent (rounds (grE N l) t 0 v)):=by
  apply List.ext_getElem (by simp [lstM])
  intro i h1 h2;simp only [Int.toNat_natCast,List.getElem_set]
  by_cases c : t = i
  case pos => subst c; simp [lstM,Sp.rounds,Sp.start,ent]
  simp [lstM,Sp.rounds,Sp.start,ent,c,show ¬ i = t from fun h => c h.symm]
 rw [e];exact tow_l0 hg ht N 0 (by omega)
theorem ent_far {t : Nat} (ht : t < N) {v : Nat} (hv : v < N) : (ent (rounds (grE N l) t N v)).f0 = far (dst N l t v):=by
 have h8:=hg.n8;rw [tow_both hg ht hv]
 unfold Sp.both
 cases e : dst N l t v with
 | none => rfl
 | some d =>
  obtain ⟨k,h1,h2⟩:=stp_some hg ht hv e;rw [h1]
  show (1000 * d + (k : Int)) / 1000 = d
  omega
end
theorem costs_l (N : Nat) (hN : N ≤ 64) (F : Nat → Msr) : ∀ (m i : Nat),N - i = m → i ≤ N → Ev (fun k => impl_costs.l0 k (lst i (fun v => (F v).f0)) (lstM N F) (N : Int) (i : Int)) (lst N (fun v => (F v).f0)):=by
 intro m
 induction m with
 | zero =>
  intro i hd hi;refine Ev.go ?_ (fun k => by rw [impl_costs.l0]);obtain rfl : i = N:=by omega
  exact Ev.neg (by omega) (Ev.now _)
 | succ m ih =>
  intro i hd hi;refine Ev.go ?_ (fun k => by rw [impl_costs.l0]);rw [up1 (show i < N by omega) (by simp only [maxLen]; omega),lstM_rd F (show i < N by omega),lst_snoc i (fun v => (F v).f0),lst_len,lstM_len];exact Ev.pos (by omega) (Ev.pos (by omega) (Ev.pos (by omega) (Ev.pos (by omega) (ih (i + 1) (by omega) (by omega)))))
theorem costs_ev (N : Nat) (hN : N ≤ 64) (F : Nat → Msr) : Ev (fun k => impl_costs.f k (lstM N F)) (lst N (fun v => (F v).f0)):=by
 unfold impl_costs.f
 rw [lstM_len];exact Ev.pos (by omega) (Ev.pos (by omega) (costs_l N hN F _ 0 rfl (Nat.zero_le _)))
theorem from_ev {N : Nat} {l : List Arc} (hg : NetGood N l) {s : Nat} (hs : s < N) : Ev (fun k => impl_Net_from.f k N l (s : Int)) (lst N (fun v => far (dst N (back l) s v))):=by
 have h8:=hg.n8;have h16:=hg.len
 unfold impl_Net_from.f
 refine Ev.bind (implBack_ev _ l (by omega)) (Ev.bind (tow_ev (back_good hg) hs) (Ev.bind (costs_ev N (by omega) _) (Ev.is ?_)));exact lst_congr (fun v hv => ent_far (back_good hg) hs hv)
end Go.Proofs.Ytmioaahiflfcdaa.Pure
end
section
set_option linter.unusedSimpArgs false
set_option linter.unusedVariables false
set_option linter.unusedSectionVars false
namespace Go.Proofs.Ytmioaahiflfcdaa.Pure
open Go.RowKit Go.Proofs.Ytmioaahiflfcdaa.Pr Go.Proofs.YtmioaahiflfcdaaW.PrintWords Go.Proofs.YtmioaahiflfcdaaW.PrintLast Go.Proofs.YtmioaahiflfcdaaW.PrintMore
open Go.Proofs.Ytmioaahiflfcdaa.Sp (G Wk Opt)
def tab (N : Nat) (l : List Arc) (s : Nat) : List Int:=lst N (fun v => far (dst N (back l) s v))
theorem table_l {N : Nat} {l : List Arc} (hg : NetGood N l) : ∀ (m i : Nat),N - i = m → i ≤ N → Ev (fun k => impl_Net_table.l0 k ((List.range i).map (tab N l)) (N : Int) (i : Int) N l) ((List.range N).map (tab N l)):=by
 have h8:=hg.n8;intro m
 induction m with
 | zero =>
  intro i hd hi;obtain rfl : i = N:=by omega
  refine Ev.go ?_ (fun k => by rw [impl_Net_table.l0]);exact Ev.neg (by omega) (Ev.now _)
 | succ m ih =>
  intro i hd hi;refine Ev.go ?_ (fun k => by rw [impl_Net_table.l0]);have ih:=ih (i + 1) (by omega) (by omega);rw [List.range_succ,List.map_append] at ih;rw [up1 (show i < N by omega) (by simp only [maxLen]; omega)];exact Ev.pos (by omega) (Ev.bind (from_ev hg (show i < N by omega)) (Ev.pos (by simp; omega) ih))
theorem table_ev {N : Nat} {l : List Arc} (hg : NetGood N l) : Ev (fun k => impl_Net_table.f k N l) ((List.range N).map (tab N l)):=by
 have h8:=hg.n8
 unfold impl_Net_table.f
 exact Ev.pos (by omega) (Ev.pos (by omega) (by simpa using table_l hg _ 0 rfl (Nat.zero_le _)))
theorem back_arc' (l : List Arc) (i : Nat) : arc (back l) i = flip (arc l i):=by
 by_cases h : i < l.length
 case pos => exact back_arc h
 have e1 : arc (back l) i = z80:=by unfold arc; simp [rd_T80,back_len,List.getElem?_eq_none (show l.length ≤ i by omega),List.getElem?_eq_none (show (back l).length ≤ i by rw [back_len]; omega)]
 have e2 : arc l i = z80:=by unfold arc; simp [rd_T80,List.getElem?_eq_none (show l.length ≤ i by omega)]
 rw [e1,e2]; rfl
theorem wk_cost {N : Nat} {l : List Arc} (hg : NetGood N l) {u v k : Nat} {c : Int} (w : Wk (gr N l) u v k c) : c ≤ 99 * (k : Int):=by
 induction w with
 | nil => omega
 | @cons i _ _ c hi _ _ ih =>
  have h : (gr N l).w i ≤ 99:=(hg.ok i hi).2.2.2.1.2;omega
section
variable {N : Nat} {l : List Arc} (hg : NetGood N l) {t : Nat} (ht : t < N)
include hg ht
theorem dst_bd {v : Nat} (hv : v < N) {d : Int} (h : dst N l t v = some d) : 0 ≤ d ∧ d ≤ 693:=by
 have h8:=hg.n8;obtain ⟨k,w⟩:=(dst_opt hg ht v hv).1 d h;obtain ⟨k',c',w',h1,h2,h3⟩:=w.short (gr_ok hg) ht;obtain ⟨x,h4,h5⟩:=(dst_opt hg ht v hv).2 _ _ w';rw [h] at h4;obtain rfl:=Option.some.inj h4;have h6:=wk_cost hg w';have h7 : k' < N:=h1;exact ⟨w.nonneg (gr_ok hg),by omega⟩
end
end Go.Proofs.Ytmioaahiflfcdaa.Pure
end
section
set_option linter.unusedSimpArgs false
set_option linter.unusedVariables false
set_option linter.unusedSectionVars false
namespace Go.Proofs.Ytmioaahiflfcdaa.Pure
open Go.RowKit Go.Proofs.Ytmioaahiflfcdaa.Pr Go.Proofs.YtmioaahiflfcdaaW.PrintWords Go.Proofs.YtmioaahiflfcdaaW.PrintLast Go.Proofs.YtmioaahiflfcdaaW.PrintMore
open Go.Proofs.Ytmioaahiflfcdaa.Sp (G Wk Opt lts put relax sweep rounds start)
theorem lst_put {N a : Nat} (L : Nat → Option Int) (x : Int) : (lst N (fun v => far (L v))).set a x = lst N (fun v => far (put L a x v)):=by
 rw [lst_set]
 apply lst_congr
 intro v _
 unfold upd Sp.put
 split <;> rfl
theorem lst_fill (N i : Nat) (c : Int) (F : Nat → Int) (h : i < N) : (lst N (fun v => if v < i then c else F v)).set i c = lst N (fun v => if v < i + 1 then c else F v):=by
 rw [lst_set]
 apply lst_congr
 intro v _
 unfold upd
 by_cases e : v = i
 case pos => subst e; simp
 rw [if_neg e]
 show (if v < i then c else F v) = _
 by_cases e2 : v < i
 case neg => rw [if_neg e2,if_neg (by omega)]
 rw [if_pos e2,if_pos (by omega)]
theorem start_lst {N s : Nat} (hs : s < N) : (lst N (fun _ => (99999 : Int))).set s 0 = lst N (fun v => far (Sp.start s v)):=by
 rw [lst_set]
 apply lst_congr
 intro v _
 unfold upd Sp.start
 split <;> rfl
def Bw (w : Int) (s : Nat) (L : Nat → Option Int) : Prop:=∀ v x,L v = some x → 0 ≤ x ∧ x ≤ w * (s : Int)
theorem Bw.relax {g : G} {w : Int} {s : Nat} {L : Nat → Option Int} (h : Bw w s L) {i : Nat} (h0 : 0 ≤ g.w i) (h1 : g.w i ≤ w) : Bw w (s + 1) (relax g L i):=by
 intro v x hx;have:=Sp.relax_bd h h0 h1 v x hx;refine ⟨this.1,?_⟩;have e : w * ((s + 1 : Nat) : Int) = w * (s : Int) + w:=by rw [Int.natCast_add,Int.mul_add]; simp
 omega
theorem Bw.sweep {g : G} {w : Int} {s : Nat} {L : Nat → Option Int} (h : Bw w s L) (hw : ∀ i,i < g.m → 0 ≤ g.w i ∧ g.w i ≤ w) : ∀ i,i ≤ g.m → Bw w (s + i) (sweep g L i)
 | 0,_ => h
 | i + 1,hi => (Bw.sweep h hw i (by omega)).relax (hw i (by omega)).1 (hw i (by omega)).2
theorem Bw.rounds {g : G} {w : Int} (hw : ∀ i,i < g.m → 0 ≤ g.w i ∧ g.w i ≤ w) (t : Nat) : ∀ r,Bw w (g.m * r) (rounds g t r)
 | 0 => by
  intro v x hx
  unfold Sp.rounds Sp.start at hx
  split at hx
  ·obtain rfl:=Option.some.inj hx; simp
  ·cases hx
 | r + 1 => by
  have:=(Bw.rounds hw t r).sweep hw g.m (Nat.le_refl _);rw [Nat.mul_succ];exact this
section
variable {N : Nat} {l : List Arc} (hg : NetGood N l)
include hg
theorem back_gr_fr (i : Nat) : (gr N (back l)).fr i = (arc l i).f1.toNat:=by show (arc (back l) i).f0.toNat = _; rw [back_arc']; rfl
theorem back_gr_tw (i : Nat) : (gr N (back l)).tw i = (arc l i).f0.toNat:=by show (arc (back l) i).f1.toNat = _; rw [back_arc']; rfl
theorem back_gr_w (i : Nat) : (gr N (back l)).w i = (arc l i).f2:=by show (arc (back l) i).f2 = _; rw [back_arc']; rfl
theorem back_gr_m : (gr N (back l)).m = l.length:=back_len l
theorem back_bw : ∀ i,i < (gr N (back l)).m → 0 ≤ (gr N (back l)).w i ∧ (gr N (back l)).w i ≤ 99:=by
 intro i hi;rw [back_gr_m hg] at hi;rw [back_gr_w hg];exact (hg.ok i hi).2.2.2.1
theorem l3All_arcs (r : Nat) {M : Nat → Option Int} {s : Nat} (hM : Bw 99 s M) (hs : s ≤ 500) (hr : r < N) {R : List Int} : ∀ (m i : Nat),l.length - i = m → i ≤ l.length →
  Ev (fun k => spec_l3All.l1 k (lst N (fun v => far (sweep (gr N (back l)) M l.length v))) ((r + 1 : Nat) : Int) N l) R →
  Ev (fun k => spec_l3All.l2 k (lst N (fun v => far (sweep (gr N (back l)) M i v))) (r : Int) (i : Int) N l) R:=by
 have h8:=hg.n8;have h16:=hg.len;intro m
 induction m with
 | zero =>
  intro i hd hi h;obtain rfl : i = l.length:=by omega
  refine Ev.go ?_ (fun k => by rw [spec_l3All.l2]);rw [up1 hr (by simp only [maxLen]; omega)];exact Ev.neg (by omega) h
 | succ m ih =>
  intro i hd hi h;have hlt : i < l.length:=by omega
  have hn:=ih (i + 1) (by omega) (by omega) h;clear ih h;have hb:=hM.sweep (back_bw hg) i (by rw [back_gr_m hg]; omega);have hsw : sweep (gr N (back l)) M (i + 1) = relax (gr N (back l)) (sweep (gr N (back l)) M i) i:=rfl;rw [hsw] at hn;generalize sweep (gr N (back l)) M i = L at hn hb;obtain ⟨⟨a1,a2⟩,⟨a3,a4⟩,a5,⟨a6,a7⟩,_⟩:=hg.ok i hlt;have ef:=back_gr_fr hg i;have et:=back_gr_tw hg i;have ew:=back_gr_w hg i;obtain ⟨f,hf⟩:=Int.eq_ofNat_of_zero_le a1;obtain ⟨t,ht⟩:=Int.eq_ofNat_of_zero_le a3;rw [hf,Int.toNat_natCast] at et;rw [ht,Int.toNat_natCast] at ef;have hfN : f < N:=by omega
  have htN : t < N:=by omega
  refine Ev.go ?_ (fun k => by rw [spec_l3All.l2]);rw [rda,up1 hlt (by simp only [maxLen]; omega),hf,ht,lst_rd _ htN,lst_rd _ hfN,lst_len];refine Ev.pos (by omega) (Ev.pos (by omega) (Ev.pos (by omega) (Ev.pos (by omega) ?_)));cases e2 : L f with
  | none =>
   have hre : relax (gr N (back l)) L i = L:=by unfold Sp.relax; rw [if_pos (show (gr N (back l)).use i = true from rfl),et,e2]
   rw [hre] at hn;exact Ev.neg (by show ¬ ((99999 : Int) < 99999); omega) hn
  | some x =>
   have hx:=hb f x e2;have w1 : wrap64 (x + (arc l i).f2) = x + (arc l i).f2:=w64 (by omega) (by omega);have hre : relax (gr N (back l)) L i = if lts (x + (arc l i).f2) (L t) = true then put L t (x + (arc l i).f2) else L:=by
    unfold Sp.relax
    rw [if_pos (show (gr N (back l)).use i = true from rfl),et,e2,ef,ew]
   have elt : (x + (arc l i).f2 < far (L t)) ↔ lts (x + (arc l i).f2) (L t) = true:=by
    cases e3 : L t with
    | none => exact ⟨fun _ => rfl,fun _ => by show x + _ < 99999; omega⟩
    | some y => exact ⟨fun h => decide_eq_true h,fun h => of_decide_eq_true h⟩
   rw [hre] at hn
   show Ev (fun k => if x < 99999 then _ else _) R
   rw [show far (some x) = x from rfl,w1,Int.toNat_natCast,lst_put];clear w1 hre;refine Ev.pos (by omega) (Ev.pos (by omega) (Ev.pos (by omega) ?_));cases c : lts (x + (arc l i).f2) (L t) with
   | true =>
    rw [c,if_pos rfl] at hn;exact Ev.pos (elt.2 c) hn
   | false =>
    rw [c,if_neg (by simp)] at hn;exact Ev.neg (fun h => by rw [elt.1 h] at c; cases c) hn
theorem l3All_rounds {s : Nat} (hs : s < N) : ∀ (m r : Nat),N - r = m → r ≤ N → Ev (fun k => spec_l3All.l1 k (lst N (fun v => far (rounds (gr N (back l)) s r v))) (r : Int) N l) (lst N (fun v => far (dst N (back l) s v))):=by
 have h8:=hg.n8;have h16:=hg.len;intro m
 induction m with
 | zero =>
  intro r hd hr;obtain rfl : r = N:=by omega
  refine Ev.go ?_ (fun k => by rw [spec_l3All.l1]);exact Ev.neg (by omega) (Ev.now _)
 | succ m ih =>
  intro r hd hr;have hlt : r < N:=by omega
  refine Ev.go ?_ (fun k => by rw [spec_l3All.l1]);refine Ev.pos (by omega) ?_;have hb:=Bw.rounds (back_bw hg) s r;rw [back_gr_m hg] at hb;have h16r : l.length * r ≤ 16 * 8:=Nat.mul_le_mul h16 (by omega);refine l3All_arcs hg r hb (by omega) hlt _ 0 rfl (Nat.zero_le _) ?_;have e : sweep (gr N (back l)) (rounds (gr N (back l)) s r) l.length = rounds (gr N (back l)) s (r + 1):=by
   show _ = sweep (gr N (back l)) (rounds (gr N (back l)) s r) (gr N (back l)).m
   rw [back_gr_m hg]
  rw [e];exact ih (r + 1) (by omega) (by omega)
theorem l3All_fill {s : Nat} (hs : s < N) : ∀ (m i : Nat),N - i = m → i ≤ N → Ev (fun k => spec_l3All.l0 k (s : Int) (lst N (fun v => if v < i then 99999 else 0)) (i : Int) N l) (lst N (fun v => far (dst N (back l) s v))):=by
 have h8:=hg.n8;intro m
 induction m with
 | zero =>
  intro i hd hi;obtain rfl : i = N:=by omega
  refine Ev.go ?_ (fun k => by rw [spec_l3All.l0]);have e : lst i (fun v => if v < i then (99999 : Int) else 0) = lst i (fun _ => 99999):=lst_congr (fun v hv => by rw [if_pos hv]);rw [e,lst_len];refine Ev.neg (by omega) (Ev.pos (by omega) (Ev.pos (by omega) ?_));rw [Int.toNat_natCast,start_lst hs];exact (l3All_rounds hg hs _ 0 rfl (Nat.zero_le _))
 | succ m ih =>
  intro i hd hi;have hlt : i < N:=by omega
  refine Ev.go ?_ (fun k => by rw [spec_l3All.l0]);rw [lst_len,Int.toNat_natCast,lst_fill N i 99999 (fun _ => 0) hlt,up1 hlt (by simp only [maxLen]; omega)];exact Ev.pos (by omega) (Ev.pos (by omega) (Ev.pos (by omega) (ih (i + 1) (by omega) (by omega))))
theorem zeros_lst : List.replicate N (0 : Int) = lst N (fun v => if v < 0 then 99999 else 0):=by
 apply List.ext_getElem (by simp [lst])
 intro i h1 h2;simp [lst]
theorem l3All_ev {s : Nat} (hs : s < N) : Ev (fun k => spec_l3All.f k N l (s : Int)) (lst N (fun v => far (dst N (back l) s v))):=by
 have h8:=hg.n8
 unfold spec_l3All.f
 rw [Int.toNat_natCast,zeros_lst hg];exact Ev.pos (by omega) (Ev.pos (by omega) (l3All_fill hg hs _ 0 rfl (Nat.zero_le _)))
end
end Go.Proofs.Ytmioaahiflfcdaa.Pure
end
section
set_option linter.unusedSimpArgs false
set_option linter.unusedVariables false
set_option linter.unusedSectionVars false
namespace Go.Proofs.Ytmioaahiflfcdaa.Pure
open Go.RowKit Go.Proofs.Ytmioaahiflfcdaa.Pr Go.Proofs.YtmioaahiflfcdaaW.PrintWords Go.Proofs.YtmioaahiflfcdaaW.PrintLast Go.Proofs.YtmioaahiflfcdaaW.PrintMore
open Go.Proofs.Ytmioaahiflfcdaa.Pm (perms pick at_ costOf IsPerm)
open Go.Proofs.Ytmioaahiflfcdaa.Fl (sm)
def nts (x : List Nat) : List Int:=x.map fun i => ((i : Nat) : Int)
def nats (x : List Int) : List Nat:=x.map Int.toNat
theorem nts_len (x : List Nat) : (nts x).length = x.length:=by simp [nts]
theorem nats_len (x : List Int) : (nats x).length = x.length:=by simp [nats]
theorem nts_nats {x : List Int} (h : ∀ v ∈ x,0 ≤ v) : nts (nats x) = x:=by
 unfold nts nats
 rw [List.map_map]
 conv => rhs; rw [← List.map_id x]
 exact List.map_congr_left (fun v hv => by show ((v.toNat : Nat) : Int) = v; have:=h v hv; omega)
theorem nats_nts (x : List Nat) : nats (nts x) = x:=by
 unfold nts nats
 rw [List.map_map]
 conv => rhs; rw [← List.map_id x]
 exact List.map_congr_left (fun v hv => by simp)
theorem nts_rd (x : List Nat) (i : Nat) : rd (nts x) (i : Int) = ((at_ x i : Nat) : Int):=by
 rw [rdg]
 unfold nth nts at_
 by_cases h : i < x.length
 case neg => simp [h]
 simp [h]
theorem nts_snoc (x : List Nat) (i : Nat) : nts x ++ [((i : Nat) : Int)] = nts (x ++ [i]):=by simp [nts]
theorem nts_mem (x : List Nat) (i : Nat) : ((i : Nat) : Int) ∈ nts x ↔ i ∈ x:=by
 unfold nts
 rw [List.mem_map];constructor
 ·rintro ⟨j,hj,e⟩;have : j = i:=by omega
  rw [← this]; exact hj
 ·exact fun h => ⟨i,h,rfl⟩
theorem at_mem {x : List Nat} {i : Nat} (h : i < x.length) : at_ x i ∈ x:=by
 have e : at_ x i = x[i]:=by simp [at_,h]
 rw [e]; exact List.getElem_mem h
theorem inL_l (x : List Int) (v : Int) (hm : x.length ≤ maxLen) : ∀ (m i : Nat),x.length - i = m → i ≤ x.length → Ev (fun k => spec_l12In.l0 k x v (i : Int)) (decide (v ∈ x.drop i)):=by
 intro m
 induction m with
 | zero =>
  intro i hd hi;refine Ev.go ?_ (fun k => by rw [spec_l12In.l0]);rw [List.drop_of_length_le (by omega)];exact Ev.neg (by omega) (Ev.is (by simp))
 | succ m ih =>
  intro i hd hi;have hlt : i < x.length:=by omega
  have hn:=ih (i + 1) (by omega) (by omega);rw [← up1 hlt hm] at hn;refine Ev.go ?_ (fun k => by rw [spec_l12In.l0]);refine Ev.pos (by omega) (Ev.pos (by omega) ?_);rw [rdn hlt,drop_cons hlt]
  by_cases c : x[i] = v
  case pos => exact Ev.pos c (Ev.is (decide_eq_true (List.mem_cons.2 (.inl c.symm))).symm)
  exact Ev.neg c (hn.cast (by rw [decide_eq_decide]; simp only [List.mem_cons]; exact ⟨.inr,fun h => h.resolve_left (fun e => c e.symm)⟩))
theorem inL_ev (x : List Int) (v : Int) (hm : x.length ≤ maxLen) : Ev (fun k => spec_l12In.f k x v) (decide (v ∈ x)):=by
 have:=inL_l x v hm _ 0 rfl (Nat.zero_le _)
 rwa [List.drop_zero] at this
theorem idx_l (x : List Int) (v : Int) (hm : x.length ≤ maxLen) : ∀ (m i : Nat),x.length - i = m → i ≤ x.length → ∃ r : Int,Ev (fun k => slices_Index_int_int.l0 k x v (x.length : Int) (i : Int)) r ∧ decide (r ≥ 0) = decide (v ∈ x.drop i):=by
 intro m
 induction m with
 | zero =>
  intro i hd hi;refine ⟨-1,?_,?_⟩
  ·refine Ev.go ?_ (fun k => by rw [slices_Index_int_int.l0]);exact Ev.neg (by omega) (Ev.now _)
  ·rw [List.drop_of_length_le (by omega)];simp
 | succ m ih =>
  intro i hd hi;have hlt : i < x.length:=by omega
  by_cases c : v = x[i]
  case pos =>
   refine ⟨(i : Int),?_,?_⟩
   ·refine Ev.go ?_ (fun k => by rw [slices_Index_int_int.l0]);rw [rdn hlt];exact Ev.pos (by omega) (Ev.pos (by omega) (Ev.pos (by omega) (Ev.pos c (Ev.now _))))
   ·rw [drop_cons hlt,decide_eq_decide];exact ⟨fun _ => List.mem_cons.2 (.inl c),fun _ => by omega⟩
  obtain ⟨r,h1,h2⟩:=ih (i + 1) (by omega) (by omega);rw [← up1 hlt hm] at h1;refine ⟨r,?_,?_⟩
  ·refine Ev.go ?_ (fun k => by rw [slices_Index_int_int.l0]);rw [rdn hlt];exact Ev.pos (by omega) (Ev.pos (by omega) (Ev.pos (by omega) (Ev.neg c h1)))
  ·rw [h2,drop_cons hlt,decide_eq_decide];simp only [List.mem_cons];exact ⟨.inr,fun h => h.resolve_left c⟩
theorem contains_ev (x : List Int) (v : Int) (hm : x.length ≤ maxLen) : Ev (fun k => slices_Contains_int_int.f k x v) (decide (v ∈ x)):=by
 obtain ⟨r,h1,h2⟩:=idx_l x v hm _ 0 rfl (Nat.zero_le _);rw [List.drop_zero] at h2;exact Ev.bind h1 (Ev.is h2)
def dis (N : Nat) (l : List Arc) (u v : Nat) : Int:=far (dst N (back l) u v)
section
variable {N : Nat} {l : List Arc} (hg : NetGood N l)
include hg
theorem dis_bd {u v : Nat} (hu : u < N) (hv : v < N) : 0 ≤ dis N l u v ∧ (dis N l u v = 99999 ∨ dis N l u v ≤ 693):=by
 unfold dis
 cases h : dst N (back l) u v with
 | none => exact ⟨by decide,.inl rfl⟩
 | some d =>
  have:=dst_bd (back_good hg) hu hv h;exact ⟨this.1,.inr this.2⟩
end
def DJ (N : Nat) (l : List Arc) (a b : List Nat) (i k : Nat) : Int:=dis N l (at_ a i) (at_ b k)
structure Jobs (N : Nat) (l : List Arc) (a b : List Nat) : Prop where
 net : NetGood N l
 m1 : 1 ≤ a.length
 m5 : a.length ≤ 5
 len : b.length = a.length
 ha : ∀ v ∈ a,v < N
 hb : ∀ v ∈ b,v < N
section
variable {N : Nat} {l : List Arc} {a b : List Nat} (hJ : Jobs N l a b)
include hJ
theorem at_a {i : Nat} (h : i < a.length) : at_ a i < N:=hJ.ha _ (at_mem h)
theorem at_b {i : Nat} (h : i < a.length) : at_ b i < N:=hJ.hb _ (at_mem (by rw [hJ.len]; exact h))
theorem DJ_bd {i k : Nat} (hi : i < a.length) (hk : k < a.length) : 0 ≤ DJ N l a b i k ∧ (DJ N l a b i k = 99999 ∨ DJ N l a b i k ≤ 693):=dis_bd hJ.net (at_a hJ hi) (at_b hJ hk)
theorem sm_bd {p : List Nat} (hp : p.length = a.length) (hl : ∀ v ∈ p,v < a.length) : ∀ i,i ≤ a.length → (∀ j,j < i → DJ N l a b j (at_ p j) ≠ 99999) → 0 ≤ sm (fun j => DJ N l a b j (at_ p j)) i ∧ sm (fun j => DJ N l a b j (at_ p j)) i ≤ 693 * (i : Int)
 | 0,_,_ => by simp [sm]
 | i + 1,hi,hf => by
  have ih:=sm_bd hp hl i (by omega) (fun j hj => hf j (by omega));have h1:=DJ_bd hJ (i:=i) (k:=at_ p i) (by omega) (hl _ (at_mem (by omega)));have h2:=hf i (by omega);simp only [sm];omega
theorem costOf_far {p : List Nat} {i : Nat} (hi : i < a.length) (h : DJ N l a b i (at_ p i) = 99999) : costOf a.length (DJ N l a b) p = 99999:=by
 unfold costOf
 exact if_pos ⟨i,hi,h⟩
theorem costOf_sm {p : List Nat} (hf : ∀ j,j < a.length → DJ N l a b j (at_ p j) ≠ 99999) : costOf a.length (DJ N l a b) p = sm (fun j => DJ N l a b j (at_ p j)) a.length:=by
 unfold costOf
 exact if_neg (fun ⟨j,hj,e⟩ => hf j hj e)
def tabs (N : Nat) (l : List Arc) : List (List Int):=(List.range N).map (tab N l)
omit hJ in
theorem tabs_row {u : Nat} (h : u < N) : rd_L3 (tabs N l) (u : Int) = tab N l u:=by simp [rd_L3,tabs,h]
omit hJ in
theorem tab_len (u : Nat) : (tab N l u).length = N:=by unfold tab; exact lst_len _ _
omit hJ in
theorem tab_rd {u v : Nat} (h : v < N) : rd (tab N l u) (v : Int) = dis N l u v:=by unfold tab dis; exact lst_rd _ h
omit hJ in
theorem tabs_len : (tabs N l).length = N:=by simp [tabs]
theorem assigned_l {p : List Nat} (hp : p.length = a.length) (hl : ∀ v ∈ p,v < a.length) : ∀ (d i : Nat),a.length - i = d → i ≤ a.length → (∀ j,j < i → DJ N l a b j (at_ p j) ≠ 99999) → Ev (fun k => impl_assigned.l0 k (tabs N l) (nts a) (nts b) (sm (fun j => DJ N l a b j (at_ p j)) i) (nts p) (a.length : Int) (i : Int)) (costOf a.length (DJ N l a b) p):=by
 have h8:=hJ.net.n8;have h5:=hJ.m5;intro d
 induction d with
 | zero =>
  intro i hd hi hf;have e : i = a.length:=by omega
  subst e;refine Ev.go ?_ (fun k => by rw [impl_assigned.l0]);exact Ev.neg (by omega) (Ev.is (costOf_sm hJ hf).symm)
 | succ d ih =>
  intro i hd hi hf;have hlt : i < a.length:=by omega
  have hpi:=hl _ (at_mem (show i < p.length by omega));have h1:=at_a hJ hlt;have h2:=at_b hJ hpi;have hbd:=DJ_bd hJ hlt hpi;have hsm:=sm_bd hJ hp hl i hi hf;have e1 : rd (tab N l (at_ a i)) ((at_ b (at_ p i) : Nat) : Int) = DJ N l a b i (at_ p i):=tab_rd h2;refine Ev.go ?_ (fun k => by rw [impl_assigned.l0]);rw [nts_rd,nts_rd,nts_rd,tabs_row h1,e1,up1 hlt (by simp only [maxLen]; omega)];refine Ev.pos (by omega) (Ev.pos (by omega) (Ev.pos (by rw [nts_len]; omega) (Ev.pos (by rw [nts_len]; omega) (Ev.pos (by omega) (Ev.pos (by rw [tabs_len]; omega) (Ev.pos (by omega) (Ev.pos (by rw [nts_len,hJ.len]; omega) (Ev.pos (by omega) (Ev.pos (by rw [tab_len]; omega) ?_)))))))))
  by_cases c : DJ N l a b i (at_ p i) = 99999
  case pos => exact Ev.pos c (Ev.is (costOf_far hJ hlt c).symm)
  refine Ev.neg c ?_;rw [w64 (by omega) (by omega)];exact ih (i + 1) (by omega) (by omega) (fun j hj => by
   by_cases e : j = i
   case pos => subst e; exact c
   exact hf j (by omega))
theorem assigned_ev {p : List Nat} (hp : p.length = a.length) (hl : ∀ v ∈ p,v < a.length) : Ev (fun k => impl_assigned.f k (tabs N l) (nts a) (nts b) (nts p)) (costOf a.length (DJ N l a b) p):=by
 unfold impl_assigned.f
 rw [nts_len,hp];exact assigned_l hJ hp hl _ 0 rfl (Nat.zero_le _) (fun j h => absurd h (by omega))
def gridJ (N : Nat) (l : List Arc) (a b : List Nat) : List (List Int):=(List.range a.length).map fun i => lst b.length (DJ N l a b i)
omit hJ in
theorem gridJ_len : (gridJ N l a b).length = a.length:=by simp [gridJ]
omit hJ in
theorem gridJ_row {i : Nat} (h : i < a.length) : rd_L3 (gridJ N l a b) (i : Int) = lst b.length (DJ N l a b i):=by simp [rd_L3,gridJ,h]
theorem l27Cost_l {p : List Nat} (hp : p.length = a.length) (hl : ∀ v ∈ p,v < a.length) : ∀ (d i : Nat),a.length - i = d → i ≤ a.length → (∀ j,j < i → DJ N l a b j (at_ p j) ≠ 99999) → Ev (fun k => spec_l27Cost.l0 k (gridJ N l a b) (nts p) (sm (fun j => DJ N l a b j (at_ p j)) i) (i : Int)) (costOf a.length (DJ N l a b) p):=by
 have h8:=hJ.net.n8;have h5:=hJ.m5;intro d
 induction d with
 | zero =>
  intro i hd hi hf;have e : i = a.length:=by omega
  subst e;refine Ev.go ?_ (fun k => by rw [spec_l27Cost.l0]);exact Ev.neg (by rw [nts_len]; omega) (Ev.is (costOf_sm hJ hf).symm)
 | succ d ih =>
  intro i hd hi hf;have hlt : i < a.length:=by omega
  have hpi:=hl _ (at_mem (show i < p.length by omega));have hbd:=DJ_bd hJ hlt hpi;have hsm:=sm_bd hJ hp hl i hi hf;have e1 : rd (lst b.length (DJ N l a b i)) ((at_ p i : Nat) : Int) = DJ N l a b i (at_ p i):=lst_rd _ (by rw [hJ.len]; exact hpi);refine Ev.go ?_ (fun k => by rw [spec_l27Cost.l0]);rw [nts_rd,gridJ_row hlt,e1,up1 hlt (by simp only [maxLen]; omega)];refine Ev.pos (by rw [nts_len]; omega) (Ev.pos (by omega) (Ev.pos (by rw [gridJ_len]; omega) (Ev.pos (by omega) (Ev.pos (by rw [lst_len,hJ.len]; omega) ?_))))
  by_cases c : DJ N l a b i (at_ p i) = 99999
  case pos => exact Ev.pos (by omega) (Ev.is (costOf_far hJ hlt c).symm)
  refine Ev.neg (by omega) ?_;rw [w64 (by omega) (by omega)];exact ih (i + 1) (by omega) (by omega) (fun j hj => by
   by_cases e : j = i
   case pos => subst e; exact c
   exact hf j (by omega))
theorem l27Cost_ev {p : List Nat} (hp : p.length = a.length) (hl : ∀ v ∈ p,v < a.length) : Ev (fun k => spec_l27Cost.f k (gridJ N l a b) (nts p)) (costOf a.length (DJ N l a b) p):=by
 unfold spec_l27Cost.f
 exact l27Cost_l hJ hp hl _ 0 rfl (Nat.zero_le _) (fun j h => absurd h (by omega))
def rest (n f : Nat) (b : List Nat) (i d : Nat) : List (List Nat):=((List.range' i d).filter fun j => !b.contains j).flatMap fun j => perms n f (b ++ [j])
omit hJ in
theorem rest_step (n f : Nat) (b : List Nat) (i d : Nat) : rest n f b i (d + 1) = if i ∈ b then rest n f b (i + 1) d else perms n f (b ++ [i]) ++ rest n f b (i + 1) d:=by
 unfold rest
 rw [List.range'_succ]
 by_cases h : i ∈ b
 case neg => rw [if_neg h]; simp [h]
 rw [if_pos h]; simp [h]
omit hJ in
theorem rest_all (n f : Nat) (b : List Nat) : rest n f b 0 n = perms n (f + 1) b:=by
 unfold rest
 rw [← List.range_eq_range'];rfl
def stepP (c : List Nat → Int) (s : List Nat × Int) (p : List Nat) : List Nat × Int:=if c p < s.2 then (p,c p) else s
theorem try_ev : ∀ (f : Nat) (q : List Nat) (s : List Nat × Int),q.length + f = a.length → (∀ v ∈ q,v < a.length) → Ev (fun k => spec_l27Try.f k (gridJ N l a b) (nts q) (nts s.1) s.2) (nts (pick (costOf a.length (DJ N l a b)) (perms a.length f q) s).1,(pick (costOf a.length (DJ N l a b)) (perms a.length f q) s).2):=by
 have h5:=hJ.m5;intro f
 induction f with
 | zero =>
  intro q s hq hl;have hc:=l27Cost_ev hJ (p:=q) (by omega) hl;refine Ev.go ?_ (fun k => by rw [spec_l27Try.f]);refine Ev.pos (by rw [nts_len,gridJ_len]; omega) (Ev.bind hc ?_)
  show Ev _ (nts (stepP (costOf a.length (DJ N l a b)) s q).1,(stepP (costOf a.length (DJ N l a b)) s q).2)
  by_cases c : costOf a.length (DJ N l a b) q < s.2
  case neg =>
   rw [show stepP (costOf a.length (DJ N l a b)) s q = s from if_neg c];exact Ev.neg c (Ev.now _)
  rw [show stepP (costOf a.length (DJ N l a b)) s q = (q,costOf a.length (DJ N l a b) q) from if_pos c];refine Ev.pos c (Ev.bind0 rfl (Ev.pos (by rw [nts_len,List.length_nil]; omega) (Ev.is (by rw [List.nil_append]))))
 | succ f ih =>
  intro q s hq hl;refine Ev.go ?_ (fun k => by rw [spec_l27Try.f]);refine Ev.neg (by rw [nts_len,gridJ_len]; omega) ?_;rw [← rest_all];have loop : ∀ (d i : Nat) (s : List Nat × Int),a.length - i = d → i ≤ a.length → Ev (fun k => spec_l27Try.l0 k (gridJ N l a b) (nts q) (nts s.1) s.2 (i : Int)) (nts (pick (costOf a.length (DJ N l a b)) (rest a.length f q i d) s).1,(pick (costOf a.length (DJ N l a b)) (rest a.length f q i d) s).2):=by
   intro d
   induction d with
   | zero =>
    intro i s hd hi;refine Ev.go ?_ (fun k => by rw [spec_l27Try.l0]);exact Ev.neg (by rw [gridJ_len]; omega) (Ev.now _)
   | succ d ihd =>
    intro i s hd hi;have hlt : i < a.length:=by omega
    have hin:=inL_ev (nts q) ((i : Nat) : Int) (by rw [nts_len]; simp only [maxLen]; omega);refine Ev.go ?_ (fun k => by rw [spec_l27Try.l0]);rw [up1 hlt (by simp only [maxLen]; omega),rest_step];refine Ev.pos (by rw [gridJ_len]; omega) (Ev.bind hin ?_)
    by_cases c : i ∈ q
    case pos =>
     rw [decide_eq_true ((nts_mem q i).2 c),if_pos c];exact Ev.pos rfl (ihd (i + 1) s (by omega) (by omega))
    rw [decide_eq_false (fun h => c ((nts_mem q i).1 h)),if_neg c,Pm.pick_append];have hr:=ih (q ++ [i]) s (by simp; omega) (fun v hv => by
     rcases List.mem_append.1 hv with h | h
     ·exact hl v h
     ·rw [List.mem_singleton.1 h]; exact hlt)
    rw [← nts_snoc] at hr;refine Ev.neg (by simp) (Ev.bind0 rfl (Ev.pos (by rw [nts_len,List.length_nil]; omega) (Ev.bind0 rfl (Ev.pos (by rw [List.length_append,nts_len,List.length_nil]; omega) ?_))));rw [List.nil_append];exact Ev.bind hr (ihd (i + 1) _ (by omega) (by omega))
  exact loop _ 0 s rfl (Nat.zero_le _)
theorem rangeOf_l (m : Nat) (hm : m ≤ 1000) : ∀ (d i : Nat),m - i = d → i ≤ m → Ev (fun k => impl_rangeOf.l0 k (nts (List.range i)) (m : Int) (i : Int)) (nts (List.range m)):=by
 intro d
 induction d with
 | zero =>
  intro i hd hi;have e : i = m:=by omega
  subst e;refine Ev.go ?_ (fun k => by rw [impl_rangeOf.l0]);exact Ev.neg (by omega) (Ev.now _)
 | succ d ih =>
  intro i hd hi;have hlt : i < m:=by omega
  have hn:=ih (i + 1) (by omega) (by omega);rw [List.range_succ,← nts_snoc] at hn;refine Ev.go ?_ (fun k => by rw [impl_rangeOf.l0]);rw [up1 hlt (by simp only [maxLen]; omega)];exact Ev.pos (by omega) (Ev.pos (by rw [nts_len,List.length_range]; omega) hn)
theorem rangeOf_ev (m : Nat) (hm : m ≤ 1000) : Ev (fun k => impl_rangeOf.f k (m : Int)) (nts (List.range m)):=by
 unfold impl_rangeOf.f
 exact Ev.pos (by omega) (Ev.pos (by omega) (rangeOf_l hJ m hm _ 0 rfl (Nat.zero_le _)))
theorem chosen_l (x : List Int) (hm : x.length ≤ 1000) : ∀ (d i : Nat),x.length - i = d → i ≤ x.length → Ev (fun k => impl_chosen.l0 k x (x.take i) (nts (List.range x.length)) (x.length : Int) (i : Int)) x:=by
 intro d
 induction d with
 | zero =>
  intro i hd hi;refine Ev.go ?_ (fun k => by rw [impl_chosen.l0]);rw [show x.take i = x from List.take_of_length_le (by omega)];exact Ev.neg (by omega) (Ev.now _)
 | succ d ih =>
  intro i hd hi;have hlt : i < x.length:=by omega
  have hn:=ih (i + 1) (by omega) (by omega);have e1 : rd (nts (List.range x.length)) (i : Int) = (i : Int):=by
   rw [nts_rd];have : at_ (List.range x.length) i = i:=by simp [at_,hlt]
   rw [this]
  rw [List.take_succ_eq_append_getElem hlt] at hn;refine Ev.go ?_ (fun k => by rw [impl_chosen.l0]);rw [e1,rdn hlt,up1 hlt (by simp only [maxLen]; omega)];exact Ev.pos (by omega) (Ev.pos (by omega) (Ev.pos (by rw [nts_len,List.length_range]; omega) (Ev.pos (by omega) (Ev.pos (by omega) (Ev.pos (by rw [List.length_take]; omega) hn)))))
theorem chosen_ev (x : List Int) (hm : x.length ≤ 1000) : Ev (fun k => impl_chosen.f k x (nts (List.range x.length))) x:=by
 unfold impl_chosen.f
 rw [nts_len,List.length_range];exact Ev.pos (by omega) (Ev.pos (by omega) (chosen_l hJ x hm _ 0 rfl (Nat.zero_le _)))
theorem stJ_ev {p : List Nat} (s : List Nat × Int) (hp : p.length = a.length) (hl : ∀ v ∈ p,v < a.length) : Ev (fun k => stJ k (tabs N l) (nts a) (nts b) (nts s.1,s.2) (nts p)) (nts (stepP (costOf a.length (DJ N l a b)) s p).1,(stepP (costOf a.length (DJ N l a b)) s p).2):=by
 have h5:=hJ.m5
 unfold stJ
 refine Ev.bind (assigned_ev hJ hp hl) ?_
 by_cases c : costOf a.length (DJ N l a b) p < s.2
 case neg =>
  rw [show stepP (costOf a.length (DJ N l a b)) s p = s from if_neg c];exact Ev.neg c (Ev.now _)
 rw [show stepP (costOf a.length (DJ N l a b)) s p = (p,costOf a.length (DJ N l a b) p) from if_pos c];have hr:=rangeOf_ev hJ (nts p).length (by rw [nts_len]; omega);have hc:=chosen_ev hJ (nts p) (by rw [nts_len]; omega);exact Ev.pos c (Ev.bind hr (Ev.bind hc (Ev.now _)))
theorem ord_ev : ∀ (f : Nat) (q : List Nat) (s : List Nat × Int),q.length + f = a.length → (∀ v ∈ q,v < a.length) → Ev (fun k => ordAll (stJ k (tabs N l) (nts a) (nts b)) k a.length f (nts q) (nts s.1,s.2)) (nts (pick (costOf a.length (DJ N l a b)) (perms a.length f q) s).1,(pick (costOf a.length (DJ N l a b)) (perms a.length f q) s).2):=by
 have h5:=hJ.m5;intro f
 induction f with
 | zero =>
  intro q s hq hl;exact stJ_ev hJ s (by omega) hl
 | succ f ih =>
  intro q s hq hl
  show Ev (fun k => ordRow (ordAll (stJ k (tabs N l) (nts a) (nts b)) k a.length f) k (nts q) a.length a.length (nts s.1,s.2)) _
  rw [← rest_all];have loop : ∀ (d : Nat) (s : List Nat × Int),d ≤ a.length → Ev (fun k => ordRow (ordAll (stJ k (tabs N l) (nts a) (nts b)) k a.length f) k (nts q) a.length d (nts s.1,s.2)) (nts (pick (costOf a.length (DJ N l a b)) (rest a.length f q (a.length - d) d) s).1,(pick (costOf a.length (DJ N l a b)) (rest a.length f q (a.length - d) d) s).2):=by
   intro d
   induction d with
   | zero => intro s hd; exact Ev.now _
   | succ d ihd =>
    intro s hd;have hlt : a.length - (d + 1) < a.length:=by omega
    have e1 : a.length - (d + 1) + 1 = a.length - d:=by omega
    have hin:=contains_ev (nts q) (((a.length - (d + 1) : Nat)) : Int) (by rw [nts_len]; simp only [maxLen]; omega);simp only [ordRow];rw [rest_step,e1];refine Ev.bind hin ?_
    by_cases c : (a.length - (d + 1)) ∈ q
    case pos =>
     rw [decide_eq_true ((nts_mem q _).2 c),if_pos c];exact Ev.pos rfl (ihd s (by omega))
    rw [decide_eq_false (fun h => c ((nts_mem q _).1 h)),if_neg c,Pm.pick_append];have hr:=ih (q ++ [a.length - (d + 1)]) s (by simp; omega) (fun v hv => by
     rcases List.mem_append.1 hv with h | h
     ·exact hl v h
     ·rw [List.mem_singleton.1 h]; exact hlt)
    rw [← nts_snoc] at hr;exact Ev.neg (by simp) (Ev.bind hr (ihd _ (by omega)))
  have:=loop a.length s (Nat.le_refl _)
  rwa [Nat.sub_self] at this
end
end Go.Proofs.Ytmioaahiflfcdaa.Pure
end
section
set_option linter.unusedSimpArgs false
set_option linter.unusedVariables false
set_option linter.unusedVariables false
end
section
set_option linter.unusedSimpArgs false
set_option linter.unusedVariables false
set_option linter.unusedVariables false
end
section
set_option linter.unusedSimpArgs false
set_option linter.unusedVariables false
set_option linter.unusedSectionVars false
namespace Go.Proofs.Ytmioaahiflfcdaa.Pure
open Go.RowKit Go.Proofs.Ytmioaahiflfcdaa.Pr Go.Proofs.YtmioaahiflfcdaaW.PrintWords Go.Proofs.YtmioaahiflfcdaaW.PrintLast Go.Proofs.YtmioaahiflfcdaaW.PrintMore
open Go.Proofs.Ytmioaahiflfcdaa.Pm (perms pick at_ costOf IsPerm)
open Go.Proofs.Ytmioaahiflfcdaa.Fl (sm)
def jobsB (n : Int) (l : List Arc) (x y : List Int) : Bool:=decide (1 ≤ x.length) && (decide (x.length ≤ 5) && (decide (y.length = x.length) && (netOkB n l && (x.all (okN n) && y.all (okN n)))))
theorem okN_iff {n v : Int} : okN n v = true ↔ 0 ≤ v ∧ v < n:=by
 simp only [okN,Bool.and_eq_true,decide_eq_true_eq]
 try omega
theorem jobsB_jobs {n : Int} {l : List Arc} {x y : List Int} (h : jobsB n l x y = true) : ∃ (N : Nat) (a b : List Nat),n = (N : Int) ∧ x = nts a ∧ y = nts b ∧ Jobs N l a b:=by
 simp only [jobsB,Bool.and_eq_true,decide_eq_true_eq,netOkB_iff,List.all_eq_true,okN_iff] at h;obtain ⟨h1,h2,h3,h4,h5,h6⟩:=h;obtain ⟨N,rfl⟩ : ∃ N : Nat,n = (N : Int):=⟨n.toNat,by have:=h4.n1; omega⟩
 refine ⟨N,nats x,nats y,rfl,(nts_nats (fun v hv => (h5 v hv).1)).symm,(nts_nats (fun v hv => (h6 v hv).1)).symm,⟨h4,by rw [nats_len]; exact h1,by rw [nats_len]; exact h2,by rw [nats_len,nats_len]; exact h3,fun v hv => ?_,fun v hv => ?_⟩⟩
 ·obtain ⟨i,hi,rfl⟩:=List.mem_map.1 hv;have:=h5 i hi; omega
 ·obtain ⟨i,hi,rfl⟩:=List.mem_map.1 hv;have:=h6 i hi; omega
theorem jobs_jobsB {N : Nat} {l : List Arc} {a b : List Nat} (h : Jobs N l a b) : jobsB (N : Int) l (nts a) (nts b) = true:=by
 simp only [jobsB,Bool.and_eq_true,decide_eq_true_eq,netOkB_iff,List.all_eq_true,okN_iff,nts_len];refine ⟨h.m1,h.m5,h.len,h.net,fun v hv => ?_,fun v hv => ?_⟩
 ·obtain ⟨i,hi,rfl⟩:=List.mem_map.1 hv;have:=h.ha i hi; omega
 ·obtain ⟨i,hi,rfl⟩:=List.mem_map.1 hv;have:=h.hb i hi; omega
theorem jobsOk_eq (n : Int) (l : List Arc) (x y : List Int) : impl_jobsOk.f n l x y = some (jobsB n l x y):=by
 unfold impl_jobsOk.f jobsB
 rw [within1,Option.bind_some]
 by_cases h1 : 1 ≤ x.length ∧ x.length ≤ 5
 case neg =>
  have e : inB (x.length : Int) 1 5 = false:=by
   rw [Bool.eq_false_iff];exact fun h => h1 (by have:=inB_iff.1 h; omega)
  rw [e,if_neg (by simp)]
  by_cases h2 : 1 ≤ x.length
  case neg => rw [decide_eq_false h2]; simp
  rw [decide_eq_false (show ¬ x.length ≤ 5 from fun h => h1 ⟨h2,h⟩)]; simp
 have e : inB (x.length : Int) 1 5 = true:=inB_iff.2 ⟨by omega,by omega⟩;rw [e,if_pos rfl,decide_eq_true h1.1,decide_eq_true h1.2,Bool.true_and,Bool.true_and]
 by_cases h2 : y.length = x.length
 case neg => rw [if_neg (by omega),decide_eq_false h2,Bool.false_and]
 rw [if_pos (by omega),decide_eq_true h2,Bool.true_and,nodesIn_eq,Option.bind_some];cases h3 : netOkB n l with
 | false => simp
 | true =>
  rw [hasOf ((netOkB_iff n l).1 h3),Bool.true_and,Bool.true_and];cases x.all (okN n) with
  | false => simp
  | true => simp
theorem inB_okN {n : Int} {l : List Arc} (h : NetGood n l) (a : Int) : inB a 0 (wrap64 (n - 1)) = okN n a:=by
 have:=h.n1;have:=h.n8;rw [w64 (by omega) (by omega)];rfl
section
variable {n : Int} {l : List Arc} (hg : NetGood n l)
include hg
theorem any_l (x : List Int) (hm : x.length ≤ maxLen) : ∀ (d i : Nat),x.length - i = d → i ≤ x.length → Ev (fun k => spec_l11Any.l0 k x (i : Int) n l) ((x.drop i).all (okN n)):=by
 intro d
 induction d with
 | zero =>
  intro i hd hi;refine Ev.go ?_ (fun k => by rw [spec_l11Any.l0]);rw [List.drop_of_length_le (by omega)];exact Ev.neg (by omega) (Ev.now _)
 | succ d ih =>
  intro i hd hi;have hlt : i < x.length:=by omega
  refine Ev.go ?_ (fun k => by rw [spec_l11Any.l0]);rw [rdn hlt,up1 hlt hm,drop_cons hlt,List.all_cons];refine Ev.pos (by omega) (Ev.pos (by omega) (Ev.bind0 (in1 _ _ _) ?_));rw [inB_okN hg];cases okN n x[i] with
  | false => exact Ev.neg (by simp) (Ev.is (by simp))
  | true => exact Ev.pos rfl ((ih (i + 1) (by omega) (by omega)).cast (by simp))
theorem any_ev (x : List Int) (hm : x.length ≤ maxLen) : Ev (fun k => spec_l11Any.f k n l x) (x.all (okN n)):=any_l hg x hm _ 0 rfl (Nat.zero_le _)
theorem nodes_l (x : List Int) (hm : x.length ≤ maxLen) : ∀ (d i : Nat),x.length - i = d → i ≤ x.length → Ev (fun k => spec_l11Nodes.l0 k x (i : Int) n l) ((x.drop i).all (okN n) && decide ((x.length : Int) ≤ 8)):=by
 intro d
 induction d with
 | zero =>
  intro i hd hi;refine Ev.go ?_ (fun k => by rw [spec_l11Nodes.l0]);rw [List.drop_of_length_le (by omega)];exact Ev.neg (by omega) (Ev.is (by simp))
 | succ d ih =>
  intro i hd hi;have hlt : i < x.length:=by omega
  refine Ev.go ?_ (fun k => by rw [spec_l11Nodes.l0]);rw [rdn hlt,up1 hlt hm,drop_cons hlt,List.all_cons];refine Ev.pos (by omega) (Ev.pos (by omega) (Ev.bind0 (in1 _ _ _) ?_));rw [inB_okN hg];cases okN n x[i] with
  | false => exact Ev.neg (by simp) (Ev.is (by simp))
  | true => exact Ev.pos rfl ((ih (i + 1) (by omega) (by omega)).cast (by simp))
theorem nodes_ev (x : List Int) (hm : x.length ≤ maxLen) : Ev (fun k => spec_l11Nodes.f k n l x) (x.all (okN n) && decide ((x.length : Int) ≤ 8)):=nodes_l hg x hm _ 0 rfl (Nat.zero_le _)
end
theorem l27Ok_ev (n : Int) (l : List Arc) (x y : List Int) (hl : l.length ≤ maxLen) (hx : x.length ≤ maxLen) (hy : y.length ≤ maxLen) : Ev (fun k => spec_l27Ok.f k n l x y) (jobsB n l x y):=by
 unfold spec_l27Ok.f jobsB
 refine Ev.bind (l1Ok_ev n l hl) ?_;cases h3 : netOkB n l with
 | false => exact Ev.neg (by simp) (Ev.is (by simp))
 | true =>
  have hg:=(netOkB_iff n l).1 h3;refine Ev.pos rfl (Ev.bind (any_ev hg x hx) ?_);cases h4 : x.all (okN n) with
  | false => exact Ev.neg (by simp) (Ev.is (by simp))
  | true =>
   refine Ev.pos rfl (Ev.bind (any_ev hg y hy) ?_);cases h5 : y.all (okN n) with
   | false => exact Ev.neg (by simp) (Ev.is (by simp))
   | true =>
    refine Ev.pos rfl ?_
    by_cases h2 : y.length = x.length
    case neg => exact Ev.neg (by omega) (Ev.is (by rw [decide_eq_false h2]; simp))
    refine Ev.pos (by omega) (Ev.bind0 (in1 _ _ _) (Ev.is ?_));rw [decide_eq_true h2];simp only [Bool.and_true,Bool.true_and]
    unfold inB
    by_cases h1 : 1 ≤ x.length
    case neg => rw [decide_eq_false h1,decide_eq_false (show ¬ (1 : Int) ≤ (x.length : Int) by omega),Bool.false_and,Bool.false_and]
    rw [decide_eq_true h1,decide_eq_true (show (1 : Int) ≤ (x.length : Int) by omega),Bool.true_and,Bool.true_and,decide_eq_decide]; omega
section
variable {N : Nat} {l : List Arc} {a b : List Nat} (hJ : Jobs N l a b)
include hJ
def gridTo (N : Nat) (l : List Arc) (a b : List Nat) (i : Nat) : List (List Int):=(List.range i).map fun i => lst b.length (DJ N l a b i)
omit hJ in
theorem gridTo_snoc (i : Nat) : gridTo N l a b i ++ [lst b.length (DJ N l a b i)] = gridTo N l a b (i + 1):=by simp [gridTo,List.range_succ]
omit hJ in
theorem gridTo_len (i : Nat) : (gridTo N l a b i).length = i:=by simp [gridTo]
theorem many_l1 {i : Nat} (hi : i < a.length) (hn : Ev (fun q => spec_ManyAll.l0 q (nts a) (nts b) (gridTo N l a b (i + 1)) ((i + 1 : Nat) : Int) N l) (gridJ N l a b)) : ∀ (d k : Nat),b.length - k = d → k ≤ b.length → Ev (fun q => spec_ManyAll.l1 q (nts a) (nts b) (gridTo N l a b i) (i : Int) (lst N (fun v => far (dst N (back l) (at_ a i) v))) (lst k (DJ N l a b i)) (k : Int) N l) (gridJ N l a b):=by
 have h5:=hJ.m5;have hbl:=hJ.len;intro d
 induction d with
 | zero =>
  intro k hd hk;have e : k = b.length:=by omega
  subst e;refine Ev.go ?_ (fun q => by rw [spec_ManyAll.l1]);rw [up1 hi (by simp only [maxLen]; omega),gridTo_snoc];exact Ev.neg (by rw [nts_len]; omega) (Ev.pos (by rw [gridTo_len]; omega) hn)
 | succ d ih =>
  intro k hd hk;have hlt : k < b.length:=by omega
  have hb:=at_b hJ (i:=k) (by omega);have e1 : rd (lst N (fun v => far (dst N (back l) (at_ a i) v))) ((at_ b k : Nat) : Int) = DJ N l a b i k:=lst_rd _ hb;refine Ev.go ?_ (fun q => by rw [spec_ManyAll.l1]);rw [nts_rd,e1,up1 hlt (by simp only [maxLen]; omega),lst_snoc];exact Ev.pos (by rw [nts_len]; omega) (Ev.pos (by omega) (Ev.pos (by omega) (Ev.pos (by rw [lst_len]; omega) (Ev.pos (by rw [lst_len]; omega) (ih (k + 1) (by omega) (by omega))))))
theorem many_l : ∀ (d i : Nat),a.length - i = d → i ≤ a.length → Ev (fun q => spec_ManyAll.l0 q (nts a) (nts b) (gridTo N l a b i) (i : Int) N l) (gridJ N l a b):=by
 intro d
 induction d with
 | zero =>
  intro i hd hi;have e : i = a.length:=by omega
  subst e;refine Ev.go ?_ (fun q => by rw [spec_ManyAll.l0]);exact Ev.neg (by rw [nts_len]; omega) (Ev.now _)
 | succ d ih =>
  intro i hd hi;have hlt : i < a.length:=by omega
  have h3:=l3All_ev hJ.net (at_a hJ hlt);refine Ev.go ?_ (fun q => by rw [spec_ManyAll.l0]);rw [nts_rd];exact Ev.pos (by rw [nts_len]; omega) (Ev.pos (by omega) (Ev.bind h3 (many_l1 hJ hlt (ih (i + 1) (by omega) (by omega)) _ 0 rfl (Nat.zero_le _))))
theorem many_ev : Ev (fun q => spec_ManyAll.f q N l (nts a) (nts b)) (gridJ N l a b):=by
 have h5:=hJ.m5;have hbl:=hJ.len;have h16:=hJ.net.len;have hok:=l1Ok_ev (N : Int) l (by simp only [maxLen]; omega);rw [(netOkB_iff (N : Int) l).2 hJ.net] at hok;have hB:=jobs_jobsB hJ;simp only [jobsB,Bool.and_eq_true,nts_len] at hB;have e1 : ((nts a).all (okN (N : Int)) && decide (((nts a).length : Int) ≤ 8)) = true:=by
  rw [hB.2.2.2.2.1,Bool.true_and,decide_eq_true_eq,nts_len]; omega
 have e2 : ((nts b).all (okN (N : Int)) && decide (((nts b).length : Int) ≤ 8)) = true:=by
  rw [hB.2.2.2.2.2,Bool.true_and,decide_eq_true_eq,nts_len]; omega
 unfold spec_ManyAll.f
 refine Ev.bind0 rfl (Ev.bind hok (Ev.pos rfl (Ev.bind ((nodes_ev hJ.net (nts a) (by rw [nts_len]; simp only [maxLen]; omega)).cast e1) (Ev.pos rfl (Ev.bind ((nodes_ev hJ.net (nts b) (by rw [nts_len]; simp only [maxLen]; omega)).cast e2) ?_)))));refine Ev.go ?_ (fun q => by rw [spec_ManyAll.j0]);exact Ev.neg (by simp) (many_l hJ _ 0 rfl (Nat.zero_le _))
end
noncomputable def bestJ (N : Nat) (l : List Arc) (a b : List Nat) : List Nat × Int:=pick (costOf a.length (DJ N l a b)) (perms a.length a.length []) ([],99999)
noncomputable def jobV (n : Int) (l : List Arc) (x y : List Int) : List Int × Int:=if jobsB n l x y = true then (nts (bestJ n.toNat l (nats x) (nats y)).1,(bestJ n.toNat l (nats x) (nats y)).2) else ([],-1)
theorem jobV_at {N : Nat} {l : List Arc} {a b : List Nat} (hJ : Jobs N l a b) : jobV (N : Int) l (nts a) (nts b) = (nts (bestJ N l a b).1,(bestJ N l a b).2):=by
 unfold jobV
 rw [if_pos (jobs_jobsB hJ),nats_nts,nats_nts,Int.toNat_natCast]
theorem implJob_ev (n : Int) (l : List Arc) (x y : List Int) : Ev (fun k => impl_JobBest.f k n l x y) (jobV n l x y):=by
 unfold impl_JobBest.f
 refine Ev.bind0 (jobsOk_eq n l x y) ?_;cases h : jobsB n l x y with
 | false => exact Ev.neg (by simp) (Ev.is (by unfold jobV; rw [h]; simp))
 | true =>
  obtain ⟨N,a,b,rfl,rfl,rfl,hJ⟩:=jobsB_jobs h;have h5:=hJ.m5;rw [jobV_at hJ,nts_len];refine Ev.pos rfl (Ev.pos (by omega) (Ev.bind (table_ev hJ.net) ?_));exact ord_ev hJ a.length [] ([],99999) (by simp) (by simp)
theorem specJob_ev (n : Int) (l : List Arc) (x y : List Int) (hl : l.length ≤ maxLen) (hx : x.length ≤ maxLen) (hy : y.length ≤ maxLen) : Ev (fun k => spec_JobBest.f k n l x y) (jobV n l x y):=by
 unfold spec_JobBest.f
 refine Ev.bind (l27Ok_ev n l x y hl hx hy) ?_;cases h : jobsB n l x y with
 | false => exact Ev.neg (by simp) (Ev.is (by unfold jobV; rw [h]; simp))
 | true =>
  obtain ⟨N,a,b,rfl,rfl,rfl,hJ⟩:=jobsB_jobs h;rw [jobV_at hJ];have ht:=try_ev hJ a.length [] ([],99999) (by simp) (by simp);exact Ev.pos rfl (Ev.bind (many_ev hJ) (Ev.bind ht (Ev.is rfl)))
end Go.Proofs.Ytmioaahiflfcdaa.Pure
end
section
set_option linter.unusedSimpArgs false
set_option linter.unusedVariables false
namespace Go.Proofs.Ytmioaahiflfcdaa.Pure
open Go.RowKit Go.Proofs.Ytmioaahiflfcdaa.Pr Go.Proofs.YtmioaahiflfcdaaW.PrintWords Go.Proofs.YtmioaahiflfcdaaW.PrintLast Go.Proofs.YtmioaahiflfcdaaW.PrintMore
structure Rdr (b : List Int) : Prop where
 len : b.length ≤ 2000
 rng : ∀ i,i < b.length → 0 ≤ nth b i ∧ nth b i ≤ 255
end Go.Proofs.Ytmioaahiflfcdaa.Pure
end
section
set_option linter.unusedSimpArgs false
set_option linter.unusedVariables false
set_option linter.unusedVariables false
end
section
set_option linter.unusedSimpArgs false
set_option linter.unusedVariables false
set_option linter.unusedSectionVars false
namespace Go.Proofs.Ytmioaahiflfcdaa.Pure
open Go.RowKit Go.Proofs.Ytmioaahiflfcdaa.Pr Go.Proofs.YtmioaahiflfcdaaW.PrintWords Go.Proofs.YtmioaahiflfcdaaW.PrintLast Go.Proofs.YtmioaahiflfcdaaW.PrintMore
open Go.Proofs.Ytmioaahiflfcdaa.Pm (perms pick at_ costOf IsPerm inv)
section
variable {N : Nat} {l : List Arc} {a b : List Nat} (hJ : Jobs N l a b)
include hJ
theorem perm_of {p : List Nat} (h : p ∈ perms a.length a.length []) : IsPerm a.length p:=by
 have h1:=Pm.perms_len h;have h2:=Pm.perms_ok (b:=[]) (by simp) (by simp) h;exact ⟨by simpa using h1,h2.1,h2.2⟩
theorem best_from : bestJ N l a b = ([],99999) ∨ ∃ p,IsPerm a.length p ∧ bestJ N l a b = (p,costOf a.length (DJ N l a b) p) ∧ costOf a.length (DJ N l a b) p < 99999:=by
 rcases Pm.pick_from (costOf a.length (DJ N l a b)) (perms a.length a.length []) ([],99999) with h | ⟨p,hp,h1,h2⟩
 ·exact .inl h
 ·exact .inr ⟨p,perm_of hJ hp,h1,h2⟩
theorem best_len : (bestJ N l a b).1.length ≤ 5:=by
 have h5:=hJ.m5
 rcases best_from hJ with h | ⟨p,hp,h1,h2⟩
 ·rw [h]; simp
 ·rw [h1];have:=hp.len;dsimp only;omega
end
theorem jobV_len (n : Int) (l : List Arc) (x y : List Int) : (jobV n l x y).1.length ≤ 5:=by
 cases h : jobsB n l x y with
 | false => unfold jobV; rw [if_neg (by rw [h]; simp)]; simp
 | true =>
  obtain ⟨N,a,b,rfl,rfl,rfl,hJ⟩:=jobsB_jobs h;rw [jobV_at hJ];dsimp only;rw [nts_len];exact best_len hJ
end Go.Proofs.Ytmioaahiflfcdaa.Pure
end
section
set_option linter.unusedSimpArgs false
set_option linter.unusedVariables false
namespace Go.Proofs.Ytmioaahiflfcdaa.Pure
open Go.RowKit Go.Proofs.Ytmioaahiflfcdaa.Pr Go.Proofs.YtmioaahiflfcdaaW.PrintWords Go.Proofs.YtmioaahiflfcdaaW.PrintLast Go.Proofs.YtmioaahiflfcdaaW.PrintMore
def ramp (a : Int) (n : Nat) : List Int:=lst n (fun v => a + v)
theorem markIntS_l (x : List Int) (a : Int) (ha : 0 ≤ a) (hm : a + x.length ≤ 1000000000) : ∀ (m i : Nat),x.length - i = m → i ≤ x.length → Ev (fun k => laws_markIntS.l0 k (lst x.length (fun v => if v < i then a + v else nth x v)) (a + i) (i : Int)) (a + x.length,ramp a x.length):=by
 intro m
 induction m with
 | zero =>
  intro i hd hi;have e : i = x.length:=by omega
  refine Ev.go ?_ (fun k => by rw [laws_markIntS.l0]);refine Ev.neg (by rw [lst_len]; omega) (Ev.is ?_);rw [lst_congr (G:=fun v => a + v) (fun v hv => if_pos (by omega)),e];rfl
 | succ m ih =>
  intro i hd hi;have hlt : i < x.length:=by omega
  have hn:=ih (i + 1) (by omega) (by omega);refine Ev.go ?_ (fun k => by rw [laws_markIntS.l0]);refine Ev.pos (by rw [lst_len]; omega) (Ev.pos (by omega) ?_);rw [up1 hlt (by simp only [maxLen]; omega),w64 (by omega) (by omega)];simp only [Int.toNat_natCast,lst_set];rw [show a + (i : Int) + 1 = a + ((i + 1 : Nat) : Int) by omega,lst_congr (G:=fun v => if v < i + 1 then a + v else nth x v) ?_]
  ·exact hn
  ·intro v hv
   by_cases e : v = i
   case pos => subst e; rw [upd_same,if_pos (Nat.lt_succ_self _)]
   rw [upd_far _ _ e]
   by_cases h : v < i
   case neg => rw [if_neg h,if_neg (by omega)]
   rw [if_pos h,if_pos (by omega)]
theorem markIntS_ev (x : List Int) (a : Int) (ha : 0 ≤ a) (hm : a + x.length ≤ 1000000000) : Ev (fun k => laws_markIntS.f k x a) (a + x.length,ramp a x.length):=by
 unfold laws_markIntS.f
 have:=markIntS_l x a ha hm _ 0 rfl (Nat.zero_le _);rw [lst_congr (G:=nth x) (fun v hv => if_neg (Nat.not_lt_zero v)),lst_of,show a + ((0 : Nat) : Int) = a by omega] at this;exact this
theorem heldIntS_l (a : Int) (n : Nat) (ha : 0 ≤ a) (hm : a + n ≤ 1000000000) : ∀ (m i : Nat),n - i = m → i ≤ n → Ev (fun k => laws_heldIntS.l0 k (ramp a n) (a + i) (i : Int)) (a + n):=by
 intro m
 induction m with
 | zero =>
  intro i hd hi;have e : i = n:=by omega
  subst e;refine Ev.go ?_ (fun k => by rw [laws_heldIntS.l0]);exact Ev.neg (by rw [ramp,lst_len]; omega) (Ev.now _)
 | succ m ih =>
  intro i hd hi;have hlt : i < n:=by omega
  have hn:=ih (i + 1) (by omega) (by omega);refine Ev.go ?_ (fun k => by rw [laws_heldIntS.l0]);refine Ev.pos (by rw [ramp,lst_len]; omega) (Ev.pos (by omega) (Ev.pos (by rw [ramp,lst_rd _ hlt]) ?_));rw [up1 hlt (by simp only [maxLen]; omega),w64 (by omega) (by omega),show a + (i : Int) + 1 = a + ((i + 1 : Nat) : Int) by omega];exact hn
theorem heldIntS_ev (a : Int) (n : Nat) (ha : 0 ≤ a) (hm : a + n ≤ 1000000000) : Ev (fun k => laws_heldIntS.f k (ramp a n) a) (a + n):=by
 unfold laws_heldIntS.f
 have:=heldIntS_l a n ha hm _ 0 rfl (Nat.zero_le _)
 rwa [show a + ((0 : Nat) : Int) = a by omega] at this
theorem markArcS_l (n : Nat) (a : Int) (ha : 0 ≤ a) (hm : a + 5 * n ≤ 1000000000) : ∀ (m i : Nat) (l : List Arc),l.length = n → n - i = m → i ≤ n → Pv (fun k => laws_markArcS.l0 k l (a + 5 * i) (i : Int)) (fun r => r.1 = a + 5 * n):=by
 intro m
 induction m with
 | zero =>
  intro i l hl hd hi;have e : i = n:=by omega
  subst e;refine Pv.go ?_ (fun k => by rw [laws_markArcS.l0]);exact Pv.neg (by omega) (Pv.now rfl)
 | succ m ih =>
  intro i l hl hd hi;have hlt : i < n:=by omega
  have hup : wrap64 ((i : Int) + 1) = ((i + 1 : Nat) : Int):=up1 hlt (by simp only [maxLen]; omega);have s1 : wrap64 (a + 5 * (i : Int) + 1) = a + 5 * (i : Int) + 1:=w64 (by omega) (by omega);have s2 : wrap64 (a + 5 * (i : Int) + 1 + 1) = a + 5 * (i : Int) + 2:=by rw [w64 (by omega) (by omega)]; omega
  have s3 : wrap64 (a + 5 * (i : Int) + 2 + 1) = a + 5 * (i : Int) + 3:=by rw [w64 (by omega) (by omega)]; omega
  have s4 : wrap64 (a + 5 * (i : Int) + 3 + 1) = a + 5 * (i : Int) + 4:=by rw [w64 (by omega) (by omega)]; omega
  have s5 : wrap64 (a + 5 * (i : Int) + 4 + 1) = a + 5 * ((i + 1 : Nat) : Int):=by rw [w64 (by omega) (by omega)]; omega
  refine Pv.go ?_ (fun k => by rw [laws_markArcS.l0]);simp only [s1,s2,s3,s4,s5,hup,Option.bind_some];exact Pv.pos (by omega) (Pv.pos (by omega) (ih (i + 1) _ (by simp [hl]) (by omega) (by omega)))
theorem markNet_pv (n : Int) (l : List Arc) (a : Int) (ha : 0 ≤ a) (hm : a + 5 * l.length ≤ 1000000000) : Pv (fun k => laws_markNet.f k n l a) (fun r => r.1 = a + 5 * l.length):=by
 have h:=markArcS_l l.length a ha hm _ 0 l rfl rfl (Nat.zero_le _);rw [show a + 5 * ((0 : Nat) : Int) = a by omega] at h;exact Pv.bind (R:=fun r => r.1 = a + 5 * l.length) h (fun r hr => Pv.now hr)
theorem markNet_ev (n : Int) (l : List Arc) (a : Int) (ha : 0 ≤ a) (hm : a + 5 * l.length ≤ 1000000000) : ∃ y,Ev (fun k => laws_markNet.f k n l a) (a + 5 * l.length,y):=by
 obtain ⟨⟨r,y⟩,h,e⟩:=markNet_pv n l a ha hm;dsimp only at e;exact ⟨y,e ▸ h⟩
theorem toIntS_l (l : List Int) (hm : l.length ≤ maxLen) : ∀ (d i : Nat) (x : List Int),l.length - i = d → i ≤ l.length → x.length = l.length → x.take i = l.take i → Ev (fun k => laws_toIntS.l0 k l x (i : Int)) l:=by
 intro d
 induction d with
 | zero =>
  intro i x hd hi hx ht;refine Ev.go ?_ (fun k => by rw [laws_toIntS.l0]);refine Ev.neg (by omega) (Ev.is ?_);have e : i = l.length:=by omega
  subst e
  rwa [List.take_of_length_le (by omega),List.take_of_length_le (by omega)] at ht
 | succ d ih =>
  intro i x hd hi hx ht;have hlt : i < l.length:=by omega
  refine Ev.go ?_ (fun k => by rw [laws_toIntS.l0]);refine Ev.pos (by omega) (Ev.pos (by omega) (Ev.pos (by omega) ?_));rw [up1 hlt hm,rdn hlt];refine ih (i + 1) _ (by omega) (by omega) (by simp [hx]) ?_;simp only [Int.toNat_natCast];rw [List.take_succ_eq_append_getElem hlt,List.take_succ_eq_append_getElem (by simp; omega),List.take_set_of_le (Nat.le_refl _),ht];simp
theorem toIntS_ev (l : List Int) (hm : l.length ≤ 35184372088832) : Ev (fun k => laws_toIntS.f k l) l:=by
 unfold laws_toIntS.f
 refine Ev.pos (by omega) (Ev.pos (by simp; omega) ?_);exact toIntS_l l (by simp only [maxLen]; omega) _ 0 _ rfl (by omega) (by simp) (by simp)
theorem eqIntS_l (l : List Int) (hm : l.length ≤ maxLen) : ∀ (d i : Nat),l.length - i = d → i ≤ l.length → Ev (fun k => laws_eqIntS.l0 k l l (i : Int)) true:=by
 intro d
 induction d with
 | zero =>
  intro i hd hi;refine Ev.go ?_ (fun k => by rw [laws_eqIntS.l0]);exact Ev.neg (by omega) (Ev.now _)
 | succ d ih =>
  intro i hd hi;have hlt : i < l.length:=by omega
  refine Ev.go ?_ (fun k => by rw [laws_eqIntS.l0]);refine Ev.pos (by omega) (Ev.pos (by omega) (Ev.pos (by omega) (Ev.pos rfl ?_)));rw [up1 hlt hm];exact ih (i + 1) (by omega) (by omega)
theorem eqIntS_ev (l : List Int) (hm : l.length ≤ maxLen) : Ev (fun k => laws_eqIntS.f k l l) true:=by
 unfold laws_eqIntS.f
 exact Ev.pos rfl (eqIntS_l l hm _ 0 rfl (by omega))
theorem FnExactJobBest : laws_FnExactJobBest.Asked:=by
 intro n l x y hn hl hx hy;refine Ev.rounds ?_
 unfold laws_FnExactJobBest.f
 by_cases hs1 : (x.length : Int) > 1048576
 ·exact Ev.pos hs1 (Ev.now _)
 by_cases hs2 : (y.length : Int) > 1048576
 ·exact Ev.neg hs1 (Ev.pos hs2 (Ev.now _))
 refine Ev.neg hs1 (Ev.neg hs2 (Ev.bind0 (szNet_eq n l 1048576 (by omega) (by omega) hl.1) ?_))
 by_cases hs : (l.length : Int) ≤ 1048576
 case neg =>
  rw [if_pos (by omega)];exact Ev.pos (by omega) (Ev.now _)
 rw [if_neg (by omega)];have ht:=toNet_ev n l (by omega);have hm : (l.map toA).length ≤ maxLen:=by simpa using hl.1
 have hlen : (l.map toA).length = l.length:=by simp
 have hi1:=toIntS_ev x (by omega);have hi2:=toIntS_ev y (by omega);have hq1:=eqIntS_ev x hx.1;have hq2:=eqIntS_ev y hy.1;have hv:=jobV_len n (l.map toA) x y;have hvm : (jobV n (l.map toA) x y).1.length ≤ maxLen:=by simp only [maxLen]; omega
 have hq:=eqIntS_ev _ hvm;obtain ⟨z1,hz1⟩:=markNet_ev n (l.map toA) 1 (by omega) (by omega);have hmv:=markIntS_ev (jobV n (l.map toA) x y).1 1 (by omega) (by omega);have hh:=heldIntS_ev 1 (jobV n (l.map toA) x y).1.length (by omega) (by omega);have hm1:=markIntS_ev x (1 + 5 * ((l.map toA).length : Int)) (by omega) (by omega);have hm2:=markIntS_ev y (1 + 5 * ((l.map toA).length : Int) + (x.length : Int)) (by omega) (by omega);refine Ev.neg (by omega) (Ev.bind ht (Ev.bind hi1 (Ev.bind hi2 (Ev.bind (specJob_ev n _ x y hm hx.1 hy.1) (Ev.bind ht (Ev.bind hi1 (Ev.bind hi2 (Ev.bind (implJob_ev n _ x y) (Ev.bind hq (Ev.pos rfl ?_))))))))));refine Ev.go ?_ (fun k => by rw [laws_FnExactJobBest.j0]);refine Ev.neg (by simp) (Ev.bind ht (Ev.bind (eqNet_ev n _ hm) (Ev.pos rfl (Ev.bind hi1 (Ev.bind hq1 (Ev.pos rfl (Ev.bind hi2 (Ev.bind hq2 (Ev.pos rfl (Ev.bind hz1 (Ev.bind hm1 (Ev.bind hm2 (Ev.neg (by simp only; omega) (Ev.bind hq (Ev.pos rfl ?_)))))))))))))));refine Ev.go ?_ (fun k => by rw [laws_FnExactJobBest.j1]);refine Ev.neg (by simp) (Ev.bind hmv (Ev.bind hh (Ev.neg (by omega) (Ev.pos rfl ?_))));refine Ev.bind ht (Ev.bind hi1 (Ev.bind hi2 (Ev.bind (implJob_ev n _ x y) (Ev.bind hq (Ev.pos rfl ?_)))));refine Ev.go ?_ (fun k => by rw [laws_FnExactJobBest.j2]);exact Ev.neg (by simp) (Ev.bind hh (Ev.neg (by omega) (Ev.pos rfl (Ev.now _))))
end Go.Proofs.Ytmioaahiflfcdaa.Pure
end
