/- For the statement FnExactTreeBest of this seat: it is proved here, with no further conditions (part 5 of its texts: words, walks of the functions, the plain law, the row). -/
import Derived.ChangeArms
import Derived.ChangeSlices
import Derived.Deep.Slices
import Derived.WideShapes
import Derived.DataReads
import Derived.Test.YtlhmljngjdfbpaaRows
import Derived.WalkKit
import Derived.ProofKit
import Derived.OpenShut
import Derived.ShutString
import Derived.ChangeOld
import Derived.Below
import Derived.SizedLaws
import Derived.Test.YtlhmljngjdfbpaaKFnExactTreeBest3
section
namespace Go.Proofs.Ytlhmljngjdfbpaa.Pr
open Go.RowKit Go.Proofs.YtlhmljngjdfbpaaW.PrintWords Go.Proofs.YtlhmljngjdfbpaaW.PrintLast Go.Proofs.YtlhmljngjdfbpaaW.PrintMore
attribute [local go_sem] max2_int min2_int max_two min_two max_three min_three max_four min_four
set_option linter.unusedVariables false
set_option linter.unusedSimpArgs false
open List renaming setIfInBounds_toArray → J,set_cons_zero → U,set_cons_succ → O
open Go.Proofs.YtlhmljngjdfbpaaW.PrintWords.Aside0 renaming mk → I
def laws_FnExactTreeBest.j0 : Nat → List Int → List Int → Bool → Int → List (S127) → Option (Bool)
 | 0,_,_,_,_,_ => none
 | k + 1,x4,x6,x42,x1115000,x1115001 => if x42 = true then (some false) else ((laws_markIntS.f k x6 1).bind fun bt1140 => ((laws_heldIntS.f k bt1140.2 1).bind fun t1142 => (if t1142 < 0 then (some false) else (if t1142 = bt1140.1 then ((laws_toNet.f k x1115000 x1115001).bind fun bt1143 => ((impl_TreeBest.f k bt1143.1 bt1143.2).bind fun t1147 => ((laws_eqIntS.f k t1147 x4).bind fun t1150 => (if t1150 = true then ((laws_heldIntS.f k bt1140.2 1).bind fun t1151 => (if t1151 < 0 then (some false) else (if t1151 = bt1140.1 then (some true) else (some false)))) else (some false))))) else (some false)))))
def laws_FnExactTreeBest.f (k : Nat) (a0_0 : Int) (l0_1 : List (S127)) : Option (Bool):=(laws_szNet.f a0_0 l0_1 1048576).bind fun t1115 => (if t1115 < 0 then (some true) else ((laws_toNet.f k a0_0 l0_1).bind fun bt1116 => ((spec_TreeBest.f k bt1116.1 bt1116.2).bind fun t1120 => ((laws_toNet.f k a0_0 l0_1).bind fun bt1123 => ((impl_TreeBest.f k bt1123.1 bt1123.2).bind fun t1128 => ((laws_eqIntS.f k t1128 t1120).bind fun t1131 => (if t1131 = true then ((laws_toNet.f k a0_0 l0_1).bind fun bt1132 => ((laws_eqNet.f k bt1123.1 bt1123.2 bt1132.1 bt1132.2).bind fun t1136 => (if t1136 = true then ((laws_markNet.f k bt1123.1 bt1123.2 1).bind fun bt1137 => (if bt1137.1 < 0 then (laws_FnExactTreeBest.j0 k t1120 t1128 true a0_0 l0_1) else ((laws_eqIntS.f k t1128 t1120).bind fun t1139 => (laws_FnExactTreeBest.j0 k t1120 t1128 (!t1139) a0_0 l0_1)))) else (some false)))) else (some false))))))))
set_option maxHeartbeats 8000000 in
set_option maxRecDepth 100000 in
theorem laws_FnExactTreeBest.calls (k : Nat) (a0_0 : Int) (A0_1 : Option Addr) (c0_1 : Nat) (l0_1 : List (S127)) (r : Bool) (w : World) (hr0_1 : Kd.C k127 w A0_1 l0_1.length l0_1) (hc0_1 : l0_1.length ≤ c0_1) (h : laws_FnExactTreeBest.f k a0_0 l0_1 = some r) (hrT_ : r = true:=by rfl) :
  Calls Try.prog 11 #[.agg #[.int .i64 a0_0,.slice A0_1 l0_1.length c0_1]] w fun e w' => e = .returned (.bool r) ∧ Below w.heap.size w w':=by
 have HRT_:=I hrT_;clear hrT_;have hu43:=Try.underlying43;have hu34:=Try.underlying34;have HR0_1:=I hr0_1;have HC0_1:=I hc0_1;clear hr0_1 hc0_1;have HB:=I (Below.refl w.heap.size w);have H : ((laws_szNet.f a0_0 l0_1 1048576).bind fun t1115 => (if t1115 < 0 then (some true) else ((laws_toNet.f k a0_0 l0_1).bind fun bt1116 => ((spec_TreeBest.f k bt1116.1 bt1116.2).bind fun t1120 => ((laws_toNet.f k a0_0 l0_1).bind fun bt1123 => ((impl_TreeBest.f k bt1123.1 bt1123.2).bind fun t1128 => ((laws_eqIntS.f k t1128 t1120).bind fun t1131 => (if t1131 = true then ((laws_toNet.f k a0_0 l0_1).bind fun bt1132 => ((laws_eqNet.f k bt1123.1 bt1123.2 bt1132.1 bt1132.2).bind fun t1136 => (if t1136 = true then ((laws_markNet.f k bt1123.1 bt1123.2 1).bind fun bt1137 => (if bt1137.1 < 0 then (laws_FnExactTreeBest.j0 k t1120 t1128 true a0_0 l0_1) else ((laws_eqIntS.f k t1128 t1120).bind fun t1139 => (laws_FnExactTreeBest.j0 k t1120 t1128 (!t1139) a0_0 l0_1)))) else (some false)))) else (some false))))))))) = some r:=h;clear h;replace H:=Option.bind_eq_some_iff.mp H;obtain ⟨t1115,A20,H⟩:=H;replace H : (if t1115 < 0 then (some true) else ((laws_toNet.f k a0_0 l0_1).bind fun bt1116 => ((spec_TreeBest.f k bt1116.1 bt1116.2).bind fun t1120 => ((laws_toNet.f k a0_0 l0_1).bind fun bt1123 => ((impl_TreeBest.f k bt1123.1 bt1123.2).bind fun t1128 => ((laws_eqIntS.f k t1128 t1120).bind fun t1131 => (if t1131 = true then ((laws_toNet.f k a0_0 l0_1).bind fun bt1132 => ((laws_eqNet.f k bt1123.1 bt1123.2 bt1132.1 bt1132.2).bind fun t1136 => (if t1136 = true then ((laws_markNet.f k bt1123.1 bt1123.2 1).bind fun bt1137 => (if bt1137.1 < 0 then (laws_FnExactTreeBest.j0 k t1120 t1128 true a0_0 l0_1) else ((laws_eqIntS.f k t1128 t1120).bind fun t1139 => (laws_FnExactTreeBest.j0 k t1120 t1128 (!t1139) a0_0 l0_1)))) else (some false)))) else (some false)))))))) = some r:=H;have A2:=I A20;clear A20
 by_cases c3 : t1115 < 0
 case pos =>
  rw [if_pos c3] at H;have c3b0 : decide (t1115 < 0) = true:=decide_eq_true c3;clear c3;obtain rfl:=Option.some.inj H
  go_enter Try.func11,Try.ntmps11
  go_wp2_with (first | ((with_reducible refine gate_dst (N:=1) rfl ?_); refine box_event ?hg (N:=1) ?hd (cs:=#[.int .i64 a0_0,.slice A0_1 l0_1.length c0_1]) (t:=43) ?hr ?_; (case hd => rfl); (case hg => rfl); (case hr => first | (go_simp; done) | (go_simp; rfl)); intro gb1114 hg w4 hbox hb; have n0_:=I (below_step (by repeat (first | (with_reducible first | exact HB.out | apply below_alloc | apply pw_below_drewN | apply below_drew1) | exact HB.out)) hb); have n1_:=I (hbox); have n2_:=I ((by rw [hg]; exact (below_size (by repeat (first | (with_reducible first | exact HB.out | apply below_alloc | apply pw_below_drewN | apply below_drew1) | exact HB.out))) : w.heap.size ≤ gb1114)); have n3_:=I ((by rw [hg]; exact (below_size (by repeat (first | (with_reducible first | exact HB.out | apply below_alloc | apply pw_below_drewN | apply below_drew1) | exact HB.out))) : w.heap.size ≤ gb1114)); clear HB; have HB:=n0_; have BK1114:=n1_; have GW1114:=n2_; have GE1114:=n3_; clear n0_ n1_ n2_ n3_; clear hb hbox hg; have hcz5_0 : w4.cell? ⟨gb1114,0,none⟩ = some (.int .i64 a0_0):=(blk_cell BK1114.out 0).trans rfl; have hcz5_1 : w4.cell? ⟨gb1114,1,none⟩ = some (.slice A0_1 l0_1.length c0_1):=(blk_cell BK1114.out 1).trans rfl; have hfz5_0:=blk_frozen BK1114.out 0; have hfz5_1:=blk_frozen BK1114.out 1) | ((with_reducible refine gate_callee (f:=26) rfl ?_); refine goesL_ (some 13) rfl rfl Try.func26 (by kernel_rfl) rfl #[.agg #[.int .i64 a0_0,.slice A0_1 l0_1.length c0_1],.int .i64 1048576] rfl (by (try simp only [List.map_toArray,List.map_cons,List.map_nil]); first | done | rfl | (simp only [List.length_drop,List.length_take]; rfl)) ?_; (with_reducible refine (laws_szNet.calls a0_0 _ _ l0_1 1048576 t1115 _ ?side1 ?side2 A2.out).mono ?_); (case side1 => repeat (first | exact (Kd.C_below HR0_1.out HB.out) | (with_reducible refine Kd.C_alloc ?_ _) | (with_reducible refine Kd.C_drewN ?_ _) | (with_reducible refine Kd.C_drew ?_))); (case side2 => exact HC0_1.out); rintro e w6 ⟨rfl,hb⟩; refine ⟨_,rfl,?_⟩; have n0_:=I (blk_below (g:=gb1114) (o:=.cells #[.int .i64 a0_0,.slice A0_1 l0_1.length c0_1] 43 (0,0)) (by (with_reducible repeat (first | refine blk_drewN ?_ _ | refine blk_drew ?_ | refine blk_alloc ?_ _)); exact BK1114.out) hb); have n1_:=I (below_step (by repeat (first | (with_reducible first | exact HB.out | apply below_alloc | apply pw_below_drewN | apply below_drew1 | refine below_set ?_ GE1114.out) | exact HB.out)) hb); clear BK1114; clear HB; have BK1114:=n0_; have HB:=n1_; clear n0_ n1_; (try clear hb); (try clear hb2); (try clear hk); (try clear hi)))
  go_ret;exact ⟨by first | rfl | (simp [errW_none,errW_some] <;> rfl) | (simp [*,errW_none,errW_some] <;> rfl),by repeat (first | (with_reducible first | exact HB.out | apply below_alloc | apply pw_below_drewN | apply below_drew1 | refine below_set ?_ GE1114.out) | exact HB.out)⟩
 rw [if_neg c3] at H;have c3b0 : decide (t1115 < 0) = false:=decide_eq_false c3;clear c3;replace H:=Option.bind_eq_some_iff.mp H;obtain ⟨⟨t1116,t1117⟩,A70,H⟩:=H;replace H : ((spec_TreeBest.f k t1116 t1117).bind fun t1120 => ((laws_toNet.f k a0_0 l0_1).bind fun bt1123 => ((impl_TreeBest.f k bt1123.1 bt1123.2).bind fun t1128 => ((laws_eqIntS.f k t1128 t1120).bind fun t1131 => (if t1131 = true then ((laws_toNet.f k a0_0 l0_1).bind fun bt1132 => ((laws_eqNet.f k bt1123.1 bt1123.2 bt1132.1 bt1132.2).bind fun t1136 => (if t1136 = true then ((laws_markNet.f k bt1123.1 bt1123.2 1).bind fun bt1137 => (if bt1137.1 < 0 then (laws_FnExactTreeBest.j0 k t1120 t1128 true a0_0 l0_1) else ((laws_eqIntS.f k t1128 t1120).bind fun t1139 => (laws_FnExactTreeBest.j0 k t1120 t1128 (!t1139) a0_0 l0_1)))) else (some false)))) else (some false)))))) = some r:=H;have A7:=I A70;clear A70;replace H:=Option.bind_eq_some_iff.mp H;obtain ⟨t1120,A80,H⟩:=H;replace H : ((laws_toNet.f k a0_0 l0_1).bind fun bt1123 => ((impl_TreeBest.f k bt1123.1 bt1123.2).bind fun t1128 => ((laws_eqIntS.f k t1128 t1120).bind fun t1131 => (if t1131 = true then ((laws_toNet.f k a0_0 l0_1).bind fun bt1132 => ((laws_eqNet.f k bt1123.1 bt1123.2 bt1132.1 bt1132.2).bind fun t1136 => (if t1136 = true then ((laws_markNet.f k bt1123.1 bt1123.2 1).bind fun bt1137 => (if bt1137.1 < 0 then (laws_FnExactTreeBest.j0 k t1120 t1128 true a0_0 l0_1) else ((laws_eqIntS.f k t1128 t1120).bind fun t1139 => (laws_FnExactTreeBest.j0 k t1120 t1128 (!t1139) a0_0 l0_1)))) else (some false)))) else (some false))))) = some r:=H;have A8:=I A80;clear A80;replace H:=Option.bind_eq_some_iff.mp H;obtain ⟨⟨t1123,t1124⟩,A90,H⟩:=H;replace H : ((impl_TreeBest.f k t1123 t1124).bind fun t1128 => ((laws_eqIntS.f k t1128 t1120).bind fun t1131 => (if t1131 = true then ((laws_toNet.f k a0_0 l0_1).bind fun bt1132 => ((laws_eqNet.f k t1123 t1124 bt1132.1 bt1132.2).bind fun t1136 => (if t1136 = true then ((laws_markNet.f k t1123 t1124 1).bind fun bt1137 => (if bt1137.1 < 0 then (laws_FnExactTreeBest.j0 k t1120 t1128 true a0_0 l0_1) else ((laws_eqIntS.f k t1128 t1120).bind fun t1139 => (laws_FnExactTreeBest.j0 k t1120 t1128 (!t1139) a0_0 l0_1)))) else (some false)))) else (some false)))) = some r:=H;have A9:=I A90;clear A90;replace H:=Option.bind_eq_some_iff.mp H;obtain ⟨t1128,A100,H⟩:=H;replace H : ((laws_eqIntS.f k t1128 t1120).bind fun t1131 => (if t1131 = true then ((laws_toNet.f k a0_0 l0_1).bind fun bt1132 => ((laws_eqNet.f k t1123 t1124 bt1132.1 bt1132.2).bind fun t1136 => (if t1136 = true then ((laws_markNet.f k t1123 t1124 1).bind fun bt1137 => (if bt1137.1 < 0 then (laws_FnExactTreeBest.j0 k t1120 t1128 true a0_0 l0_1) else ((laws_eqIntS.f k t1128 t1120).bind fun t1139 => (laws_FnExactTreeBest.j0 k t1120 t1128 (!t1139) a0_0 l0_1)))) else (some false)))) else (some false))) = some r:=H;have A10:=I A100;clear A100;replace H:=Option.bind_eq_some_iff.mp H
 obtain ⟨t1131,A110,H⟩:=H;replace H : (if t1131 = true then ((laws_toNet.f k a0_0 l0_1).bind fun bt1132 => ((laws_eqNet.f k t1123 t1124 bt1132.1 bt1132.2).bind fun t1136 => (if t1136 = true then ((laws_markNet.f k t1123 t1124 1).bind fun bt1137 => (if bt1137.1 < 0 then (laws_FnExactTreeBest.j0 k t1120 t1128 true a0_0 l0_1) else ((laws_eqIntS.f k t1128 t1120).bind fun t1139 => (laws_FnExactTreeBest.j0 k t1120 t1128 (!t1139) a0_0 l0_1)))) else (some false)))) else (some false)) = some r:=H;have A11:=I A110;clear A110
 by_cases c12 : t1131 = true
 case neg =>
  replace c12:=Bool.eq_false_iff.mpr c12;subst c12;have H1 : (some false) = some r:=by rw [if_neg (show ¬ (false = true) by decide)] at H; exact H
  exact absurd ((Option.some.inj H1).trans HRT_.out) (by decide)
 subst c12;have H1 : ((laws_toNet.f k a0_0 l0_1).bind fun bt1132 => ((laws_eqNet.f k t1123 t1124 bt1132.1 bt1132.2).bind fun t1136 => (if t1136 = true then ((laws_markNet.f k t1123 t1124 1).bind fun bt1137 => (if bt1137.1 < 0 then (laws_FnExactTreeBest.j0 k t1120 t1128 true a0_0 l0_1) else ((laws_eqIntS.f k t1128 t1120).bind fun t1139 => (laws_FnExactTreeBest.j0 k t1120 t1128 (!t1139) a0_0 l0_1)))) else (some false)))) = some r:=by rw [if_pos rfl] at H; exact H
 clear H;have H:=H1;clear H1;replace H:=Option.bind_eq_some_iff.mp H;obtain ⟨⟨t1132,t1133⟩,A130,H⟩:=H;replace H : ((laws_eqNet.f k t1123 t1124 t1132 t1133).bind fun t1136 => (if t1136 = true then ((laws_markNet.f k t1123 t1124 1).bind fun bt1137 => (if bt1137.1 < 0 then (laws_FnExactTreeBest.j0 k t1120 t1128 true a0_0 l0_1) else ((laws_eqIntS.f k t1128 t1120).bind fun t1139 => (laws_FnExactTreeBest.j0 k t1120 t1128 (!t1139) a0_0 l0_1)))) else (some false))) = some r:=H;have A13:=I A130;clear A130;replace H:=Option.bind_eq_some_iff.mp H;obtain ⟨t1136,A140,H⟩:=H;replace H : (if t1136 = true then ((laws_markNet.f k t1123 t1124 1).bind fun bt1137 => (if bt1137.1 < 0 then (laws_FnExactTreeBest.j0 k t1120 t1128 true a0_0 l0_1) else ((laws_eqIntS.f k t1128 t1120).bind fun t1139 => (laws_FnExactTreeBest.j0 k t1120 t1128 (!t1139) a0_0 l0_1)))) else (some false)) = some r:=H;have A14:=I A140;clear A140
 by_cases c15 : t1136 = true
 case neg =>
  replace c15:=Bool.eq_false_iff.mpr c15;subst c15;have H1 : (some false) = some r:=by rw [if_neg (show ¬ (false = true) by decide)] at H; exact H
  exact absurd ((Option.some.inj H1).trans HRT_.out) (by decide)
 subst c15;have H1 : ((laws_markNet.f k t1123 t1124 1).bind fun bt1137 => (if bt1137.1 < 0 then (laws_FnExactTreeBest.j0 k t1120 t1128 true a0_0 l0_1) else ((laws_eqIntS.f k t1128 t1120).bind fun t1139 => (laws_FnExactTreeBest.j0 k t1120 t1128 (!t1139) a0_0 l0_1)))) = some r:=by rw [if_pos rfl] at H; exact H
 clear H;have H:=H1;clear H1;replace H:=Option.bind_eq_some_iff.mp H;obtain ⟨⟨t1137,t1138⟩,A160,H⟩:=H;replace H : (if t1137 < 0 then (laws_FnExactTreeBest.j0 k t1120 t1128 true a0_0 l0_1) else ((laws_eqIntS.f k t1128 t1120).bind fun t1139 => (laws_FnExactTreeBest.j0 k t1120 t1128 (!t1139) a0_0 l0_1))) = some r:=H;have A16:=I A160;clear A160;have HC17:=I H;clear H
 go_enter Try.func11,Try.ntmps11
 try go_wp2_with (first | ((with_reducible refine gate_dst (N:=1) rfl ?_); refine box_event ?hg (N:=1) ?hd (cs:=#[.int .i64 a0_0,.slice A0_1 l0_1.length c0_1]) (t:=43) ?hr ?_; (case hd => rfl); (case hg => rfl); (case hr => first | (go_simp; done) | (go_simp; rfl)); intro gb1114 hg w18 hbox hb; have n0_:=I (below_step (by repeat (first | (with_reducible first | exact HB.out | apply below_alloc | apply pw_below_drewN | apply below_drew1) | exact HB.out)) hb); have n1_:=I (hbox); have n2_:=I ((by rw [hg]; exact (below_size (by repeat (first | (with_reducible first | exact HB.out | apply below_alloc | apply pw_below_drewN | apply below_drew1) | exact HB.out))) : w.heap.size ≤ gb1114)); have n3_:=I ((by rw [hg]; exact (below_size (by repeat (first | (with_reducible first | exact HB.out | apply below_alloc | apply pw_below_drewN | apply below_drew1) | exact HB.out))) : w.heap.size ≤ gb1114)); clear HB; have HB:=n0_; have BK1114:=n1_; have GW1114:=n2_; have GE1114:=n3_; clear n0_ n1_ n2_ n3_; clear hb hbox hg; have hcz19_0 : w18.cell? ⟨gb1114,0,none⟩ = some (.int .i64 a0_0):=(blk_cell BK1114.out 0).trans rfl; have hcz19_1 : w18.cell? ⟨gb1114,1,none⟩ = some (.slice A0_1 l0_1.length c0_1):=(blk_cell BK1114.out 1).trans rfl; have hfz19_0:=blk_frozen BK1114.out 0; have hfz19_1:=blk_frozen BK1114.out 1) | ((with_reducible refine gate_callee (f:=26) rfl ?_); refine goesL_ (some 13) rfl rfl Try.func26 (by kernel_rfl) rfl #[.agg #[.int .i64 a0_0,.slice A0_1 l0_1.length c0_1],.int .i64 1048576] rfl (by (try simp only [List.map_toArray,List.map_cons,List.map_nil]); first | done | rfl | (simp only [List.length_drop,List.length_take]; rfl)) ?_; (with_reducible refine (laws_szNet.calls a0_0 _ _ l0_1 1048576 t1115 _ ?side1 ?side2 A2.out).mono ?_); (case side1 => repeat (first | exact (Kd.C_below HR0_1.out HB.out) | (with_reducible refine Kd.C_alloc ?_ _) | (with_reducible refine Kd.C_drewN ?_ _) | (with_reducible refine Kd.C_drew ?_))); (case side2 => exact HC0_1.out); rintro e w20 ⟨rfl,hb⟩; refine ⟨_,rfl,?_⟩; have n0_:=I (blk_below (g:=gb1114) (o:=.cells #[.int .i64 a0_0,.slice A0_1 l0_1.length c0_1] 43 (0,0)) (by (with_reducible repeat (first | refine blk_drewN ?_ _ | refine blk_drew ?_ | refine blk_alloc ?_ _)); exact BK1114.out) hb); have n1_:=I (below_step (by repeat (first | (with_reducible first | exact HB.out | apply below_alloc | apply pw_below_drewN | apply below_drew1 | refine below_set ?_ GE1114.out) | exact HB.out)) hb); clear BK1114; clear HB; have BK1114:=n0_; have HB:=n1_; clear n0_ n1_; (try clear hb); (try clear hb2); (try clear hk); (try clear hi); have hcz21_0 : w20.cell? ⟨gb1114,0,none⟩ = some (.int .i64 a0_0):=(blk_cell BK1114.out 0).trans rfl; have hcz21_1 : w20.cell? ⟨gb1114,1,none⟩ = some (.slice A0_1 l0_1.length c0_1):=(blk_cell BK1114.out 1).trans rfl; have hfz21_0:=blk_frozen BK1114.out 0; have hfz21_1:=blk_frozen BK1114.out 1) | ((with_reducible refine gate_callee (f:=28) rfl ?_); refine goesL_ (some 17) rfl rfl Try.func28 (by kernel_rfl) rfl #[.agg #[.int .i64 a0_0,.slice A0_1 l0_1.length c0_1]] rfl (by (try simp only [List.map_toArray,List.map_cons,List.map_nil]); first | done | rfl | (simp only [List.length_drop,List.length_take]; rfl)) ?_; (with_reducible refine (laws_toNet.calls k a0_0 _ _ l0_1 t1116 t1117 _ ?side1 ?side2 A7.out).mono ?_); (case side1 => repeat (first | exact (Kd.C_below HR0_1.out HB.out) | (with_reducible refine Kd.C_alloc ?_ _) | (with_reducible refine Kd.C_drewN ?_ _) | (with_reducible refine Kd.C_drew ?_))); (case side2 => exact HC0_1.out); rintro e w22 ⟨v1118,rfl,ho0,hb⟩; refine ⟨_,rfl,?_⟩; have n0_:=I (Kd.R_lower ho0 (below_size (by repeat (first | (with_reducible first | exact HB.out | apply below_alloc | apply pw_below_drewN | apply below_drew1 | refine below_set ?_ GE1114.out) | exact HB.out)))); have n1_:=I (blk_below (g:=gb1114) (o:=.cells #[.int .i64 a0_0,.slice A0_1 l0_1.length c0_1] 43 (0,0)) (by (with_reducible repeat (first | refine blk_drewN ?_ _ | refine blk_drew ?_ | refine blk_alloc ?_ _)); exact BK1114.out) hb); have n2_:=I (below_step (by repeat (first | (with_reducible first | exact HB.out | apply below_alloc | apply pw_below_drewN | apply below_drew1 | refine below_set ?_ GE1114.out) | exact HB.out)) hb); clear BK1114; clear HB; have HO1119:=n0_; have BK1114:=n1_; have HB:=n2_; clear n0_ n1_ n2_; (try clear hb); (try clear hb2); (try clear hk); (try clear hi); (try clear ho0); obtain ⟨Ao23,co23,eo23⟩:=Kd.R_slice HO1119.out; subst eo23) | ((with_reducible refine gate_callee (f:=50) rfl ?_); refine goesL_ (some 18) rfl rfl Try.func50 (by kernel_rfl) rfl #[.agg #[.int .i64 t1116,.slice Ao23 t1117.length co23]] rfl (by (try simp only [List.map_toArray,List.map_cons,List.map_nil]); first | done | rfl | (simp only [List.length_drop,List.length_take]; rfl)) ?_; (with_reducible refine (spec_TreeBest.calls k t1116 _ _ t1117 t1120 _ ?side1 ?side2 A8.out).mono ?_); (case side1 => repeat (first | exact (Kd.R_reads' HO1119.out).2.2 | (with_reducible refine Kd.C_alloc ?_ _) | (with_reducible refine Kd.C_drewN ?_ _) | (with_reducible refine Kd.C_drew ?_))); (case side2 => exact (Kd.R_reads' HO1119.out).2.1); rintro e w24 ⟨v1121,rfl,ho0,hb⟩; refine ⟨_,rfl,?_⟩; have n0_:=I (Kd.R_below (by (with_reducible repeat (first | apply Kd.R_alloc | apply Kd.R_drewN | apply Kd.R_drew)); exact HO1119.out) hb); have n1_:=I (Kd.R_lower ho0 (below_size (by repeat (first | (with_reducible first | exact HB.out | apply below_alloc | apply pw_below_drewN | apply below_drew1 | refine below_set ?_ GE1114.out) | exact HB.out)))); have n2_:=I (blk_below (g:=gb1114) (o:=.cells #[.int .i64 a0_0,.slice A0_1 l0_1.length c0_1] 43 (0,0)) (by (with_reducible repeat (first | refine blk_drewN ?_ _ | refine blk_drew ?_ | refine blk_alloc ?_ _)); exact BK1114.out) hb); have n3_:=I (below_step (by repeat (first | (with_reducible first | exact HB.out | apply below_alloc | apply pw_below_drewN | apply below_drew1 | refine below_set ?_ GE1114.out) | exact HB.out)) hb); clear HO1119; clear BK1114; clear HB; have HO1119:=n0_; have HO1122:=n1_; have BK1114:=n2_; have HB:=n3_; clear n0_ n1_ n2_ n3_; (try clear hb); (try clear hb2); (try clear hk); (try clear hi); (try clear ho0); have hcz25_0 : w24.cell? ⟨gb1114,0,none⟩ = some (.int .i64 a0_0):=(blk_cell BK1114.out 0).trans rfl; have hcz25_1 : w24.cell? ⟨gb1114,1,none⟩ = some (.slice A0_1 l0_1.length c0_1):=(blk_cell BK1114.out 1).trans rfl; have hfz25_0:=blk_frozen BK1114.out 0; have hfz25_1:=blk_frozen BK1114.out 1) | ((with_reducible refine gate_callee (f:=28) rfl ?_); refine goesL_ (some 20) rfl rfl Try.func28 (by kernel_rfl) rfl #[.agg #[.int .i64 a0_0,.slice A0_1 l0_1.length c0_1]] rfl (by (try simp only [List.map_toArray,List.map_cons,List.map_nil]); first | done | rfl | (simp only [List.length_drop,List.length_take]; rfl)) ?_; (with_reducible refine (laws_toNet.calls k a0_0 _ _ l0_1 t1123 t1124 _ ?side1 ?side2 A9.out).mono ?_); (case side1 => repeat (first | exact (Kd.C_below HR0_1.out HB.out) | (with_reducible refine Kd.C_alloc ?_ _) | (with_reducible refine Kd.C_drewN ?_ _) | (with_reducible refine Kd.C_drew ?_))); (case side2 => exact HC0_1.out); rintro e w26 ⟨v1125,rfl,ho0,hb⟩; refine ⟨_,rfl,?_⟩; have n0_:=I (Kd.R_elder' (by (with_reducible repeat (first | apply Kd.R_alloc | apply Kd.R_drewN | apply Kd.R_drew)); exact HO1119.out) (Kd.R_base ho0) hb); have n1_:=I (Kd.R_below (by (with_reducible repeat (first | apply Kd.R_alloc | apply Kd.R_drewN | apply Kd.R_drew)); exact HO1122.out) hb); have n2_:=I (Kd.R_lower (Kd.R_new' ho0 (Kd.R_lt (by (with_reducible repeat (first | apply Kd.R_alloc | apply Kd.R_drewN | apply Kd.R_drew)); exact HO1119.out))) (below_size (by repeat (first | (with_reducible first | exact HB.out | apply below_alloc | apply pw_below_drewN | apply below_drew1 | refine below_set ?_ GE1114.out) | exact HB.out)))); have n3_:=I (blk_below (g:=gb1114) (o:=.cells #[.int .i64 a0_0,.slice A0_1 l0_1.length c0_1] 43 (0,0)) (by (with_reducible repeat (first | refine blk_drewN ?_ _ | refine blk_drew ?_ | refine blk_alloc ?_ _)); exact BK1114.out) hb); have n4_:=I (below_step (by repeat (first | (with_reducible first | exact HB.out | apply below_alloc | apply pw_below_drewN | apply below_drew1 | refine below_set ?_ GE1114.out) | exact HB.out)) hb); clear HO1119; clear HO1122; clear BK1114; clear HB; have HO1119:=n0_; have HO1122:=n1_; have HO1126:=n2_; have BK1114:=n3_; have HB:=n4_; clear n0_ n1_ n2_ n3_ n4_; (try clear hb); (try clear hb2); (try clear hk); (try clear hi); (try clear ho0)) | ((with_reducible refine gate_dst (N:=5) rfl ?_); refine box_event ?hg (N:=5) ?hd (cs:=#[.int .i64 0,.slice none 0 0]) (t:=34) ?hr ?_; (case hd => rfl); (case hg => rfl); (case hr => first | (go_simp; done) | (go_simp; rfl)); intro gb1127 hg w27 hbox hb; have n0_:=I (Kd.R_below (by (with_reducible repeat (first | apply Kd.R_alloc | apply Kd.R_drewN | apply Kd.R_drew)); exact HO1119.out) hb); have n1_:=I (Kd.R_below (by (with_reducible repeat (first | apply Kd.R_alloc | apply Kd.R_drewN | apply Kd.R_drew)); exact HO1122.out) hb); have n2_:=I (Kd.R_below (by (with_reducible repeat (first | apply Kd.R_alloc | apply Kd.R_drewN | apply Kd.R_drew)); exact HO1126.out) hb); have n3_:=I (blk_below (g:=gb1114) (o:=.cells #[.int .i64 a0_0,.slice A0_1 l0_1.length c0_1] 43 (0,0)) (by (with_reducible repeat (first | refine blk_drewN ?_ _ | refine blk_drew ?_ | refine blk_alloc ?_ _)); exact BK1114.out) hb); have n4_:=I (below_step (by repeat (first | (with_reducible first | exact HB.out | apply below_alloc | apply pw_below_drewN | apply below_drew1 | refine below_set ?_ GE1114.out) | exact HB.out)) hb); have n5_:=I (hbox); have n6_:=I ((by rw [hg]; exact (below_size (by repeat (first | (with_reducible first | exact HB.out | apply below_alloc | apply pw_below_drewN | apply below_drew1 | refine below_set ?_ GE1114.out) | exact HB.out))) : w.heap.size ≤ gb1127)); have n7_:=I ((by rw [hg]; exact (below_size (by repeat (first | (with_reducible first | exact HB.out | apply below_alloc | apply pw_below_drewN | apply below_drew1 | refine below_set ?_ GE1114.out) | exact HB.out))) : w.heap.size ≤ gb1127)); have n8_:=I ((by rw [hg]; exact Nat.ne_of_lt (blk_lt (g:=gb1114) (o:=.cells #[.int .i64 a0_0,.slice A0_1 l0_1.length c0_1] 43 (0,0)) (by (with_reducible repeat (first | refine blk_drewN ?_ _ | refine blk_drew ?_ | refine blk_alloc ?_ _)); exact BK1114.out)) : gb1114 ≠ gb1127)); have n9_:=I ((by rw [hg]; exact Nat.ne_of_gt (blk_lt (g:=gb1114) (o:=.cells #[.int .i64 a0_0,.slice A0_1 l0_1.length c0_1] 43 (0,0)) (by (with_reducible repeat (first | refine blk_drewN ?_ _ | refine blk_drew ?_ | refine blk_alloc ?_ _)); exact BK1114.out)) : gb1127 ≠ gb1114)); clear HO1119; clear HO1122; clear HO1126; clear BK1114; clear HB; have HO1119:=n0_; have HO1122:=n1_; have HO1126:=n2_; have BK1114:=n3_; have HB:=n4_; have BK1127:=n5_; have GW1127:=n6_; have GE1127:=n7_; have NB1114_1127:=n8_; have NB1127_1114:=n9_; clear n0_ n1_ n2_ n3_ n4_ n5_ n6_ n7_ n8_ n9_; clear hb hbox hg; have hnb28:=NB1127_1114.out; have hnc28:=NB1114_1127.out; have hcz29_0 : w27.cell? ⟨gb1127,0,none⟩ = some (.int .i64 0):=(blk_cell BK1127.out 0).trans rfl; have hcz29_1 : w27.cell? ⟨gb1127,1,none⟩ = some (.slice none 0 0):=(blk_cell BK1127.out 1).trans rfl; have hfz29_0:=blk_frozen BK1127.out 0; have hfz29_1:=blk_frozen BK1127.out 1; obtain ⟨Ao30,co30,eo30⟩:=Kd.R_slice HO1126.out; subst eo30) | ((with_reducible refine gate_callee (f:=49) rfl ?_); refine goesL_ (some 22) rfl rfl Try.func49 (by kernel_rfl) rfl #[.agg #[.int .i64 t1123,.slice Ao30 t1124.length co30]] rfl (by (try simp only [List.map_toArray,List.map_cons,List.map_nil]); first | done | rfl | (simp only [List.length_drop,List.length_take]; rfl)) ?_; (with_reducible refine (impl_TreeBest.calls k t1123 _ _ t1124 t1128 _ ?side1 ?side2 A10.out).mono ?_); (case side1 => refine (Kd.R_reads' (e:=58) (base:=w.heap.size) (ok:=fun k_ => (True ∧ some k_ ≠ (.slice Ao23 t1117.length co23 : Value).ownBlock)) (n:=t1124.length) (c:=co30) ?_).2.2; exact (by (with_reducible repeat (first | apply Kd.R_alloc | apply Kd.R_drewN | apply Kd.R_drew)); exact (Kd.R_mono (Kd.R_far (p:=⟨gb1127,1,none⟩) (Kd.R_far (p:=⟨gb1127,0,none⟩) (Kd.R_types HO1126.out BK1127.out (by decide)) (fun _ hk => hk.2) (.int .i64 t1123)) (fun _ hk => hk.2) (.slice Ao30 t1124.length co30)) (fun _ h_ => h_.1)))); (case side2 => exact (Kd.R_reads' HO1126.out).2.1); rintro e w31 ⟨v1129,rfl,ho0,hb⟩; refine ⟨_,rfl,?_⟩; have n0_:=I (Kd.R_below (by (with_reducible repeat (first | apply Kd.R_alloc | apply Kd.R_drewN | apply Kd.R_drew)); exact (Kd.R_mono (Kd.R_far (p:=⟨gb1127,1,none⟩) (Kd.R_far (p:=⟨gb1127,0,none⟩) (Kd.R_types HO1119.out BK1127.out (by decide)) (fun _ hk => hk.2) (.int .i64 t1123)) (fun _ hk => hk.2) (.slice Ao30 t1124.length co30)) (fun _ h_ => h_.1))) hb); have n1_:=I (Kd.R_elder' (by (with_reducible repeat (first | apply Kd.R_alloc | apply Kd.R_drewN | apply Kd.R_drew)); exact (Kd.R_mono (Kd.R_far (p:=⟨gb1127,1,none⟩) (Kd.R_far (p:=⟨gb1127,0,none⟩) (Kd.R_types HO1122.out BK1127.out (by decide)) (fun _ hk => hk.2) (.int .i64 t1123)) (fun _ hk => hk.2) (.slice Ao30 t1124.length co30)) (fun _ h_ => h_.1))) (Kd.R_base ho0) hb); have n2_:=I (Kd.R_below (by (with_reducible repeat (first | apply Kd.R_alloc | apply Kd.R_drewN | apply Kd.R_drew)); exact (Kd.R_mono (Kd.R_far (p:=⟨gb1127,1,none⟩) (Kd.R_far (p:=⟨gb1127,0,none⟩) (Kd.R_types HO1126.out BK1127.out (by decide)) (fun _ hk => hk.2) (.int .i64 t1123)) (fun _ hk => hk.2) (.slice Ao30 t1124.length co30)) (fun _ h_ => h_.1))) hb); have n3_:=I (Kd.R_lower (Kd.R_new' ho0 (Kd.R_lt (by (with_reducible repeat (first | apply Kd.R_alloc | apply Kd.R_drewN | apply Kd.R_drew)); exact (Kd.R_mono (Kd.R_far (p:=⟨gb1127,1,none⟩) (Kd.R_far (p:=⟨gb1127,0,none⟩) (Kd.R_types HO1122.out BK1127.out (by decide)) (fun _ hk => hk.2) (.int .i64 t1123)) (fun _ hk => hk.2) (.slice Ao30 t1124.length co30)) (fun _ h_ => h_.1))))) (below_size (by repeat (first | (with_reducible first | exact HB.out | apply below_alloc | apply pw_below_drewN | apply below_drew1 | refine below_set ?_ GE1114.out | refine below_set ?_ GE1127.out) | exact HB.out)))); have n4_:=I (blk_below (g:=gb1114) (o:=.cells #[.int .i64 a0_0,.slice A0_1 l0_1.length c0_1] 43 (0,0)) (by (with_reducible repeat (first | refine blk_drewN ?_ _ | refine blk_drew ?_ | refine blk_alloc ?_ _)); refine blk_far ?_ NB1114_1127.out _; (with_reducible repeat (first | refine blk_drewN ?_ _ | refine blk_drew ?_ | refine blk_alloc ?_ _)); refine blk_far ?_ NB1114_1127.out _; (with_reducible repeat (first | refine blk_drewN ?_ _ | refine blk_drew ?_ | refine blk_alloc ?_ _)); exact BK1114.out) hb); have n5_:=I (blk_below (g:=gb1127) (o:=.cells #[.int .i64 t1123,.slice Ao30 t1124.length co30] 34 (0,0)) (by (with_reducible repeat (first | refine blk_drewN ?_ _ | refine blk_drew ?_ | refine blk_alloc ?_ _)); refine blk_put (cs:=#[.int .i64 t1123,.slice none 0 0]) ?_ 1 _ rfl; (with_reducible repeat (first | refine blk_drewN ?_ _ | refine blk_drew ?_ | refine blk_alloc ?_ _)); refine blk_put (cs:=#[.int .i64 0,.slice none 0 0]) ?_ 0 _ rfl; (with_reducible repeat (first | refine blk_drewN ?_ _ | refine blk_drew ?_ | refine blk_alloc ?_ _)); exact BK1127.out) hb); have n6_:=I (below_step (by repeat (first | (with_reducible first | exact HB.out | apply below_alloc | apply pw_below_drewN | apply below_drew1 | refine below_set ?_ GE1114.out | refine below_set ?_ GE1127.out) | exact HB.out)) hb); clear HO1119; clear HO1122; clear HO1126; clear BK1114; clear BK1127; clear HB; have HO1119:=n0_; have HO1122:=n1_; have HO1126:=n2_; have HO1130:=n3_; have BK1114:=n4_; have BK1127:=n5_; have HB:=n6_; clear n0_ n1_ n2_ n3_ n4_ n5_ n6_; (try clear hb); (try clear hb2); (try clear hk); (try clear hi); (try clear ho0); obtain ⟨Ao32,co32,eo32⟩:=Kd.R_slice HO1130.out; subst eo32; obtain ⟨Ao33,co33,eo33⟩:=Kd.R_slice HO1122.out; subst eo33) | ((with_reducible refine gate_callee (f:=32) rfl ?_); refine goesL_ (some 25) rfl rfl Try.func32 (by kernel_rfl) rfl #[.slice Ao32 t1128.length co32,.slice Ao33 t1120.length co33] rfl (by (try simp only [List.map_toArray,List.map_cons,List.map_nil]); first | done | rfl | (simp only [List.length_drop,List.length_take]; rfl)) ?_; (with_reducible refine (laws_eqIntS.calls k _ _ t1128 _ _ t1120 true _ ?side1 ?side2 ?side3 ?side4 A11.out).mono ?_); (case side1 => repeat (first | exact (Kd.R_reads' HO1130.out).2.2 | (with_reducible refine Kd.C_alloc ?_ _) | (with_reducible refine Kd.C_drewN ?_ _) | (with_reducible refine Kd.C_drew ?_))); (case side2 => exact (Kd.R_reads' HO1130.out).2.1); (case side3 => repeat (first | exact (Kd.R_reads' HO1122.out).2.2 | (with_reducible refine Kd.C_alloc ?_ _) | (with_reducible refine Kd.C_drewN ?_ _) | (with_reducible refine Kd.C_drew ?_))); (case side4 => exact (Kd.R_reads' HO1122.out).2.1); rintro e w' ⟨rfl,⟨nd,rfl⟩⟩; refine ⟨_,rfl,?_⟩))
 (try (rw [drewN_self w31]; generalize hq_ : World.drewN w31 _ = w31; have n0_ : Aside0 (Kd.R k58 58 w31 w.heap.size (fun k_ => some k_ ≠ (.slice Ao30 t1124.length co30 : Value).ownBlock) (.slice Ao23 t1117.length co23) t1117):=⟨by rw [← hq_]; exact (by (with_reducible repeat (first | apply Kd.R_alloc | apply Kd.R_drewN | apply Kd.R_drew)); exact Kd.R_mono HO1119.out (fun _ hk => hk.2))⟩; have n1_ : Aside0 (Kd.R (Kd.int .i64) 3 w31 w.heap.size (fun k_ => some k_ ≠ (.slice Ao32 t1128.length co32 : Value).ownBlock) (.slice Ao33 t1120.length co33) t1120):=⟨by rw [← hq_]; exact (by (with_reducible repeat (first | apply Kd.R_alloc | apply Kd.R_drewN | apply Kd.R_drew)); exact Kd.R_mono HO1122.out (fun _ hk => hk.2))⟩; have n2_ : Aside0 (Kd.R k58 58 w31 w.heap.size (fun k_ => some k_ ≠ (.slice Ao23 t1117.length co23 : Value).ownBlock) (.slice Ao30 t1124.length co30) t1124):=⟨by rw [← hq_]; exact (by (with_reducible repeat (first | apply Kd.R_alloc | apply Kd.R_drewN | apply Kd.R_drew)); exact Kd.R_mono HO1126.out (fun _ hk => hk.2))⟩; have n3_ : Aside0 (Kd.R (Kd.int .i64) 3 w31 w.heap.size (fun k_ => some k_ ≠ (.slice Ao33 t1120.length co33 : Value).ownBlock) (.slice Ao32 t1128.length co32) t1128):=⟨by rw [← hq_]; exact (by (with_reducible repeat (first | apply Kd.R_alloc | apply Kd.R_drewN | apply Kd.R_drew)); exact Kd.R_mono HO1130.out (fun _ hk => hk.2))⟩; have n4_ : Aside0 (w31.heap[gb1114]? = some (.cells #[.int .i64 a0_0,.slice A0_1 l0_1.length c0_1] 43 (0,0))):=⟨by rw [← hq_]; exact (by (with_reducible repeat (first | refine blk_drewN ?_ _ | refine blk_drew ?_ | refine blk_alloc ?_ _)); exact BK1114.out)⟩; have n5_ : Aside0 (w31.heap[gb1127]? = some (.cells #[.int .i64 t1123,.slice Ao30 t1124.length co30] 34 (0,0))):=⟨by rw [← hq_]; exact (by (with_reducible repeat (first | refine blk_drewN ?_ _ | refine blk_drew ?_ | refine blk_alloc ?_ _)); exact BK1127.out)⟩; have n6_ : Aside0 (Below w.heap.size w w31):=⟨by rw [← hq_]; exact (by repeat (first | (with_reducible first | exact HB.out | apply below_alloc | apply pw_below_drewN | apply below_drew1 | refine below_set ?_ GE1114.out | refine below_set ?_ GE1127.out) | exact HB.out))⟩; clear HO1119 HO1122 HO1126 HO1130 BK1114 BK1127 HB hq_; have HO1119:=n0_; have HO1122:=n1_; have HO1126:=n2_; have HO1130:=n3_; have BK1114:=n4_; have BK1127:=n5_; have HB:=n6_; clear n0_ n1_ n2_ n3_ n4_ n5_ n6_))
 have n0_:=I (Kd.R_drew HO1119.out);have n1_:=I (Kd.R_drew HO1122.out);have n2_:=I (Kd.R_drew HO1126.out);have n3_:=I (Kd.R_drew HO1130.out);have n4_:=I (blk_drew BK1114.out);have n5_:=I (blk_drew BK1127.out);have n6_:=I (below_drew1 HB.out);clear HO1119;clear HO1122;clear HO1126;clear HO1130;clear BK1114;clear BK1127;clear HB;have HO1119:=n0_;have HO1122:=n1_;have HO1126:=n2_;have HO1130:=n3_;have BK1114:=n4_;have BK1127:=n5_;have HB:=n6_;clear n0_ n1_ n2_ n3_ n4_ n5_ n6_;refine start_ (n:=5) (S:=fun w' => w'.cell? ⟨gb1127,0,none⟩ = some (.int .i64 t1123) ∧ w'.cell? ⟨gb1127,1,none⟩ = some (.slice Ao30 t1124.length co30) ∧ w'.cell? ⟨gb1114,0,none⟩ = some (.int .i64 a0_0) ∧ w'.cell? ⟨gb1114,1,none⟩ = some (.slice A0_1 l0_1.length c0_1)) (ds:=[]) #[false,false,false,false,false] (by kernel_rfl) rfl rfl ⟨(blk_cell BK1127.out 0).trans rfl,(blk_cell BK1127.out 1).trans rfl,(blk_cell BK1114.out 0).trans rfl,(blk_cell BK1114.out 1).trans rfl⟩ (fun hHeld => ?_);generalize w31.drew = w34 at HO1119 HO1122 HO1126 HO1130 BK1114 BK1127 HB hHeld ⊢;refine take_ (i:=0) (N:=some 27) (v:=?_) (a':=?_) #[true,false,false,false,false] rfl rfl (by kernel_rfl) (fun _ _ _ h => h) (Or.inl ⟨by rfl,?_⟩) hHeld ?_ ?_;rotate_left
 ·rintro w' ⟨s0,s1,s2,s3⟩;go_simp;with_reducible rfl
 rotate_left
 ·simp only [Act.put,J,U,O,i64_w,i32_w];rfl
 refine take_ (i:=1) (N:=some 28) (v:=?_) (a':=?_) #[true,true,false,false,false] rfl rfl (by kernel_rfl) (fun _ _ _ h => h) (Or.inl ⟨by rfl,?_⟩) hHeld ?_ ?_;rotate_left
 ·rintro w' ⟨s0,s1,s2,s3⟩;go_simp;with_reducible rfl
 rotate_left
 ·simp only [Act.put,J,U,O,i64_w,i32_w];rfl
 refine one_ (i:=2) (N:=some 29) #[true,true,true,false,false] rfl rfl (by kernel_rfl) (by decide) (fun K hK => ?_);refine goes_ Try.func28 (by kernel_rfl) rfl #[.agg #[.int .i64 a0_0,.slice A0_1 l0_1.length c0_1]] (by rfl) rfl rfl (by (try simp only [List.map_toArray,List.map_cons,List.map_nil]); first | done | rfl | (simp only [List.length_drop,List.length_take]; rfl)) ?_;with_reducible refine (laws_toNet.calls k a0_0 _ _ l0_1 t1132 t1133 _ ?side1 ?side2 A13.out).mono ?_
 (case side1 => repeat (first | exact (Kd.C_below HR0_1.out HB.out) | (with_reducible refine Kd.C_alloc ?_ _) | (with_reducible refine Kd.C_drewN ?_ _) | (with_reducible refine Kd.C_drew ?_)))
 (case side2 => exact HC0_1.out)
 rintro e w35 ⟨v1134,rfl,ho0,hb⟩;refine ⟨_,rfl,?_⟩;have n0_:=I (Kd.R_elder' (by (with_reducible repeat (first | apply Kd.R_alloc | apply Kd.R_drewN | apply Kd.R_drew)); exact HO1119.out) (Kd.R_base ho0) hb);have n1_:=I (Kd.R_below (by (with_reducible repeat (first | apply Kd.R_alloc | apply Kd.R_drewN | apply Kd.R_drew)); exact HO1122.out) hb);have n2_:=I (Kd.R_elder' (by (with_reducible repeat (first | apply Kd.R_alloc | apply Kd.R_drewN | apply Kd.R_drew)); exact HO1126.out) (Kd.R_base ho0) hb);have n3_:=I (Kd.R_below (by (with_reducible repeat (first | apply Kd.R_alloc | apply Kd.R_drewN | apply Kd.R_drew)); exact HO1130.out) hb);have n4_:=I (Kd.R_lower (Kd.R_new' (Kd.R_new' ho0 (Kd.R_lt (by (with_reducible repeat (first | apply Kd.R_alloc | apply Kd.R_drewN | apply Kd.R_drew)); exact HO1119.out))) (Kd.R_lt (by (with_reducible repeat (first | apply Kd.R_alloc | apply Kd.R_drewN | apply Kd.R_drew)); exact HO1126.out))) (below_size (by repeat (first | (with_reducible first | exact HB.out | apply below_alloc | apply pw_below_drewN | apply below_drew1 | refine below_set ?_ GE1114.out | refine below_set ?_ GE1127.out) | exact HB.out))));have n5_:=I (blk_below (g:=gb1114) (o:=.cells #[.int .i64 a0_0,.slice A0_1 l0_1.length c0_1] 43 (0,0)) (by (with_reducible repeat (first | refine blk_drewN ?_ _ | refine blk_drew ?_ | refine blk_alloc ?_ _)); exact BK1114.out) hb);have n6_:=I (blk_below (g:=gb1127) (o:=.cells #[.int .i64 t1123,.slice Ao30 t1124.length co30] 34 (0,0)) (by (with_reducible repeat (first | refine blk_drewN ?_ _ | refine blk_drew ?_ | refine blk_alloc ?_ _)); exact BK1127.out) hb);have n7_:=I (below_step (by repeat (first | (with_reducible first | exact HB.out | apply below_alloc | apply pw_below_drewN | apply below_drew1 | refine below_set ?_ GE1114.out | refine below_set ?_ GE1127.out) | exact HB.out)) hb);clear HO1119;clear HO1122;clear HO1126;clear HO1130;clear BK1114;clear BK1127;clear HB;have HO1119:=n0_;have HO1122:=n1_;have HO1126:=n2_;have HO1130:=n3_;have HO1135:=n4_;have BK1114:=n5_;have BK1127:=n6_;have HB:=n7_;clear n0_ n1_ n2_ n3_ n4_ n5_ n6_ n7_
 (try clear hb)
 (try clear hb2)
 (try clear hk)
 (try clear hi)
 (try clear ho0)
 obtain ⟨Ao36,co36,eo36⟩:=Kd.R_slice HO1135.out
 (first | subst eo36 | (injection eo36 with f1_ f2_ f3_; have f4_:=f1_.symm; have f5_:=f3_.symm; clear f1_ f2_ f3_; subst f4_; subst f5_))
 refine hK.out _ _ ⟨(blk_cell BK1127.out 0).trans rfl,(blk_cell BK1127.out 1).trans rfl,(blk_cell BK1114.out 0).trans rfl,(blk_cell BK1114.out 1).trans rfl⟩ (fun hHeld => ?_);clear hK K;refine norm_ (a':=?_) ?_ ?_;rotate_left
 ·show Act.put _ (some 29) _ = _
  simp only [Act.put,J,U,O,i64_w,i32_w];rfl
 refine one_ (i:=3) (N:=some 30) #[true,true,true,true,false] rfl rfl (by kernel_rfl) (by decide) (fun K hK => ?_);refine goes_ Try.func31 (by kernel_rfl) rfl #[.agg #[.int .i64 t1123,.slice Ao30 t1124.length co30],.agg #[.int .i64 t1132,.slice Ao36 t1133.length co36]] (by rfl) rfl rfl (by (try simp only [List.map_toArray,List.map_cons,List.map_nil]); first | done | rfl | (simp only [List.length_drop,List.length_take]; rfl)) ?_;with_reducible refine (laws_eqNet.calls k t1123 _ _ t1124 t1132 _ _ t1133 true _ ?side1 ?side2 ?side3 ?side4 A14.out).mono ?_
 (case side1 => repeat (first | exact (Kd.R_reads' HO1126.out).2.2 | (with_reducible refine Kd.C_alloc ?_ _) | (with_reducible refine Kd.C_drewN ?_ _) | (with_reducible refine Kd.C_drew ?_)))
 (case side2 => exact (Kd.R_reads' HO1126.out).2.1)
 (case side3 => repeat (first | exact (Kd.R_reads' HO1135.out).2.2 | (with_reducible refine Kd.C_alloc ?_ _) | (with_reducible refine Kd.C_drewN ?_ _) | (with_reducible refine Kd.C_drew ?_)))
 (case side4 => exact (Kd.R_reads' HO1135.out).2.1)
 rintro e w37 ⟨rfl,hb⟩;refine ⟨_,rfl,?_⟩;have n0_:=I (Kd.R_below (by (with_reducible repeat (first | apply Kd.R_alloc | apply Kd.R_drewN | apply Kd.R_drew)); exact HO1119.out) hb);have n1_:=I (Kd.R_below (by (with_reducible repeat (first | apply Kd.R_alloc | apply Kd.R_drewN | apply Kd.R_drew)); exact HO1122.out) hb);have n2_:=I (Kd.R_below (by (with_reducible repeat (first | apply Kd.R_alloc | apply Kd.R_drewN | apply Kd.R_drew)); exact HO1126.out) hb);have n3_:=I (Kd.R_below (by (with_reducible repeat (first | apply Kd.R_alloc | apply Kd.R_drewN | apply Kd.R_drew)); exact HO1130.out) hb);have n4_:=I (Kd.R_below (by (with_reducible repeat (first | apply Kd.R_alloc | apply Kd.R_drewN | apply Kd.R_drew)); exact HO1135.out) hb);have n5_:=I (blk_below (g:=gb1114) (o:=.cells #[.int .i64 a0_0,.slice A0_1 l0_1.length c0_1] 43 (0,0)) (by (with_reducible repeat (first | refine blk_drewN ?_ _ | refine blk_drew ?_ | refine blk_alloc ?_ _)); exact BK1114.out) hb);have n6_:=I (blk_below (g:=gb1127) (o:=.cells #[.int .i64 t1123,.slice Ao30 t1124.length co30] 34 (0,0)) (by (with_reducible repeat (first | refine blk_drewN ?_ _ | refine blk_drew ?_ | refine blk_alloc ?_ _)); exact BK1127.out) hb);have n7_:=I (below_step (by repeat (first | (with_reducible first | exact HB.out | apply below_alloc | apply pw_below_drewN | apply below_drew1 | refine below_set ?_ GE1114.out | refine below_set ?_ GE1127.out) | exact HB.out)) hb);clear HO1119;clear HO1122;clear HO1126;clear HO1130;clear HO1135;clear BK1114;clear BK1127;clear HB;have HO1119:=n0_;have HO1122:=n1_;have HO1126:=n2_;have HO1130:=n3_;have HO1135:=n4_;have BK1114:=n5_;have BK1127:=n6_;have HB:=n7_;clear n0_ n1_ n2_ n3_ n4_ n5_ n6_ n7_
 (try clear hb)
 (try clear hb2)
 (try clear hk)
 (try clear hi)
 refine hK.out _ _ ⟨(blk_cell BK1127.out 0).trans rfl,(blk_cell BK1127.out 1).trans rfl,(blk_cell BK1114.out 0).trans rfl,(blk_cell BK1114.out 1).trans rfl⟩ (fun hHeld => ?_);clear hK K;refine norm_ (a':=?_) ?_ ?_;rotate_left
 ·show Act.put _ (some 30) _ = _
  simp only [Act.put,J,U,O,i64_w,i32_w];rfl
 refine pure_ (i:=4) (N:=some 31) (v:=?_) (a':=?_) #[true,true,true,true,true] rfl rfl (by kernel_rfl) (fun _ _ _ h => h) (Or.inl ⟨by rfl,?_⟩) ?_ ?_;rotate_left
 ·intro w';go_simp;with_reducible rfl
 rotate_left
 ·simp only [Act.put,J,U,O,i64_w,i32_w];rfl
 refine done_ (by kernel_rfl) ?_;have hcz38_0 : w37.cell? ⟨gb1127,0,none⟩ = some (.int .i64 t1123):=(blk_cell BK1127.out 0).trans rfl;have hcz38_1 : w37.cell? ⟨gb1127,1,none⟩ = some (.slice Ao30 t1124.length co30):=(blk_cell BK1127.out 1).trans rfl;have hfz38_0:=blk_frozen BK1127.out 0;have hfz38_1:=blk_frozen BK1127.out 1
 go_upto_region 14 with (first | ((with_reducible refine gate_callee (f:=41) rfl ?_); refine goesL_ (some 34) rfl rfl Try.func41 (by kernel_rfl) rfl #[.agg #[.int .i64 t1123,.slice Ao30 t1124.length co30],.int .i64 1] rfl (by (try simp only [List.map_toArray,List.map_cons,List.map_nil]); first | done | rfl | (simp only [List.length_drop,List.length_take]; rfl)) ?_; (with_reducible refine (laws_markNet.calls k t1123 (fun k_ => some k_ = (.slice Ao30 t1124.length co30 : Value).ownBlock) (.slice Ao30 t1124.length co30) t1124 1 t1137 t1138 w _ ?side1 ?side2 A16.out).mono ?_); (case side1 => repeat (first | (with_reducible first | exact HB.out | apply below_alloc | apply pw_below_drewN | apply below_drew1 | refine below_set ?_ GE1114.out | refine below_set ?_ GE1127.out) | exact HB.out)); (case side2 => exact Kd.R_tight rfl HO1126.out); rintro e w39 ⟨rfl,hy0,hb,hkp⟩; refine ⟨_,rfl,?_⟩; have n0_:=I (blk_kept (by (with_reducible repeat (first | refine blk_drewN ?_ _ | refine blk_drew ?_ | refine blk_alloc ?_ _)); exact BK1114.out) hkp (fun hs_ => (fun e_ => (Kd.R_ne HO1126.out BK1114.out (by decide)) e_) hs_)); have n1_:=I (Kd.R_mono (ok':=fun k_ => some k_ ≠ (.slice Ao30 t1124.length co30 : Value).ownBlock ∧ some k_ ≠ (.slice Ao36 t1133.length co36 : Value).ownBlock) (Kd.R_keptB (HO1119.out) hkp (by intro k_ hk_ hs_; first | exact (hk_.1.2) hs_ | exact (hk_.1) hs_)) (by intro k_ hk_; first | exact ⟨hk_.1.1.2,hk_.1.2⟩ | exact ⟨hk_.1.1,hk_.1.2⟩)); have n2_:=I (Kd.R_mono (ok':=fun k_ => some k_ ≠ (.slice Ao32 t1128.length co32 : Value).ownBlock) (Kd.R_keptB ((Kd.R_apart' HO1122.out (Kd.R_typed HO1126.out) (by decide))) hkp (fun k_ hk_ hs_ => (hk_.2) hs_)) (by intro k_ hk_; first | exact hk_.1.1.2 | exact hk_.1.1)); have n3_:=I (Kd.R_reok rfl hy0 (fun k_ e_ => HO1126.out.1 k_ e_)); have n4_:=I (blk_kept (by (with_reducible repeat (first | refine blk_drewN ?_ _ | refine blk_drew ?_ | refine blk_alloc ?_ _)); exact BK1127.out) hkp (fun hs_ => (fun e_ => (Kd.R_ne HO1126.out BK1127.out (by decide)) e_) hs_)); have n5_:=I (Kd.R_mono (ok':=fun k_ => some k_ ≠ (.slice Ao33 t1120.length co33 : Value).ownBlock) (Kd.R_keptB ((Kd.R_apart' HO1130.out (Kd.R_typed HO1126.out) (by decide))) hkp (fun k_ hk_ hs_ => (hk_.2) hs_)) (by intro k_ hk_; first | exact hk_.1.1.2 | exact hk_.1.1)); have n6_:=I (Kd.R_mono (ok':=fun k_ => some k_ ≠ (.slice Ao23 t1117.length co23 : Value).ownBlock ∧ some k_ ≠ (.slice Ao30 t1124.length co30 : Value).ownBlock) (Kd.R_keptB (HO1135.out) hkp (fun k_ hk_ hs_ => (hk_.2) hs_)) (by intro k_ hk_; first | exact ⟨hk_.1.1.2,hk_.1.2⟩ | exact ⟨hk_.1.1,hk_.1.2⟩)); have n7_:=I (hb); clear BK1114; clear HO1119; clear HO1122; clear HO1126; clear BK1127; clear HO1130; clear HO1135; clear HB; have BK1114:=n0_; have HO1119:=n1_; have HO1122:=n2_; have HO1126:=n3_; have BK1127:=n4_; have HO1130:=n5_; have HO1135:=n6_; have HB:=n7_; clear n0_ n1_ n2_ n3_ n4_ n5_ n6_ n7_; (try clear hb); (try clear hkp); (try clear hy0)))
 (try simp only [Act.put,J,U,O])
 go_cut [42] (fun v42 wc => ∃ (kq : Nat) (x42_16 : Bool),v42 = .bool x42_16 ∧ Aside0 (laws_FnExactTreeBest.j0 kq t1120 t1128 x42_16 a0_0 l0_1 = some r) ∧ Aside0 (kq ≤ k) ∧ Aside0 (Kd.R (Kd.int .i64) 3 wc w.heap.size (fun k_ => some k_ ≠ ((.slice Ao32 t1128.length co32) : Value).ownBlock) (.slice Ao33 t1120.length co33) t1120) ∧ Aside0 (Kd.R (Kd.int .i64) 3 wc w.heap.size (fun k_ => some k_ ≠ ((.slice Ao33 t1120.length co33) : Value).ownBlock) (.slice Ao32 t1128.length co32) t1128) ∧ Aside0 (Kd.R k58 58 wc w.heap.size (fun _ => True) (.slice Ao30 t1124.length co30) t1138) ∧ Aside0 (wc.heap[gb1114]? = some (.cells #[.int .i64 a0_0,(.slice A0_1 l0_1.length c0_1)] 43 (0,0))) ∧ Aside0 (wc.heap[gb1127]? = some (.cells #[.int .i64 t1123,(.slice Ao30 t1124.length co30)] 34 (0,0))) ∧ Aside0 (Below w.heap.size w wc))
 case first =>
  have H:=HC17.out;clear HC17
  by_cases c40 : t1137 < 0
  case pos =>
   rw [if_pos c40] at H;have c40b0 : decide (t1137 < 0) = true:=decide_eq_true c40;clear c40
   (first | rw [c40b0] | (simp only [i64_w,i32_w]; rw [c40b0]) | skip)
   have H':=I H;clear H
   go_wp2
   go_meet
   case rel => exact ⟨_,(true),(by first | rfl | (simp; done) | (simp [*]; done)),H',⟨by first | omega | exact Nat.le_refl _⟩,⟨by (with_reducible repeat (first | apply Kd.R_alloc | apply Kd.R_drewN | apply Kd.R_drew)); exact HO1122.out⟩,⟨by (with_reducible repeat (first | apply Kd.R_alloc | apply Kd.R_drewN | apply Kd.R_drew)); exact HO1130.out⟩,⟨by (with_reducible repeat (first | apply Kd.R_alloc | apply Kd.R_drewN | apply Kd.R_drew)); exact Kd.R_mono HO1126.out (fun _ hk => trivial)⟩,⟨by (with_reducible repeat (first | refine blk_drewN ?_ _ | refine blk_drew ?_ | refine blk_alloc ?_ _)); exact BK1114.out⟩,⟨by (with_reducible repeat (first | refine blk_drewN ?_ _ | refine blk_drew ?_ | refine blk_alloc ?_ _)); exact BK1127.out⟩,⟨by repeat (first | (with_reducible first | exact HB.out | apply below_alloc | apply pw_below_drewN | apply below_drew1 | refine below_set ?_ GE1114.out | refine below_set ?_ GE1127.out) | exact HB.out)⟩⟩
  rw [if_neg c40] at H;have c40b0 : decide (t1137 < 0) = false:=decide_eq_false c40;clear c40
  (first | rw [c40b0] | (simp only [i64_w,i32_w]; rw [c40b0]) | skip)
  replace H:=Option.bind_eq_some_iff.mp H;obtain ⟨t1139,A410,H⟩:=H;replace H : (laws_FnExactTreeBest.j0 k t1120 t1128 (!t1139) a0_0 l0_1) = some r:=H;have A41:=I A410;clear A410;have H':=I H;clear H
  go_wp2_with (first | (go_at_call 32; (with_reducible refine (laws_eqIntS.calls k _ _ t1128 _ _ t1120 t1139 _ ?side1 ?side2 ?side3 ?side4 A41.out).mono ?_); (case side1 => repeat (first | exact (Kd.R_reads' HO1130.out).2.2 | (with_reducible refine Kd.C_alloc ?_ _) | (with_reducible refine Kd.C_drewN ?_ _) | (with_reducible refine Kd.C_drew ?_))); (case side2 => exact (Kd.R_reads' HO1130.out).2.1); (case side3 => repeat (first | exact (Kd.R_reads' HO1122.out).2.2 | (with_reducible refine Kd.C_alloc ?_ _) | (with_reducible refine Kd.C_drewN ?_ _) | (with_reducible refine Kd.C_drew ?_))); (case side4 => exact (Kd.R_reads' HO1122.out).2.1); rintro e w' ⟨rfl,⟨nd,rfl⟩⟩))
  go_meet
  case rel => exact ⟨_,(!t1139),(by first | rfl | (simp; done) | (simp [*]; done)),H',⟨by first | omega | exact Nat.le_refl _⟩,⟨by (with_reducible repeat (first | apply Kd.R_alloc | apply Kd.R_drewN | apply Kd.R_drew)); exact HO1122.out⟩,⟨by (with_reducible repeat (first | apply Kd.R_alloc | apply Kd.R_drewN | apply Kd.R_drew)); exact HO1130.out⟩,⟨by (with_reducible repeat (first | apply Kd.R_alloc | apply Kd.R_drewN | apply Kd.R_drew)); exact Kd.R_mono HO1126.out (fun _ hk => trivial)⟩,⟨by (with_reducible repeat (first | refine blk_drewN ?_ _ | refine blk_drew ?_ | refine blk_alloc ?_ _)); exact BK1114.out⟩,⟨by (with_reducible repeat (first | refine blk_drewN ?_ _ | refine blk_drew ?_ | refine blk_alloc ?_ _)); exact BK1127.out⟩,⟨by repeat (first | (with_reducible first | exact HB.out | apply below_alloc | apply pw_below_drewN | apply below_drew1 | refine below_set ?_ GE1114.out | refine below_set ?_ GE1127.out) | exact HB.out)⟩⟩
 case rest =>
  clear HC17
  try clear c1
  try clear c2
  try clear p2
  try clear c3
  try clear c3b0
  try clear c4
  try clear c5
  try clear c11
  try clear c12
  try clear c15
  try clear c26
  try clear c28
  try clear c31
  try clear c32
  try clear c40
  try clear c40b0
  try clear c41
  try clear hcz19_0
  try clear hcz19_1
  try clear hcz21_0
  try clear hcz21_1
  try clear hcz25_0
  try clear hcz25_1
  try clear hcz29_0
  try clear hcz29_1
  try clear hcz38_0
  try clear hcz38_1
  try clear hcz5_0
  try clear hcz5_1
  try clear hfz19_0
  try clear hfz19_1
  try clear hfz21_0
  try clear hfz21_1
  try clear hfz25_0
  try clear hfz25_1
  try clear hfz29_0
  try clear hfz29_1
  try clear hfz38_0
  try clear hfz38_1
  try clear hfz5_0
  try clear hfz5_1
  obtain ⟨kq,x42_16,rfl,HA,HJ16,HO_4,HO_6,HO_1128001,BK1114,BK1127,HB⟩:=hcut;have hl1128001_16:=(Kd.R_reads' HO_1128001.out).1;rw [hl1128001_16] at HO_1128001
  (try simp only [hl1128001_16])
  (try simp only [hl1128001_16] at BK1114)
  (try simp only [hl1128001_16] at BK1127)
  (try simp only [hl1128001_16] at HO_4)
  (try simp only [hl1128001_16] at HO_6)
  cases kq with
  | zero => exact absurd HA.out (by simp [laws_FnExactTreeBest.j0])
  | succ kj16 =>
   have H:=HA.out;clear HA;simp only [laws_FnExactTreeBest.j0] at H
   by_cases c42 : x42_16 = true
   case pos =>
    subst c42;have H1 : (some false) = some r:=by rw [if_pos rfl] at H; exact H
    exact absurd ((Option.some.inj H1).trans HRT_.out) (by decide)
   replace c42:=Bool.eq_false_iff.mpr c42;subst c42;have H1 : ((laws_markIntS.f kj16 t1128 1).bind fun bt1140 => ((laws_heldIntS.f kj16 bt1140.2 1).bind fun t1142 => (if t1142 < 0 then (some false) else (if t1142 = bt1140.1 then ((laws_toNet.f kj16 a0_0 l0_1).bind fun bt1143 => ((impl_TreeBest.f kj16 bt1143.1 bt1143.2).bind fun t1147 => ((laws_eqIntS.f kj16 t1147 t1120).bind fun t1150 => (if t1150 = true then ((laws_heldIntS.f kj16 bt1140.2 1).bind fun t1151 => (if t1151 < 0 then (some false) else (if t1151 = bt1140.1 then (some true) else (some false)))) else (some false))))) else (some false))))) = some r:=by rw [if_neg (show ¬ (false = true) by decide)] at H; exact H
   clear H;have H:=H1;clear H1;replace H:=Option.bind_eq_some_iff.mp H;obtain ⟨⟨t1140,t1141⟩,A430,H⟩:=H;replace H : ((laws_heldIntS.f kj16 t1141 1).bind fun t1142 => (if t1142 < 0 then (some false) else (if t1142 = t1140 then ((laws_toNet.f kj16 a0_0 l0_1).bind fun bt1143 => ((impl_TreeBest.f kj16 bt1143.1 bt1143.2).bind fun t1147 => ((laws_eqIntS.f kj16 t1147 t1120).bind fun t1150 => (if t1150 = true then ((laws_heldIntS.f kj16 t1141 1).bind fun t1151 => (if t1151 < 0 then (some false) else (if t1151 = t1140 then (some true) else (some false)))) else (some false))))) else (some false)))) = some r:=H;have A43:=I A430;clear A430;replace H:=Option.bind_eq_some_iff.mp H;obtain ⟨t1142,A440,H⟩:=H;replace H : (if t1142 < 0 then (some false) else (if t1142 = t1140 then ((laws_toNet.f kj16 a0_0 l0_1).bind fun bt1143 => ((impl_TreeBest.f kj16 bt1143.1 bt1143.2).bind fun t1147 => ((laws_eqIntS.f kj16 t1147 t1120).bind fun t1150 => (if t1150 = true then ((laws_heldIntS.f kj16 t1141 1).bind fun t1151 => (if t1151 < 0 then (some false) else (if t1151 = t1140 then (some true) else (some false)))) else (some false))))) else (some false))) = some r:=H;have A44:=I A440;clear A440
   by_cases c45 : t1142 < 0
   case pos =>
    rw [if_pos c45] at H;have c45b0 : decide (t1142 < 0) = true:=decide_eq_true c45;clear c45;obtain rfl:=Option.some.inj H
    go_wp2_with (first | ((with_reducible refine gate_callee (f:=42) rfl ?_); refine goesL_ (some 45) rfl rfl Try.func42 (by kernel_rfl) rfl #[.slice Ao32 t1128.length co32,.int .i64 1] rfl (by (try simp only [List.map_toArray,List.map_cons,List.map_nil]); first | done | rfl | (simp only [List.length_drop,List.length_take]; rfl)) ?_; (with_reducible refine (laws_markIntS.calls kj16 (fun k_ => some k_ = (.slice Ao32 t1128.length co32 : Value).ownBlock) (.slice Ao32 t1128.length co32) t1128 1 t1140 t1141 w _ ?side1 ?side2 A43.out).mono ?_); (case side1 => repeat (first | (with_reducible first | exact HB.out | apply below_alloc | apply pw_below_drewN | apply below_drew1 | refine below_set ?_ GE1114.out | refine below_set ?_ GE1127.out) | exact HB.out)); (case side2 => exact Kd.R_tight rfl HO_6.out); rintro e w46 ⟨rfl,hy0,hb,hkp⟩; refine ⟨_,rfl,?_⟩; have n0_:=I (Kd.R_mono (ok':=fun k_ => some k_ ≠ (.slice Ao32 t1128.length co32 : Value).ownBlock) (Kd.R_keptB (HO_4.out) hkp (fun k_ hk_ hs_ => (hk_) hs_)) (fun k_ hk_ => hk_.1)); have n1_:=I (Kd.R_reok rfl hy0 (fun k_ e_ => HO_6.out.1 k_ e_)); have n2_:=I (Kd.R_mono (ok':=fun k_ => True) (Kd.R_keptB ((Kd.R_apart' HO_1128001.out (Kd.R_typed HO_6.out) (by decide))) hkp (fun k_ hk_ hs_ => (hk_.2) hs_)) (fun k_ hk_ => trivial)); have n3_:=I (blk_kept (by (with_reducible repeat (first | refine blk_drewN ?_ _ | refine blk_drew ?_ | refine blk_alloc ?_ _)); exact BK1114.out) hkp (fun hs_ => (fun e_ => (Kd.R_ne HO_6.out BK1114.out (by decide)) e_) hs_)); have n4_:=I (blk_kept (by (with_reducible repeat (first | refine blk_drewN ?_ _ | refine blk_drew ?_ | refine blk_alloc ?_ _)); exact BK1127.out) hkp (fun hs_ => (fun e_ => (Kd.R_ne HO_6.out BK1127.out (by decide)) e_) hs_)); have n5_:=I (hb); clear HO_4; clear HO_6; clear HO_1128001; clear BK1114; clear BK1127; clear HB; have HO_4:=n0_; have HO_6:=n1_; have HO_1128001:=n2_; have BK1114:=n3_; have BK1127:=n4_; have HB:=n5_; clear n0_ n1_ n2_ n3_ n4_ n5_; (try clear hb); (try clear hkp); (try clear hy0)) | ((with_reducible refine gate_callee (f:=43) rfl ?_); refine goesL_ (some 48) rfl rfl Try.func43 (by kernel_rfl) rfl #[.slice Ao32 t1141.length co32,.int .i64 1] rfl (by (try simp only [List.map_toArray,List.map_cons,List.map_nil]); first | done | (rw [show t1141.length = t1128.length from (Kd.R_reads' HO_6.out).1.symm] <;> rfl) | rfl | (simp only [List.length_drop,List.length_take]; rfl)) ?_; (with_reducible refine (laws_heldIntS.calls kj16 _ _ t1141 1 t1142 _ ?side1 ?side2 A44.out).mono ?_); (case side1 => repeat (first | exact (Kd.R_reads' HO_6.out).2.2 | (with_reducible refine Kd.C_alloc ?_ _) | (with_reducible refine Kd.C_drewN ?_ _) | (with_reducible refine Kd.C_drew ?_))); (case side2 => rw [show t1141.length = t1128.length from (Kd.R_reads' HO_6.out).1.symm]; exact (Kd.R_reads' HO_6.out).2.1); rintro e w' ⟨rfl,⟨nd,rfl⟩⟩; refine ⟨_,rfl,?_⟩))
    go_ret;exact ⟨by first | rfl | (simp [errW_none,errW_some] <;> rfl) | (simp [*,errW_none,errW_some] <;> rfl),by repeat (first | (with_reducible first | exact HB.out | apply below_alloc | apply pw_below_drewN | apply below_drew1 | refine below_set ?_ GE1114.out | refine below_set ?_ GE1127.out) | exact HB.out)⟩
   rw [if_neg c45] at H;have c45b0 : decide (t1142 < 0) = false:=decide_eq_false c45;clear c45
   by_cases c47 : t1142 = t1140
   case neg =>
    rw [if_neg c47] at H;have c47b0 : (t1142 == t1140) = false:=beq_eq_false_iff_ne.mpr c47;have c47b1 : (t1142 != t1140) = true:=bne_iff_ne.mpr c47;obtain rfl:=Option.some.inj H
    go_wp2_with (first | ((with_reducible refine gate_callee (f:=42) rfl ?_); refine goesL_ (some 45) rfl rfl Try.func42 (by kernel_rfl) rfl #[.slice Ao32 t1128.length co32,.int .i64 1] rfl (by (try simp only [List.map_toArray,List.map_cons,List.map_nil]); first | done | rfl | (simp only [List.length_drop,List.length_take]; rfl)) ?_; (with_reducible refine (laws_markIntS.calls kj16 (fun k_ => some k_ = (.slice Ao32 t1128.length co32 : Value).ownBlock) (.slice Ao32 t1128.length co32) t1128 1 t1140 t1141 w _ ?side1 ?side2 A43.out).mono ?_); (case side1 => repeat (first | (with_reducible first | exact HB.out | apply below_alloc | apply pw_below_drewN | apply below_drew1 | refine below_set ?_ GE1114.out | refine below_set ?_ GE1127.out) | exact HB.out)); (case side2 => exact Kd.R_tight rfl HO_6.out); rintro e w83 ⟨rfl,hy0,hb,hkp⟩; refine ⟨_,rfl,?_⟩; have n0_:=I (Kd.R_mono (ok':=fun k_ => some k_ ≠ (.slice Ao32 t1128.length co32 : Value).ownBlock) (Kd.R_keptB (HO_4.out) hkp (fun k_ hk_ hs_ => (hk_) hs_)) (fun k_ hk_ => hk_.1)); have n1_:=I (Kd.R_reok rfl hy0 (fun k_ e_ => HO_6.out.1 k_ e_)); have n2_:=I (Kd.R_mono (ok':=fun k_ => True) (Kd.R_keptB ((Kd.R_apart' HO_1128001.out (Kd.R_typed HO_6.out) (by decide))) hkp (fun k_ hk_ hs_ => (hk_.2) hs_)) (fun k_ hk_ => trivial)); have n3_:=I (blk_kept (by (with_reducible repeat (first | refine blk_drewN ?_ _ | refine blk_drew ?_ | refine blk_alloc ?_ _)); exact BK1114.out) hkp (fun hs_ => (fun e_ => (Kd.R_ne HO_6.out BK1114.out (by decide)) e_) hs_)); have n4_:=I (blk_kept (by (with_reducible repeat (first | refine blk_drewN ?_ _ | refine blk_drew ?_ | refine blk_alloc ?_ _)); exact BK1127.out) hkp (fun hs_ => (fun e_ => (Kd.R_ne HO_6.out BK1127.out (by decide)) e_) hs_)); have n5_:=I (hb); clear HO_4; clear HO_6; clear HO_1128001; clear BK1114; clear BK1127; clear HB; have HO_4:=n0_; have HO_6:=n1_; have HO_1128001:=n2_; have BK1114:=n3_; have BK1127:=n4_; have HB:=n5_; clear n0_ n1_ n2_ n3_ n4_ n5_; (try clear hb); (try clear hkp); (try clear hy0)) | ((with_reducible refine gate_callee (f:=43) rfl ?_); refine goesL_ (some 48) rfl rfl Try.func43 (by kernel_rfl) rfl #[.slice Ao32 t1141.length co32,.int .i64 1] rfl (by (try simp only [List.map_toArray,List.map_cons,List.map_nil]); first | done | (rw [show t1141.length = t1128.length from (Kd.R_reads' HO_6.out).1.symm] <;> rfl) | rfl | (simp only [List.length_drop,List.length_take]; rfl)) ?_; (with_reducible refine (laws_heldIntS.calls kj16 _ _ t1141 1 t1142 _ ?side1 ?side2 A44.out).mono ?_); (case side1 => repeat (first | exact (Kd.R_reads' HO_6.out).2.2 | (with_reducible refine Kd.C_alloc ?_ _) | (with_reducible refine Kd.C_drewN ?_ _) | (with_reducible refine Kd.C_drew ?_))); (case side2 => rw [show t1141.length = t1128.length from (Kd.R_reads' HO_6.out).1.symm]; exact (Kd.R_reads' HO_6.out).2.1); rintro e w' ⟨rfl,⟨nd,rfl⟩⟩; refine ⟨_,rfl,?_⟩))
    go_ret;exact ⟨by first | rfl | (simp [errW_none,errW_some] <;> rfl) | (simp [*,errW_none,errW_some] <;> rfl),by repeat (first | (with_reducible first | exact HB.out | apply below_alloc | apply pw_below_drewN | apply below_drew1 | refine below_set ?_ GE1114.out | refine below_set ?_ GE1127.out) | exact HB.out)⟩
   rw [if_pos c47] at H;have c47b0 : (t1142 == t1140) = true:=beq_iff_eq.mpr c47;have c47b1 : (t1142 != t1140) = false:=bne_eq_false_iff_eq.mpr c47;clear c47;replace H:=Option.bind_eq_some_iff.mp H;obtain ⟨⟨t1143,t1144⟩,A480,H⟩:=H;replace H : ((impl_TreeBest.f kj16 t1143 t1144).bind fun t1147 => ((laws_eqIntS.f kj16 t1147 t1120).bind fun t1150 => (if t1150 = true then ((laws_heldIntS.f kj16 t1141 1).bind fun t1151 => (if t1151 < 0 then (some false) else (if t1151 = t1140 then (some true) else (some false)))) else (some false)))) = some r:=H;have A48:=I A480;clear A480;replace H:=Option.bind_eq_some_iff.mp H;obtain ⟨t1147,A490,H⟩:=H;replace H : ((laws_eqIntS.f kj16 t1147 t1120).bind fun t1150 => (if t1150 = true then ((laws_heldIntS.f kj16 t1141 1).bind fun t1151 => (if t1151 < 0 then (some false) else (if t1151 = t1140 then (some true) else (some false)))) else (some false))) = some r:=H;have A49:=I A490;clear A490;replace H:=Option.bind_eq_some_iff.mp H;obtain ⟨t1150,A500,H⟩:=H;replace H : (if t1150 = true then ((laws_heldIntS.f kj16 t1141 1).bind fun t1151 => (if t1151 < 0 then (some false) else (if t1151 = t1140 then (some true) else (some false)))) else (some false)) = some r:=H;have A50:=I A500;clear A500
   by_cases c51 : t1150 = true
   case neg =>
    replace c51:=Bool.eq_false_iff.mpr c51;subst c51;have H1 : (some false) = some r:=by rw [if_neg (show ¬ (false = true) by decide)] at H; exact H
    exact absurd ((Option.some.inj H1).trans HRT_.out) (by decide)
   subst c51;have H1 : ((laws_heldIntS.f kj16 t1141 1).bind fun t1151 => (if t1151 < 0 then (some false) else (if t1151 = t1140 then (some true) else (some false)))) = some r:=by rw [if_pos rfl] at H; exact H
   clear H;have H:=H1;clear H1;replace H:=Option.bind_eq_some_iff.mp H;obtain ⟨t1151,A520,H⟩:=H;replace H : (if t1151 < 0 then (some false) else (if t1151 = t1140 then (some true) else (some false))) = some r:=H;have A52:=I A520;clear A520
   by_cases c53 : t1151 < 0
   case pos =>
    rw [if_pos c53] at H;have c53b0 : decide (t1151 < 0) = true:=decide_eq_true c53;clear c53;obtain rfl:=Option.some.inj H
    go_wp2_with (first | ((with_reducible refine gate_callee (f:=42) rfl ?_); refine goesL_ (some 45) rfl rfl Try.func42 (by kernel_rfl) rfl #[.slice Ao32 t1128.length co32,.int .i64 1] rfl (by (try simp only [List.map_toArray,List.map_cons,List.map_nil]); first | done | rfl | (simp only [List.length_drop,List.length_take]; rfl)) ?_; (with_reducible refine (laws_markIntS.calls kj16 (fun k_ => some k_ = (.slice Ao32 t1128.length co32 : Value).ownBlock) (.slice Ao32 t1128.length co32) t1128 1 t1140 t1141 w _ ?side1 ?side2 A43.out).mono ?_); (case side1 => repeat (first | (with_reducible first | exact HB.out | apply below_alloc | apply pw_below_drewN | apply below_drew1 | refine below_set ?_ GE1114.out | refine below_set ?_ GE1127.out) | exact HB.out)); (case side2 => exact Kd.R_tight rfl HO_6.out); rintro e w54 ⟨rfl,hy0,hb,hkp⟩; refine ⟨_,rfl,?_⟩; have n0_:=I (Kd.R_mono (ok':=fun k_ => some k_ ≠ (.slice Ao32 t1128.length co32 : Value).ownBlock) (Kd.R_keptB (HO_4.out) hkp (fun k_ hk_ hs_ => (hk_) hs_)) (fun k_ hk_ => hk_.1)); have n1_:=I (Kd.R_reok rfl hy0 (fun k_ e_ => HO_6.out.1 k_ e_)); have n2_:=I (Kd.R_mono (ok':=fun k_ => True) (Kd.R_keptB ((Kd.R_apart' HO_1128001.out (Kd.R_typed HO_6.out) (by decide))) hkp (fun k_ hk_ hs_ => (hk_.2) hs_)) (fun k_ hk_ => trivial)); have n3_:=I (blk_kept (by (with_reducible repeat (first | refine blk_drewN ?_ _ | refine blk_drew ?_ | refine blk_alloc ?_ _)); exact BK1114.out) hkp (fun hs_ => (fun e_ => (Kd.R_ne HO_6.out BK1114.out (by decide)) e_) hs_)); have n4_:=I (blk_kept (by (with_reducible repeat (first | refine blk_drewN ?_ _ | refine blk_drew ?_ | refine blk_alloc ?_ _)); exact BK1127.out) hkp (fun hs_ => (fun e_ => (Kd.R_ne HO_6.out BK1127.out (by decide)) e_) hs_)); have n5_:=I (hb); clear HO_4; clear HO_6; clear HO_1128001; clear BK1114; clear BK1127; clear HB; have HO_4:=n0_; have HO_6:=n1_; have HO_1128001:=n2_; have BK1114:=n3_; have BK1127:=n4_; have HB:=n5_; clear n0_ n1_ n2_ n3_ n4_ n5_; (try clear hb); (try clear hkp); (try clear hy0)) | ((with_reducible refine gate_callee (f:=43) rfl ?_); refine goesL_ (some 48) rfl rfl Try.func43 (by kernel_rfl) rfl #[.slice Ao32 t1141.length co32,.int .i64 1] rfl (by (try simp only [List.map_toArray,List.map_cons,List.map_nil]); first | done | (rw [show t1141.length = t1128.length from (Kd.R_reads' HO_6.out).1.symm] <;> rfl) | rfl | (simp only [List.length_drop,List.length_take]; rfl)) ?_; (with_reducible refine (laws_heldIntS.calls kj16 _ _ t1141 1 t1142 _ ?side1 ?side2 A44.out).mono ?_); (case side1 => repeat (first | exact (Kd.R_reads' HO_6.out).2.2 | (with_reducible refine Kd.C_alloc ?_ _) | (with_reducible refine Kd.C_drewN ?_ _) | (with_reducible refine Kd.C_drew ?_))); (case side2 => rw [show t1141.length = t1128.length from (Kd.R_reads' HO_6.out).1.symm]; exact (Kd.R_reads' HO_6.out).2.1); rintro e w' ⟨rfl,⟨nd,rfl⟩⟩; refine ⟨_,rfl,?_⟩; have hnb55:=NB1114_1127.out; have hnc55:=NB1127_1114.out; have hcz56_0 : w54.cell? ⟨gb1114,0,none⟩ = some (.int .i64 a0_0):=(blk_cell BK1114.out 0).trans rfl; have hcz56_1 : w54.cell? ⟨gb1114,1,none⟩ = some (.slice A0_1 l0_1.length c0_1):=(blk_cell BK1114.out 1).trans rfl; have hfz56_0:=blk_frozen BK1114.out 0; have hfz56_1:=blk_frozen BK1114.out 1) | ((with_reducible refine gate_callee (f:=28) rfl ?_); refine goesL_ (some 55) rfl rfl Try.func28 (by kernel_rfl) rfl #[.agg #[.int .i64 a0_0,.slice A0_1 l0_1.length c0_1]] rfl (by (try simp only [List.map_toArray,List.map_cons,List.map_nil]); first | done | rfl | (simp only [List.length_drop,List.length_take]; rfl)) ?_; (with_reducible refine (laws_toNet.calls kj16 a0_0 _ _ l0_1 t1143 t1144 _ ?side1 ?side2 A48.out).mono ?_); (case side1 => repeat (first | exact (Kd.C_below HR0_1.out (by repeat (first | (with_reducible first | exact HB.out | apply below_alloc | apply pw_below_drewN | apply below_drew1 | refine below_set ?_ GE1114.out | refine below_set ?_ GE1127.out) | exact HB.out))) | (with_reducible refine Kd.C_alloc ?_ _) | (with_reducible refine Kd.C_drewN ?_ _) | (with_reducible refine Kd.C_drew ?_))); (case side2 => exact HC0_1.out); rintro e w57 ⟨v1145,rfl,ho0,hb⟩; refine ⟨_,rfl,?_⟩; have n0_:=I (Kd.R_below (by (with_reducible repeat (first | apply Kd.R_alloc | apply Kd.R_drewN | apply Kd.R_drew)); exact HO_4.out) hb); have n1_:=I (Kd.R_below (by (with_reducible repeat (first | apply Kd.R_alloc | apply Kd.R_drewN | apply Kd.R_drew)); exact HO_6.out) hb); have n2_:=I (Kd.R_elder' (by (with_reducible repeat (first | apply Kd.R_alloc | apply Kd.R_drewN | apply Kd.R_drew)); exact HO_1128001.out) (Kd.R_base ho0) hb); have n3_:=I (Kd.R_lower (Kd.R_new' ho0 (Kd.R_lt (by (with_reducible repeat (first | apply Kd.R_alloc | apply Kd.R_drewN | apply Kd.R_drew)); exact HO_1128001.out))) (below_size (by repeat (first | (with_reducible first | exact HB.out | apply below_alloc | apply pw_below_drewN | apply below_drew1 | refine below_set ?_ GE1114.out | refine below_set ?_ GE1127.out) | exact HB.out)))); have n4_:=I (blk_below (g:=gb1114) (o:=.cells #[.int .i64 a0_0,.slice A0_1 l0_1.length c0_1] 43 (0,0)) (by (with_reducible repeat (first | refine blk_drewN ?_ _ | refine blk_drew ?_ | refine blk_alloc ?_ _)); exact BK1114.out) hb); have n5_:=I (blk_below (g:=gb1127) (o:=.cells #[.int .i64 t1123,.slice Ao30 t1138.length co30] 34 (0,0)) (by (with_reducible repeat (first | refine blk_drewN ?_ _ | refine blk_drew ?_ | refine blk_alloc ?_ _)); exact BK1127.out) hb); have n6_:=I (below_step (by repeat (first | (with_reducible first | exact HB.out | apply below_alloc | apply pw_below_drewN | apply below_drew1 | refine below_set ?_ GE1114.out | refine below_set ?_ GE1127.out) | exact HB.out)) hb); clear HO_4; clear HO_6; clear HO_1128001; clear BK1114; clear BK1127; clear HB; have HO_4:=n0_; have HO_6:=n1_; have HO_1128001:=n2_; have HO1146:=n3_; have BK1114:=n4_; have BK1127:=n5_; have HB:=n6_; clear n0_ n1_ n2_ n3_ n4_ n5_ n6_; (try clear hb); (try clear hb2); (try clear hk); (try clear hi); (try clear ho0); obtain ⟨Ao58,co58,eo58⟩:=Kd.R_slice HO1146.out; subst eo58) | ((with_reducible refine gate_callee (f:=49) rfl ?_); refine goesL_ (some 56) rfl rfl Try.func49 (by kernel_rfl) rfl #[.agg #[.int .i64 t1143,.slice Ao58 t1144.length co58]] rfl (by (try simp only [List.map_toArray,List.map_cons,List.map_nil]); first | done | rfl | (simp only [List.length_drop,List.length_take]; rfl)) ?_; (with_reducible refine (impl_TreeBest.calls kj16 t1143 _ _ t1144 t1147 _ ?side1 ?side2 A49.out).mono ?_); (case side1 => repeat (first | exact (Kd.R_reads' HO1146.out).2.2 | (with_reducible refine Kd.C_alloc ?_ _) | (with_reducible refine Kd.C_drewN ?_ _) | (with_reducible refine Kd.C_drew ?_))); (case side2 => exact (Kd.R_reads' HO1146.out).2.1); rintro e w59 ⟨v1148,rfl,ho0,hb⟩; refine ⟨_,rfl,?_⟩; have n0_:=I (Kd.R_elder' (by (with_reducible repeat (first | apply Kd.R_alloc | apply Kd.R_drewN | apply Kd.R_drew)); exact HO_4.out) (Kd.R_base ho0) hb); have n1_:=I (Kd.R_elder' (by (with_reducible repeat (first | apply Kd.R_alloc | apply Kd.R_drewN | apply Kd.R_drew)); exact HO_6.out) (Kd.R_base ho0) hb); have n2_:=I (Kd.R_below (by (with_reducible repeat (first | apply Kd.R_alloc | apply Kd.R_drewN | apply Kd.R_drew)); exact HO_1128001.out) hb); have n3_:=I (Kd.R_below (by (with_reducible repeat (first | apply Kd.R_alloc | apply Kd.R_drewN | apply Kd.R_drew)); exact HO1146.out) hb); have n4_:=I (Kd.R_lower (Kd.R_new' (Kd.R_new' ho0 (Kd.R_lt (by (with_reducible repeat (first | apply Kd.R_alloc | apply Kd.R_drewN | apply Kd.R_drew)); exact HO_4.out))) (Kd.R_lt (by (with_reducible repeat (first | apply Kd.R_alloc | apply Kd.R_drewN | apply Kd.R_drew)); exact HO_6.out))) (below_size (by repeat (first | (with_reducible first | exact HB.out | apply below_alloc | apply pw_below_drewN | apply below_drew1 | refine below_set ?_ GE1114.out | refine below_set ?_ GE1127.out) | exact HB.out)))); have n5_:=I (blk_below (g:=gb1114) (o:=.cells #[.int .i64 a0_0,.slice A0_1 l0_1.length c0_1] 43 (0,0)) (by (with_reducible repeat (first | refine blk_drewN ?_ _ | refine blk_drew ?_ | refine blk_alloc ?_ _)); exact BK1114.out) hb); have n6_:=I (blk_below (g:=gb1127) (o:=.cells #[.int .i64 t1123,.slice Ao30 t1138.length co30] 34 (0,0)) (by (with_reducible repeat (first | refine blk_drewN ?_ _ | refine blk_drew ?_ | refine blk_alloc ?_ _)); exact BK1127.out) hb); have n7_:=I (below_step (by repeat (first | (with_reducible first | exact HB.out | apply below_alloc | apply pw_below_drewN | apply below_drew1 | refine below_set ?_ GE1114.out | refine below_set ?_ GE1127.out) | exact HB.out)) hb); clear HO_4; clear HO_6; clear HO_1128001; clear HO1146; clear BK1114; clear BK1127; clear HB; have HO_4:=n0_; have HO_6:=n1_; have HO_1128001:=n2_; have HO1146:=n3_; have HO1149:=n4_; have BK1114:=n5_; have BK1127:=n6_; have HB:=n7_; clear n0_ n1_ n2_ n3_ n4_ n5_ n6_ n7_; (try clear hb); (try clear hb2); (try clear hk); (try clear hi); (try clear ho0); obtain ⟨Ao60,co60,eo60⟩:=Kd.R_slice HO1149.out; subst eo60) | ((with_reducible refine gate_callee (f:=32) rfl ?_); refine goesL_ (some 59) rfl rfl Try.func32 (by kernel_rfl) rfl #[.slice Ao60 t1147.length co60,.slice Ao33 t1120.length co33] rfl (by (try simp only [List.map_toArray,List.map_cons,List.map_nil]); first | done | rfl | (simp only [List.length_drop,List.length_take]; rfl)) ?_; (with_reducible refine (laws_eqIntS.calls kj16 _ _ t1147 _ _ t1120 true _ ?side1 ?side2 ?side3 ?side4 A50.out).mono ?_); (case side1 => repeat (first | exact (Kd.R_reads' HO1149.out).2.2 | (with_reducible refine Kd.C_alloc ?_ _) | (with_reducible refine Kd.C_drewN ?_ _) | (with_reducible refine Kd.C_drew ?_))); (case side2 => exact (Kd.R_reads' HO1149.out).2.1); (case side3 => repeat (first | exact (Kd.R_reads' HO_4.out).2.2 | (with_reducible refine Kd.C_alloc ?_ _) | (with_reducible refine Kd.C_drewN ?_ _) | (with_reducible refine Kd.C_drew ?_))); (case side4 => exact (Kd.R_reads' HO_4.out).2.1); rintro e w' ⟨rfl,⟨nd,rfl⟩⟩; refine ⟨_,rfl,?_⟩) | ((with_reducible refine gate_callee (f:=43) rfl ?_); refine goesL_ (some 63) rfl rfl Try.func43 (by kernel_rfl) rfl #[.slice Ao32 t1141.length co32,.int .i64 1] rfl (by (try simp only [List.map_toArray,List.map_cons,List.map_nil]); first | done | (rw [show t1141.length = t1128.length from (Kd.R_reads' HO_6.out).1.symm] <;> rfl) | rfl | (simp only [List.length_drop,List.length_take]; rfl)) ?_; (with_reducible refine (laws_heldIntS.calls kj16 _ _ t1141 1 t1151 _ ?side1 ?side2 A52.out).mono ?_); (case side1 => repeat (first | exact (Kd.R_reads' HO_6.out).2.2 | (with_reducible refine Kd.C_alloc ?_ _) | (with_reducible refine Kd.C_drewN ?_ _) | (with_reducible refine Kd.C_drew ?_))); (case side2 => rw [show t1141.length = t1128.length from (Kd.R_reads' HO_6.out).1.symm]; exact (Kd.R_reads' HO_6.out).2.1); rintro e w' ⟨rfl,⟨nd,rfl⟩⟩; refine ⟨_,rfl,?_⟩))
    go_ret;exact ⟨by first | rfl | (simp [errW_none,errW_some] <;> rfl) | (simp [*,errW_none,errW_some] <;> rfl),by repeat (first | (with_reducible first | exact HB.out | apply below_alloc | apply pw_below_drewN | apply below_drew1 | refine below_set ?_ GE1114.out | refine below_set ?_ GE1127.out) | exact HB.out)⟩
   rw [if_neg c53] at H;have c53b0 : decide (t1151 < 0) = false:=decide_eq_false c53;clear c53
   by_cases c61 : t1151 = t1140
   case neg =>
    rw [if_neg c61] at H;have c61b0 : (t1151 == t1140) = false:=beq_eq_false_iff_ne.mpr c61;have c61b1 : (t1151 != t1140) = true:=bne_iff_ne.mpr c61;obtain rfl:=Option.some.inj H
    go_wp2_with (first | ((with_reducible refine gate_callee (f:=42) rfl ?_); refine goesL_ (some 45) rfl rfl Try.func42 (by kernel_rfl) rfl #[.slice Ao32 t1128.length co32,.int .i64 1] rfl (by (try simp only [List.map_toArray,List.map_cons,List.map_nil]); first | done | rfl | (simp only [List.length_drop,List.length_take]; rfl)) ?_; (with_reducible refine (laws_markIntS.calls kj16 (fun k_ => some k_ = (.slice Ao32 t1128.length co32 : Value).ownBlock) (.slice Ao32 t1128.length co32) t1128 1 t1140 t1141 w _ ?side1 ?side2 A43.out).mono ?_); (case side1 => repeat (first | (with_reducible first | exact HB.out | apply below_alloc | apply pw_below_drewN | apply below_drew1 | refine below_set ?_ GE1114.out | refine below_set ?_ GE1127.out) | exact HB.out)); (case side2 => exact Kd.R_tight rfl HO_6.out); rintro e w69 ⟨rfl,hy0,hb,hkp⟩; refine ⟨_,rfl,?_⟩; have n0_:=I (Kd.R_mono (ok':=fun k_ => some k_ ≠ (.slice Ao32 t1128.length co32 : Value).ownBlock) (Kd.R_keptB (HO_4.out) hkp (fun k_ hk_ hs_ => (hk_) hs_)) (fun k_ hk_ => hk_.1)); have n1_:=I (Kd.R_reok rfl hy0 (fun k_ e_ => HO_6.out.1 k_ e_)); have n2_:=I (Kd.R_mono (ok':=fun k_ => True) (Kd.R_keptB ((Kd.R_apart' HO_1128001.out (Kd.R_typed HO_6.out) (by decide))) hkp (fun k_ hk_ hs_ => (hk_.2) hs_)) (fun k_ hk_ => trivial)); have n3_:=I (blk_kept (by (with_reducible repeat (first | refine blk_drewN ?_ _ | refine blk_drew ?_ | refine blk_alloc ?_ _)); exact BK1114.out) hkp (fun hs_ => (fun e_ => (Kd.R_ne HO_6.out BK1114.out (by decide)) e_) hs_)); have n4_:=I (blk_kept (by (with_reducible repeat (first | refine blk_drewN ?_ _ | refine blk_drew ?_ | refine blk_alloc ?_ _)); exact BK1127.out) hkp (fun hs_ => (fun e_ => (Kd.R_ne HO_6.out BK1127.out (by decide)) e_) hs_)); have n5_:=I (hb); clear HO_4; clear HO_6; clear HO_1128001; clear BK1114; clear BK1127; clear HB; have HO_4:=n0_; have HO_6:=n1_; have HO_1128001:=n2_; have BK1114:=n3_; have BK1127:=n4_; have HB:=n5_; clear n0_ n1_ n2_ n3_ n4_ n5_; (try clear hb); (try clear hkp); (try clear hy0)) | ((with_reducible refine gate_callee (f:=43) rfl ?_); refine goesL_ (some 48) rfl rfl Try.func43 (by kernel_rfl) rfl #[.slice Ao32 t1141.length co32,.int .i64 1] rfl (by (try simp only [List.map_toArray,List.map_cons,List.map_nil]); first | done | (rw [show t1141.length = t1128.length from (Kd.R_reads' HO_6.out).1.symm] <;> rfl) | rfl | (simp only [List.length_drop,List.length_take]; rfl)) ?_; (with_reducible refine (laws_heldIntS.calls kj16 _ _ t1141 1 t1142 _ ?side1 ?side2 A44.out).mono ?_); (case side1 => repeat (first | exact (Kd.R_reads' HO_6.out).2.2 | (with_reducible refine Kd.C_alloc ?_ _) | (with_reducible refine Kd.C_drewN ?_ _) | (with_reducible refine Kd.C_drew ?_))); (case side2 => rw [show t1141.length = t1128.length from (Kd.R_reads' HO_6.out).1.symm]; exact (Kd.R_reads' HO_6.out).2.1); rintro e w' ⟨rfl,⟨nd,rfl⟩⟩; refine ⟨_,rfl,?_⟩; have hnb70:=NB1114_1127.out; have hnc70:=NB1127_1114.out; have hcz71_0 : w69.cell? ⟨gb1114,0,none⟩ = some (.int .i64 a0_0):=(blk_cell BK1114.out 0).trans rfl; have hcz71_1 : w69.cell? ⟨gb1114,1,none⟩ = some (.slice A0_1 l0_1.length c0_1):=(blk_cell BK1114.out 1).trans rfl; have hfz71_0:=blk_frozen BK1114.out 0; have hfz71_1:=blk_frozen BK1114.out 1) | ((with_reducible refine gate_callee (f:=28) rfl ?_); refine goesL_ (some 55) rfl rfl Try.func28 (by kernel_rfl) rfl #[.agg #[.int .i64 a0_0,.slice A0_1 l0_1.length c0_1]] rfl (by (try simp only [List.map_toArray,List.map_cons,List.map_nil]); first | done | rfl | (simp only [List.length_drop,List.length_take]; rfl)) ?_; (with_reducible refine (laws_toNet.calls kj16 a0_0 _ _ l0_1 t1143 t1144 _ ?side1 ?side2 A48.out).mono ?_); (case side1 => repeat (first | exact (Kd.C_below HR0_1.out (by repeat (first | (with_reducible first | exact HB.out | apply below_alloc | apply pw_below_drewN | apply below_drew1 | refine below_set ?_ GE1114.out | refine below_set ?_ GE1127.out) | exact HB.out))) | (with_reducible refine Kd.C_alloc ?_ _) | (with_reducible refine Kd.C_drewN ?_ _) | (with_reducible refine Kd.C_drew ?_))); (case side2 => exact HC0_1.out); rintro e w72 ⟨v1145,rfl,ho0,hb⟩; refine ⟨_,rfl,?_⟩; have n0_:=I (Kd.R_below (by (with_reducible repeat (first | apply Kd.R_alloc | apply Kd.R_drewN | apply Kd.R_drew)); exact HO_4.out) hb); have n1_:=I (Kd.R_below (by (with_reducible repeat (first | apply Kd.R_alloc | apply Kd.R_drewN | apply Kd.R_drew)); exact HO_6.out) hb); have n2_:=I (Kd.R_elder' (by (with_reducible repeat (first | apply Kd.R_alloc | apply Kd.R_drewN | apply Kd.R_drew)); exact HO_1128001.out) (Kd.R_base ho0) hb); have n3_:=I (Kd.R_lower (Kd.R_new' ho0 (Kd.R_lt (by (with_reducible repeat (first | apply Kd.R_alloc | apply Kd.R_drewN | apply Kd.R_drew)); exact HO_1128001.out))) (below_size (by repeat (first | (with_reducible first | exact HB.out | apply below_alloc | apply pw_below_drewN | apply below_drew1 | refine below_set ?_ GE1114.out | refine below_set ?_ GE1127.out) | exact HB.out)))); have n4_:=I (blk_below (g:=gb1114) (o:=.cells #[.int .i64 a0_0,.slice A0_1 l0_1.length c0_1] 43 (0,0)) (by (with_reducible repeat (first | refine blk_drewN ?_ _ | refine blk_drew ?_ | refine blk_alloc ?_ _)); exact BK1114.out) hb); have n5_:=I (blk_below (g:=gb1127) (o:=.cells #[.int .i64 t1123,.slice Ao30 t1138.length co30] 34 (0,0)) (by (with_reducible repeat (first | refine blk_drewN ?_ _ | refine blk_drew ?_ | refine blk_alloc ?_ _)); exact BK1127.out) hb); have n6_:=I (below_step (by repeat (first | (with_reducible first | exact HB.out | apply below_alloc | apply pw_below_drewN | apply below_drew1 | refine below_set ?_ GE1114.out | refine below_set ?_ GE1127.out) | exact HB.out)) hb); clear HO_4; clear HO_6; clear HO_1128001; clear BK1114; clear BK1127; clear HB; have HO_4:=n0_; have HO_6:=n1_; have HO_1128001:=n2_; have HO1146:=n3_; have BK1114:=n4_; have BK1127:=n5_; have HB:=n6_; clear n0_ n1_ n2_ n3_ n4_ n5_ n6_; (try clear hb); (try clear hb2); (try clear hk); (try clear hi); (try clear ho0); obtain ⟨Ao73,co73,eo73⟩:=Kd.R_slice HO1146.out; subst eo73) | ((with_reducible refine gate_callee (f:=49) rfl ?_); refine goesL_ (some 56) rfl rfl Try.func49 (by kernel_rfl) rfl #[.agg #[.int .i64 t1143,.slice Ao73 t1144.length co73]] rfl (by (try simp only [List.map_toArray,List.map_cons,List.map_nil]); first | done | rfl | (simp only [List.length_drop,List.length_take]; rfl)) ?_; (with_reducible refine (impl_TreeBest.calls kj16 t1143 _ _ t1144 t1147 _ ?side1 ?side2 A49.out).mono ?_); (case side1 => repeat (first | exact (Kd.R_reads' HO1146.out).2.2 | (with_reducible refine Kd.C_alloc ?_ _) | (with_reducible refine Kd.C_drewN ?_ _) | (with_reducible refine Kd.C_drew ?_))); (case side2 => exact (Kd.R_reads' HO1146.out).2.1); rintro e w74 ⟨v1148,rfl,ho0,hb⟩; refine ⟨_,rfl,?_⟩; have n0_:=I (Kd.R_elder' (by (with_reducible repeat (first | apply Kd.R_alloc | apply Kd.R_drewN | apply Kd.R_drew)); exact HO_4.out) (Kd.R_base ho0) hb); have n1_:=I (Kd.R_elder' (by (with_reducible repeat (first | apply Kd.R_alloc | apply Kd.R_drewN | apply Kd.R_drew)); exact HO_6.out) (Kd.R_base ho0) hb); have n2_:=I (Kd.R_below (by (with_reducible repeat (first | apply Kd.R_alloc | apply Kd.R_drewN | apply Kd.R_drew)); exact HO_1128001.out) hb); have n3_:=I (Kd.R_below (by (with_reducible repeat (first | apply Kd.R_alloc | apply Kd.R_drewN | apply Kd.R_drew)); exact HO1146.out) hb); have n4_:=I (Kd.R_lower (Kd.R_new' (Kd.R_new' ho0 (Kd.R_lt (by (with_reducible repeat (first | apply Kd.R_alloc | apply Kd.R_drewN | apply Kd.R_drew)); exact HO_4.out))) (Kd.R_lt (by (with_reducible repeat (first | apply Kd.R_alloc | apply Kd.R_drewN | apply Kd.R_drew)); exact HO_6.out))) (below_size (by repeat (first | (with_reducible first | exact HB.out | apply below_alloc | apply pw_below_drewN | apply below_drew1 | refine below_set ?_ GE1114.out | refine below_set ?_ GE1127.out) | exact HB.out)))); have n5_:=I (blk_below (g:=gb1114) (o:=.cells #[.int .i64 a0_0,.slice A0_1 l0_1.length c0_1] 43 (0,0)) (by (with_reducible repeat (first | refine blk_drewN ?_ _ | refine blk_drew ?_ | refine blk_alloc ?_ _)); exact BK1114.out) hb); have n6_:=I (blk_below (g:=gb1127) (o:=.cells #[.int .i64 t1123,.slice Ao30 t1138.length co30] 34 (0,0)) (by (with_reducible repeat (first | refine blk_drewN ?_ _ | refine blk_drew ?_ | refine blk_alloc ?_ _)); exact BK1127.out) hb); have n7_:=I (below_step (by repeat (first | (with_reducible first | exact HB.out | apply below_alloc | apply pw_below_drewN | apply below_drew1 | refine below_set ?_ GE1114.out | refine below_set ?_ GE1127.out) | exact HB.out)) hb); clear HO_4; clear HO_6; clear HO_1128001; clear HO1146; clear BK1114; clear BK1127; clear HB; have HO_4:=n0_; have HO_6:=n1_; have HO_1128001:=n2_; have HO1146:=n3_; have HO1149:=n4_; have BK1114:=n5_; have BK1127:=n6_; have HB:=n7_; clear n0_ n1_ n2_ n3_ n4_ n5_ n6_ n7_; (try clear hb); (try clear hb2); (try clear hk); (try clear hi); (try clear ho0); obtain ⟨Ao75,co75,eo75⟩:=Kd.R_slice HO1149.out; subst eo75) | ((with_reducible refine gate_callee (f:=32) rfl ?_); refine goesL_ (some 59) rfl rfl Try.func32 (by kernel_rfl) rfl #[.slice Ao75 t1147.length co75,.slice Ao33 t1120.length co33] rfl (by (try simp only [List.map_toArray,List.map_cons,List.map_nil]); first | done | rfl | (simp only [List.length_drop,List.length_take]; rfl)) ?_; (with_reducible refine (laws_eqIntS.calls kj16 _ _ t1147 _ _ t1120 true _ ?side1 ?side2 ?side3 ?side4 A50.out).mono ?_); (case side1 => repeat (first | exact (Kd.R_reads' HO1149.out).2.2 | (with_reducible refine Kd.C_alloc ?_ _) | (with_reducible refine Kd.C_drewN ?_ _) | (with_reducible refine Kd.C_drew ?_))); (case side2 => exact (Kd.R_reads' HO1149.out).2.1); (case side3 => repeat (first | exact (Kd.R_reads' HO_4.out).2.2 | (with_reducible refine Kd.C_alloc ?_ _) | (with_reducible refine Kd.C_drewN ?_ _) | (with_reducible refine Kd.C_drew ?_))); (case side4 => exact (Kd.R_reads' HO_4.out).2.1); rintro e w' ⟨rfl,⟨nd,rfl⟩⟩; refine ⟨_,rfl,?_⟩) | ((with_reducible refine gate_callee (f:=43) rfl ?_); refine goesL_ (some 63) rfl rfl Try.func43 (by kernel_rfl) rfl #[.slice Ao32 t1141.length co32,.int .i64 1] rfl (by (try simp only [List.map_toArray,List.map_cons,List.map_nil]); first | done | (rw [show t1141.length = t1128.length from (Kd.R_reads' HO_6.out).1.symm] <;> rfl) | rfl | (simp only [List.length_drop,List.length_take]; rfl)) ?_; (with_reducible refine (laws_heldIntS.calls kj16 _ _ t1141 1 t1151 _ ?side1 ?side2 A52.out).mono ?_); (case side1 => repeat (first | exact (Kd.R_reads' HO_6.out).2.2 | (with_reducible refine Kd.C_alloc ?_ _) | (with_reducible refine Kd.C_drewN ?_ _) | (with_reducible refine Kd.C_drew ?_))); (case side2 => rw [show t1141.length = t1128.length from (Kd.R_reads' HO_6.out).1.symm]; exact (Kd.R_reads' HO_6.out).2.1); rintro e w' ⟨rfl,⟨nd,rfl⟩⟩; refine ⟨_,rfl,?_⟩))
    go_ret;exact ⟨by first | rfl | (simp [errW_none,errW_some] <;> rfl) | (simp [*,errW_none,errW_some] <;> rfl),by repeat (first | (with_reducible first | exact HB.out | apply below_alloc | apply pw_below_drewN | apply below_drew1 | refine below_set ?_ GE1114.out | refine below_set ?_ GE1127.out) | exact HB.out)⟩
   rw [if_pos c61] at H;have c61b0 : (t1151 == t1140) = true:=beq_iff_eq.mpr c61;have c61b1 : (t1151 != t1140) = false:=bne_eq_false_iff_eq.mpr c61;clear c61;obtain rfl:=Option.some.inj H
   go_wp2_with (first | ((with_reducible refine gate_callee (f:=42) rfl ?_); refine goesL_ (some 45) rfl rfl Try.func42 (by kernel_rfl) rfl #[.slice Ao32 t1128.length co32,.int .i64 1] rfl (by (try simp only [List.map_toArray,List.map_cons,List.map_nil]); first | done | rfl | (simp only [List.length_drop,List.length_take]; rfl)) ?_; (with_reducible refine (laws_markIntS.calls kj16 (fun k_ => some k_ = (.slice Ao32 t1128.length co32 : Value).ownBlock) (.slice Ao32 t1128.length co32) t1128 1 t1140 t1141 w _ ?side1 ?side2 A43.out).mono ?_); (case side1 => repeat (first | (with_reducible first | exact HB.out | apply below_alloc | apply pw_below_drewN | apply below_drew1 | refine below_set ?_ GE1114.out | refine below_set ?_ GE1127.out) | exact HB.out)); (case side2 => exact Kd.R_tight rfl HO_6.out); rintro e w62 ⟨rfl,hy0,hb,hkp⟩; refine ⟨_,rfl,?_⟩; have n0_:=I (Kd.R_mono (ok':=fun k_ => some k_ ≠ (.slice Ao32 t1128.length co32 : Value).ownBlock) (Kd.R_keptB (HO_4.out) hkp (fun k_ hk_ hs_ => (hk_) hs_)) (fun k_ hk_ => hk_.1)); have n1_:=I (Kd.R_reok rfl hy0 (fun k_ e_ => HO_6.out.1 k_ e_)); have n2_:=I (Kd.R_mono (ok':=fun k_ => True) (Kd.R_keptB ((Kd.R_apart' HO_1128001.out (Kd.R_typed HO_6.out) (by decide))) hkp (fun k_ hk_ hs_ => (hk_.2) hs_)) (fun k_ hk_ => trivial)); have n3_:=I (blk_kept (by (with_reducible repeat (first | refine blk_drewN ?_ _ | refine blk_drew ?_ | refine blk_alloc ?_ _)); exact BK1114.out) hkp (fun hs_ => (fun e_ => (Kd.R_ne HO_6.out BK1114.out (by decide)) e_) hs_)); have n4_:=I (blk_kept (by (with_reducible repeat (first | refine blk_drewN ?_ _ | refine blk_drew ?_ | refine blk_alloc ?_ _)); exact BK1127.out) hkp (fun hs_ => (fun e_ => (Kd.R_ne HO_6.out BK1127.out (by decide)) e_) hs_)); have n5_:=I (hb); clear HO_4; clear HO_6; clear HO_1128001; clear BK1114; clear BK1127; clear HB; have HO_4:=n0_; have HO_6:=n1_; have HO_1128001:=n2_; have BK1114:=n3_; have BK1127:=n4_; have HB:=n5_; clear n0_ n1_ n2_ n3_ n4_ n5_; (try clear hb); (try clear hkp); (try clear hy0)) | ((with_reducible refine gate_callee (f:=43) rfl ?_); refine goesL_ (some 48) rfl rfl Try.func43 (by kernel_rfl) rfl #[.slice Ao32 t1141.length co32,.int .i64 1] rfl (by (try simp only [List.map_toArray,List.map_cons,List.map_nil]); first | done | (rw [show t1141.length = t1128.length from (Kd.R_reads' HO_6.out).1.symm] <;> rfl) | rfl | (simp only [List.length_drop,List.length_take]; rfl)) ?_; (with_reducible refine (laws_heldIntS.calls kj16 _ _ t1141 1 t1142 _ ?side1 ?side2 A44.out).mono ?_); (case side1 => repeat (first | exact (Kd.R_reads' HO_6.out).2.2 | (with_reducible refine Kd.C_alloc ?_ _) | (with_reducible refine Kd.C_drewN ?_ _) | (with_reducible refine Kd.C_drew ?_))); (case side2 => rw [show t1141.length = t1128.length from (Kd.R_reads' HO_6.out).1.symm]; exact (Kd.R_reads' HO_6.out).2.1); rintro e w' ⟨rfl,⟨nd,rfl⟩⟩; refine ⟨_,rfl,?_⟩; have hnb63:=NB1114_1127.out; have hnc63:=NB1127_1114.out; have hcz64_0 : w62.cell? ⟨gb1114,0,none⟩ = some (.int .i64 a0_0):=(blk_cell BK1114.out 0).trans rfl; have hcz64_1 : w62.cell? ⟨gb1114,1,none⟩ = some (.slice A0_1 l0_1.length c0_1):=(blk_cell BK1114.out 1).trans rfl; have hfz64_0:=blk_frozen BK1114.out 0; have hfz64_1:=blk_frozen BK1114.out 1) | ((with_reducible refine gate_callee (f:=28) rfl ?_); refine goesL_ (some 55) rfl rfl Try.func28 (by kernel_rfl) rfl #[.agg #[.int .i64 a0_0,.slice A0_1 l0_1.length c0_1]] rfl (by (try simp only [List.map_toArray,List.map_cons,List.map_nil]); first | done | rfl | (simp only [List.length_drop,List.length_take]; rfl)) ?_; (with_reducible refine (laws_toNet.calls kj16 a0_0 _ _ l0_1 t1143 t1144 _ ?side1 ?side2 A48.out).mono ?_); (case side1 => repeat (first | exact (Kd.C_below HR0_1.out (by repeat (first | (with_reducible first | exact HB.out | apply below_alloc | apply pw_below_drewN | apply below_drew1 | refine below_set ?_ GE1114.out | refine below_set ?_ GE1127.out) | exact HB.out))) | (with_reducible refine Kd.C_alloc ?_ _) | (with_reducible refine Kd.C_drewN ?_ _) | (with_reducible refine Kd.C_drew ?_))); (case side2 => exact HC0_1.out); rintro e w65 ⟨v1145,rfl,ho0,hb⟩; refine ⟨_,rfl,?_⟩; have n0_:=I (Kd.R_below (by (with_reducible repeat (first | apply Kd.R_alloc | apply Kd.R_drewN | apply Kd.R_drew)); exact HO_4.out) hb); have n1_:=I (Kd.R_below (by (with_reducible repeat (first | apply Kd.R_alloc | apply Kd.R_drewN | apply Kd.R_drew)); exact HO_6.out) hb); have n2_:=I (Kd.R_elder' (by (with_reducible repeat (first | apply Kd.R_alloc | apply Kd.R_drewN | apply Kd.R_drew)); exact HO_1128001.out) (Kd.R_base ho0) hb); have n3_:=I (Kd.R_lower (Kd.R_new' ho0 (Kd.R_lt (by (with_reducible repeat (first | apply Kd.R_alloc | apply Kd.R_drewN | apply Kd.R_drew)); exact HO_1128001.out))) (below_size (by repeat (first | (with_reducible first | exact HB.out | apply below_alloc | apply pw_below_drewN | apply below_drew1 | refine below_set ?_ GE1114.out | refine below_set ?_ GE1127.out) | exact HB.out)))); have n4_:=I (blk_below (g:=gb1114) (o:=.cells #[.int .i64 a0_0,.slice A0_1 l0_1.length c0_1] 43 (0,0)) (by (with_reducible repeat (first | refine blk_drewN ?_ _ | refine blk_drew ?_ | refine blk_alloc ?_ _)); exact BK1114.out) hb); have n5_:=I (blk_below (g:=gb1127) (o:=.cells #[.int .i64 t1123,.slice Ao30 t1138.length co30] 34 (0,0)) (by (with_reducible repeat (first | refine blk_drewN ?_ _ | refine blk_drew ?_ | refine blk_alloc ?_ _)); exact BK1127.out) hb); have n6_:=I (below_step (by repeat (first | (with_reducible first | exact HB.out | apply below_alloc | apply pw_below_drewN | apply below_drew1 | refine below_set ?_ GE1114.out | refine below_set ?_ GE1127.out) | exact HB.out)) hb); clear HO_4; clear HO_6; clear HO_1128001; clear BK1114; clear BK1127; clear HB; have HO_4:=n0_; have HO_6:=n1_; have HO_1128001:=n2_; have HO1146:=n3_; have BK1114:=n4_; have BK1127:=n5_; have HB:=n6_; clear n0_ n1_ n2_ n3_ n4_ n5_ n6_; (try clear hb); (try clear hb2); (try clear hk); (try clear hi); (try clear ho0); obtain ⟨Ao66,co66,eo66⟩:=Kd.R_slice HO1146.out; subst eo66) | ((with_reducible refine gate_callee (f:=49) rfl ?_); refine goesL_ (some 56) rfl rfl Try.func49 (by kernel_rfl) rfl #[.agg #[.int .i64 t1143,.slice Ao66 t1144.length co66]] rfl (by (try simp only [List.map_toArray,List.map_cons,List.map_nil]); first | done | rfl | (simp only [List.length_drop,List.length_take]; rfl)) ?_; (with_reducible refine (impl_TreeBest.calls kj16 t1143 _ _ t1144 t1147 _ ?side1 ?side2 A49.out).mono ?_); (case side1 => repeat (first | exact (Kd.R_reads' HO1146.out).2.2 | (with_reducible refine Kd.C_alloc ?_ _) | (with_reducible refine Kd.C_drewN ?_ _) | (with_reducible refine Kd.C_drew ?_))); (case side2 => exact (Kd.R_reads' HO1146.out).2.1); rintro e w67 ⟨v1148,rfl,ho0,hb⟩; refine ⟨_,rfl,?_⟩; have n0_:=I (Kd.R_elder' (by (with_reducible repeat (first | apply Kd.R_alloc | apply Kd.R_drewN | apply Kd.R_drew)); exact HO_4.out) (Kd.R_base ho0) hb); have n1_:=I (Kd.R_elder' (by (with_reducible repeat (first | apply Kd.R_alloc | apply Kd.R_drewN | apply Kd.R_drew)); exact HO_6.out) (Kd.R_base ho0) hb); have n2_:=I (Kd.R_below (by (with_reducible repeat (first | apply Kd.R_alloc | apply Kd.R_drewN | apply Kd.R_drew)); exact HO_1128001.out) hb); have n3_:=I (Kd.R_below (by (with_reducible repeat (first | apply Kd.R_alloc | apply Kd.R_drewN | apply Kd.R_drew)); exact HO1146.out) hb); have n4_:=I (Kd.R_lower (Kd.R_new' (Kd.R_new' ho0 (Kd.R_lt (by (with_reducible repeat (first | apply Kd.R_alloc | apply Kd.R_drewN | apply Kd.R_drew)); exact HO_4.out))) (Kd.R_lt (by (with_reducible repeat (first | apply Kd.R_alloc | apply Kd.R_drewN | apply Kd.R_drew)); exact HO_6.out))) (below_size (by repeat (first | (with_reducible first | exact HB.out | apply below_alloc | apply pw_below_drewN | apply below_drew1 | refine below_set ?_ GE1114.out | refine below_set ?_ GE1127.out) | exact HB.out)))); have n5_:=I (blk_below (g:=gb1114) (o:=.cells #[.int .i64 a0_0,.slice A0_1 l0_1.length c0_1] 43 (0,0)) (by (with_reducible repeat (first | refine blk_drewN ?_ _ | refine blk_drew ?_ | refine blk_alloc ?_ _)); exact BK1114.out) hb); have n6_:=I (blk_below (g:=gb1127) (o:=.cells #[.int .i64 t1123,.slice Ao30 t1138.length co30] 34 (0,0)) (by (with_reducible repeat (first | refine blk_drewN ?_ _ | refine blk_drew ?_ | refine blk_alloc ?_ _)); exact BK1127.out) hb); have n7_:=I (below_step (by repeat (first | (with_reducible first | exact HB.out | apply below_alloc | apply pw_below_drewN | apply below_drew1 | refine below_set ?_ GE1114.out | refine below_set ?_ GE1127.out) | exact HB.out)) hb); clear HO_4; clear HO_6; clear HO_1128001; clear HO1146; clear BK1114; clear BK1127; clear HB; have HO_4:=n0_; have HO_6:=n1_; have HO_1128001:=n2_; have HO1146:=n3_; have HO1149:=n4_; have BK1114:=n5_; have BK1127:=n6_; have HB:=n7_; clear n0_ n1_ n2_ n3_ n4_ n5_ n6_ n7_; (try clear hb); (try clear hb2); (try clear hk); (try clear hi); (try clear ho0); obtain ⟨Ao68,co68,eo68⟩:=Kd.R_slice HO1149.out; subst eo68) | ((with_reducible refine gate_callee (f:=32) rfl ?_); refine goesL_ (some 59) rfl rfl Try.func32 (by kernel_rfl) rfl #[.slice Ao68 t1147.length co68,.slice Ao33 t1120.length co33] rfl (by (try simp only [List.map_toArray,List.map_cons,List.map_nil]); first | done | rfl | (simp only [List.length_drop,List.length_take]; rfl)) ?_; (with_reducible refine (laws_eqIntS.calls kj16 _ _ t1147 _ _ t1120 true _ ?side1 ?side2 ?side3 ?side4 A50.out).mono ?_); (case side1 => repeat (first | exact (Kd.R_reads' HO1149.out).2.2 | (with_reducible refine Kd.C_alloc ?_ _) | (with_reducible refine Kd.C_drewN ?_ _) | (with_reducible refine Kd.C_drew ?_))); (case side2 => exact (Kd.R_reads' HO1149.out).2.1); (case side3 => repeat (first | exact (Kd.R_reads' HO_4.out).2.2 | (with_reducible refine Kd.C_alloc ?_ _) | (with_reducible refine Kd.C_drewN ?_ _) | (with_reducible refine Kd.C_drew ?_))); (case side4 => exact (Kd.R_reads' HO_4.out).2.1); rintro e w' ⟨rfl,⟨nd,rfl⟩⟩; refine ⟨_,rfl,?_⟩) | ((with_reducible refine gate_callee (f:=43) rfl ?_); refine goesL_ (some 63) rfl rfl Try.func43 (by kernel_rfl) rfl #[.slice Ao32 t1141.length co32,.int .i64 1] rfl (by (try simp only [List.map_toArray,List.map_cons,List.map_nil]); first | done | (rw [show t1141.length = t1128.length from (Kd.R_reads' HO_6.out).1.symm] <;> rfl) | rfl | (simp only [List.length_drop,List.length_take]; rfl)) ?_; (with_reducible refine (laws_heldIntS.calls kj16 _ _ t1141 1 t1151 _ ?side1 ?side2 A52.out).mono ?_); (case side1 => repeat (first | exact (Kd.R_reads' HO_6.out).2.2 | (with_reducible refine Kd.C_alloc ?_ _) | (with_reducible refine Kd.C_drewN ?_ _) | (with_reducible refine Kd.C_drew ?_))); (case side2 => rw [show t1141.length = t1128.length from (Kd.R_reads' HO_6.out).1.symm]; exact (Kd.R_reads' HO_6.out).2.1); rintro e w' ⟨rfl,⟨nd,rfl⟩⟩; refine ⟨_,rfl,?_⟩))
   go_ret;exact ⟨by first | rfl | (simp [errW_none,errW_some] <;> rfl) | (simp [*,errW_none,errW_some] <;> rfl),by repeat (first | (with_reducible first | exact HB.out | apply below_alloc | apply pw_below_drewN | apply below_drew1 | refine below_set ?_ GE1114.out | refine below_set ?_ GE1127.out) | exact HB.out)⟩
end Go.Proofs.Ytlhmljngjdfbpaa.Pr
end
section
set_option linter.unusedVariables false
namespace Go.Proofs.YtlhmljngjdfbpaaW.PrintWords
open Go.RowKit Go.ChangeShapes Go.WideShapes
def Opens (P : Program) {α : Type} (d : Kd α) (t : TypeId) (wf : α → Prop) : Prop :=
 ∀ {H : Type} {enc : TypeId × Value → H} {w : World} {sp : Nat → Bool} {held : Bool} {fuel : Nat} {cs : List Value} {x : DataW H × List MemPlace},DataW.trod enc P w 0 sp held fuel t cs = some x → ∃ a,d.K w a cs ∧ wf a
def OpensF (P : Program) {α : Type} (d : Kd α) (fs : List Field) (off tot : Nat) (wf : α → Prop) : Prop :=
 ∀ {H : Type} {enc : TypeId × Value → H} {w : World} {sp : Nat → Bool} {held : Bool} {fuel : Nat} {cs : List Value},cs.length = tot → (∀ f ∈ fs,∃ y,DataW.trod enc P w 0 sp held fuel f.type ((cs.drop f.offset).take (P.cellsOf f.type)) = some y) → ∃ a,d.K w a (cs.drop off) ∧ wf a
section
variable {P : Program} {α β : Type}
def I64 (n : Int) : Prop:=-9223372036854775808 ≤ n ∧ n ≤ 9223372036854775807
theorem I64_of {n : Int} (h : (Lit.int .i64 n).wf = true) : I64 n:=by
 simp only [Lit.wf,Bool.and_eq_true,decide_eq_true_eq] at h;have h1 : IntKind.i64.min = -9223372036854775808:=rfl;have h2 : IntKind.i64.max = 9223372036854775807:=rfl
 unfold I64
 omega
theorem opens_i64 {t : TypeId} (ht : P.underlying t = some (.int .i64)) : Opens P (Kd.int .i64) t I64:=by
 intro H enc w sp held fuel cs x h;obtain ⟨n,rfl,_,hw⟩:=DataW.trod_int ht h;exact ⟨n,rfl,I64_of hw⟩
theorem addr_add_add (a : Addr) (i j : Nat) : (a.add i).add j = a.add (i + j):=by
 unfold Addr.add
 by_cases hi : i = 0 <;> by_cases hj : j = 0 <;> simp [hi,hj,Nat.add_assoc]
theorem opens_slice [Inhabited α] {d : Kd α} {t e : TypeId} {wf : α → Prop} (ht : P.underlying t = some (.slice e)) (hc : P.cellsOf e = d.sz) (he : Opens P d e wf) : Opens P (Kd.slice e d) t (fun l => l.length ≤ maxLen ∧ ∀ x ∈ l,wf x):=by
 intro H enc w sp held fuel cs x h
 rcases Deep.open_slice ht h with ⟨rfl,_⟩ | ⟨a,len,cap,m,n,D,Pl,rfl,_,hl,hm,hmm,_,hel⟩
 ·exact ⟨[],⟨none,0,rfl,Nat.le_refl _,Kd.C_nil d w⟩,by simp,by simp⟩
 ·have hlm : len ≤ m:=by rw [hmm]; split <;> omega
  have hx : ∀ i,i < len → ∃ y : α,(∃ c,c.length = d.sz ∧ d.K w y c ∧ ∀ j u,c[j]? = some u → w.cell? (a.add (i * d.sz + j)) = some u) ∧ wf y:=by
   intro i hi;obtain ⟨cs',hcs,htr⟩:=hel i (by omega);obtain ⟨y,hk,hw⟩:=he htr;obtain ⟨_,hlen,hcell⟩:=World.cells?_some hcs;refine ⟨y,⟨cs',d.K_len hk,hk,fun j u hu => ?_⟩,hw⟩;have hj : j < P.cellsOf e:=by
    have:=(List.getElem?_eq_some_iff.1 hu).1;omega
   have:=hcell j hj;rw [addr_add_add,hc,hu] at this;exact this
  obtain ⟨f,hf⟩:=Deep.choose_lt hx;refine ⟨(List.range len).map f,⟨some a,cap,by simp,by simpa using hl,by simp,by simp only [maxLen] at hm; simp; omega,fun _ => ⟨a,rfl,fun j p hj => ?_⟩⟩,by simp; omega,fun y hy => ?_⟩
  ·obtain ⟨hj1,hj2⟩:=List.getElem?_eq_some_iff.1 hj;simp at hj1 hj2;subst hj2;exact (hf j hj1).1
  ·simp only [List.mem_map,List.mem_range] at hy;obtain ⟨i,hi,rfl⟩:=hy;exact (hf i hi).2
theorem opensF_last {d : Kd α} {f : Field} {off tot : Nat} {wf : α → Prop} (ho : f.offset = off) (hn : off + P.cellsOf f.type = tot) (h : Opens P d f.type wf) : OpensF P d [f] off tot wf:=by
 intro H enc w sp held fuel cs hl hf;obtain ⟨y,hy⟩:=hf f (by simp);obtain ⟨a,hk,hw⟩:=h hy;refine ⟨a,?_,hw⟩
 rwa [ho,List.take_of_length_le (by rw [List.length_drop]; omega)] at hk
theorem opensF_cons {d : Kd α} {d' : Kd β} {f : Field} {fs : List Field} {off tot : Nat} {wf : α → Prop} {wf' : β → Prop} (ho : f.offset = off) (h : Opens P d f.type wf) (h' : OpensF P d' fs (off + P.cellsOf f.type) tot wf') :
  OpensF P (Kd.pair d d') (f :: fs) off tot (fun x => wf x.1 ∧ wf' x.2):=by
 intro H enc w sp held fuel cs hl hf;obtain ⟨y,hy⟩:=hf f (by simp);obtain ⟨a,hk,hw⟩:=h hy;obtain ⟨b,hk',hw'⟩:=h' hl (fun g hg => hf g (by simp [hg]));refine ⟨(a,b),⟨_,_,?_,hk,hk'⟩,hw,hw'⟩;rw [ho,← List.drop_drop,List.take_append_drop]
theorem opens_struct {d : Kd α} {t : TypeId} {fs : Array Field} {wf : α → Prop} (ht : P.underlying t = some (.struct fs)) (h : OpensF P d fs.toList 0 (P.cellsOf t) wf) : Opens P d t wf:=by
 intro H enc w sp held fuel cs x hx;obtain ⟨xs,n,_,_,hl,hlen,hf⟩:=DataW.trod_struct ht hx;obtain ⟨a,hk,hw⟩:=h hl (fun f hfm => by
  obtain ⟨i,hi,rfl⟩:=List.getElem_of_mem hfm;have hi' : i < fs.size:=by simpa using hi
  have h1:=hf i fs[i] (Array.getElem?_eq_getElem hi');rw [List.getElem?_eq_getElem (by omega)] at h1;exact ⟨_,by simpa using h1⟩)
 exact ⟨a,by simpa using hk,hw⟩
theorem opens_iso {d : Kd α} {t : TypeId} {wf : α → Prop} (f : β → α) (g : α → β) (hfg : ∀ a,f (g a) = a) (h : Opens P d t wf) : Opens P (Kd.iso d f) t (fun b => wf (f b)):=by
 intro H enc w sp held fuel cs x hx;obtain ⟨a,hk,hw⟩:=h hx;exact ⟨g a,by show d.K w (f (g a)) cs; rw [hfg]; exact hk,by show wf (f (g a)); rw [hfg]; exact hw⟩
end
end Go.Proofs.YtlhmljngjdfbpaaW.PrintWords
end
section
namespace Go.Proofs.Ytlhmljngjdfbpaa.Pr
open Go.RowKit Go.Proofs.YtlhmljngjdfbpaaW.PrintWords Go.Proofs.YtlhmljngjdfbpaaW.PrintLast Go.Proofs.YtlhmljngjdfbpaaW.PrintMore
open List renaming setIfInBounds_toArray → J,set_cons_zero → U,set_cons_succ → O
open Go.Proofs.YtlhmljngjdfbpaaW.PrintWords.Aside0 renaming mk → I
def laws_FnExactTreeBest.Asked : Prop:=∀ (a0_0 : Int) (l0_1 : List (S127)),I64 a0_0 → (l0_1.length ≤ maxLen ∧ ∀ x_ ∈ l0_1,(I64 x_.f0 ∧ I64 x_.f1 ∧ I64 x_.f2 ∧ I64 x_.f3 ∧ I64 x_.f4)) → ∃ k,laws_FnExactTreeBest.f k a0_0 l0_1 = some true
end Go.Proofs.Ytlhmljngjdfbpaa.Pr
end
section
set_option linter.unusedVariables false
namespace Go.Proofs.YtlhmljngjdfbpaaW.PrintWords
open Go.RowKit
section
variable {α β : Type}
theorem Ev.pos {c : Prop} [Decidable c] {t e : Nat → Option α} {r : α} (h : c) (k : Ev t r) : Ev (fun n => if c then t n else e n) r:=by
 simp only [if_pos h]; exact k
theorem Ev.neg {c : Prop} [Decidable c] {t e : Nat → Option α} {r : α} (h : ¬ c) (k : Ev e r) : Ev (fun n => if c then t n else e n) r:=by
 simp only [if_neg h]; exact k
theorem Ev.bind0 {g : Option α} {f : Nat → α → Option β} {a : α} {r : β} (h : g = some a) (k : Ev (fun n => f n a) r) : Ev (fun n => g.bind (f n)) r:=by
 subst h; exact k
theorem Ev.is {a r : α} (h : a = r) : Ev (fun _ => some a) r:=by subst h; exact Ev.now _
theorem Ev.cast {g : Nat → Option α} {a r : α} (k : Ev g a) (h : a = r) : Ev g r:=h ▸ k
theorem Ev.go {g f : Nat → Option α} {r : α} (k : Ev f r) (h : ∀ k,g (k + 1) = f k) : Ev g r:=Ev.step h k
end
theorem w64 {n : Int} (h : -9223372036854775808 ≤ n) (h' : n ≤ 9223372036854775807) : wrap64 n = n:=by unfold wrap64; omega
noncomputable def Bp (p : Prop) : Bool:=@decide p (Classical.propDecidable p)
theorem Bp_iff {p : Prop} : Bp p = true ↔ p:=by unfold Bp; exact @decide_eq_true_iff p (Classical.propDecidable p)
theorem Bp_true {p : Prop} (h : p) : Bp p = true:=Bp_iff.2 h
theorem Bp_false {p : Prop} (h : ¬ p) : Bp p = false:=by
 cases e : Bp p with
 | false => rfl
 | true => exact absurd (Bp_iff.1 e) h
end Go.Proofs.YtlhmljngjdfbpaaW.PrintWords
end
section
set_option linter.unusedSimpArgs false
set_option linter.unusedVariables false
namespace Go.Proofs.Ytlhmljngjdfbpaa.Pure
open Go.RowKit Go.Proofs.Ytlhmljngjdfbpaa.Pr Go.Proofs.YtlhmljngjdfbpaaW.PrintWords Go.Proofs.YtlhmljngjdfbpaaW.PrintLast Go.Proofs.YtlhmljngjdfbpaaW.PrintMore
def inB (x a b : Int) : Bool:=decide (a ≤ x) && decide (x ≤ b)
theorem inB_iff {x a b : Int} : inB x a b = true ↔ a ≤ x ∧ x ≤ b:=by simp [inB]
theorem in1 (x a b : Int) : spec_l1In.f x a b = some (inB x a b):=by
 unfold spec_l1In.f inB
 by_cases h : x ≥ a
 case pos => rw [if_pos h]; simp [show a ≤ x from h]
 rw [if_neg h]; simp [show ¬ a ≤ x from h]
theorem up1 {i n : Nat} (h : i < n) (hn : n ≤ maxLen) : wrap64 ((i : Int) + 1) = ((i + 1 : Nat) : Int):=by
 simp only [maxLen] at hn;rw [w64 (by omega) (by omega)]; omega
def nth (l : List Int) (i : Nat) : Int:=l.getD i 0
theorem rdg {l : List Int} (i : Nat) : rd l (i : Int) = nth l i:=by simp [rd,nth]
theorem nth_get {l : List Int} {i : Nat} (h : i < l.length) : nth l i = l[i]:=by simp [nth,h]
theorem drop_cons {α : Type} {l : List α} {i : Nat} (h : i < l.length) : l.drop i = l[i] :: l.drop (i + 1):=List.drop_eq_getElem_cons h
def Pv {α : Type} (g : Nat → Option α) (P : α → Prop) : Prop:=∃ r,Ev g r ∧ P r
section
variable {α β : Type} {P : α → Prop}
theorem Pv.now {a : α} (h : P a) : Pv (fun _ => some a) P:=⟨a,Ev.now a,h⟩
theorem Pv.pos {c : Prop} [Decidable c] {t e : Nat → Option α} (h : c) (k : Pv t P) : Pv (fun n => if c then t n else e n) P:=by
 obtain ⟨r,k,hp⟩:=k;exact ⟨r,Ev.pos h k,hp⟩
theorem Pv.neg {c : Prop} [Decidable c] {t e : Nat → Option α} (h : ¬ c) (k : Pv e P) : Pv (fun n => if c then t n else e n) P:=by
 obtain ⟨r,k,hp⟩:=k;exact ⟨r,Ev.neg h k,hp⟩
theorem Pv.bind {g : Nat → Option β} {f : Nat → β → Option α} {R : β → Prop} (h : Pv g R) (k : ∀ b,R b → Pv (fun n => f n b) P) : Pv (fun n => (g n).bind (f n)) P:=by
 obtain ⟨b,h,hb⟩:=h;obtain ⟨r,k,hp⟩:=k b hb;exact ⟨r,Ev.bind h k,hp⟩
theorem Pv.go {g f : Nat → Option α} (k : Pv f P) (h : ∀ k,g (k + 1) = f k) : Pv g P:=by
 obtain ⟨r,k,hp⟩:=k;exact ⟨r,Ev.go k h,hp⟩
end
def lst (n : Nat) (F : Nat → Int) : List Int:=(List.range n).map F
theorem lst_len (n : Nat) (F : Nat → Int) : (lst n F).length = n:=by simp [lst]
theorem lst_nth {n v : Nat} (F : Nat → Int) (h : v < n) : nth (lst n F) v = F v:=by
 simp [nth,lst,h]
theorem lst_rd {n v : Nat} (F : Nat → Int) (h : v < n) : rd (lst n F) (v : Int) = F v:=by rw [rdg,lst_nth F h]
theorem lst_congr {n : Nat} {F G : Nat → Int} (h : ∀ v,v < n → F v = G v) : lst n F = lst n G:=by
 unfold lst
 exact List.map_congr_left (fun v hv => h v (List.mem_range.1 hv))
theorem lst_snoc (n : Nat) (F : Nat → Int) : lst n F ++ [F n] = lst (n + 1) F:=by
 simp [lst,List.range_succ]
theorem lst_of (l : List Int) : lst l.length (nth l) = l:=by
 apply List.ext_getElem (lst_len _ _)
 intro i h1 h2;have:=lst_nth (n:=l.length) (nth l) (v:=i) h2;rw [nth_get h1,nth_get h2] at this;exact this
def upd (F : Nat → Int) (a : Nat) (x : Int) : Nat → Int:=fun v => if v = a then x else F v
theorem lst_set {n a : Nat} (F : Nat → Int) (x : Int) : (lst n F).set a x = lst n (upd F a x):=by
 apply List.ext_getElem (by simp [lst])
 intro i h1 h2;have hi : i < n:=by simpa [lst] using h2
 simp only [List.getElem_set]
 by_cases e : a = i
 case pos => subst e; simp [lst,upd]
 simp [lst,upd,e,show ¬ i = a from fun h => e h.symm]
theorem upd_same (F : Nat → Int) (a : Nat) (x : Int) : upd F a x a = x:=by simp [upd]
theorem upd_far (F : Nat → Int) {a v : Nat} (x : Int) (h : v ≠ a) : upd F a x v = F v:=by simp [upd,h]
inductive Conn (E : Nat → Nat → Prop) : Nat → Nat → Prop
 | refl (v : Nat) : Conn E v v
 | tail {u v w : Nat} : Conn E u v → (E v w ∨ E w v) → Conn E u w
theorem Conn.trans {E : Nat → Nat → Prop} {u v w : Nat} (h : Conn E u v) (k : Conn E v w) : Conn E u w:=by
 induction k with
 | refl => exact h
 | tail _ e ih => exact .tail ih e
theorem Conn.one {E : Nat → Nat → Prop} {u v : Nat} (h : E u v ∨ E v u) : Conn E u v:=.tail (.refl u) h
theorem Conn.symm {E : Nat → Nat → Prop} {u v : Nat} (h : Conn E u v) : Conn E v u:=by
 induction h with
 | refl => exact .refl _
 | tail _ e ih => exact (Conn.one e.symm).trans ih
theorem Conn.mono {E E' : Nat → Nat → Prop} {u v : Nat} (h : Conn E u v) (k : ∀ a b,E a b → E' a b) : Conn E' u v:=by
 induction h with
 | refl => exact .refl _
 | tail _ e ih => exact .tail ih (e.imp (k _ _) (k _ _))
noncomputable def cnt (p : Nat → Prop) : Nat → Nat
 | 0 => 0
 | n + 1 => cnt p n + if Bp (p n) = true then 1 else 0
theorem cnt_le (p : Nat → Prop) (n : Nat) : cnt p n ≤ n:=by
 induction n with
 | zero => exact Nat.le_refl _
 | succ n ih => simp only [cnt]; split <;> omega
theorem cnt_mono {p q : Nat → Prop} (h : ∀ v,p v → q v) (n : Nat) : cnt p n ≤ cnt q n:=by
 induction n with
 | zero => exact Nat.le_refl _
 | succ n ih =>
  simp only [cnt]
  by_cases hp : p n
  case neg => rw [Bp_false hp]; simp; omega
  rw [Bp_true hp,Bp_true (h n hp)]; omega
theorem cnt_lt {p q : Nat → Prop} (h : ∀ v,p v → q v) {n u : Nat} (hu : u < n) (hq : q u) (hp : ¬ p u) : cnt p n < cnt q n:=by
 induction n with
 | zero => omega
 | succ n ih =>
  simp only [cnt]
  by_cases e : u = n
  case pos =>
   subst e;have:=cnt_mono h u;rw [Bp_false hp,Bp_true hq];simp; omega
  have:=ih (by omega)
  by_cases hp' : p n
  case neg => rw [Bp_false hp']; simp; omega
  rw [Bp_true hp',Bp_true (h n hp')]; omega
theorem cnt_all {p : Nat → Prop} {n : Nat} (h : n ≤ cnt p n) : ∀ v,v < n → p v:=by
 induction n with
 | zero => intro v hv; omega
 | succ n ih =>
  intro v hv;simp only [cnt] at h;have:=cnt_le p n
  by_cases hp : p n
  case neg =>
   rw [Bp_false hp] at h;simp at h;omega
  rw [Bp_true hp] at h;simp at h
  by_cases e : v = n
  case pos => subst e; exact hp
  exact ih h v (by omega)
theorem spread (n : Nat) (f : Nat → Nat → Prop) (mono : ∀ r v,f r v → f (r + 1) v) (lt : ∀ r v,f r v → v < n) (stop : ∀ r,(∀ v,f (r + 1) v → f r v) → ∀ v,f (r + 2) v → f (r + 1) v) (h0 : ∃ v,f 0 v) : ∀ r v,f r v → f (n - 1) v:=by
 have monos : ∀ r s v,f r v → f (r + s) v:=by
  intro r s v h
  induction s with
  | zero => exact h
  | succ s ih => exact mono _ _ ih
 have stops : ∀ r,(∀ v,f (r + 1) v → f r v) → ∀ s v,f (r + s) v → f r v:=by
  intro r h s;have hs : ∀ s v,f (r + s + 1) v → f (r + s) v:=by
   intro s
   induction s with
   | zero => exact h
   | succ s ih => exact stop (r + s) ih
  induction s with
  | zero => exact fun v h => h
  | succ s ih => exact fun v h => ih v (hs s v h)
 have key : ∀ r,(∃ s,s < r ∧ ∀ v,f (s + 1) v → f s v) ∨ r + 1 ≤ cnt (f r) n:=by
  intro r
  induction r with
  | zero =>
   right
   obtain ⟨v,hv⟩:=h0;have:=cnt_lt (p:=fun _ => False) (q:=f 0) (fun _ h => h.elim) (lt 0 v hv) hv (fun h => h);omega
  | succ r ih =>
   rcases ih with ⟨s,h1,h2⟩ | ih
   ·exact .inl ⟨s,by omega,h2⟩
   ·by_cases c : ∀ v,f (r + 1) v → f r v
    case pos => exact .inl ⟨r,by omega,c⟩
    right
    have : ∃ v,f (r + 1) v ∧ ¬ f r v:=by
     apply Classical.byContradiction
     intro h;exact c (fun v hv => Classical.byContradiction (fun h' => h ⟨v,hv,h'⟩))
    obtain ⟨v,h1,h2⟩:=this;have:=cnt_lt (mono r) (lt _ v h1) h1 h2;omega
 intro r v hv;obtain ⟨u,hu⟩:=h0;have hn : 0 < n:=by have:=lt 0 u hu; omega
 rcases key (n - 1) with ⟨s,h1,h2⟩ | h
 ·by_cases c : r ≤ s
  case pos =>
   have e : n - 1 = r + (n - 1 - r):=by omega
   rw [e];exact monos _ _ _ hv
  have hs : f s v:=by
   have e : r = s + (r - s):=by omega
   rw [e] at hv;exact stops s h2 _ v hv
  have e : n - 1 = s + (n - 1 - s):=by omega
  rw [e];exact monos _ _ _ hs
 ·exact cnt_all (by omega) v (lt _ v hv)
end Go.Proofs.Ytlhmljngjdfbpaa.Pure
end
section
set_option linter.unusedSectionVars false
namespace Go.Proofs.Ytlhmljngjdfbpaa.Pure
open Go.RowKit Go.Proofs.Ytlhmljngjdfbpaa.Pr Go.Proofs.YtlhmljngjdfbpaaW.PrintWords Go.Proofs.YtlhmljngjdfbpaaW.PrintLast Go.Proofs.YtlhmljngjdfbpaaW.PrintMore
section
variable {fr tw : Nat → Nat}
def LE (fr tw : Nat → Nat) (l : List Nat) (a b : Nat) : Prop:=∃ i,i ∈ l ∧ a = fr i ∧ b = tw i
abbrev Con (fr tw : Nat → Nat) (l : List Nat) (u v : Nat) : Prop:=Conn (LE fr tw l) u v
theorem Con.sub {l l' : List Nat} {u v : Nat} (h : Con fr tw l u v) (k : ∀ x,x ∈ l → x ∈ l') : Con fr tw l' u v :=
 h.mono (fun _ _ ⟨i,hi,e⟩ => ⟨i,k i hi,e⟩)
theorem Con.arc {l : List Nat} {k : Nat} (h : k ∈ l) : Con fr tw l (fr k) (tw k):=Conn.one (.inl ⟨k,h,rfl,rfl⟩)
theorem con_add {l l' : List Nat} {e : Nat} (hl : ∀ x,x ∈ l' → x ∈ l ∨ x = e) {u v : Nat} (h : Con fr tw l' u v) : Con fr tw l u v ∨ (Con fr tw l u (fr e) ∧ Con fr tw l (tw e) v) ∨ (Con fr tw l u (tw e) ∧ Con fr tw l (fr e) v):=by
 induction h with
 | refl => exact .inl (.refl _)
 | @tail v w _ a ih =>
  have key : Con fr tw l v w ∨ (v = fr e ∧ w = tw e) ∨ (v = tw e ∧ w = fr e):=by
   rcases a with ⟨i,hi,rfl,rfl⟩ | ⟨i,hi,rfl,rfl⟩
   ·rcases hl i hi with h | rfl
    ·exact .inl (.arc h)
    ·exact .inr (.inl ⟨rfl,rfl⟩)
   ·rcases hl i hi with h | rfl
    ·exact .inl (Con.arc h).symm
    ·exact .inr (.inr ⟨rfl,rfl⟩)
  rcases key with k | ⟨rfl,rfl⟩ | ⟨rfl,rfl⟩
  ·rcases ih with h | ⟨h1,h2⟩ | ⟨h1,h2⟩
   ·exact .inl (h.trans k)
   ·exact .inr (.inl ⟨h1,h2.trans k⟩)
   ·exact .inr (.inr ⟨h1,h2.trans k⟩)
  ·rcases ih with h | ⟨h1,h2⟩ | ⟨h1,h2⟩
   ·exact .inr (.inl ⟨h,.refl _⟩)
   ·exact .inr (.inl ⟨h1,.refl _⟩)
   ·exact .inl h1
  ·rcases ih with h | ⟨h1,h2⟩ | ⟨h1,h2⟩
   ·exact .inr (.inr ⟨h,.refl _⟩)
   ·exact .inl h1
   ·exact .inr (.inr ⟨h1,.refl _⟩)
inductive Kru (fr tw : Nat → Nat) : List Nat → List Nat → List Nat → Prop
 | nil (o : List Nat) : Kru fr tw [] o o
 | skip {k : Nat} {ks o r : List Nat} : Con fr tw o (fr k) (tw k) → Kru fr tw ks o r → Kru fr tw (k :: ks) o r
 | take {k : Nat} {ks o r : List Nat} : ¬ Con fr tw o (fr k) (tw k) → Kru fr tw ks (o ++ [k]) r → Kru fr tw (k :: ks) o r
theorem Kru.ext {ks o r : List Nat} (h : Kru fr tw ks o r) : ∃ s,r = o ++ s ∧ ∀ x,x ∈ s → x ∈ ks:=by
 induction h with
 | nil => exact ⟨[],by simp,by simp⟩
 | skip _ _ ih =>
  obtain ⟨s,e,h⟩:=ih;exact ⟨s,e,fun x hx => List.mem_cons_of_mem _ (h x hx)⟩
 | @take k _ _ _ _ _ ih =>
  obtain ⟨s,e,h⟩:=ih;refine ⟨k :: s,by rw [e]; simp,fun x hx => ?_⟩
  rcases List.mem_cons.1 hx with rfl | hx
  ·simp
  ·exact List.mem_cons_of_mem _ (h x hx)
theorem con_nil {u v : Nat} (h : Con fr tw [] u v) : u = v:=by
 induction h with
 | refl => rfl
 | tail _ e _ => rcases e with ⟨i,hi,_⟩ | ⟨i,hi,_⟩ <;> simp at hi
theorem Kru.nodup {ks o r : List Nat} (h : Kru fr tw ks o r) (hn : ks.Nodup) (ho : o.Nodup) (hd : ∀ x,x ∈ ks → x ∉ o) : r.Nodup:=by
 induction h with
 | nil => exact ho
 | skip _ _ ih => exact ih (List.nodup_cons.1 hn).2 ho (fun x hx => hd x (List.mem_cons_of_mem _ hx))
 | @take k ks o r _ _ ih =>
  refine ih (List.nodup_cons.1 hn).2 ?_ (fun x hx => ?_)
  ·rw [List.nodup_append];refine ⟨ho,by simp,fun a ha b hb => ?_⟩;rintro rfl;obtain rfl : a = k:=by simpa using hb
   exact hd a (by simp) ha
  ·intro hx2
   rcases List.mem_append.1 hx2 with h | h
   ·exact hd x (List.mem_cons_of_mem _ hx) h
   ·obtain rfl : x = k:=by simpa using h
    exact (List.nodup_cons.1 hn).1 hx
end
end Go.Proofs.Ytlhmljngjdfbpaa.Pure
end
section
set_option linter.unusedSimpArgs false
set_option linter.unusedVariables false
namespace Go.Proofs.Ytlhmljngjdfbpaa.Pure
open Go.RowKit Go.Proofs.Ytlhmljngjdfbpaa.Pr Go.Proofs.YtlhmljngjdfbpaaW.PrintWords Go.Proofs.YtlhmljngjdfbpaaW.PrintLast Go.Proofs.YtlhmljngjdfbpaaW.PrintMore
section
variable {t e : Nat → Option Bool} {r : Bool}
theorem Ev.and {b : Bool} (k : Ev t r) : Ev (fun n => if b = true then t n else some false) (b && r):=by
 cases b with
 | false => exact Ev.neg (by simp) (Ev.now _)
 | true => exact Ev.pos rfl k
theorem Ev.nand {c : Prop} [Decidable c] (k : Ev t r) : Ev (fun n => if c then some false else t n) (!decide c && r):=by
 by_cases h : c
 case pos => exact Ev.pos h (Ev.is (by simp [h]))
 exact Ev.neg h (k.cast (by simp [h]))
end
abbrev Arc:=S58
def arc (l : List Arc) (i : Nat) : Arc:=rd_T58 l (i : Int)
theorem rda (l : List Arc) (i : Nat) : rd_T58 l (i : Int) = arc l i:=rfl
theorem arc_get {l : List Arc} {i : Nat} (h : i < l.length) : arc l i = l[i]:=by simp [arc,rd_T58,h]
theorem arc_mem {l : List Arc} {i : Nat} (h : i < l.length) : arc l i ∈ l:=by
 rw [arc_get h];exact List.getElem_mem h
attribute [irreducible] arc
def okArcW (n : Int) (a : Arc) : Bool:=inB a.f0 0 (wrap64 (n - 1)) && (inB a.f1 0 (wrap64 (n - 1)) && (!decide (a.f0 = a.f1) && (inB a.f2 0 99 && (inB a.f3 0 99 && inB a.f4 0 9))))
theorem l1Ok_l (n : Int) (l : List Arc) (hm : l.length ≤ maxLen) : ∀ (m i : Nat),l.length - i = m → i ≤ l.length → Ev (fun k => spec_l1Ok.l0 k (i : Int) n l) ((l.drop i).all (okArcW n) && (inB n 1 8 && decide ((l.length : Int) ≤ 16))):=by
 intro m
 induction m with
 | zero =>
  intro i hd hi;refine Ev.go ?_ (fun k => by rw [spec_l1Ok.l0]);refine Ev.neg (by omega) (Ev.bind0 (in1 _ _ _) ?_);rw [List.drop_of_length_le (by omega)];exact (Ev.and (Ev.now _)).cast (by simp)
 | succ m ih =>
  intro i hd hi;have hlt : i < l.length:=by omega
  refine Ev.go ?_ (fun k => by rw [spec_l1Ok.l0]);rw [drop_cons hlt,← arc_get hlt,List.all_cons,rda,up1 hlt hm];refine Ev.pos (by omega) (Ev.pos (by omega) ?_);refine Ev.cast (Ev.bind0 (in1 _ _ _) (Ev.and (Ev.bind0 (in1 _ _ _) (Ev.and (Ev.nand (Ev.bind0 (in1 _ _ _) (Ev.and (Ev.bind0 (in1 _ _ _) (Ev.and (Ev.bind0 (in1 _ _ _) (Ev.and (ih (i + 1) (by omega) (by omega))))))))))))) ?_;simp only [okArcW,Bool.and_assoc]
theorem okArcW_okArc {n : Int} (h : 1 ≤ n) (h8 : n ≤ 8) (a : Arc) : okArcW n a = okArc n a:=by
 unfold okArcW okArc inB okN okC
 rw [w64 (by omega) (by omega)];have e : (a.f4 ≤ 9) ↔ (a.f4 ≤ 10 - 1):=by omega
 have e2 : (a.f0 == a.f1) = decide (a.f0 = a.f1):=by
  by_cases c : a.f0 = a.f1 <;> simp [c]
 rw [e2];simp only [Bool.and_assoc,e]
theorem l1Ok_ev (n : Int) (l : List Arc) (hm : l.length ≤ maxLen) : Ev (fun k => spec_l1Ok.f k n l) (netOkB n l):=by
 unfold spec_l1Ok.f
 refine (l1Ok_l n l hm _ 0 rfl (by omega)).cast ?_
 unfold netOkB
 rw [List.drop_zero]
 by_cases h : 1 ≤ n ∧ n ≤ 8
 case pos =>
  have e : l.all (okArcW n) = l.all (okArc n):=by
   congr 1
   funext a
   exact okArcW_okArc h.1 h.2 a
  rw [e,show inB n 1 8 = true from inB_iff.2 h];simp [h.1,h.2,Bool.and_comm]
 have e : inB n 1 8 = false:=by
  cases c : inB n 1 8 with
  | false => rfl
  | true => exact absurd (inB_iff.1 c) h
 rw [e];have e2 : (decide (1 ≤ n) && decide (n ≤ 8)) = false:=e;simp only [e2,Bool.false_and,Bool.and_false]
structure NetGood (n : Int) (l : List Arc) : Prop where
 n1 : 1 ≤ n
 n8 : n ≤ 8
 len : l.length ≤ 16
 ok : ∀ i,i < l.length → (0 ≤ (arc l i).f0 ∧ (arc l i).f0 < n) ∧ (0 ≤ (arc l i).f1 ∧ (arc l i).f1 < n) ∧ (arc l i).f0 ≠ (arc l i).f1 ∧ (0 ≤ (arc l i).f2 ∧ (arc l i).f2 ≤ 99) ∧ (0 ≤ (arc l i).f3 ∧ (arc l i).f3 ≤ 99) ∧ (0 ≤ (arc l i).f4 ∧ (arc l i).f4 ≤ 9)
theorem okArc_iff (n : Int) (a : Arc) : okArc n a = true ↔ (0 ≤ a.f0 ∧ a.f0 < n) ∧ (0 ≤ a.f1 ∧ a.f1 < n) ∧ a.f0 ≠ a.f1 ∧ (0 ≤ a.f2 ∧ a.f2 ≤ 99) ∧ (0 ≤ a.f3 ∧ a.f3 ≤ 99) ∧ (0 ≤ a.f4 ∧ a.f4 ≤ 9):=by
 simp only [okArc,okN,okC,Bool.and_eq_true,decide_eq_true_eq,Bool.not_eq_true',beq_eq_false_iff_ne];constructor
 ·rintro ⟨⟨⟨⟨⟨⟨a1,a2⟩,a3,a4⟩,a5⟩,a6⟩,a7⟩,a8,a9⟩;exact ⟨⟨a1,by omega⟩,⟨a3,by omega⟩,a5,a6,a7,a8,by omega⟩
 ·rintro ⟨⟨a1,a2⟩,⟨a3,a4⟩,a5,a6,a7,a8,a9⟩;exact ⟨⟨⟨⟨⟨⟨a1,by omega⟩,a3,by omega⟩,a5⟩,a6⟩,a7⟩,a8,by omega⟩
theorem netOkB_iff (n : Int) (l : List Arc) : netOkB n l = true ↔ NetGood n l:=by
 simp only [netOkB,Bool.and_eq_true,decide_eq_true_eq,List.all_eq_true];constructor
 ·rintro ⟨⟨⟨h1,h2⟩,h3⟩,h4⟩;exact ⟨h1,h2,by omega,fun i hi => (okArc_iff n _).1 (h4 _ (arc_mem hi))⟩
 ·rintro ⟨h1,h2,h3,h4⟩;refine ⟨⟨⟨h1,h2⟩,by omega⟩,fun a ha => ?_⟩;obtain ⟨i,hi,rfl⟩:=List.getElem_of_mem ha;rw [← arc_get hi];exact (okArc_iff n _).2 (h4 i hi)
theorem szNet_eq (n : Int) (l : List S127) (a : Int) (ha : -1 ≤ a) (ha' : a ≤ 1048576) (hm : l.length ≤ maxLen) : laws_szNet.f n l a = some (if a - (l.length : Int) < 0 then -1 else a - (l.length : Int)):=by
 simp only [maxLen] at hm
 unfold laws_szNet.f laws_szArcS.f
 rw [w64 (by omega) (by omega)]
 by_cases c : a - (l.length : Int) < 0
 case neg => rw [if_neg c,if_neg c,Option.bind_some,if_neg c]
 rw [if_pos c,if_pos c,Option.bind_some,if_pos (by omega)]
def toA (a : S127) : Arc:=⟨a.f0,a.f1,a.f2,a.f3,a.f4⟩
theorem toArcS_l (l : List S127) (hm : l.length ≤ maxLen) : ∀ (d i : Nat) (x : List Arc),l.length - i = d → i ≤ l.length → x.length = l.length → x.take i = (l.map toA).take i → Ev (fun k => laws_toArcS.l0 k l x (i : Int)) (l.map toA):=by
 intro d
 induction d with
 | zero =>
  intro i x hd hi hx ht;refine Ev.go ?_ (fun k => by rw [laws_toArcS.l0]);refine Ev.neg (by omega) (Ev.is ?_);have e : i = l.length:=by omega
  subst e
  rwa [List.take_of_length_le (by omega),List.take_of_length_le (by simp)] at ht
 | succ d ih =>
  intro i x hd hi hx ht;have hlt : i < l.length:=by omega
  refine Ev.go ?_ (fun k => by rw [laws_toArcS.l0]);refine Ev.pos (by omega) (Ev.pos (by omega) (Ev.bind0 rfl (Ev.pos (by omega) ?_)));rw [up1 hlt hm];refine ih (i + 1) _ (by omega) (by omega) (by simp [hx]) ?_;have hr : rd_T127 l (i : Int) = l[i]:=by simp [rd_T127,hlt]
  simp only [Int.toNat_natCast,hr];rw [List.take_succ_eq_append_getElem (by simp; omega),List.take_succ_eq_append_getElem (l:=l.map toA) (by simpa using hlt),List.take_set_of_le (Nat.le_refl _),ht];simp [toA]
theorem toNet_ev (n : Int) (l : List S127) (hm : l.length ≤ 7036874417766) : Ev (fun k => laws_toNet.f k n l) (n,l.map toA):=by
 unfold laws_toNet.f
 refine Ev.bind (a:=l.map toA) ?_ (Ev.now _)
 unfold laws_toArcS.f
 refine Ev.pos (by omega) (Ev.pos (by simp; omega) ?_);exact toArcS_l l (by simp only [maxLen]; omega) _ 0 _ rfl (by omega) (by simp) (by simp)
theorem eqArcS_l (l : List Arc) (hm : l.length ≤ maxLen) : ∀ (d i : Nat),l.length - i = d → i ≤ l.length → Ev (fun k => laws_eqArcS.l0 k l l (i : Int)) true:=by
 intro d
 induction d with
 | zero =>
  intro i hd hi;refine Ev.go ?_ (fun k => by rw [laws_eqArcS.l0]);exact Ev.neg (by omega) (Ev.now _)
 | succ d ih =>
  intro i hd hi;have hlt : i < l.length:=by omega
  refine Ev.go ?_ (fun k => by rw [laws_eqArcS.l0]);refine Ev.pos (by omega) (Ev.pos (by omega) (Ev.pos (by omega) (Ev.bind0 (a:=true) (by simp [laws_eqArc.f]) (Ev.pos rfl ?_))));rw [up1 hlt hm];exact ih (i + 1) (by omega) (by omega)
theorem eqNet_ev (n : Int) (l : List Arc) (hm : l.length ≤ maxLen) : Ev (fun k => laws_eqNet.f k n l n l) true:=by
 unfold laws_eqNet.f
 refine Ev.pos rfl (Ev.bind (a:=true) ?_ (Ev.pos rfl (Ev.now _)))
 unfold laws_eqArcS.f
 exact Ev.pos rfl (eqArcS_l l hm _ 0 rfl (by omega))
end Go.Proofs.Ytlhmljngjdfbpaa.Pure
end
section
set_option linter.unusedSimpArgs false
set_option linter.unusedVariables false
set_option linter.unusedSectionVars false
namespace Go.Proofs.Ytlhmljngjdfbpaa.Pure
open Go.RowKit Go.Proofs.Ytlhmljngjdfbpaa.Pr Go.Proofs.YtlhmljngjdfbpaaW.PrintWords Go.Proofs.YtlhmljngjdfbpaaW.PrintLast Go.Proofs.YtlhmljngjdfbpaaW.PrintMore
def frm (l : List Arc) (x : List Int) (j : Nat) : Nat:=(arc l (nth x j).toNat).f0.toNat
def too (l : List Arc) (x : List Int) (j : Nat) : Nat:=(arc l (nth x j).toNat).f1.toNat
def TE (l : List Arc) (x : List Int) (j : Nat) (a b : Nat) : Prop:=∃ i,i < j ∧ a = frm l x i ∧ b = too l x i
structure Parts (n : Nat) (E : Nat → Nat → Prop) (F : Nat → Int) : Prop where
 same : ∀ a b,E a b → F a = F b
 low : ∀ v,v < n → F v ≤ v
 conn : ∀ v,v < n → ∃ u : Nat,F v = u ∧ u < n ∧ Conn E u v
theorem Parts.all {n : Nat} {E : Nat → Nat → Prop} {F : Nat → Int} (h : Parts n E F) {u v : Nat} (c : Conn E u v) : F u = F v:=by
 induction c with
 | refl => rfl
 | tail _ e ih => exact ih.trans (e.elim (h.same _ _) (fun e => (h.same _ _ e).symm))
theorem Parts.uniq {n : Nat} {E : Nat → Nat → Prop} {F G : Nat → Int} (hF : Parts n E F) (hG : Parts n E G) : ∀ v,v < n → F v = G v:=by
 intro v hv;obtain ⟨u,e1,h1,c1⟩:=hF.conn v hv;obtain ⟨w,e2,h2,c2⟩:=hG.conn v hv;have a1:=hG.low u h1;have a2:=hF.low w h2;rw [hG.all c1] at a1;rw [hF.all c2] at a2;omega
section
variable {n : Int} {l : List Arc} (hg : NetGood n l) {x : List Int} (hx : ∀ j,j < x.length → 0 ≤ nth x j ∧ nth x j < l.length)
include hg hx
theorem frm_lt {j : Nat} (h : j < x.length) : ((frm l x j : Nat) : Int) = (arc l (nth x j).toNat).f0 ∧ frm l x j < n.toNat:=by
 have h1:=hx j h;have h2:=(hg.ok (nth x j).toNat (by omega)).1;have:=hg.n1
 unfold frm
 omega
theorem too_lt {j : Nat} (h : j < x.length) : ((too l x j : Nat) : Int) = (arc l (nth x j).toNat).f1 ∧ too l x j < n.toNat:=by
 have h1:=hx j h;have h2:=(hg.ok (nth x j).toNat (by omega)).2.1;have:=hg.n1
 unfold too
 omega
end
def stepS (F : Nat → Int) (a b : Nat) : Nat → Int:=if F a < F b then upd F b (F a) else upd F a (F b)
def sweepS (l : List Arc) (x : List Int) (F : Nat → Int) : Nat → (Nat → Int)
 | 0 => F
 | i + 1 => stepS (sweepS l x F i) (frm l x i) (too l x i)
def roundS (l : List Arc) (x : List Int) : Nat → (Nat → Int)
 | 0 => fun v => v
 | r + 1 => sweepS l x (roundS l x r) x.length
theorem stepS_at {F : Nat → Int} {a b : Nat} : stepS F a b a ≤ F a ∧ stepS F a b a ≤ F b ∧ stepS F a b b ≤ F a ∧ stepS F a b b ≤ F b ∧ ∀ v,stepS F a b v ≤ F v:=by
 unfold stepS
 by_cases h : F a < F b
 case pos =>
  rw [if_pos h];refine ⟨?_,?_,?_,?_,fun v => ?_⟩
  ·by_cases e : a = b
   case pos => subst e; omega
   rw [upd_far _ _ e]; omega
  ·by_cases e : a = b
   case pos => subst e; omega
   rw [upd_far _ _ e]; omega
  ·rw [upd_same]; omega
  ·rw [upd_same]; omega
  ·by_cases e : v = b
   case neg => rw [upd_far _ _ e]; omega
   subst e; rw [upd_same]; omega
 rw [if_neg h];refine ⟨?_,?_,?_,?_,fun v => ?_⟩
 ·rw [upd_same]; omega
 ·rw [upd_same]; omega
 ·by_cases e : b = a
  case neg => rw [upd_far _ _ e]; omega
  subst e; rw [upd_same]; omega
 ·by_cases e : b = a
  case neg => rw [upd_far _ _ e]; omega
  subst e; rw [upd_same]; omega
 ·by_cases e : v = a
  case neg => rw [upd_far _ _ e]; omega
  subst e; rw [upd_same]; omega
theorem stepS_from {F : Nat → Int} {a b v : Nat} : stepS F a b v = F v ∨ (v = b ∧ stepS F a b v = F a) ∨ (v = a ∧ stepS F a b v = F b):=by
 unfold stepS
 by_cases h : F a < F b
 case neg =>
  rw [if_neg h]
  by_cases e : v = a
  case neg => exact .inl (upd_far _ _ e)
  exact .inr (.inr ⟨e,by rw [e,upd_same]⟩)
 rw [if_pos h]
 by_cases e : v = b
 case neg => exact .inl (upd_far _ _ e)
 exact .inr (.inl ⟨e,by rw [e,upd_same]⟩)
theorem sweepS_le (l : List Arc) (x : List Int) (F : Nat → Int) : ∀ i v,sweepS l x F i v ≤ F v:=by
 intro i
 induction i with
 | zero => intro v; exact Int.le_refl _
 | succ i ih => intro v; exact Int.le_trans (stepS_at.2.2.2.2 v) (ih v)
theorem sweepS_anti (l : List Arc) (x : List Int) (F : Nat → Int) (i : Nat) : ∀ s v,sweepS l x F (i + s) v ≤ sweepS l x F i v:=by
 intro s
 induction s with
 | zero => intro v; exact Int.le_refl _
 | succ s ih => intro v; exact Int.le_trans (stepS_at.2.2.2.2 v) (ih v)
theorem sweepS_arc (l : List Arc) (x : List Int) (F : Nat → Int) {i : Nat} (hi : i < x.length) : sweepS l x F x.length (frm l x i) ≤ F (too l x i) ∧ sweepS l x F x.length (too l x i) ≤ F (frm l x i):=by
 have e : x.length = (i + 1) + (x.length - (i + 1)):=by omega
 have h1:=sweepS_anti l x F (i + 1) (x.length - (i + 1));rw [← e] at h1;have h2:=sweepS_le l x F i;have h3:=@stepS_at (sweepS l x F i) (frm l x i) (too l x i);constructor
 ·exact Int.le_trans (h1 _) (Int.le_trans h3.2.1 (h2 _))
 ·exact Int.le_trans (h1 _) (Int.le_trans h3.2.2.1 (h2 _))
def Near (l : List Arc) (x : List Int) (n u : Nat) : Nat → Nat → Prop
 | 0,v => v = u ∧ v < n
 | r + 1,v => v < n ∧ (Near l x n u r v ∨ ∃ w,Near l x n u r w ∧ (TE l x x.length w v ∨ TE l x x.length v w))
theorem near_lt {l : List Arc} {x : List Int} {n u : Nat} : ∀ r v,Near l x n u r v → v < n
 | 0,v,h => h.2
 | r + 1,v,h => h.1
theorem near_round {l : List Arc} {x : List Int} {n u : Nat} : ∀ r v,Near l x n u r v → roundS l x r v ≤ u:=by
 intro r
 induction r with
 | zero =>
  intro v h;rw [h.1];exact Int.le_refl _
 | succ r ih =>
  intro v h
  rcases h.2 with h | ⟨w,hw,⟨i,hi,e1,e2⟩ | ⟨i,hi,e1,e2⟩⟩
  ·exact Int.le_trans (sweepS_le l x _ _ v) (ih v h)
  ·have:=(sweepS_arc l x (roundS l x r) hi).2;rw [← e1,← e2] at this;exact Int.le_trans this (ih w hw)
  ·have:=(sweepS_arc l x (roundS l x r) hi).1;rw [← e1,← e2] at this;exact Int.le_trans this (ih w hw)
section
variable {n : Int} {l : List Arc} (hg : NetGood n l) {x : List Int} (hx : ∀ j,j < x.length → 0 ≤ nth x j ∧ nth x j < l.length)
include hg hx
theorem near_conn {u v : Nat} (hu : u < n.toNat) (c : Conn (TE l x x.length) u v) : Near l x n.toNat u (n.toNat - 1) v:=by
 have hr : ∃ r,Near l x n.toNat u r v:=by
  induction c with
  | refl => exact ⟨0,rfl,hu⟩
  | tail c e ih =>
   obtain ⟨r,hr⟩:=ih;refine ⟨r + 1,?_,.inr ⟨_,hr,e⟩⟩
   rcases e with ⟨i,hi,e1,e2⟩ | ⟨i,hi,e1,e2⟩
   ·rw [e2]; exact (too_lt hg hx hi).2
   ·rw [e1]; exact (frm_lt hg hx hi).2
 obtain ⟨r,hr⟩:=hr;refine spread n.toNat (Near l x n.toNat u) (fun r v h => ⟨near_lt r v h,.inl h⟩) near_lt (fun r h v hv => ?_) ⟨u,rfl,hu⟩ r v hr;refine ⟨hv.1,?_⟩
 rcases hv.2 with hv | ⟨w,hw,e⟩
 ·exact .inl (h v hv)
 ·exact .inr ⟨w,h w hw,e⟩
theorem sweepS_conn (F : Nat → Int) (hF : ∀ v,v < n.toNat → ∃ u : Nat,F v = u ∧ u < n.toNat ∧ Conn (TE l x x.length) u v) : ∀ i,i ≤ x.length → ∀ v,v < n.toNat → ∃ u : Nat,sweepS l x F i v = u ∧ u < n.toNat ∧ Conn (TE l x x.length) u v:=by
 intro i
 induction i with
 | zero => exact fun _ => hF
 | succ i ih =>
  intro hi v hv;have ih:=ih (by omega);have he : TE l x x.length (frm l x i) (too l x i):=⟨i,by omega,rfl,rfl⟩
  simp only [sweepS]
  rcases @stepS_from (sweepS l x F i) (frm l x i) (too l x i) v with h | ⟨e,h⟩ | ⟨e,h⟩
  ·rw [h]; exact ih v hv
  ·rw [h];obtain ⟨u,h1,h2,h3⟩:=ih _ (frm_lt hg hx (j:=i) (by omega)).2;exact ⟨u,h1,h2,e ▸ .tail h3 (.inl he)⟩
  ·rw [h];obtain ⟨u,h1,h2,h3⟩:=ih _ (too_lt hg hx (j:=i) (by omega)).2;exact ⟨u,h1,h2,e ▸ .tail h3 (.inr he)⟩
theorem roundS_conn : ∀ r v,v < n.toNat → ∃ u : Nat,roundS l x r v = u ∧ u < n.toNat ∧ Conn (TE l x x.length) u v:=by
 intro r
 induction r with
 | zero => exact fun v hv => ⟨v,rfl,hv,.refl v⟩
 | succ r ih => exact sweepS_conn hg hx _ ih _ (Nat.le_refl _)
theorem roundS_le : ∀ r v,roundS l x r v ≤ v:=by
 intro r
 induction r with
 | zero => exact fun v => Int.le_refl _
 | succ r ih => exact fun v => Int.le_trans (sweepS_le l x _ _ v) (ih v)
theorem roundS_anti (r : Nat) : ∀ s v,roundS l x (r + s) v ≤ roundS l x r v:=by
 intro s
 induction s with
 | zero => exact fun v => Int.le_refl _
 | succ s ih => exact fun v => Int.le_trans (sweepS_le l x _ _ v) (ih v)
theorem specParts : Parts n.toNat (TE l x x.length) (roundS l x n.toNat):=by
 have h1:=hg.n1;have least : ∀ u v,u < n.toNat → Conn (TE l x x.length) u v → roundS l x n.toNat v ≤ u:=by
  intro u v hu c;have a:=near_round _ _ (near_conn hg hx hu c);have b:=roundS_anti hg hx (n.toNat - 1) 1 v;rw [show n.toNat - 1 + 1 = n.toNat by omega] at b;exact Int.le_trans b a
 refine ⟨fun a b e => ?_,fun v hv => roundS_le hg hx _ v,roundS_conn hg hx _⟩;have ha : a < n.toNat:=by obtain ⟨i,hi,e1,e2⟩:=e; rw [e1]; exact (frm_lt hg hx hi).2
 have hb : b < n.toNat:=by obtain ⟨i,hi,e1,e2⟩:=e; rw [e2]; exact (too_lt hg hx hi).2
 obtain ⟨u,e1,h1,c1⟩:=roundS_conn hg hx n.toNat a ha;obtain ⟨w,e2,h2,c2⟩:=roundS_conn hg hx n.toNat b hb;have b1:=least u b h1 (.tail c1 (.inl e));have b2:=least w a h2 (.tail c2 (.inr e));omega
end
def stepI (F : Nat → Int) (a b : Nat) : Nat → Int:=fun v => if F v = mx (F a) (F b) then mn (F a) (F b) else F v
def sweepI (l : List Arc) (x : List Int) : Nat → (Nat → Int)
 | 0 => fun v => v
 | i + 1 => stepI (sweepI l x i) (frm l x i) (too l x i)
theorem stepI_ends (F : Nat → Int) (a b : Nat) : stepI F a b a = stepI F a b b:=by
 have e1 : mx (F a) (F b) = max (F a) (F b):=by unfold mx; omega
 have e2 : mn (F a) (F b) = min (F a) (F b):=by unfold mn; omega
 unfold stepI
 rw [e1,e2]
 split <;> split <;> omega
section
variable {n : Int} {l : List Arc} (hg : NetGood n l) {x : List Int} (hx : ∀ j,j < x.length → 0 ≤ nth x j ∧ nth x j < l.length)
include hg hx
theorem implParts_to : ∀ i,i ≤ x.length → Parts n.toNat (TE l x i) (sweepI l x i):=by
 intro i
 induction i with
 | zero =>
  intro _;exact ⟨fun a b ⟨j,hj,_⟩ => absurd hj (by omega),fun v _ => Int.le_refl _,fun v hv => ⟨v,rfl,hv,.refl v⟩⟩
 | succ i ih =>
  intro hi;have ih:=ih (by omega);have ha:=(frm_lt hg hx (j:=i) (by omega)).2;have hb:=(too_lt hg hx (j:=i) (by omega)).2;have up : ∀ a b,TE l x i a b → TE l x (i + 1) a b:=fun a b ⟨j,hj,e⟩ => ⟨j,by omega,e⟩
  have he : TE l x (i + 1) (frm l x i) (too l x i):=⟨i,by omega,rfl,rfl⟩
  refine ⟨fun a b ⟨j,hj,e1,e2⟩ => ?_,fun v hv => ?_,fun v hv => ?_⟩
  ·by_cases e : j = i
   case pos =>
    subst e;rw [e1,e2];exact stepI_ends _ _ _
   have:=ih.same a b ⟨j,by omega,e1,e2⟩;simp only [sweepI,stepI,this]
  ·have h1:=ih.low v hv;simp only [sweepI,stepI]
   split
   ·rename_i c;have : mn (sweepI l x i (frm l x i)) (sweepI l x i (too l x i)) ≤ mx (sweepI l x i (frm l x i)) (sweepI l x i (too l x i)):=by unfold mn mx; omega
    omega
   ·exact h1
  ·obtain ⟨u,e1,h1,c1⟩:=ih.conn v hv;obtain ⟨p,ep,hp,cp⟩:=ih.conn _ ha;obtain ⟨q,eq,hq,cq⟩:=ih.conn _ hb;have c1:=c1.mono up;have cp:=cp.mono up;have cq:=cq.mono up;have link : Conn (TE l x (i + 1)) p q:=(Conn.tail cp (.inl he)).trans cq.symm;simp only [sweepI,stepI]
   by_cases c : sweepI l x i v = mx (sweepI l x i (frm l x i)) (sweepI l x i (too l x i))
   case neg =>
    rw [if_neg c];exact ⟨u,e1,h1,c1⟩
   rw [if_pos c];rw [ep,eq] at c ⊢
   by_cases hpq : p < q
   case pos =>
    refine ⟨p,by unfold mn; omega,hp,?_⟩;have : u = q:=by unfold mx at c; omega
    subst this;exact link.trans c1
   refine ⟨q,by unfold mn; omega,hq,?_⟩;have : u = p:=by unfold mx at c; omega
   subst this;exact link.symm.trans c1
end
section
variable {n : Int} {l : List Arc} (hg : NetGood n l) {x : List Int} (hx : ∀ j,j < x.length → 0 ≤ nth x j ∧ nth x j < l.length) (hm : x.length ≤ 35184372088832)
include hg hx hm
theorem rdx {j : Nat} (h : j < x.length) : rd x (j : Int) = (((nth x j).toNat : Nat) : Int) ∧ (nth x j).toNat < l.length:=by
 have:=hx j h;rw [rdg];omega
theorem implParts_l2 (i : Nat) (hi : i < x.length) {res : List Int} (next : Ev (fun k => impl_Net_joined.l1 k (lst n.toNat (sweepI l x (i + 1))) x (x.length : Int) ((i + 1 : Nat) : Int) n l) res) : ∀ (m v : Nat),n.toNat - v = m → v ≤ n.toNat → Ev (fun k => impl_Net_joined.l2 k (lst n.toNat (fun u => if u < v then sweepI l x (i + 1) u else sweepI l x i u)) (sweepI l x i (frm l x i)) (sweepI l x i (too l x i)) x (x.length : Int) (i : Int) (n.toNat : Int) (v : Int) n l) res:=by
 intro m;have h1:=hg.n1;have h8:=hg.n8
 induction m with
 | zero =>
  intro v hd hv;have e : v = n.toNat:=by omega
  subst e;refine Ev.go ?_ (fun k => by rw [impl_Net_joined.l2]);rw [up1 hi (by simp only [maxLen]; omega),lst_congr (G:=sweepI l x (i + 1)) (fun u hu => if_pos hu)];exact Ev.neg (by omega) next
 | succ m ih =>
  intro v hd hv;have hlt : v < n.toNat:=by omega
  have hn:=ih (v + 1) (by omega) (by omega);rw [← up1 (i:=v) (n:=n.toNat) hlt (by simp only [maxLen]; omega)] at hn;refine Ev.go ?_ (fun k => by rw [impl_Net_joined.l2]);rw [lst_len,lst_rd _ hlt,if_neg (Nat.lt_irrefl v)];refine Ev.pos (by omega) (Ev.pos (by omega) (Ev.pos (by omega) ?_));simp only [Int.toNat_natCast,lst_set]
  by_cases c : sweepI l x i v = mx (sweepI l x i (frm l x i)) (sweepI l x i (too l x i))
  case neg =>
   refine Ev.neg c ?_;rw [lst_congr (n:=n.toNat) (G:=fun u => if u < v + 1 then sweepI l x (i + 1) u else sweepI l x i u) ?_]
   ·exact hn
   ·intro u hu
    by_cases e : u = v
    case neg =>
     by_cases h : u < v
     case neg => rw [if_neg h,if_neg (by omega)]
     rw [if_pos h,if_pos (by omega)]
    subst e;rw [if_neg (Nat.lt_irrefl u),if_pos (Nat.lt_succ_self _)];simp only [sweepI,stepI];rw [if_neg c]
  refine Ev.pos c ?_;rw [lst_congr (n:=n.toNat) (F:=upd _ v _) (G:=fun u => if u < v + 1 then sweepI l x (i + 1) u else sweepI l x i u) ?_]
  ·exact hn
  ·intro u hu
   by_cases e : u = v
   case pos =>
    subst e;rw [upd_same,if_pos (Nat.lt_succ_self _)];simp only [sweepI,stepI];rw [if_pos c]
   rw [upd_far _ _ e]
   by_cases h : u < v
   case neg => rw [if_neg h,if_neg (by omega)]
   rw [if_pos h,if_pos (by omega)]
theorem implParts_l1 : ∀ (m i : Nat),x.length - i = m → i ≤ x.length → Ev (fun k => impl_Net_joined.l1 k (lst n.toNat (sweepI l x i)) x (x.length : Int) (i : Int) n l) (lst n.toNat (sweepI l x x.length)):=by
 intro m;have h1:=hg.n1;have h8:=hg.n8
 induction m with
 | zero =>
  intro i hd hi;have e : i = x.length:=by omega
  subst e;refine Ev.go ?_ (fun k => by rw [impl_Net_joined.l1]);exact Ev.neg (by omega) (Ev.now _)
 | succ m ih =>
  intro i hd hi;have hlt : i < x.length:=by omega
  have hn:=ih (i + 1) (by omega) (by omega);obtain ⟨e0,hj⟩:=rdx hg hx hm hlt;obtain ⟨ef,hf⟩:=frm_lt hg hx hlt;obtain ⟨et,ht⟩:=too_lt hg hx hlt;refine Ev.go ?_ (fun k => by rw [impl_Net_joined.l1]);rw [e0,rda,← ef,← et,lst_len,lst_rd _ hf,lst_rd _ ht];refine Ev.pos (by omega) (Ev.pos (by omega) (Ev.pos (by omega) (Ev.pos (by omega) (Ev.pos (by omega) (Ev.pos (by omega) (Ev.pos (by omega) (Ev.pos (by omega) (Ev.pos (by omega) ?_))))))));have:=implParts_l2 hg hx hm i hlt hn _ 0 rfl (Nat.zero_le _);rw [lst_congr (G:=sweepI l x i) (fun u hu => if_neg (Nat.not_lt_zero u))] at this;exact this
theorem implParts_l0 : ∀ (m i : Nat),n.toNat - i = m → i ≤ n.toNat → Ev (fun k => impl_Net_joined.l0 k x (lst i (fun v => v)) n (i : Int) n l) (lst n.toNat (sweepI l x x.length)):=by
 have h1:=hg.n1;have h8:=hg.n8;intro m
 induction m with
 | zero =>
  intro i hd hi;have e : i = n.toNat:=by omega
  subst e;refine Ev.go ?_ (fun k => by rw [impl_Net_joined.l0]);exact Ev.neg (by omega) (implParts_l1 hg hx hm _ 0 rfl (Nat.zero_le _))
 | succ m ih =>
  intro i hd hi;have hlt : i < n.toNat:=by omega
  refine Ev.go ?_ (fun k => by rw [impl_Net_joined.l0]);rw [up1 hlt (by simp only [maxLen]; omega),lst_snoc i (fun v => (v : Int))];exact Ev.pos (by omega) (Ev.pos (by rw [lst_len]; omega) (ih (i + 1) (by omega) (by omega)))
theorem implParts_ev : Ev (fun k => impl_Net_joined.f k n l x) (lst n.toNat (roundS l x n.toNat)):=by
 have h1:=hg.n1;have h8:=hg.n8
 unfold impl_Net_joined.f
 refine Ev.pos (by omega) (Ev.pos (by omega) ((implParts_l0 hg hx hm _ 0 rfl (Nat.zero_le _)).cast ?_));exact lst_congr (fun v hv => (implParts_to hg hx _ (Nat.le_refl _)).uniq (specParts hg hx) v hv)
end
end Go.Proofs.Ytlhmljngjdfbpaa.Pure
end
section
set_option linter.unusedSimpArgs false
set_option linter.unusedVariables false
set_option linter.unusedVariables false
end
section
set_option linter.unusedSimpArgs false
set_option linter.unusedVariables false
namespace Go.Proofs.Ytlhmljngjdfbpaa.Ins
section
variable {α : Type} {L : α → α → Prop}
theorem pw_uniq (irr : ∀ x,¬ L x x) (asy : ∀ x y,L x y → ¬ L y x) : ∀ (a b : List α),a.Pairwise L → b.Pairwise L → (∀ x,x ∈ a ↔ x ∈ b) → a = b
 | [],[],_,_,_ => rfl
 | [],y :: b,_,_,h => absurd ((h y).2 (List.mem_cons_self ..)) (by simp)
 | x :: a,[],_,_,h => absurd ((h x).1 (List.mem_cons_self ..)) (by simp)
 | x :: a,y :: b,ha,hb,h => by
  obtain ⟨ha1,ha2⟩:=List.pairwise_cons.1 ha;obtain ⟨hb1,hb2⟩:=List.pairwise_cons.1 hb;have e : x = y:=by
   rcases List.mem_cons.1 ((h x).1 (List.mem_cons_self ..)) with e | h1
   ·exact e
   ·rcases List.mem_cons.1 ((h y).2 (List.mem_cons_self ..)) with e | h2
    ·exact e.symm
    ·exact absurd (hb1 x h1) (asy _ _ (ha1 y h2))
  subst e
  congr 1
  refine pw_uniq irr asy a b ha2 hb2 (fun z => ⟨fun hz => ?_,fun hz => ?_⟩)
  ·rcases List.mem_cons.1 ((h z).1 (List.mem_cons_of_mem _ hz)) with e | h1
   ·subst e; exact absurd (ha1 z hz) (irr z)
   ·exact h1
  ·rcases List.mem_cons.1 ((h z).2 (List.mem_cons_of_mem _ hz)) with e | h1
   ·subst e; exact absurd (hb1 z hz) (irr z)
   ·exact h1
end
section
variable {α : Type} [Inhabited α] {lt : α → α → Bool}
theorem swp_list (d : Array α) (P R : List α) (x y : α) (h : d.toList = P ++ y :: x :: R) : (Go.Sort.swp d (P.length + 1) P.length).toList = P ++ x :: y :: R:=by
 have hs : d.size = P.length + (R.length + 2):=by rw [← Array.length_toList,h]; simp
 have e1 : d[P.length + 1]! = x:=by
  rw [getElem!_pos d (P.length + 1) (by omega),← Array.getElem_toList];simp [h]
 have e0 : d[P.length]! = y:=by
  rw [getElem!_pos d P.length (by omega),← Array.getElem_toList];simp [h]
 unfold Go.Sort.swp
 rw [e0,e1,Array.toList_setIfInBounds,Array.toList_setIfInBounds,h];rw [List.set_append_right _ _ (by omega),List.set_append_right _ _ (by omega)];simp
theorem insInner_list : ∀ (j : Nat) (d : Array α) (P R : List α) (x : α),P.length = j → d.toList = P ++ x :: R → ∃ A B,P = A ++ B ∧ (Go.Sort.insInner lt 0 j d).toList = A ++ x :: (B ++ R) ∧ (∀ b ∈ B,lt x b = true) ∧ (∀ A' a,A = A' ++ [a] → lt x a = false)
 | 0,d,P,R,x,hP,hd => by
  have : P = []:=List.length_eq_zero_iff.1 hP;subst this;exact ⟨[],[],rfl,by simpa [Go.Sort.insInner] using hd,by simp,by simp⟩
 | j + 1,d,P,R,x,hP,hd => by
  obtain ⟨P',y,rfl⟩ : ∃ P' y,P = P' ++ [y]:=by
   have hne : P ≠ []:=fun e => by rw [e] at hP; simp at hP
   exact ⟨P.dropLast,P.getLast hne,(List.dropLast_concat_getLast hne).symm⟩
  have hl : P'.length = j:=by simpa using hP
  have hd' : d.toList = P' ++ y :: x :: R:=by rw [hd]; simp
  have hs : d.size = P'.length + (R.length + 2):=by rw [← Array.length_toList,hd']; simp
  have e1 : d[j + 1]! = x:=by
   rw [getElem!_pos d (j + 1) (by omega),← Array.getElem_toList];simp [hd',← hl]
  have e0 : d[j]! = y:=by
   rw [getElem!_pos d j (by omega),← Array.getElem_toList];simp [hd',← hl]
  unfold Go.Sort.insInner
  rw [e0,e1];cases hlt : lt x y with
  | true =>
   rw [if_pos (by simp)];have hsw:=swp_list d P' R x y hd';rw [hl] at hsw;obtain ⟨A,B,h1,h2,h3,h4⟩:=insInner_list j (Go.Sort.swp d (j + 1) j) P' (y :: R) x hl hsw;refine ⟨A,B ++ [y],by rw [h1]; simp,by rw [h2]; simp,fun b hb => ?_,h4⟩
   rcases List.mem_append.1 hb with h | h
   ·exact h3 b h
   ·rw [List.mem_singleton.1 h]; exact hlt
  | false =>
   rw [if_neg (by simp)];refine ⟨P' ++ [y],[],by simp,by rw [hd]; simp,by simp,fun A' a e => ?_⟩;obtain ⟨_,e⟩:=List.append_inj' e rfl;injection e with e _
   rw [← e]; exact hlt
end
section
variable {key : Nat → Nat}
def Lk (key : Nat → Nat) (x y : Nat) : Prop:=key x < key y ∨ (key x = key y ∧ x < y)
theorem Lk.irr (x : Nat) : ¬ Lk key x x:=by unfold Lk; omega
theorem Lk.asy (x y : Nat) (h : Lk key x y) : ¬ Lk key y x:=by unfold Lk at h ⊢; omega
theorem put_in {A B : List Nat} {i : Nat} (hp : (A ++ B).Pairwise (Lk key)) (hi : ∀ x ∈ A ++ B,x < i) (hB : ∀ b ∈ B,key i < key b) (hA : ∀ A' a,A = A' ++ [a] → key a ≤ key i) : (A ++ i :: B).Pairwise (Lk key):=by
 have hA2 : ∀ a ∈ A,key a ≤ key i:=by
  intro a ha
  by_cases hne : A = []
  case pos => rw [hne] at ha; simp at ha
  have e:=List.dropLast_concat_getLast hne;have h1:=hA _ _ e.symm;rw [← e] at ha
  rcases List.mem_append.1 ha with h | h
  ·have hpa:=(List.pairwise_append.1 hp).1;rw [← e] at hpa;have:=(List.pairwise_append.1 hpa).2.2 a h _ (List.mem_singleton.2 rfl)
   unfold Lk at this
   omega
  ·rw [List.mem_singleton.1 h]; exact h1
 obtain ⟨h1,h2,h3⟩:=List.pairwise_append.1 hp;rw [List.pairwise_append];refine ⟨h1,List.pairwise_cons.2 ⟨fun b hb => .inl (hB b hb),h2⟩,fun a ha b hb => ?_⟩
 rcases List.mem_cons.1 hb with rfl | hb
 ·have:=hA2 a ha;have:=hi a (List.mem_append_left _ ha)
  unfold Lk
  omega
 ·exact h3 a ha b hb
end
section
variable {m : Nat} {lt : Fin (m + 1) → Fin (m + 1) → Bool} {key : Nat → Nat} (hlt : ∀ x y,lt x y = decide (key x.1 < key y.1))
include hlt
theorem outer_list : ∀ (s i : Nat) (d : Array (Fin (m + 1))) (S R : List (Fin (m + 1))),(m + 1) - i = s → i ≤ m + 1 → 0 < i → d.toList = S ++ R → S.length = i → (S.map fun x => x.1).Pairwise (Lk key) → (∀ x : Nat,x ∈ S.map (fun x => x.1) ↔ x < i) → R.map (fun x => x.1) = (List.range' i s) → ((Go.Sort.insOuter lt 0 (m + 1) i d).toList.map fun x => x.1).Pairwise (Lk key) ∧ ∀ x : Nat,x ∈ (Go.Sort.insOuter lt 0 (m + 1) i d).toList.map (fun x => x.1) ↔ x < m + 1:=by
 intro s
 induction s with
 | zero =>
  intro i d S R hs hi h0 hd hS hp hm hR;have : R = []:=by simpa using hR
  subst this;rw [Go.Sort.insOuter,if_neg (by omega),hd,List.append_nil];have : i = m + 1:=by omega
  subst this;exact ⟨hp,hm⟩
 | succ s ih =>
  intro i d S R hs hi h0 hd hS hp hm hR;rw [List.range'_succ] at hR;obtain ⟨x,R',rfl,hx,hR'⟩ : ∃ x R',R = x :: R' ∧ x.1 = i ∧ R'.map (fun x => x.1) = List.range' (i + 1) s:=by
   cases R with
   | nil => simp at hR
   | cons x R' => exact ⟨x,R',rfl,by simpa using (List.cons.inj hR).1,by simpa using (List.cons.inj hR).2⟩
  rw [Go.Sort.insOuter,if_pos (by omega)];obtain ⟨A,B,h1,h2,h3,h4⟩:=insInner_list (lt:=lt) i d S R' x hS hd;subst h1;refine ih (i + 1) _ (A ++ x :: B) R' (by omega) (by omega) (by omega) (by rw [h2]; simp) (by simp at hS ⊢; omega) ?_ ?_ hR'
  ·rw [List.map_append,List.map_cons,hx];rw [List.map_append] at hp hm;refine put_in hp (fun y hy => (hm y).1 hy) (fun b hb => ?_) (fun A' a e => ?_)
   ·obtain ⟨z,hz,rfl⟩:=List.mem_map.1 hb;have:=h3 z hz;rw [hlt,decide_eq_true_eq,hx] at this;exact this
   ·by_cases hne : A = []
    case pos => rw [hne] at e; simp at e
    have e2:=List.dropLast_concat_getLast hne;have h5:=h4 _ _ e2.symm;rw [hlt,decide_eq_false_iff_not,hx] at h5;rw [← e2,List.map_append] at e;obtain ⟨_,e⟩:=List.append_inj' e rfl;have e : (A.getLast hne).1 = a:=by simpa using e
    rw [← e];omega
  ·intro y;rw [List.map_append,List.map_cons,List.mem_append,List.mem_cons,hx];have:=hm y;rw [List.map_append,List.mem_append] at this;constructor
   ·rintro (h | h | h)
    ·have:=this.1 (.inl h); omega
    ·omega
    ·have:=this.1 (.inr h); omega
   ·intro h
    by_cases e : y = i
    case pos => exact .inr (.inl e)
    rcases this.2 (by omega) with h | h
    ·exact .inl h
    ·exact .inr (.inr h)
theorem sort_list : ((Go.Sort.insertionSort lt (Array.ofFn fun x : Fin (m + 1) => x) 0 (m + 1)).toList.map fun x => x.1).Pairwise (Lk key) ∧ ∀ x : Nat,x ∈ (Go.Sort.insertionSort lt (Array.ofFn fun x : Fin (m + 1) => x) 0 (m + 1)).toList.map (fun x => x.1) ↔ x < m + 1:=by
 have hd : (Array.ofFn fun x : Fin (m + 1) => x).toList = [⟨0,by omega⟩] ++ (List.ofFn fun x : Fin m => (⟨x.1 + 1,by omega⟩ : Fin (m + 1))):=by
  rw [Array.toList_ofFn,List.ofFn_succ];rfl
 refine outer_list hlt m 1 _ [⟨0,by omega⟩] (List.ofFn fun x : Fin m => (⟨x.1 + 1,by omega⟩ : Fin (m + 1))) (by omega) (by omega) (by omega) hd rfl (by simp) (fun x => by simp) ?_
 apply List.ext_getElem (by simp)
 intro i h1 h2;simp [List.getElem_range'];omega
end
end Go.Proofs.Ytlhmljngjdfbpaa.Ins
end
section
set_option linter.unusedSectionVars false
namespace Go.Proofs.Ytlhmljngjdfbpaa.Sp
structure G where
 n : Nat
 m : Nat
 fr : Nat → Nat
 tw : Nat → Nat
 w : Nat → Int
 use : Nat → Bool
structure G.Ok (g : G) : Prop where
 fl : ∀ i,i < g.m → g.fr i < g.n
 tl : ∀ i,i < g.m → g.tw i < g.n
 w0 : ∀ i,i < g.m → 0 ≤ g.w i
inductive Wk (g : G) : Nat → Nat → Nat → Int → Prop
 | nil (v : Nat) : Wk g v v 0 0
 | cons {i v k : Nat} {c : Int} : i < g.m → g.use i = true → Wk g (g.tw i) v k c → Wk g (g.fr i) v (k + 1) (g.w i + c)
theorem nodup_len : ∀ (n : Nat) (l : List Nat),l.Nodup → (∀ x ∈ l,x < n) → l.length ≤ n:=by
 intro n
 induction n with
 | zero =>
  intro l _ h;cases l with
  | nil => simp
  | cons a l => exact absurd (h a (by simp)) (by omega)
 | succ n ih =>
  intro l hn h;have h1:=ih (l.erase n) (hn.erase n) (fun x hx => by
   have h2:=h x (List.mem_of_mem_erase hx);have h3 : x ≠ n:=by
    rintro rfl;exact (List.Nodup.not_mem_erase hn) hx
   omega)
  have:=List.length_erase_le (a:=n) (l:=l);have h4 : l.length ≤ (l.erase n).length + 1:=by
   rw [List.length_erase]
   split <;> omega
  omega
inductive Sm (g : G) (t : Nat) : Nat → List Nat → Nat → Int → Prop
 | nil : Sm g t t [t] 0 0
 | cons {i k : Nat} {L : List Nat} {c : Int} : i < g.m → g.use i = true → Sm g t (g.tw i) L k c → g.fr i ∉ L → Sm g t (g.fr i) (g.fr i :: L) (k + 1) (g.w i + c)
def Opt (g : G) (t : Nat) (L : Nat → Option Int) : Prop:=∀ v,v < g.n → (∀ x,L v = some x → ∃ k,Wk g v t k x) ∧ (∀ k c,Wk g v t k c → ∃ x,L v = some x ∧ x ≤ c)
def lts (a : Int) : Option Int → Bool
 | none => true
 | some y => decide (a < y)
def put (L : Nat → Option Int) (a : Nat) (x : Int) : Nat → Option Int:=fun v => if v = a then some x else L v
def relax (g : G) (L : Nat → Option Int) (i : Nat) : Nat → Option Int :=
 if g.use i = true then
  match L (g.tw i) with
  | none => L
  | some x => if lts (x + g.w i) (L (g.fr i)) = true then put L (g.fr i) (x + g.w i) else L
 else L
def sweep (g : G) (L : Nat → Option Int) : Nat → (Nat → Option Int)
 | 0 => L
 | i + 1 => relax g (sweep g L i) i
def start (t : Nat) : Nat → Option Int:=fun v => if v = t then some 0 else none
def rounds (g : G) (t : Nat) : Nat → (Nat → Option Int)
 | 0 => start t
 | r + 1 => sweep g (rounds g t r) g.m
end Go.Proofs.Ytlhmljngjdfbpaa.Sp
namespace Go.Proofs.Ytlhmljngjdfbpaa.Sp
structure Dbl (g e s : G) (D : Nat → Option Int) : Prop where
 en : e.n = g.n
 em : e.m = g.m
 ef : e.fr = g.fr
 et : e.tw = g.tw
 eu : e.use = g.use
 ew : ∀ i,i < g.m → e.w i = 1000 * g.w i + 1
 sn : s.n = g.n
 sm : s.m = g.m
 sf : s.fr = g.fr
 st : s.tw = g.tw
 sw : ∀ i,i < g.m → s.w i = 1
 su : ∀ i,i < g.m → (s.use i = true ↔ g.use i = true ∧ ∃ x,D (g.tw i) = some x ∧ D (g.fr i) = some (g.w i + x))
section
variable {g e s : G} {t : Nat} {D S : Nat → Option Int} (h : Dbl g e s D) (ok : g.Ok) (hD : Opt g t D) (hS : Opt s t S) (ht : t < g.n)
include h
end
end Go.Proofs.Ytlhmljngjdfbpaa.Sp
end
section
set_option linter.unusedSimpArgs false
set_option linter.unusedVariables false
set_option linter.unusedSectionVars false
namespace Go.Proofs.Ytlhmljngjdfbpaa.Pure
open Go.RowKit Go.Proofs.Ytlhmljngjdfbpaa.Pr Go.Proofs.YtlhmljngjdfbpaaW.PrintWords Go.Proofs.YtlhmljngjdfbpaaW.PrintLast Go.Proofs.YtlhmljngjdfbpaaW.PrintMore
open Go.Proofs.Ytlhmljngjdfbpaa.Ins (Lk pw_uniq sort_list)
def cst (l : List Arc) (i : Nat) : Nat:=(arc l i).f2.toNat
def frA (l : List Arc) (i : Nat) : Nat:=(arc l i).f0.toNat
def twA (l : List Arc) (i : Nat) : Nat:=(arc l i).f1.toNat
def ofC (l : List Arc) (c : Nat) : List Nat:=(List.range l.length).filter fun i => decide (cst l i = c)
def ks (l : List Arc) : List Nat:=(List.range 100).flatMap (ofC l)
def ints (x : List Nat) : List Int:=x.map fun i => ((i : Nat) : Int)
theorem ints_len (x : List Nat) : (ints x).length = x.length:=by simp [ints]
theorem ks_pw (l : List Arc) : (ks l).Pairwise (Lk (cst l)):=by
 unfold ks
 rw [List.pairwise_flatMap];refine ⟨fun c _ => ?_,List.Pairwise.imp (fun {a b} hab x hx y hy => ?_) List.pairwise_lt_range⟩
 ·unfold ofC
  rw [List.pairwise_filter];refine List.Pairwise.imp (fun {a b} hab ha hb => .inr ⟨?_,hab⟩) List.pairwise_lt_range;rw [decide_eq_true_eq] at ha hb;omega
 ·unfold ofC at hx hy
  rw [List.mem_filter,decide_eq_true_eq] at hx hy;exact .inl (by omega)
theorem ks_mem {n : Int} {l : List Arc} (hg : NetGood n l) (x : Nat) : x ∈ ks l ↔ x < l.length:=by
 unfold ks
 rw [List.mem_flatMap];constructor
 ·rintro ⟨c,_,h⟩
  unfold ofC at h
  rw [List.mem_filter] at h;exact List.mem_range.1 h.1
 ·intro h;have:=(hg.ok x h).2.2.2.1;refine ⟨cst l x,List.mem_range.2 (by unfold cst; omega),?_⟩
  unfold ofC
  rw [List.mem_filter];exact ⟨List.mem_range.2 h,decide_eq_true rfl⟩
theorem ks_nodup (l : List Arc) : (ks l).Nodup:=List.Pairwise.imp (fun {a b} h e => by subst e; exact Lk.irr a h) (ks_pw l)
theorem ks_len {n : Int} {l : List Arc} (hg : NetGood n l) : (ks l).length ≤ 16:=by
 have:=Sp.nodup_len l.length (ks l) (ks_nodup l) (fun x hx => (ks_mem hg x).1 hx);have:=hg.len;omega
theorem cmp_neg (x y : Int) : decide (Go.Lib.compareInt x y < 0) = decide (x < y):=by
 unfold Go.Lib.compareInt
 by_cases h : x < y
 case pos => rw [if_pos h]; simp [h]
 rw [if_neg h]
 by_cases h2 : x > y
 case neg => rw [if_neg h2]; simp [h]
 rw [if_pos h2]; simp [h]
theorem ordOf_eq {n : Int} {l : List Arc} (hg : NetGood n l) : ordOf l l.length = ints (ks l):=by
 cases hm : l.length with
 | zero =>
  have : ks l = []:=List.eq_nil_iff_forall_not_mem.2 (fun x hx => by have:=(ks_mem hg x).1 hx; omega);rw [this]; rfl
 | succ m =>
  have hs:=sort_list (m:=m) (lt:=Go.Proofs.ltOf fun x y : Fin (m + 1) => Go.Lib.compareInt (rd_T58 l ((x.1 : Nat) : Int)).f2 (rd_T58 l ((y.1 : Nat) : Int)).f2) (key:=cst l) (fun x y => by
   have h1:=(hg.ok x.1 (by have:=x.2; omega)).2.2.2.1;have h2:=(hg.ok y.1 (by have:=y.2; omega)).2.2.2.1
   unfold Go.Proofs.ltOf
   rw [cmp_neg,rda,rda]
   unfold cst
   exact decide_eq_decide.2 (by omega))
  have he:=pw_uniq Lk.irr Lk.asy _ _ hs.1 (ks_pw l) (fun x => by rw [hs.2,ks_mem hg]; omega)
  unfold ordOf ints
  rw [← he,List.map_map];rfl
theorem kru_ex {fr tw : Nat → Nat} : ∀ (ks o : List Nat),∃ r,Kru fr tw ks o r
 | [],o => ⟨o,.nil o⟩
 | k :: ks,o => by
  by_cases h : Con fr tw o (fr k) (tw k)
  case pos =>
   obtain ⟨r,hr⟩:=kru_ex ks o;exact ⟨r,.skip h hr⟩
  obtain ⟨r,hr⟩:=kru_ex ks (o ++ [k]);exact ⟨r,.take h hr⟩
section
variable {n : Int} {l : List Arc} (hg : NetGood n l)
include hg
theorem te_con (o : List Nat) (u v : Nat) : Conn (TE l (ints o) (ints o).length) u v ↔ Con (frA l) (twA l) o u v:=by
 constructor
 ·refine fun h => h.mono (fun a b ⟨i,hi,ha,hb⟩ => ?_)
  rw [ints_len] at hi;have e : nth (ints o) i = ((o[i] : Nat) : Int):=by rw [nth_get (by rw [ints_len]; exact hi)]; simp [ints]
  refine ⟨o[i],List.getElem_mem hi,?_,?_⟩
  ·rw [ha]; unfold frm frA; rw [e,Int.toNat_natCast]
  ·rw [hb]; unfold too twA; rw [e,Int.toNat_natCast]
 ·refine fun h => h.mono (fun a b ⟨i,hi,ha,hb⟩ => ?_)
  obtain ⟨j,hj,e⟩:=List.getElem_of_mem hi;have e2 : nth (ints o) j = ((i : Nat) : Int):=by rw [nth_get (by rw [ints_len]; exact hj)]; simp [ints,e]
  refine ⟨j,by rw [ints_len]; exact hj,?_,?_⟩
  ·rw [ha]; unfold frm frA; rw [e2,Int.toNat_natCast]
  ·rw [hb]; unfold too twA; rw [e2,Int.toNat_natCast]
theorem ints_in {o : List Nat} (ho : ∀ i ∈ o,i < l.length) : ∀ j,j < (ints o).length → 0 ≤ nth (ints o) j ∧ nth (ints o) j < l.length:=by
 intro j hj;rw [ints_len] at hj;have e : nth (ints o) j = ((o[j] : Nat) : Int):=by rw [nth_get (by rw [ints_len]; exact hj)]; simp [ints]
 have:=ho o[j] (List.getElem_mem hj);omega
theorem parts_con {o : List Nat} (ho : ∀ i ∈ o,i < l.length) {u v : Nat} (hu : u < n.toNat) (hv : v < n.toNat) : roundS l (ints o) n.toNat u = roundS l (ints o) n.toNat v ↔ Con (frA l) (twA l) o u v:=by
 have hp:=specParts hg (ints_in hg ho);rw [← te_con hg];constructor
 ·intro e;obtain ⟨a,e1,_,c1⟩:=hp.conn u hu;obtain ⟨b,e2,_,c2⟩:=hp.conn v hv;have : a = b:=by omega
  subst this;exact c1.symm.trans c2
 ·exact fun c => hp.all c
theorem arc_in {i : Nat} (h : i < l.length) : (((frA l i : Nat) : Int) = (arc l i).f0 ∧ frA l i < n.toNat) ∧ (((twA l i : Nat) : Int) = (arc l i).f1 ∧ twA l i < n.toNat):=by
 have:=hg.ok i h
 unfold frA twA
 omega
theorem treeL_ev : ∀ {ks o r : List Nat},Kru (frA l) (twA l) ks o r → (∀ i ∈ ks,i < l.length) → (∀ i ∈ o,i < l.length) → o.length + ks.length ≤ 1000 → Ev (fun k => treeL k n l (ints ks) (ints o)) (ints r):=by
 intro ks o r h
 induction h with
 | nil o => intro _ _ _; exact Ev.now _
 | @skip i ks o r c _ ih =>
  intro h1 h2 h3;have hi:=h1 i (List.mem_cons_self ..);have ha:=arc_in hg hi;have hj:=implParts_ev hg (ints_in hg h2) (by rw [ints_len]; simp at h3; omega);have ih:=ih (fun j hj => h1 j (List.mem_cons_of_mem _ hj)) h2 (by simp at h3; omega)
  show Ev (fun k => treeL k n l (((i : Nat) : Int) :: ints ks) (ints o)) (ints r)
  simp only [treeL];refine Ev.bind hj (Ev.pos ?_ (Ev.pos ?_ ih))
  ·rw [rda,lst_len]; omega
  ·rw [rda,← ha.1.1,← ha.2.1,lst_rd _ ha.1.2,lst_rd _ ha.2.2];exact (parts_con hg h2 ha.1.2 ha.2.2).2 c
 | @take i ks o r c _ ih =>
  intro h1 h2 h3;have hi:=h1 i (List.mem_cons_self ..);have ha:=arc_in hg hi;have hj:=implParts_ev hg (ints_in hg h2) (by rw [ints_len]; simp at h3; omega);have ih:=ih (fun j hj => h1 j (List.mem_cons_of_mem _ hj)) (fun j hj => by
   rcases List.mem_append.1 hj with h | h
   ·exact h2 j h
   ·rw [List.mem_singleton.1 h]; exact hi) (by simp at h3 ⊢; omega)
  have e : ints o ++ [((i : Nat) : Int)] = ints (o ++ [i]):=by simp [ints]
  show Ev (fun k => treeL k n l (((i : Nat) : Int) :: ints ks) (ints o)) (ints r)
  simp only [treeL];rw [e];refine Ev.bind hj (Ev.pos ?_ (Ev.neg ?_ ih))
  ·rw [rda,lst_len]; omega
  ·rw [rda,← ha.1.1,← ha.2.1,lst_rd _ ha.1.2,lst_rd _ ha.2.2];exact fun e => c ((parts_con hg h2 ha.1.2 ha.2.2).1 e)
end
inductive Rt (F : Nat → Nat) : Nat → Nat → Prop
 | stop {v : Nat} : F v = v → Rt F v v
 | step {v a : Nat} : F v ≠ v → Rt F (F v) a → Rt F v a
theorem Rt.ex {F : Nat → Nat} (hF : ∀ v,F v ≤ v) : ∀ s v,v ≤ s → ∃ a,Rt F v a
 | 0,v,h => ⟨v,.stop (by have:=hF v; omega)⟩
 | s + 1,v,h => by
  by_cases e : F v = v
  case pos => exact ⟨v,.stop e⟩
  obtain ⟨a,ha⟩:=Rt.ex hF s (F v) (by have:=hF v; omega);exact ⟨a,.step e ha⟩
theorem Rt.uniq {F : Nat → Nat} {v a b : Nat} (h : Rt F v a) (k : Rt F v b) : a = b:=by
 induction h with
 | stop e => cases k with
  | stop => rfl
  | step e' _ => exact absurd e e'
 | step e _ ih => cases k with
  | stop e' => exact absurd e' e
  | step _ k => exact ih k
theorem Rt.fix {F : Nat → Nat} {v a : Nat} (h : Rt F v a) : F a = a:=by
 induction h with
 | stop e => exact e
 | step _ _ ih => exact ih
theorem Rt.le {F : Nat → Nat} (hF : ∀ v,F v ≤ v) {v a : Nat} (h : Rt F v a) : a ≤ v:=by
 induction h with
 | stop => exact Nat.le_refl _
 | @step v a _ _ ih => exact Nat.le_trans ih (hF v)
def updN (F : Nat → Nat) (b a : Nat) : Nat → Nat:=fun v => if v = b then a else F v
theorem Rt.link {F : Nat → Nat} {a b v r : Nat} (ha : F a = a) (hb : F b = b) (hne : a ≠ b) (h : Rt F v r) : Rt (updN F b a) v (if r = b then a else r):=by
 have hG : updN F b a a = a:=by unfold updN; rw [if_neg hne,ha]
 induction h with
 | @stop v e =>
  by_cases c : v = b
  case neg =>
   rw [if_neg c];exact .stop (by unfold updN; rw [if_neg c]; exact e)
  subst c;rw [if_pos rfl];refine .step (by unfold updN; rw [if_pos rfl]; exact hne) ?_;have : updN F v a v = a:=by unfold updN; rw [if_pos rfl]
  rw [this];exact .stop hG
 | @step v r e _ ih =>
  have c : v ≠ b:=fun c => e (by rw [c]; exact hb)
  have hv : updN F b a v = F v:=by unfold updN; rw [if_neg c]
  exact .step (by rw [hv]; exact e) (by rw [hv]; exact ih)
structure Forg (fr tw : Nat → Nat) (o : List Nat) (F : Nat → Nat) : Prop where
 le : ∀ v,F v ≤ v
 con : ∀ u v a b,Rt F u a → Rt F v b → (a = b ↔ Con fr tw o u v)
theorem Forg.start {fr tw : Nat → Nat} : Forg fr tw [] (fun v => v):=by
 refine ⟨fun v => Nat.le_refl _,fun u v a b ha hb => ?_⟩;have h1:=ha.uniq (.stop rfl);have h2:=hb.uniq (.stop rfl);subst h1 h2;exact ⟨fun e => by rw [e]; exact .refl _,fun c => con_nil c⟩
theorem Forg.add {fr tw : Nat → Nat} {o : List Nat} {F : Nat → Nat} (h : Forg fr tw o F) {k x y : Nat} (hx : Rt F (fr k) x) (hy : Rt F (tw k) y) {a b : Nat} (hab : a < b) (he : (a = x ∧ b = y) ∨ (a = y ∧ b = x)) : Forg fr tw (o ++ [k]) (updN F b a):=by
 have hfa : F a = a:=by rcases he with ⟨rfl,_⟩ | ⟨rfl,_⟩ <;> first | exact hx.fix | exact hy.fix
 have hfb : F b = b:=by rcases he with ⟨_,rfl⟩ | ⟨_,rfl⟩ <;> first | exact hy.fix | exact hx.fix
 refine ⟨fun v => ?_,fun u v p q hp hq => ?_⟩
 ·unfold updN
  by_cases c : v = b
  case pos => rw [if_pos c]; omega
  rw [if_neg c]; exact h.le v
 ·obtain ⟨p0,hp0⟩:=Rt.ex h.le u u (Nat.le_refl _);obtain ⟨q0,hq0⟩:=Rt.ex h.le v v (Nat.le_refl _);have ep:=hp.uniq (hp0.link hfa hfb (by omega));have eq:=hq.uniq (hq0.link hfa hfb (by omega));have hsub : ∀ i,i ∈ o → i ∈ o ++ [k]:=fun i hi => List.mem_append_left _ hi
  have hk : Con fr tw (o ++ [k]) (fr k) (tw k):=Con.arc (List.mem_append_right _ (List.mem_singleton.2 rfl));have cu : ∀ {w z : Nat},Rt F w z → ∀ {w' z' : Nat},Rt F w' z' → z = z' → Con fr tw (o ++ [k]) w w':=fun h1 _ _ h2 e => ((h.con _ _ _ _ h1 h2).1 e).sub hsub
  constructor
  ·intro e
   by_cases c1 : p0 = b
   case pos =>
    by_cases c2 : q0 = b
    case pos => exact cu hp0 hq0 (by omega)
    rw [if_pos c1] at ep;rw [if_neg c2] at eq
    rcases he with ⟨e1,e2⟩ | ⟨e1,e2⟩
    ·exact (cu hp0 hy (by omega)).trans (hk.symm.trans (cu hx hq0 (by omega)))
    ·exact (cu hp0 hx (by omega)).trans (hk.trans (cu hy hq0 (by omega)))
   rw [if_neg c1] at ep
   by_cases c2 : q0 = b
   case neg =>
    rw [if_neg c2] at eq;exact cu hp0 hq0 (by omega)
   rw [if_pos c2] at eq
   rcases he with ⟨e1,e2⟩ | ⟨e1,e2⟩
   ·exact (cu hp0 hx (by omega)).trans (hk.trans (cu hy hq0 (by omega)))
   ·exact (cu hp0 hy (by omega)).trans (hk.symm.trans (cu hx hq0 (by omega)))
  ·intro c;have key : p0 = q0 ∨ (p0 = x ∧ q0 = y) ∨ (p0 = y ∧ q0 = x):=by
    rcases con_add (l:=o) (e:=k) (fun i hi => by
     rcases List.mem_append.1 hi with h1 | h1
     ·exact .inl h1
     ·exact .inr (List.mem_singleton.1 h1)) c with c1 | ⟨c1,c2⟩ | ⟨c1,c2⟩
    ·exact .inl ((h.con _ _ _ _ hp0 hq0).2 c1)
    ·exact .inr (.inl ⟨(h.con _ _ _ _ hp0 hx).2 c1,((h.con _ _ _ _ hy hq0).2 c2).symm⟩)
    ·exact .inr (.inr ⟨(h.con _ _ _ _ hp0 hy).2 c1,((h.con _ _ _ _ hx hq0).2 c2).symm⟩)
   rw [ep,eq]
   by_cases c1 : p0 = b
   case pos =>
    by_cases c2 : q0 = b
    case pos => rw [if_pos c1,if_pos c2]
    rw [if_pos c1,if_neg c2]; omega
   by_cases c2 : q0 = b
   case neg => rw [if_neg c1,if_neg c2]; omega
   rw [if_neg c1,if_pos c2]; omega
section
variable {n : Int} {l : List Arc} (hg : NetGood n l)
include hg
omit hg
def cells (N : Nat) (F : Nat → Nat) : List Int:=lst N fun v => ((F v : Nat) : Int)
theorem cells_len (N : Nat) (F : Nat → Nat) : (cells N F).length = N:=lst_len _ _
theorem cells_rd {N v : Nat} (F : Nat → Nat) (h : v < N) : rd (cells N F) (v : Int) = (F v : Int):=lst_rd _ h
theorem cells_snoc (i : Nat) : cells i (fun v => v) ++ [(i : Int)] = cells (i + 1) fun v => v:=lst_snoc i (fun v => ((v : Nat) : Int))
theorem cells_set {N b : Nat} (F : Nat → Nat) (a : Nat) : (cells N F).set b (a : Int) = cells N (updN F b a):=by
 unfold cells
 rw [lst_set];refine lst_congr (fun v _ => ?_)
 unfold upd updN
 by_cases c : v = b
 case neg => rw [if_neg c,if_neg c]
 rw [if_pos c,if_pos c]
theorem cells_nil : cells 0 (fun v => v) = []:=rfl
attribute [irreducible] cells
include hg
theorem root_ev {F : Nat → Nat} (hF : ∀ v,F v ≤ v) {v a : Nat} (h : Rt F v a) : v < n.toNat → Ev (fun k => spec_l23Root.f k (cells n.toNat F) (v : Int)) (a : Int):=by
 induction h with
 | @stop v e =>
  intro hv
  unfold spec_l23Root.f
  refine Ev.go ?_ (fun k => by rw [spec_l23Root.l0]);have : rd (cells n.toNat F) (v : Int) = (F v : Int):=cells_rd F hv;rw [this];refine Ev.pos (by omega) (Ev.pos (by rw [cells_len]; omega) (Ev.pos (by omega) (Ev.now _)))
 | @step v a e _ ih =>
  intro hv;have ih:=ih (by have:=hF v; omega)
  unfold spec_l23Root.f at ih ⊢
  refine Ev.go ?_ (fun k => by rw [spec_l23Root.l0]);have : rd (cells n.toNat F) (v : Int) = (F v : Int):=cells_rd F hv;rw [this];exact Ev.pos (by omega) (Ev.pos (by rw [cells_len]; omega) (Ev.neg (by omega) ih))
def rem1 (l : List Arc) (c : Nat) : List Nat:=(List.range' c (100 - c)).flatMap (ofC l)
def rem2 (l : List Arc) (c i : Nat) : List Nat:=((List.range' i (l.length - i)).filter fun i => decide (cst l i = c)) ++ rem1 l (c + 1)
omit hg in
theorem rem1_step {c : Nat} (h : c < 100) : rem1 l c = rem2 l c 0:=by
 unfold rem2 rem1
 obtain ⟨s,hs⟩ : ∃ s,100 - c = s + 1:=⟨100 - c - 1,by omega⟩
 rw [hs,List.range'_succ,List.flatMap_cons,show 100 - (c + 1) = s by omega,Nat.sub_zero]
 unfold ofC
 rw [List.range_eq_range']
omit hg in
theorem rem2_step {c i : Nat} (h : i < l.length) : rem2 l c i = if cst l i = c then i :: rem2 l c (i + 1) else rem2 l c (i + 1):=by
 unfold rem2
 obtain ⟨s,hs⟩ : ∃ s,l.length - i = s + 1:=⟨l.length - i - 1,by omega⟩
 rw [hs,List.range'_succ,show l.length - (i + 1) = s by omega]
 by_cases e : cst l i = c
 case neg =>
  rw [if_neg e];simp [List.filter_cons,e]
 rw [if_pos e];simp only [List.filter_cons,e,decide_true,if_true,List.cons_append]
omit hg in
theorem rem2_end {c i : Nat} (h : l.length ≤ i) : rem2 l c i = rem1 l (c + 1):=by
 unfold rem2
 rw [show l.length - i = 0 by omega];rfl
omit hg in
theorem rem1_end (l : List Arc) : rem1 l 100 = []:=rfl
omit hg in
theorem rem1_all (l : List Arc) : rem1 l 0 = ks l:=by unfold rem1 ks; rw [List.range_eq_range']
attribute [irreducible] rem1 rem2
theorem specTB_l : ∀ (s c : Nat),100 - c = s → c ≤ 100 → (∀ {o r : List Nat} {F : Nat → Nat},Kru (frA l) (twA l) (rem1 l c) o r → Forg (frA l) (twA l) o F → o.length + (rem1 l c).length ≤ 1000 → Ev (fun k => spec_l23Tree.l1 k (cells n.toNat F) (ints o) (c : Int) n l) (ints r)):=by
 intro s
 induction s with
 | zero =>
  intro c hs hc o r F hk hF hl;have : c = 100:=by omega
  subst this;rw [rem1_end] at hk;cases hk;refine Ev.go ?_ (fun k => by rw [spec_l23Tree.l1]);exact Ev.neg (by omega) (Ev.now _)
 | succ s ih =>
  intro c hs hc;have hc2 : c < 100:=by omega
  have h16:=hg.len;have inner : ∀ (d i : Nat),l.length - i = d → i ≤ l.length → (∀ {o r : List Nat} {F : Nat → Nat},Kru (frA l) (twA l) (rem2 l c i) o r → Forg (frA l) (twA l) o F → o.length + (rem2 l c i).length ≤ 1000 → Ev (fun k => spec_l23Tree.l2 k (cells n.toNat F) (ints o) (c : Int) (i : Int) n l) (ints r)):=by
   intro d
   induction d with
   | zero =>
    intro i hd hi o r F hk hF hl;rw [rem2_end (by omega)] at hk hl;refine Ev.go ?_ (fun k => by rw [spec_l23Tree.l2]);have e : wrap64 ((c : Int) + 1) = ((c + 1 : Nat) : Int):=by rw [w64 (by omega) (by omega)]; omega
    rw [e];exact Ev.neg (by omega) (ih (c + 1) (by omega) (by omega) hk hF hl)
   | succ d ihd =>
    intro i hd hi o r F hk hF hl;have hlt : i < l.length:=by omega
    have a1 : l.length - (i + 1) = d:=by omega
    have ha:=arc_in hg hlt;have hcost:=(hg.ok i hlt).2.2.2.1;obtain ⟨x,hx⟩:=Rt.ex hF.le (frA l i) _ (Nat.le_refl _);obtain ⟨y,hy⟩:=Rt.ex hF.le (twA l i) _ (Nat.le_refl _);have hxn : ((x : Nat) : Int) < ((n.toNat : Nat) : Int):=Int.ofNat_lt.2 (Nat.lt_of_le_of_lt (hx.le hF.le) ha.1.2);have hyn : ((y : Nat) : Int) < ((n.toNat : Nat) : Int):=Int.ofNat_lt.2 (Nat.lt_of_le_of_lt (hy.le hF.le) ha.2.2);have ex:=root_ev hg hF.le hx ha.1.2;have ey:=root_ev hg hF.le hy ha.2.2;rw [ha.1.1] at ex;rw [ha.2.1] at ey;have hup:=up1 hlt (by simp only [maxLen]; omega);have hlen : (cells n.toNat F).length = n.toNat:=cells_len _ _;refine Ev.go ?_ (fun k => by rw [spec_l23Tree.l2]);rw [rda];refine Ev.pos (Int.ofNat_lt.2 hlt) (Ev.pos (Int.natCast_nonneg i) ?_);refine Ev.bind (a:=(x : Int)) ?_ ?_
    ·exact ex
    refine Ev.bind (a:=(y : Int)) ?_ ?_
    ·exact ey
    rw [rem2_step hlt] at hk hl
    by_cases e : cst l i = c
    case neg =>
     have e2 : (arc l i).f2 ≠ (c : Int):=by unfold cst at e; omega
     rw [if_neg e] at hk hl;refine Ev.neg e2 (Ev.go ?_ (fun k => by rw [spec_l23Tree.j3]));rw [hup];have hn:=ihd (i + 1) a1 hlt hk hF hl;exact Ev.pos rfl hn
    have e2 : (arc l i).f2 = (c : Int):=by unfold cst at e; omega
    rw [if_pos e] at hk hl;refine Ev.pos e2 (Ev.go ?_ (fun k => by rw [spec_l23Tree.j3]));rw [hup];cases hk with
    | skip hcon hk =>
     have hxy:=(hF.con _ _ _ _ hx hy).2 hcon;rw [List.length_cons] at hl;have hn:=ihd (i + 1) a1 hlt hk hF (Nat.le_of_succ_le hl);refine Ev.pos ?_ hn;rw [hxy];exact beq_self_eq_true _
    | take hcon hk =>
     have hxy : x ≠ y:=fun e => hcon ((hF.con _ _ _ _ hx hy).1 e)
     have eo : ints o ++ [((i : Nat) : Int)] = ints (o ++ [i]):=by simp [ints]
     rw [List.length_cons] at hl;have hl2 : (o ++ [i]).length + (rem2 l c (i + 1)).length ≤ 1000:=by
      rw [List.length_append,List.length_singleton,Nat.add_assoc,Nat.add_comm 1];exact hl
     have hol : (ints o).length < 17592186044416:=by
      rw [ints_len];exact Nat.lt_of_le_of_lt (Nat.le_trans (Nat.le_add_right _ _) hl) (by decide)
     refine Ev.neg ?_ ?_
     ·intro e;exact hxy (Int.ofNat_inj.1 (beq_iff_eq.1 e))
     rw [eo]
     by_cases hlt2 : x < y
     case pos =>
      have hn:=ihd (i + 1) a1 hlt hk (hF.add hx hy hlt2 (.inl ⟨rfl,rfl⟩)) hl2;refine Ev.pos (Int.ofNat_lt.2 hlt2) (Ev.pos (Int.natCast_nonneg y) (Ev.pos ?_ (Ev.pos hol ?_)))
      ·rw [hlen]; exact hyn
      ·rw [show ((y : Nat) : Int).toNat = y from rfl,cells_set];exact hn
     have hyx : y < x:=Nat.lt_of_le_of_ne (Nat.le_of_not_lt hlt2) (Ne.symm hxy);have hn:=ihd (i + 1) a1 hlt hk (hF.add hx hy hyx (.inr ⟨rfl,rfl⟩)) hl2;refine Ev.neg (fun e => hlt2 (Int.ofNat_lt.1 e)) (Ev.pos (Int.natCast_nonneg x) (Ev.pos ?_ (Ev.pos hol ?_)))
     ·rw [hlen]; exact hxn
     ·rw [show ((x : Nat) : Int).toNat = x from rfl,cells_set];exact hn
  intro o r F hk hF hl;rw [rem1_step hc2] at hk hl;refine Ev.go ?_ (fun k => by rw [spec_l23Tree.l1]);exact Ev.pos (by omega) (inner _ 0 rfl (Nat.zero_le _) hk hF hl)
theorem specTB_start : ∀ (s i : Nat),n.toNat - i = s → i ≤ n.toNat → ∀ {r : List Int},Ev (fun k => spec_l23Tree.l1 k (cells n.toNat fun v => v) [] 0 n l) r → Ev (fun k => spec_l23Tree.l0 k (cells i fun v => v) (i : Int) n l) r:=by
 have h1:=hg.n1;have h8:=hg.n8;intro s
 induction s with
 | zero =>
  intro i hs hi r h;have : i = n.toNat:=by omega
  subst this;refine Ev.go ?_ (fun k => by rw [spec_l23Tree.l0]);exact Ev.neg (by omega) h
 | succ s ih =>
  intro i hs hi r h;have hlt : i < n.toNat:=by omega
  refine Ev.go ?_ (fun k => by rw [spec_l23Tree.l0]);have e:=cells_snoc i;rw [up1 hlt (by simp only [maxLen]; omega),e];exact Ev.pos (by omega) (Ev.pos (by rw [cells_len]; omega) (ih (i + 1) (by omega) (by omega) h))
end
noncomputable def bestT (l : List Arc) : List Nat:=Classical.choose (kru_ex (fr:=frA l) (tw:=twA l) (ks l) [])
theorem bestT_kru (l : List Arc) : Kru (frA l) (twA l) (ks l) [] (bestT l):=Classical.choose_spec (kru_ex (fr:=frA l) (tw:=twA l) (ks l) [])
noncomputable def treeB (n : Int) (l : List Arc) : List Int:=if netOkB n l = true then ints (bestT l) else []
theorem bestT_len {n : Int} {l : List Arc} (hg : NetGood n l) : (bestT l).length ≤ 16 ∧ (∀ i ∈ bestT l,i < l.length) ∧ (bestT l).Nodup:=by
 have hk:=bestT_kru l;obtain ⟨s,h1,h2⟩:=hk.ext;have hm : ∀ i ∈ bestT l,i < l.length:=fun i hi => by
  rw [h1,List.nil_append] at hi;exact (ks_mem hg i).1 (h2 i hi)
 have hn:=hk.nodup (ks_nodup l) List.nodup_nil (fun x _ => by simp);have:=Sp.nodup_len l.length _ hn hm;have:=hg.len;exact ⟨by omega,hm,hn⟩
theorem treeB_len (n : Int) (l : List Arc) : (treeB n l).length ≤ 16:=by
 unfold treeB
 cases h : netOkB n l with
 | false => simp
 | true => rw [if_pos rfl,ints_len]; exact (bestT_len ((netOkB_iff n l).1 h)).1
theorem implTreeB_ev (n : Int) (l : List Arc) : Ev (fun k => impl_TreeBest.f k n l) (treeB n l):=by
 unfold impl_TreeBest.f treeB
 refine Ev.bind0 (show impl_NetOk.f n l = some (netOkB n l) from rfl) ?_;cases h : netOkB n l with
 | false => exact Ev.neg (by simp) (Ev.is (by simp))
 | true =>
  have hg:=(netOkB_iff n l).1 h;have h1:=hg.n1;have h8:=hg.n8;have h16:=hg.len;have hk:=ks_len hg;refine Ev.pos rfl (Ev.pos ⟨by omega,by omega,by omega⟩ ?_);rw [ordOf_eq hg,if_pos rfl];exact treeL_ev hg (bestT_kru l) (fun i hi => (ks_mem hg i).1 hi) (fun i hi => by simp at hi) (by simp; omega)
theorem specTreeB_ev (n : Int) (l : List Arc) (hl : l.length ≤ maxLen) : Ev (fun k => spec_TreeBest.f k n l) (treeB n l):=by
 unfold spec_TreeBest.f treeB
 refine Ev.bind (l1Ok_ev n l hl) ?_;cases h : netOkB n l with
 | false => exact Ev.neg (by simp) (Ev.is (by simp))
 | true =>
  have hg:=(netOkB_iff n l).1 h;have hk:=ks_len hg;rw [if_pos rfl];refine Ev.pos rfl (Ev.bind ?_ (Ev.now _))
  unfold spec_l23Tree.f
  have e:=rem1_all l;have hb:=bestT_kru l;rw [← e] at hb hk;have h0:=specTB_start hg _ 0 rfl (Nat.zero_le _) (specTB_l hg _ 0 rfl (by omega) hb Forg.start (by simp; omega));rw [cells_nil] at h0;exact h0
end Go.Proofs.Ytlhmljngjdfbpaa.Pure
end
section
set_option linter.unusedSimpArgs false
set_option linter.unusedVariables false
namespace Go.Proofs.Ytlhmljngjdfbpaa.Pure
open Go.RowKit Go.Proofs.Ytlhmljngjdfbpaa.Pr Go.Proofs.YtlhmljngjdfbpaaW.PrintWords Go.Proofs.YtlhmljngjdfbpaaW.PrintLast Go.Proofs.YtlhmljngjdfbpaaW.PrintMore
def ramp (a : Int) (n : Nat) : List Int:=lst n (fun v => a + v)
theorem markIntS_l (x : List Int) (a : Int) (ha : 0 ≤ a) (hm : a + x.length ≤ 1000000000) : ∀ (m i : Nat),x.length - i = m → i ≤ x.length → Ev (fun k => laws_markIntS.l0 k (lst x.length (fun v => if v < i then a + v else nth x v)) (a + i) (i : Int)) (a + x.length,ramp a x.length):=by
 intro m
 induction m with
 | zero =>
  intro i hd hi;have e : i = x.length:=by omega
  refine Ev.go ?_ (fun k => by rw [laws_markIntS.l0]);refine Ev.neg (by rw [lst_len]; omega) (Ev.is ?_);rw [lst_congr (G:=fun v => a + v) (fun v hv => if_pos (by omega)),e];rfl
 | succ m ih =>
  intro i hd hi;have hlt : i < x.length:=by omega
  have hn:=ih (i + 1) (by omega) (by omega);refine Ev.go ?_ (fun k => by rw [laws_markIntS.l0]);refine Ev.pos (by rw [lst_len]; omega) (Ev.pos (by omega) ?_);rw [up1 hlt (by simp only [maxLen]; omega),w64 (by omega) (by omega)];simp only [Int.toNat_natCast,lst_set];rw [show a + (i : Int) + 1 = a + ((i + 1 : Nat) : Int) by omega,lst_congr (G:=fun v => if v < i + 1 then a + v else nth x v) ?_]
  ·exact hn
  ·intro v hv
   by_cases e : v = i
   case pos => subst e; rw [upd_same,if_pos (Nat.lt_succ_self _)]
   rw [upd_far _ _ e]
   by_cases h : v < i
   case neg => rw [if_neg h,if_neg (by omega)]
   rw [if_pos h,if_pos (by omega)]
theorem markIntS_ev (x : List Int) (a : Int) (ha : 0 ≤ a) (hm : a + x.length ≤ 1000000000) : Ev (fun k => laws_markIntS.f k x a) (a + x.length,ramp a x.length):=by
 unfold laws_markIntS.f
 have:=markIntS_l x a ha hm _ 0 rfl (Nat.zero_le _);rw [lst_congr (G:=nth x) (fun v hv => if_neg (Nat.not_lt_zero v)),lst_of,show a + ((0 : Nat) : Int) = a by omega] at this;exact this
theorem heldIntS_l (a : Int) (n : Nat) (ha : 0 ≤ a) (hm : a + n ≤ 1000000000) : ∀ (m i : Nat),n - i = m → i ≤ n → Ev (fun k => laws_heldIntS.l0 k (ramp a n) (a + i) (i : Int)) (a + n):=by
 intro m
 induction m with
 | zero =>
  intro i hd hi;have e : i = n:=by omega
  subst e;refine Ev.go ?_ (fun k => by rw [laws_heldIntS.l0]);exact Ev.neg (by rw [ramp,lst_len]; omega) (Ev.now _)
 | succ m ih =>
  intro i hd hi;have hlt : i < n:=by omega
  have hn:=ih (i + 1) (by omega) (by omega);refine Ev.go ?_ (fun k => by rw [laws_heldIntS.l0]);refine Ev.pos (by rw [ramp,lst_len]; omega) (Ev.pos (by omega) (Ev.pos (by rw [ramp,lst_rd _ hlt]) ?_));rw [up1 hlt (by simp only [maxLen]; omega),w64 (by omega) (by omega),show a + (i : Int) + 1 = a + ((i + 1 : Nat) : Int) by omega];exact hn
theorem heldIntS_ev (a : Int) (n : Nat) (ha : 0 ≤ a) (hm : a + n ≤ 1000000000) : Ev (fun k => laws_heldIntS.f k (ramp a n) a) (a + n):=by
 unfold laws_heldIntS.f
 have:=heldIntS_l a n ha hm _ 0 rfl (Nat.zero_le _)
 rwa [show a + ((0 : Nat) : Int) = a by omega] at this
theorem markArcS_l (n : Nat) (a : Int) (ha : 0 ≤ a) (hm : a + 5 * n ≤ 1000000000) : ∀ (m i : Nat) (l : List Arc),l.length = n → n - i = m → i ≤ n → Pv (fun k => laws_markArcS.l0 k l (a + 5 * i) (i : Int)) (fun r => r.1 = a + 5 * n):=by
 intro m
 induction m with
 | zero =>
  intro i l hl hd hi;have e : i = n:=by omega
  subst e;refine Pv.go ?_ (fun k => by rw [laws_markArcS.l0]);exact Pv.neg (by omega) (Pv.now rfl)
 | succ m ih =>
  intro i l hl hd hi;have hlt : i < n:=by omega
  have hup : wrap64 ((i : Int) + 1) = ((i + 1 : Nat) : Int):=up1 hlt (by simp only [maxLen]; omega);have s1 : wrap64 (a + 5 * (i : Int) + 1) = a + 5 * (i : Int) + 1:=w64 (by omega) (by omega);have s2 : wrap64 (a + 5 * (i : Int) + 1 + 1) = a + 5 * (i : Int) + 2:=by rw [w64 (by omega) (by omega)]; omega
  have s3 : wrap64 (a + 5 * (i : Int) + 2 + 1) = a + 5 * (i : Int) + 3:=by rw [w64 (by omega) (by omega)]; omega
  have s4 : wrap64 (a + 5 * (i : Int) + 3 + 1) = a + 5 * (i : Int) + 4:=by rw [w64 (by omega) (by omega)]; omega
  have s5 : wrap64 (a + 5 * (i : Int) + 4 + 1) = a + 5 * ((i + 1 : Nat) : Int):=by rw [w64 (by omega) (by omega)]; omega
  refine Pv.go ?_ (fun k => by rw [laws_markArcS.l0]);simp only [s1,s2,s3,s4,s5,hup,Option.bind_some];exact Pv.pos (by omega) (Pv.pos (by omega) (ih (i + 1) _ (by simp [hl]) (by omega) (by omega)))
theorem markNet_pv (n : Int) (l : List Arc) (a : Int) (ha : 0 ≤ a) (hm : a + 5 * l.length ≤ 1000000000) : Pv (fun k => laws_markNet.f k n l a) (fun r => r.1 = a + 5 * l.length):=by
 have h:=markArcS_l l.length a ha hm _ 0 l rfl rfl (Nat.zero_le _);rw [show a + 5 * ((0 : Nat) : Int) = a by omega] at h;exact Pv.bind (R:=fun r => r.1 = a + 5 * l.length) h (fun r hr => Pv.now hr)
theorem markNet_ev (n : Int) (l : List Arc) (a : Int) (ha : 0 ≤ a) (hm : a + 5 * l.length ≤ 1000000000) : ∃ y,Ev (fun k => laws_markNet.f k n l a) (a + 5 * l.length,y):=by
 obtain ⟨⟨r,y⟩,h,e⟩:=markNet_pv n l a ha hm;dsimp only at e;exact ⟨y,e ▸ h⟩
theorem eqIntS_l (l : List Int) (hm : l.length ≤ maxLen) : ∀ (d i : Nat),l.length - i = d → i ≤ l.length → Ev (fun k => laws_eqIntS.l0 k l l (i : Int)) true:=by
 intro d
 induction d with
 | zero =>
  intro i hd hi;refine Ev.go ?_ (fun k => by rw [laws_eqIntS.l0]);exact Ev.neg (by omega) (Ev.now _)
 | succ d ih =>
  intro i hd hi;have hlt : i < l.length:=by omega
  refine Ev.go ?_ (fun k => by rw [laws_eqIntS.l0]);refine Ev.pos (by omega) (Ev.pos (by omega) (Ev.pos (by omega) (Ev.pos rfl ?_)));rw [up1 hlt hm];exact ih (i + 1) (by omega) (by omega)
theorem eqIntS_ev (l : List Int) (hm : l.length ≤ maxLen) : Ev (fun k => laws_eqIntS.f k l l) true:=by
 unfold laws_eqIntS.f
 exact Ev.pos rfl (eqIntS_l l hm _ 0 rfl (by omega))
theorem FnExactTreeBest : laws_FnExactTreeBest.Asked:=by
 intro n l hn hl;refine Ev.rounds ?_
 unfold laws_FnExactTreeBest.f
 refine Ev.bind0 (szNet_eq n l 1048576 (by omega) (by omega) hl.1) ?_
 by_cases hs : (l.length : Int) ≤ 1048576
 case neg =>
  rw [if_pos (by omega)];exact Ev.pos (by omega) (Ev.now _)
 rw [if_neg (by omega)];have ht:=toNet_ev n l (by omega);have hm : (l.map toA).length ≤ maxLen:=by simpa using hl.1
 have hlen : (l.map toA).length = l.length:=by simp
 have hv:=treeB_len n (l.map toA);have hvm : (treeB n (l.map toA)).length ≤ maxLen:=by simp only [maxLen]; omega
 have hq:=eqIntS_ev _ hvm;obtain ⟨y,hy⟩:=markNet_ev n (l.map toA) 1 (by omega) (by omega);have hmv:=markIntS_ev (treeB n (l.map toA)) 1 (by omega) (by omega);have hh:=heldIntS_ev 1 (treeB n (l.map toA)).length (by omega) (by omega);refine Ev.neg (by omega) (Ev.bind ht (Ev.bind (specTreeB_ev n _ hm) (Ev.bind ht (Ev.bind (implTreeB_ev n _) (Ev.bind hq (Ev.pos rfl (Ev.bind ht (Ev.bind (eqNet_ev n _ hm) (Ev.pos rfl (Ev.bind hy (Ev.neg (by simp only; omega) (Ev.bind hq ?_))))))))))));refine Ev.go ?_ (fun k => by rw [laws_FnExactTreeBest.j0]);refine Ev.neg (by simp) (Ev.bind hmv (Ev.bind hh (Ev.neg (by omega) (Ev.pos rfl ?_))));exact Ev.bind ht (Ev.bind (implTreeB_ev n _) (Ev.bind hq (Ev.pos rfl (Ev.bind hh (Ev.neg (by omega) (Ev.pos rfl (Ev.now _)))))))
end Go.Proofs.Ytlhmljngjdfbpaa.Pure
end
section
namespace Go.Proofs.Ytlhmljngjdfbpaa.fnExactTreeBest
open Go.ChangeShapes Go.WideShapes Go.ChangeAt Go.RowKit Go.Proofs.YtlhmljngjdfbpaaW.PrintWords Go.Proofs.Ytlhmljngjdfbpaa.Pr
open Go.ChangeMaps (open_string shut_string)
set_option linter.unusedVariables false
set_option linter.unusedSimpArgs false
theorem own : ownKnob Try.prog.godebug = none:=by kernel_rfl
theorem laidOut : laidOutB Try.prog = true:=by kernel_rfl
instance inh127 : Inhabited S127:=⟨z127⟩
theorem opens0 : Opens Try.prog (Kd.pair (Kd.int .i64) (Kd.slice 127 k127)) 43 (fun x => I64 x.1 ∧ (fun l => l.length ≤ maxLen ∧ ∀ x ∈ l,(fun b : S127 => (fun x => I64 x.1 ∧ (fun x => I64 x.1 ∧ (fun x => I64 x.1 ∧ (fun x => I64 x.1 ∧ I64 x.2) x.2) x.2) x.2) (b.f0,b.f1,b.f2,b.f3,b.f4)) x) x.2):=(opens_struct (P:=Try.prog) Try.underlying43 (opensF_cons (P:=Try.prog) (by kernel_rfl) (opens_i64 (P:=Try.prog) Try.underlying3) (opensF_last (P:=Try.prog) (by kernel_rfl) (by kernel_rfl) (opens_slice (P:=Try.prog) Try.underlying41 (by kernel_rfl) (opens_iso (P:=Try.prog) (fun x : S127 => (x.f0,x.f1,x.f2,x.f3,x.f4)) (fun x => (⟨x.1,x.2.1,x.2.2.1,x.2.2.2.1,x.2.2.2.2⟩ : S127)) (fun _ => rfl) (opens_struct (P:=Try.prog) Try.underlying127 (opensF_cons (P:=Try.prog) (by kernel_rfl) (opens_i64 (P:=Try.prog) Try.underlying3) (opensF_cons (P:=Try.prog) (by kernel_rfl) (opens_i64 (P:=Try.prog) Try.underlying3) (opensF_cons (P:=Try.prog) (by kernel_rfl) (opens_i64 (P:=Try.prog) Try.underlying3) (opensF_cons (P:=Try.prog) (by kernel_rfl) (opens_i64 (P:=Try.prog) Try.underlying3) (opensF_last (P:=Try.prog) (by kernel_rfl) (by kernel_rfl) (opens_i64 (P:=Try.prog) Try.underlying3))))))))))))
set_option maxRecDepth 100000 in
set_option maxHeartbeats 2000000 in
theorem lifted (os : Os) (started : os.Started) (H : Type) (enc : TypeId × Value → H) :
  ReturnsInHanded {} Try.checked os 11 .any (Rows.fnExactTreeBestSpec.pre6 enc Try.prog Try.f11 Rows.fnExactTreeBestRow.domain false) (Rows.fnExactTreeBestSpec.post enc Try.prog Try.f11 false true false false):=by
 refine returnsInHanded_of_change_sized (C:=Try.checked) own started (by kernel_rfl) Try.func11
  (ChangeSpec.witness6 (enc:=enc) (C:=Try.checked) false ⟨#[],#[(.agg #[(.int .i64 0),(.slice none 0 0)])],[]⟩ 8 (by kernel_rfl) (by kernel_rfl) (by kernel_rfl) (by kernel_rfl)) ?_
 intro W base args ds gs before hval0 hW hcnd hsz0 _;have hval : ∀ (j : Nat) t v,Try.f11.params[j]? = some t → args[j]? = some v → Value.okWide Try.prog W .any base t v:=hval0
 have hW':=hW;obtain ⟨p,q,hA0,hV,rfl,hfz,hnd⟩:=hW;have hA : DataW.TrodAll enc Try.prog W 0 (fun _ => true) true Try.f11.params.toList args.toList ds p:=hA0;rw [Try.params11] at hA hval;obtain ⟨v0,vs0,d0,ds0,p0,q0,hargs,rfl,rfl,h0,r0⟩:=trodAll_cons hA;obtain ⟨rfl,rfl,rfl⟩:=trodAll_nil r0;obtain rfl : args = #[v0]:=by cases args; simp_all
 obtain ⟨rfl,rfl⟩:=trodVars_none hV;have k0:=h0;have lt0 : ∀ x ∈ p0,x.block < W.heap.size:=by obtain ⟨m,hm⟩:=k0; exact DataW.trod_lt m _ _ _ hm
 obtain ⟨cs0,rfl,hsz0⟩:=okWide_struct Try.underlying43 (hval 0 43 v0 rfl rfl);obtain ⟨fuel0,hf0⟩:=h0;obtain ⟨x0,hK0,w0⟩:=opens0 hf0;obtain ⟨u0_0,v0_0,e0_0,ha0_0,hb0_0⟩:=hK0;have e0_1 : u0_0 = [.int .i64 x0.1]:=ha0_0;obtain ⟨A0_2,c0_2,e0_2,hc0_2,hr0_2⟩:=hb0_0;have z0 : cs0 = #[.int .i64 x0.1,.slice A0_2 x0.2.length c0_2]:=by
  apply Array.toList_inj.1
  have ee : (Value.agg cs0).cells.toList = cs0.toList:=rfl;rw [← ee];rw [e0_0];subst e0_1;subst e0_2;rfl
 subst z0;clear e0_2 e0_1 e0_0;obtain ⟨k,hh⟩:=Pure.FnExactTreeBest (x0.1) x0.2 w0.1 w0.2;refine (laws_FnExactTreeBest.calls k (x0.1) A0_2 c0_2 x0.2 true W hr0_2 hc0_2 hh).mono fun e W' ⟨he,bel0⟩ => ?_
 have bel : Below W.heap.size W W':=bel0;subst he;exact ⟨_,rfl,_,_,_,[],_,[],hW',trodAll_mk1 (shut_bool Try.underlying4 _),(trodAll_cons_mk (Below.trod laidOut (by kernel_rfl) (of_decide_eq_true (by kernel_rfl)) k0 bel lt0) trodAll_mk0),rfl,bel.frame _,fun h => by cases h⟩
theorem over : Rows.fnExactTreeBestRow.holds Try.pinned (OpenSpec.ofChange Rows.fnExactTreeBestSpec) :=
 OpenClaim.holds_of_wide 11 Try.f11 rfl rfl rfl rfl rfl rfl rfl ⟨rfl,rfl,rfl,rfl,rfl⟩ rfl rfl rfl rfl rfl (by kernel_rfl) Try.func11 (by kernel_rfl)
  (of_decide_eq_true (by kernel_rfl)) (by unfold Func.isWrapper; first | (rw [if_pos (by decide +kernel)]; kernel_rfl) | (rw [if_neg (by decide +kernel)]; exact ⟨rfl,rfl⟩))
  (fun os started H enc _ => lifted os started H enc)
theorem proved : Rows.FnExactTreeBestSaid:=over
#print axioms proved
end Go.Proofs.Ytlhmljngjdfbpaa.fnExactTreeBest
namespace Go.Proofs.Ytlhmljngjdfbpaa
theorem fnExactTreeBest_holds : Rows.FnExactTreeBestSaid:=fnExactTreeBest.proved
end Go.Proofs.Ytlhmljngjdfbpaa
end
