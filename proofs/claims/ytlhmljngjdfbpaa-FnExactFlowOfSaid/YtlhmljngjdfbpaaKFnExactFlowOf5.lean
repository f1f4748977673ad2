/- For the statement FnExactFlowOf of this seat: it is proved here, with no further conditions (part 6 of its texts: words, walks of the functions, the plain law, the row). -/
import Derived.ChangeArms
import Derived.ChangeSlices
import Derived.Deep.Slices
import Derived.WideShapes
import Derived.DataReads
import Derived.Test.YtlhmljngjdfbpaaRows
import Derived.WalkKit
import Derived.ProofKit
import Derived.OpenShut
import Derived.ShutString
import Derived.ChangeOld
import Derived.Below
import Derived.SizedLaws
import Derived.Test.YtlhmljngjdfbpaaKFnExactFlowOf4
section
namespace Go.Proofs.Ytlhmljngjdfbpaa.Pr
open Go.RowKit Go.Proofs.YtlhmljngjdfbpaaW.PrintWords Go.Proofs.YtlhmljngjdfbpaaW.PrintLast Go.Proofs.YtlhmljngjdfbpaaW.PrintMore
attribute [local go_sem] max2_int min2_int max_two min_two max_three min_three max_four min_four
set_option linter.unusedVariables false
set_option linter.unusedSimpArgs false
open List renaming setIfInBounds_toArray → J,set_cons_zero → U,set_cons_succ → O
open Go.Proofs.YtlhmljngjdfbpaaW.PrintWords.Aside0 renaming mk → I
def laws_FnExactFlowOf.j0 : Nat → Int → Int → List Int → List Int → Bool → Int → List (S127) → Option (Bool)
 | 0,_,_,_,_,_,_,_ => none
 | k + 1,x1,x2,x8,x10,x50,x878000,x878001 => if x50 = true then (some false) else ((laws_markIntS.f k x10 1).bind fun bt903 => ((laws_heldIntS.f k bt903.2 1).bind fun t905 => (if t905 < 0 then (some false) else (if t905 = bt903.1 then ((laws_toNet.f k x878000 x878001).bind fun bt906 => ((impl_FlowOf.f k bt906.1 bt906.2 x1 x2).bind fun t910 => ((laws_eqIntS.f k t910 x8).bind fun t913 => (if t913 = true then ((laws_heldIntS.f k bt903.2 1).bind fun t914 => (if t914 < 0 then (some false) else (if t914 = bt903.1 then (some true) else (some false)))) else (some false))))) else (some false)))))
def laws_FnExactFlowOf.f (k : Nat) (a0_0 : Int) (l0_1 : List (S127)) (a1 : Int) (a2 : Int) : Option (Bool):=(laws_szNet.f a0_0 l0_1 1048576).bind fun t878 => (if t878 < 0 then (some true) else ((laws_toNet.f k a0_0 l0_1).bind fun bt879 => ((spec_FlowOf.f k bt879.1 bt879.2 a1 a2).bind fun t883 => ((laws_toNet.f k a0_0 l0_1).bind fun bt886 => ((impl_FlowOf.f k bt886.1 bt886.2 a1 a2).bind fun t891 => ((laws_eqIntS.f k t891 t883).bind fun t894 => (if t894 = true then ((laws_toNet.f k a0_0 l0_1).bind fun bt895 => ((laws_eqNet.f k bt886.1 bt886.2 bt895.1 bt895.2).bind fun t899 => (if t899 = true then ((laws_markNet.f k bt886.1 bt886.2 1).bind fun bt900 => (if bt900.1 < 0 then (laws_FnExactFlowOf.j0 k a1 a2 t883 t891 true a0_0 l0_1) else ((laws_eqIntS.f k t891 t883).bind fun t902 => (laws_FnExactFlowOf.j0 k a1 a2 t883 t891 (!t902) a0_0 l0_1)))) else (some false)))) else (some false))))))))
set_option maxHeartbeats 8000000 in
set_option maxRecDepth 100000 in
theorem laws_FnExactFlowOf.calls (k : Nat) (a0_0 : Int) (A0_1 : Option Addr) (c0_1 : Nat) (l0_1 : List (S127)) (a1 : Int) (a2 : Int) (r : Bool) (w : World) (hr0_1 : Kd.C k127 w A0_1 l0_1.length l0_1) (hc0_1 : l0_1.length ≤ c0_1) (h : laws_FnExactFlowOf.f k a0_0 l0_1 a1 a2 = some r) (hrT_ : r = true:=by rfl) :
  Calls Try.prog 8 #[.agg #[.int .i64 a0_0,.slice A0_1 l0_1.length c0_1],.int .i64 a1,.int .i64 a2] w fun e w' => e = .returned (.bool r) ∧ Below w.heap.size w w':=by
 have HRT_:=I hrT_;clear hrT_;have hu43:=Try.underlying43;have hu34:=Try.underlying34;have HR0_1:=I hr0_1;have HC0_1:=I hc0_1;clear hr0_1 hc0_1;have HB:=I (Below.refl w.heap.size w);have H : ((laws_szNet.f a0_0 l0_1 1048576).bind fun t878 => (if t878 < 0 then (some true) else ((laws_toNet.f k a0_0 l0_1).bind fun bt879 => ((spec_FlowOf.f k bt879.1 bt879.2 a1 a2).bind fun t883 => ((laws_toNet.f k a0_0 l0_1).bind fun bt886 => ((impl_FlowOf.f k bt886.1 bt886.2 a1 a2).bind fun t891 => ((laws_eqIntS.f k t891 t883).bind fun t894 => (if t894 = true then ((laws_toNet.f k a0_0 l0_1).bind fun bt895 => ((laws_eqNet.f k bt886.1 bt886.2 bt895.1 bt895.2).bind fun t899 => (if t899 = true then ((laws_markNet.f k bt886.1 bt886.2 1).bind fun bt900 => (if bt900.1 < 0 then (laws_FnExactFlowOf.j0 k a1 a2 t883 t891 true a0_0 l0_1) else ((laws_eqIntS.f k t891 t883).bind fun t902 => (laws_FnExactFlowOf.j0 k a1 a2 t883 t891 (!t902) a0_0 l0_1)))) else (some false)))) else (some false))))))))) = some r:=h;clear h;replace H:=Option.bind_eq_some_iff.mp H;obtain ⟨t878,A40,H⟩:=H;replace H : (if t878 < 0 then (some true) else ((laws_toNet.f k a0_0 l0_1).bind fun bt879 => ((spec_FlowOf.f k bt879.1 bt879.2 a1 a2).bind fun t883 => ((laws_toNet.f k a0_0 l0_1).bind fun bt886 => ((impl_FlowOf.f k bt886.1 bt886.2 a1 a2).bind fun t891 => ((laws_eqIntS.f k t891 t883).bind fun t894 => (if t894 = true then ((laws_toNet.f k a0_0 l0_1).bind fun bt895 => ((laws_eqNet.f k bt886.1 bt886.2 bt895.1 bt895.2).bind fun t899 => (if t899 = true then ((laws_markNet.f k bt886.1 bt886.2 1).bind fun bt900 => (if bt900.1 < 0 then (laws_FnExactFlowOf.j0 k a1 a2 t883 t891 true a0_0 l0_1) else ((laws_eqIntS.f k t891 t883).bind fun t902 => (laws_FnExactFlowOf.j0 k a1 a2 t883 t891 (!t902) a0_0 l0_1)))) else (some false)))) else (some false)))))))) = some r:=H;have A4:=I A40;clear A40
 by_cases c5 : t878 < 0
 case pos =>
  rw [if_pos c5] at H;have c5b0 : decide (t878 < 0) = true:=decide_eq_true c5;clear c5;obtain rfl:=Option.some.inj H
  go_enter Try.func8,Try.ntmps8
  go_wp2_with (first | ((with_reducible refine gate_dst (N:=3) rfl ?_); refine box_event ?hg (N:=3) ?hd (cs:=#[.int .i64 a0_0,.slice A0_1 l0_1.length c0_1]) (t:=43) ?hr ?_; (case hd => rfl); (case hg => rfl); (case hr => first | (go_simp; done) | (go_simp; rfl)); intro gb877 hg w6 hbox hb; have n0_:=I (below_step (by repeat (first | (with_reducible first | exact HB.out | apply below_alloc | apply pw_below_drewN | apply below_drew1) | exact HB.out)) hb); have n1_:=I (hbox); have n2_:=I ((by rw [hg]; exact (below_size (by repeat (first | (with_reducible first | exact HB.out | apply below_alloc | apply pw_below_drewN | apply below_drew1) | exact HB.out))) : w.heap.size ≤ gb877)); have n3_:=I ((by rw [hg]; exact (below_size (by repeat (first | (with_reducible first | exact HB.out | apply below_alloc | apply pw_below_drewN | apply below_drew1) | exact HB.out))) : w.heap.size ≤ gb877)); clear HB; have HB:=n0_; have BK877:=n1_; have GW877:=n2_; have GE877:=n3_; clear n0_ n1_ n2_ n3_; clear hb hbox hg; have hcz7_0 : w6.cell? ⟨gb877,0,none⟩ = some (.int .i64 a0_0):=(blk_cell BK877.out 0).trans rfl; have hcz7_1 : w6.cell? ⟨gb877,1,none⟩ = some (.slice A0_1 l0_1.length c0_1):=(blk_cell BK877.out 1).trans rfl; have hfz7_0:=blk_frozen BK877.out 0; have hfz7_1:=blk_frozen BK877.out 1) | ((with_reducible refine gate_callee (f:=26) rfl ?_); refine goesL_ (some 17) rfl rfl Try.func26 (by kernel_rfl) rfl #[.agg #[.int .i64 a0_0,.slice A0_1 l0_1.length c0_1],.int .i64 1048576] rfl (by (try simp only [List.map_toArray,List.map_cons,List.map_nil]); first | done | rfl | (simp only [List.length_drop,List.length_take]; rfl)) ?_; (with_reducible refine (laws_szNet.calls a0_0 _ _ l0_1 1048576 t878 _ ?side1 ?side2 A4.out).mono ?_); (case side1 => repeat (first | exact (Kd.C_below HR0_1.out HB.out) | (with_reducible refine Kd.C_alloc ?_ _) | (with_reducible refine Kd.C_drewN ?_ _) | (with_reducible refine Kd.C_drew ?_))); (case side2 => exact HC0_1.out); rintro e w8 ⟨rfl,hb⟩; refine ⟨_,rfl,?_⟩; have n0_:=I (blk_below (g:=gb877) (o:=.cells #[.int .i64 a0_0,.slice A0_1 l0_1.length c0_1] 43 (0,0)) (by (with_reducible repeat (first | refine blk_drewN ?_ _ | refine blk_drew ?_ | refine blk_alloc ?_ _)); exact BK877.out) hb); have n1_:=I (below_step (by repeat (first | (with_reducible first | exact HB.out | apply below_alloc | apply pw_below_drewN | apply below_drew1 | refine below_set ?_ GE877.out) | exact HB.out)) hb); clear BK877; clear HB; have BK877:=n0_; have HB:=n1_; clear n0_ n1_; (try clear hb); (try clear hb2); (try clear hk); (try clear hi)))
  go_ret;exact ⟨by first | rfl | (simp [errW_none,errW_some] <;> rfl) | (simp [*,errW_none,errW_some] <;> rfl),by repeat (first | (with_reducible first | exact HB.out | apply below_alloc | apply pw_below_drewN | apply below_drew1 | refine below_set ?_ GE877.out) | exact HB.out)⟩
 rw [if_neg c5] at H;have c5b0 : decide (t878 < 0) = false:=decide_eq_false c5;clear c5;replace H:=Option.bind_eq_some_iff.mp H;obtain ⟨⟨t879,t880⟩,A90,H⟩:=H;replace H : ((spec_FlowOf.f k t879 t880 a1 a2).bind fun t883 => ((laws_toNet.f k a0_0 l0_1).bind fun bt886 => ((impl_FlowOf.f k bt886.1 bt886.2 a1 a2).bind fun t891 => ((laws_eqIntS.f k t891 t883).bind fun t894 => (if t894 = true then ((laws_toNet.f k a0_0 l0_1).bind fun bt895 => ((laws_eqNet.f k bt886.1 bt886.2 bt895.1 bt895.2).bind fun t899 => (if t899 = true then ((laws_markNet.f k bt886.1 bt886.2 1).bind fun bt900 => (if bt900.1 < 0 then (laws_FnExactFlowOf.j0 k a1 a2 t883 t891 true a0_0 l0_1) else ((laws_eqIntS.f k t891 t883).bind fun t902 => (laws_FnExactFlowOf.j0 k a1 a2 t883 t891 (!t902) a0_0 l0_1)))) else (some false)))) else (some false)))))) = some r:=H;have A9:=I A90;clear A90;replace H:=Option.bind_eq_some_iff.mp H;obtain ⟨t883,A100,H⟩:=H;replace H : ((laws_toNet.f k a0_0 l0_1).bind fun bt886 => ((impl_FlowOf.f k bt886.1 bt886.2 a1 a2).bind fun t891 => ((laws_eqIntS.f k t891 t883).bind fun t894 => (if t894 = true then ((laws_toNet.f k a0_0 l0_1).bind fun bt895 => ((laws_eqNet.f k bt886.1 bt886.2 bt895.1 bt895.2).bind fun t899 => (if t899 = true then ((laws_markNet.f k bt886.1 bt886.2 1).bind fun bt900 => (if bt900.1 < 0 then (laws_FnExactFlowOf.j0 k a1 a2 t883 t891 true a0_0 l0_1) else ((laws_eqIntS.f k t891 t883).bind fun t902 => (laws_FnExactFlowOf.j0 k a1 a2 t883 t891 (!t902) a0_0 l0_1)))) else (some false)))) else (some false))))) = some r:=H;have A10:=I A100;clear A100;replace H:=Option.bind_eq_some_iff.mp H;obtain ⟨⟨t886,t887⟩,A110,H⟩:=H;replace H : ((impl_FlowOf.f k t886 t887 a1 a2).bind fun t891 => ((laws_eqIntS.f k t891 t883).bind fun t894 => (if t894 = true then ((laws_toNet.f k a0_0 l0_1).bind fun bt895 => ((laws_eqNet.f k t886 t887 bt895.1 bt895.2).bind fun t899 => (if t899 = true then ((laws_markNet.f k t886 t887 1).bind fun bt900 => (if bt900.1 < 0 then (laws_FnExactFlowOf.j0 k a1 a2 t883 t891 true a0_0 l0_1) else ((laws_eqIntS.f k t891 t883).bind fun t902 => (laws_FnExactFlowOf.j0 k a1 a2 t883 t891 (!t902) a0_0 l0_1)))) else (some false)))) else (some false)))) = some r:=H;have A11:=I A110;clear A110;replace H:=Option.bind_eq_some_iff.mp H;obtain ⟨t891,A120,H⟩:=H;replace H : ((laws_eqIntS.f k t891 t883).bind fun t894 => (if t894 = true then ((laws_toNet.f k a0_0 l0_1).bind fun bt895 => ((laws_eqNet.f k t886 t887 bt895.1 bt895.2).bind fun t899 => (if t899 = true then ((laws_markNet.f k t886 t887 1).bind fun bt900 => (if bt900.1 < 0 then (laws_FnExactFlowOf.j0 k a1 a2 t883 t891 true a0_0 l0_1) else ((laws_eqIntS.f k t891 t883).bind fun t902 => (laws_FnExactFlowOf.j0 k a1 a2 t883 t891 (!t902) a0_0 l0_1)))) else (some false)))) else (some false))) = some r:=H;have A12:=I A120;clear A120;replace H:=Option.bind_eq_some_iff.mp H;obtain ⟨t894,A130,H⟩:=H
 replace H : (if t894 = true then ((laws_toNet.f k a0_0 l0_1).bind fun bt895 => ((laws_eqNet.f k t886 t887 bt895.1 bt895.2).bind fun t899 => (if t899 = true then ((laws_markNet.f k t886 t887 1).bind fun bt900 => (if bt900.1 < 0 then (laws_FnExactFlowOf.j0 k a1 a2 t883 t891 true a0_0 l0_1) else ((laws_eqIntS.f k t891 t883).bind fun t902 => (laws_FnExactFlowOf.j0 k a1 a2 t883 t891 (!t902) a0_0 l0_1)))) else (some false)))) else (some false)) = some r:=H;have A13:=I A130;clear A130
 by_cases c14 : t894 = true
 case neg =>
  replace c14:=Bool.eq_false_iff.mpr c14;subst c14;have H1 : (some false) = some r:=by rw [if_neg (show ¬ (false = true) by decide)] at H; exact H
  exact absurd ((Option.some.inj H1).trans HRT_.out) (by decide)
 subst c14;have H1 : ((laws_toNet.f k a0_0 l0_1).bind fun bt895 => ((laws_eqNet.f k t886 t887 bt895.1 bt895.2).bind fun t899 => (if t899 = true then ((laws_markNet.f k t886 t887 1).bind fun bt900 => (if bt900.1 < 0 then (laws_FnExactFlowOf.j0 k a1 a2 t883 t891 true a0_0 l0_1) else ((laws_eqIntS.f k t891 t883).bind fun t902 => (laws_FnExactFlowOf.j0 k a1 a2 t883 t891 (!t902) a0_0 l0_1)))) else (some false)))) = some r:=by rw [if_pos rfl] at H; exact H
 clear H;have H:=H1;clear H1;replace H:=Option.bind_eq_some_iff.mp H;obtain ⟨⟨t895,t896⟩,A150,H⟩:=H;replace H : ((laws_eqNet.f k t886 t887 t895 t896).bind fun t899 => (if t899 = true then ((laws_markNet.f k t886 t887 1).bind fun bt900 => (if bt900.1 < 0 then (laws_FnExactFlowOf.j0 k a1 a2 t883 t891 true a0_0 l0_1) else ((laws_eqIntS.f k t891 t883).bind fun t902 => (laws_FnExactFlowOf.j0 k a1 a2 t883 t891 (!t902) a0_0 l0_1)))) else (some false))) = some r:=H;have A15:=I A150;clear A150;replace H:=Option.bind_eq_some_iff.mp H;obtain ⟨t899,A160,H⟩:=H;replace H : (if t899 = true then ((laws_markNet.f k t886 t887 1).bind fun bt900 => (if bt900.1 < 0 then (laws_FnExactFlowOf.j0 k a1 a2 t883 t891 true a0_0 l0_1) else ((laws_eqIntS.f k t891 t883).bind fun t902 => (laws_FnExactFlowOf.j0 k a1 a2 t883 t891 (!t902) a0_0 l0_1)))) else (some false)) = some r:=H;have A16:=I A160;clear A160
 by_cases c17 : t899 = true
 case neg =>
  replace c17:=Bool.eq_false_iff.mpr c17;subst c17;have H1 : (some false) = some r:=by rw [if_neg (show ¬ (false = true) by decide)] at H; exact H
  exact absurd ((Option.some.inj H1).trans HRT_.out) (by decide)
 subst c17;have H1 : ((laws_markNet.f k t886 t887 1).bind fun bt900 => (if bt900.1 < 0 then (laws_FnExactFlowOf.j0 k a1 a2 t883 t891 true a0_0 l0_1) else ((laws_eqIntS.f k t891 t883).bind fun t902 => (laws_FnExactFlowOf.j0 k a1 a2 t883 t891 (!t902) a0_0 l0_1)))) = some r:=by rw [if_pos rfl] at H; exact H
 clear H;have H:=H1;clear H1;replace H:=Option.bind_eq_some_iff.mp H;obtain ⟨⟨t900,t901⟩,A180,H⟩:=H;replace H : (if t900 < 0 then (laws_FnExactFlowOf.j0 k a1 a2 t883 t891 true a0_0 l0_1) else ((laws_eqIntS.f k t891 t883).bind fun t902 => (laws_FnExactFlowOf.j0 k a1 a2 t883 t891 (!t902) a0_0 l0_1))) = some r:=H;have A18:=I A180;clear A180;have HC19:=I H;clear H
 go_enter Try.func8,Try.ntmps8
 try go_wp2_with (first | ((with_reducible refine gate_dst (N:=3) rfl ?_); refine box_event ?hg (N:=3) ?hd (cs:=#[.int .i64 a0_0,.slice A0_1 l0_1.length c0_1]) (t:=43) ?hr ?_; (case hd => rfl); (case hg => rfl); (case hr => first | (go_simp; done) | (go_simp; rfl)); intro gb877 hg w20 hbox hb; have n0_:=I (below_step (by repeat (first | (with_reducible first | exact HB.out | apply below_alloc | apply pw_below_drewN | apply below_drew1) | exact HB.out)) hb); have n1_:=I (hbox); have n2_:=I ((by rw [hg]; exact (below_size (by repeat (first | (with_reducible first | exact HB.out | apply below_alloc | apply pw_below_drewN | apply below_drew1) | exact HB.out))) : w.heap.size ≤ gb877)); have n3_:=I ((by rw [hg]; exact (below_size (by repeat (first | (with_reducible first | exact HB.out | apply below_alloc | apply pw_below_drewN | apply below_drew1) | exact HB.out))) : w.heap.size ≤ gb877)); clear HB; have HB:=n0_; have BK877:=n1_; have GW877:=n2_; have GE877:=n3_; clear n0_ n1_ n2_ n3_; clear hb hbox hg; have hcz21_0 : w20.cell? ⟨gb877,0,none⟩ = some (.int .i64 a0_0):=(blk_cell BK877.out 0).trans rfl; have hcz21_1 : w20.cell? ⟨gb877,1,none⟩ = some (.slice A0_1 l0_1.length c0_1):=(blk_cell BK877.out 1).trans rfl; have hfz21_0:=blk_frozen BK877.out 0; have hfz21_1:=blk_frozen BK877.out 1) | ((with_reducible refine gate_callee (f:=26) rfl ?_); refine goesL_ (some 17) rfl rfl Try.func26 (by kernel_rfl) rfl #[.agg #[.int .i64 a0_0,.slice A0_1 l0_1.length c0_1],.int .i64 1048576] rfl (by (try simp only [List.map_toArray,List.map_cons,List.map_nil]); first | done | rfl | (simp only [List.length_drop,List.length_take]; rfl)) ?_; (with_reducible refine (laws_szNet.calls a0_0 _ _ l0_1 1048576 t878 _ ?side1 ?side2 A4.out).mono ?_); (case side1 => repeat (first | exact (Kd.C_below HR0_1.out HB.out) | (with_reducible refine Kd.C_alloc ?_ _) | (with_reducible refine Kd.C_drewN ?_ _) | (with_reducible refine Kd.C_drew ?_))); (case side2 => exact HC0_1.out); rintro e w22 ⟨rfl,hb⟩; refine ⟨_,rfl,?_⟩; have n0_:=I (blk_below (g:=gb877) (o:=.cells #[.int .i64 a0_0,.slice A0_1 l0_1.length c0_1] 43 (0,0)) (by (with_reducible repeat (first | refine blk_drewN ?_ _ | refine blk_drew ?_ | refine blk_alloc ?_ _)); exact BK877.out) hb); have n1_:=I (below_step (by repeat (first | (with_reducible first | exact HB.out | apply below_alloc | apply pw_below_drewN | apply below_drew1 | refine below_set ?_ GE877.out) | exact HB.out)) hb); clear BK877; clear HB; have BK877:=n0_; have HB:=n1_; clear n0_ n1_; (try clear hb); (try clear hb2); (try clear hk); (try clear hi); have hcz23_0 : w22.cell? ⟨gb877,0,none⟩ = some (.int .i64 a0_0):=(blk_cell BK877.out 0).trans rfl; have hcz23_1 : w22.cell? ⟨gb877,1,none⟩ = some (.slice A0_1 l0_1.length c0_1):=(blk_cell BK877.out 1).trans rfl; have hfz23_0:=blk_frozen BK877.out 0; have hfz23_1:=blk_frozen BK877.out 1) | ((with_reducible refine gate_callee (f:=28) rfl ?_); refine goesL_ (some 21) rfl rfl Try.func28 (by kernel_rfl) rfl #[.agg #[.int .i64 a0_0,.slice A0_1 l0_1.length c0_1]] rfl (by (try simp only [List.map_toArray,List.map_cons,List.map_nil]); first | done | rfl | (simp only [List.length_drop,List.length_take]; rfl)) ?_; (with_reducible refine (laws_toNet.calls k a0_0 _ _ l0_1 t879 t880 _ ?side1 ?side2 A9.out).mono ?_); (case side1 => repeat (first | exact (Kd.C_below HR0_1.out HB.out) | (with_reducible refine Kd.C_alloc ?_ _) | (with_reducible refine Kd.C_drewN ?_ _) | (with_reducible refine Kd.C_drew ?_))); (case side2 => exact HC0_1.out); rintro e w24 ⟨v881,rfl,ho0,hb⟩; refine ⟨_,rfl,?_⟩; have n0_:=I (Kd.R_lower ho0 (below_size (by repeat (first | (with_reducible first | exact HB.out | apply below_alloc | apply pw_below_drewN | apply below_drew1 | refine below_set ?_ GE877.out) | exact HB.out)))); have n1_:=I (blk_below (g:=gb877) (o:=.cells #[.int .i64 a0_0,.slice A0_1 l0_1.length c0_1] 43 (0,0)) (by (with_reducible repeat (first | refine blk_drewN ?_ _ | refine blk_drew ?_ | refine blk_alloc ?_ _)); exact BK877.out) hb); have n2_:=I (below_step (by repeat (first | (with_reducible first | exact HB.out | apply below_alloc | apply pw_below_drewN | apply below_drew1 | refine below_set ?_ GE877.out) | exact HB.out)) hb); clear BK877; clear HB; have HO882:=n0_; have BK877:=n1_; have HB:=n2_; clear n0_ n1_ n2_; (try clear hb); (try clear hb2); (try clear hk); (try clear hi); (try clear ho0); obtain ⟨Ao25,co25,eo25⟩:=Kd.R_slice HO882.out; subst eo25) | ((with_reducible refine gate_callee (f:=40) rfl ?_); refine goesL_ (some 24) rfl rfl Try.func40 (by kernel_rfl) rfl #[.agg #[.int .i64 t879,.slice Ao25 t880.length co25],.int .i64 a1,.int .i64 a2] rfl (by (try simp only [List.map_toArray,List.map_cons,List.map_nil]); first | done | rfl | (simp only [List.length_drop,List.length_take]; rfl)) ?_; (with_reducible refine (spec_FlowOf.calls k t879 _ _ t880 a1 a2 t883 _ ?side1 ?side2 A10.out).mono ?_); (case side1 => repeat (first | exact (Kd.R_reads' HO882.out).2.2 | (with_reducible refine Kd.C_alloc ?_ _) | (with_reducible refine Kd.C_drewN ?_ _) | (with_reducible refine Kd.C_drew ?_))); (case side2 => exact (Kd.R_reads' HO882.out).2.1); rintro e w26 ⟨v884,rfl,ho0,hb⟩; refine ⟨_,rfl,?_⟩; have n0_:=I (Kd.R_below (by (with_reducible repeat (first | apply Kd.R_alloc | apply Kd.R_drewN | apply Kd.R_drew)); exact HO882.out) hb); have n1_:=I (Kd.R_lower ho0 (below_size (by repeat (first | (with_reducible first | exact HB.out | apply below_alloc | apply pw_below_drewN | apply below_drew1 | refine below_set ?_ GE877.out) | exact HB.out)))); have n2_:=I (blk_below (g:=gb877) (o:=.cells #[.int .i64 a0_0,.slice A0_1 l0_1.length c0_1] 43 (0,0)) (by (with_reducible repeat (first | refine blk_drewN ?_ _ | refine blk_drew ?_ | refine blk_alloc ?_ _)); exact BK877.out) hb); have n3_:=I (below_step (by repeat (first | (with_reducible first | exact HB.out | apply below_alloc | apply pw_below_drewN | apply below_drew1 | refine below_set ?_ GE877.out) | exact HB.out)) hb); clear HO882; clear BK877; clear HB; have HO882:=n0_; have HO885:=n1_; have BK877:=n2_; have HB:=n3_; clear n0_ n1_ n2_ n3_; (try clear hb); (try clear hb2); (try clear hk); (try clear hi); (try clear ho0); have hcz27_0 : w26.cell? ⟨gb877,0,none⟩ = some (.int .i64 a0_0):=(blk_cell BK877.out 0).trans rfl; have hcz27_1 : w26.cell? ⟨gb877,1,none⟩ = some (.slice A0_1 l0_1.length c0_1):=(blk_cell BK877.out 1).trans rfl; have hfz27_0:=blk_frozen BK877.out 0; have hfz27_1:=blk_frozen BK877.out 1) | ((with_reducible refine gate_callee (f:=28) rfl ?_); refine goesL_ (some 26) rfl rfl Try.func28 (by kernel_rfl) rfl #[.agg #[.int .i64 a0_0,.slice A0_1 l0_1.length c0_1]] rfl (by (try simp only [List.map_toArray,List.map_cons,List.map_nil]); first | done | rfl | (simp only [List.length_drop,List.length_take]; rfl)) ?_; (with_reducible refine (laws_toNet.calls k a0_0 _ _ l0_1 t886 t887 _ ?side1 ?side2 A11.out).mono ?_); (case side1 => repeat (first | exact (Kd.C_below HR0_1.out HB.out) | (with_reducible refine Kd.C_alloc ?_ _) | (with_reducible refine Kd.C_drewN ?_ _) | (with_reducible refine Kd.C_drew ?_))); (case side2 => exact HC0_1.out); rintro e w28 ⟨v888,rfl,ho0,hb⟩; refine ⟨_,rfl,?_⟩; have n0_:=I (Kd.R_elder' (by (with_reducible repeat (first | apply Kd.R_alloc | apply Kd.R_drewN | apply Kd.R_drew)); exact HO882.out) (Kd.R_base ho0) hb); have n1_:=I (Kd.R_below (by (with_reducible repeat (first | apply Kd.R_alloc | apply Kd.R_drewN | apply Kd.R_drew)); exact HO885.out) hb); have n2_:=I (Kd.R_lower (Kd.R_new' ho0 (Kd.R_lt (by (with_reducible repeat (first | apply Kd.R_alloc | apply Kd.R_drewN | apply Kd.R_drew)); exact HO882.out))) (below_size (by repeat (first | (with_reducible first | exact HB.out | apply below_alloc | apply pw_below_drewN | apply below_drew1 | refine below_set ?_ GE877.out) | exact HB.out)))); have n3_:=I (blk_below (g:=gb877) (o:=.cells #[.int .i64 a0_0,.slice A0_1 l0_1.length c0_1] 43 (0,0)) (by (with_reducible repeat (first | refine blk_drewN ?_ _ | refine blk_drew ?_ | refine blk_alloc ?_ _)); exact BK877.out) hb); have n4_:=I (below_step (by repeat (first | (with_reducible first | exact HB.out | apply below_alloc | apply pw_below_drewN | apply below_drew1 | refine below_set ?_ GE877.out) | exact HB.out)) hb); clear HO882; clear HO885; clear BK877; clear HB; have HO882:=n0_; have HO885:=n1_; have HO889:=n2_; have BK877:=n3_; have HB:=n4_; clear n0_ n1_ n2_ n3_ n4_; (try clear hb); (try clear hb2); (try clear hk); (try clear hi); (try clear ho0)) | ((with_reducible refine gate_dst (N:=9) rfl ?_); refine box_event ?hg (N:=9) ?hd (cs:=#[.int .i64 0,.slice none 0 0]) (t:=34) ?hr ?_; (case hd => rfl); (case hg => rfl); (case hr => first | (go_simp; done) | (go_simp; rfl)); intro gb890 hg w29 hbox hb; have n0_:=I (Kd.R_below (by (with_reducible repeat (first | apply Kd.R_alloc | apply Kd.R_drewN | apply Kd.R_drew)); exact HO882.out) hb); have n1_:=I (Kd.R_below (by (with_reducible repeat (first | apply Kd.R_alloc | apply Kd.R_drewN | apply Kd.R_drew)); exact HO885.out) hb); have n2_:=I (Kd.R_below (by (with_reducible repeat (first | apply Kd.R_alloc | apply Kd.R_drewN | apply Kd.R_drew)); exact HO889.out) hb); have n3_:=I (blk_below (g:=gb877) (o:=.cells #[.int .i64 a0_0,.slice A0_1 l0_1.length c0_1] 43 (0,0)) (by (with_reducible repeat (first | refine blk_drewN ?_ _ | refine blk_drew ?_ | refine blk_alloc ?_ _)); exact BK877.out) hb); have n4_:=I (below_step (by repeat (first | (with_reducible first | exact HB.out | apply below_alloc | apply pw_below_drewN | apply below_drew1 | refine below_set ?_ GE877.out) | exact HB.out)) hb); have n5_:=I (hbox); have n6_:=I ((by rw [hg]; exact (below_size (by repeat (first | (with_reducible first | exact HB.out | apply below_alloc | apply pw_below_drewN | apply below_drew1 | refine below_set ?_ GE877.out) | exact HB.out))) : w.heap.size ≤ gb890)); have n7_:=I ((by rw [hg]; exact (below_size (by repeat (first | (with_reducible first | exact HB.out | apply below_alloc | apply pw_below_drewN | apply below_drew1 | refine below_set ?_ GE877.out) | exact HB.out))) : w.heap.size ≤ gb890)); have n8_:=I ((by rw [hg]; exact Nat.ne_of_lt (blk_lt (g:=gb877) (o:=.cells #[.int .i64 a0_0,.slice A0_1 l0_1.length c0_1] 43 (0,0)) (by (with_reducible repeat (first | refine blk_drewN ?_ _ | refine blk_drew ?_ | refine blk_alloc ?_ _)); exact BK877.out)) : gb877 ≠ gb890)); have n9_:=I ((by rw [hg]; exact Nat.ne_of_gt (blk_lt (g:=gb877) (o:=.cells #[.int .i64 a0_0,.slice A0_1 l0_1.length c0_1] 43 (0,0)) (by (with_reducible repeat (first | refine blk_drewN ?_ _ | refine blk_drew ?_ | refine blk_alloc ?_ _)); exact BK877.out)) : gb890 ≠ gb877)); clear HO882; clear HO885; clear HO889; clear BK877; clear HB; have HO882:=n0_; have HO885:=n1_; have HO889:=n2_; have BK877:=n3_; have HB:=n4_; have BK890:=n5_; have GW890:=n6_; have GE890:=n7_; have NB877_890:=n8_; have NB890_877:=n9_; clear n0_ n1_ n2_ n3_ n4_ n5_ n6_ n7_ n8_ n9_; clear hb hbox hg; have hnb30:=NB890_877.out; have hnc30:=NB877_890.out; have hcz31_0 : w29.cell? ⟨gb890,0,none⟩ = some (.int .i64 0):=(blk_cell BK890.out 0).trans rfl; have hcz31_1 : w29.cell? ⟨gb890,1,none⟩ = some (.slice none 0 0):=(blk_cell BK890.out 1).trans rfl; have hfz31_0:=blk_frozen BK890.out 0; have hfz31_1:=blk_frozen BK890.out 1; obtain ⟨Ao32,co32,eo32⟩:=Kd.R_slice HO889.out; subst eo32) | ((with_reducible refine gate_callee (f:=38) rfl ?_); refine goesL_ (some 30) rfl rfl Try.func38 (by kernel_rfl) rfl #[.agg #[.int .i64 t886,.slice Ao32 t887.length co32],.int .i64 a1,.int .i64 a2] rfl (by (try simp only [List.map_toArray,List.map_cons,List.map_nil]); first | done | rfl | (simp only [List.length_drop,List.length_take]; rfl)) ?_; (with_reducible refine (impl_FlowOf.calls k t886 _ _ t887 a1 a2 t891 _ ?side1 ?side2 A12.out).mono ?_); (case side1 => refine (Kd.R_reads' (e:=58) (base:=w.heap.size) (ok:=fun k_ => (True ∧ some k_ ≠ (.slice Ao25 t880.length co25 : Value).ownBlock)) (n:=t887.length) (c:=co32) ?_).2.2; exact (by (with_reducible repeat (first | apply Kd.R_alloc | apply Kd.R_drewN | apply Kd.R_drew)); exact (Kd.R_mono (Kd.R_far (p:=⟨gb890,1,none⟩) (Kd.R_far (p:=⟨gb890,0,none⟩) (Kd.R_types HO889.out BK890.out (by decide)) (fun _ hk => hk.2) (.int .i64 t886)) (fun _ hk => hk.2) (.slice Ao32 t887.length co32)) (fun _ h_ => h_.1)))); (case side2 => exact (Kd.R_reads' HO889.out).2.1); rintro e w33 ⟨v892,rfl,ho0,hb⟩; refine ⟨_,rfl,?_⟩; have n0_:=I (Kd.R_below (by (with_reducible repeat (first | apply Kd.R_alloc | apply Kd.R_drewN | apply Kd.R_drew)); exact (Kd.R_mono (Kd.R_far (p:=⟨gb890,1,none⟩) (Kd.R_far (p:=⟨gb890,0,none⟩) (Kd.R_types HO882.out BK890.out (by decide)) (fun _ hk => hk.2) (.int .i64 t886)) (fun _ hk => hk.2) (.slice Ao32 t887.length co32)) (fun _ h_ => h_.1))) hb); have n1_:=I (Kd.R_elder' (by (with_reducible repeat (first | apply Kd.R_alloc | apply Kd.R_drewN | apply Kd.R_drew)); exact (Kd.R_mono (Kd.R_far (p:=⟨gb890,1,none⟩) (Kd.R_far (p:=⟨gb890,0,none⟩) (Kd.R_types HO885.out BK890.out (by decide)) (fun _ hk => hk.2) (.int .i64 t886)) (fun _ hk => hk.2) (.slice Ao32 t887.length co32)) (fun _ h_ => h_.1))) (Kd.R_base ho0) hb); have n2_:=I (Kd.R_below (by (with_reducible repeat (first | apply Kd.R_alloc | apply Kd.R_drewN | apply Kd.R_drew)); exact (Kd.R_mono (Kd.R_far (p:=⟨gb890,1,none⟩) (Kd.R_far (p:=⟨gb890,0,none⟩) (Kd.R_types HO889.out BK890.out (by decide)) (fun _ hk => hk.2) (.int .i64 t886)) (fun _ hk => hk.2) (.slice Ao32 t887.length co32)) (fun _ h_ => h_.1))) hb); have n3_:=I (Kd.R_lower (Kd.R_new' ho0 (Kd.R_lt (by (with_reducible repeat (first | apply Kd.R_alloc | apply Kd.R_drewN | apply Kd.R_drew)); exact (Kd.R_mono (Kd.R_far (p:=⟨gb890,1,none⟩) (Kd.R_far (p:=⟨gb890,0,none⟩) (Kd.R_types HO885.out BK890.out (by decide)) (fun _ hk => hk.2) (.int .i64 t886)) (fun _ hk => hk.2) (.slice Ao32 t887.length co32)) (fun _ h_ => h_.1))))) (below_size (by repeat (first | (with_reducible first | exact HB.out | apply below_alloc | apply pw_below_drewN | apply below_drew1 | refine below_set ?_ GE877.out | refine below_set ?_ GE890.out) | exact HB.out)))); have n4_:=I (blk_below (g:=gb877) (o:=.cells #[.int .i64 a0_0,.slice A0_1 l0_1.length c0_1] 43 (0,0)) (by (with_reducible repeat (first | refine blk_drewN ?_ _ | refine blk_drew ?_ | refine blk_alloc ?_ _)); refine blk_far ?_ NB877_890.out _; (with_reducible repeat (first | refine blk_drewN ?_ _ | refine blk_drew ?_ | refine blk_alloc ?_ _)); refine blk_far ?_ NB877_890.out _; (with_reducible repeat (first | refine blk_drewN ?_ _ | refine blk_drew ?_ | refine blk_alloc ?_ _)); exact BK877.out) hb); have n5_:=I (blk_below (g:=gb890) (o:=.cells #[.int .i64 t886,.slice Ao32 t887.length co32] 34 (0,0)) (by (with_reducible repeat (first | refine blk_drewN ?_ _ | refine blk_drew ?_ | refine blk_alloc ?_ _)); refine blk_put (cs:=#[.int .i64 t886,.slice none 0 0]) ?_ 1 _ rfl; (with_reducible repeat (first | refine blk_drewN ?_ _ | refine blk_drew ?_ | refine blk_alloc ?_ _)); refine blk_put (cs:=#[.int .i64 0,.slice none 0 0]) ?_ 0 _ rfl; (with_reducible repeat (first | refine blk_drewN ?_ _ | refine blk_drew ?_ | refine blk_alloc ?_ _)); exact BK890.out) hb); have n6_:=I (below_step (by repeat (first | (with_reducible first | exact HB.out | apply below_alloc | apply pw_below_drewN | apply below_drew1 | refine below_set ?_ GE877.out | refine below_set ?_ GE890.out) | exact HB.out)) hb); clear HO882; clear HO885; clear HO889; clear BK877; clear BK890; clear HB; have HO882:=n0_; have HO885:=n1_; have HO889:=n2_; have HO893:=n3_; have BK877:=n4_; have BK890:=n5_; have HB:=n6_; clear n0_ n1_ n2_ n3_ n4_ n5_ n6_; (try clear hb); (try clear hb2); (try clear hk); (try clear hi); (try clear ho0); obtain ⟨Ao34,co34,eo34⟩:=Kd.R_slice HO893.out; subst eo34; obtain ⟨Ao35,co35,eo35⟩:=Kd.R_slice HO885.out; subst eo35) | ((with_reducible refine gate_callee (f:=32) rfl ?_); refine goesL_ (some 33) rfl rfl Try.func32 (by kernel_rfl) rfl #[.slice Ao34 t891.length co34,.slice Ao35 t883.length co35] rfl (by (try simp only [List.map_toArray,List.map_cons,List.map_nil]); first | done | rfl | (simp only [List.length_drop,List.length_take]; rfl)) ?_; (with_reducible refine (laws_eqIntS.calls k _ _ t891 _ _ t883 true _ ?side1 ?side2 ?side3 ?side4 A13.out).mono ?_); (case side1 => repeat (first | exact (Kd.R_reads' HO893.out).2.2 | (with_reducible refine Kd.C_alloc ?_ _) | (with_reducible refine Kd.C_drewN ?_ _) | (with_reducible refine Kd.C_drew ?_))); (case side2 => exact (Kd.R_reads' HO893.out).2.1); (case side3 => repeat (first | exact (Kd.R_reads' HO885.out).2.2 | (with_reducible refine Kd.C_alloc ?_ _) | (with_reducible refine Kd.C_drewN ?_ _) | (with_reducible refine Kd.C_drew ?_))); (case side4 => exact (Kd.R_reads' HO885.out).2.1); rintro e w' ⟨rfl,⟨nd,rfl⟩⟩; refine ⟨_,rfl,?_⟩))
 (try (rw [drewN_self w33]; generalize hq_ : World.drewN w33 _ = w33; have n0_ : Aside0 (Kd.R k58 58 w33 w.heap.size (fun k_ => some k_ ≠ (.slice Ao32 t887.length co32 : Value).ownBlock) (.slice Ao25 t880.length co25) t880):=⟨by rw [← hq_]; exact (by (with_reducible repeat (first | apply Kd.R_alloc | apply Kd.R_drewN | apply Kd.R_drew)); exact Kd.R_mono HO882.out (fun _ hk => hk.2))⟩; have n1_ : Aside0 (Kd.R (Kd.int .i64) 3 w33 w.heap.size (fun k_ => some k_ ≠ (.slice Ao34 t891.length co34 : Value).ownBlock) (.slice Ao35 t883.length co35) t883):=⟨by rw [← hq_]; exact (by (with_reducible repeat (first | apply Kd.R_alloc | apply Kd.R_drewN | apply Kd.R_drew)); exact Kd.R_mono HO885.out (fun _ hk => hk.2))⟩; have n2_ : Aside0 (Kd.R k58 58 w33 w.heap.size (fun k_ => some k_ ≠ (.slice Ao25 t880.length co25 : Value).ownBlock) (.slice Ao32 t887.length co32) t887):=⟨by rw [← hq_]; exact (by (with_reducible repeat (first | apply Kd.R_alloc | apply Kd.R_drewN | apply Kd.R_drew)); exact Kd.R_mono HO889.out (fun _ hk => hk.2))⟩; have n3_ : Aside0 (Kd.R (Kd.int .i64) 3 w33 w.heap.size (fun k_ => some k_ ≠ (.slice Ao35 t883.length co35 : Value).ownBlock) (.slice Ao34 t891.length co34) t891):=⟨by rw [← hq_]; exact (by (with_reducible repeat (first | apply Kd.R_alloc | apply Kd.R_drewN | apply Kd.R_drew)); exact Kd.R_mono HO893.out (fun _ hk => hk.2))⟩; have n4_ : Aside0 (w33.heap[gb877]? = some (.cells #[.int .i64 a0_0,.slice A0_1 l0_1.length c0_1] 43 (0,0))):=⟨by rw [← hq_]; exact (by (with_reducible repeat (first | refine blk_drewN ?_ _ | refine blk_drew ?_ | refine blk_alloc ?_ _)); exact BK877.out)⟩; have n5_ : Aside0 (w33.heap[gb890]? = some (.cells #[.int .i64 t886,.slice Ao32 t887.length co32] 34 (0,0))):=⟨by rw [← hq_]; exact (by (with_reducible repeat (first | refine blk_drewN ?_ _ | refine blk_drew ?_ | refine blk_alloc ?_ _)); exact BK890.out)⟩; have n6_ : Aside0 (Below w.heap.size w w33):=⟨by rw [← hq_]; exact (by repeat (first | (with_reducible first | exact HB.out | apply below_alloc | apply pw_below_drewN | apply below_drew1 | refine below_set ?_ GE877.out | refine below_set ?_ GE890.out) | exact HB.out))⟩; clear HO882 HO885 HO889 HO893 BK877 BK890 HB hq_; have HO882:=n0_; have HO885:=n1_; have HO889:=n2_; have HO893:=n3_; have BK877:=n4_; have BK890:=n5_; have HB:=n6_; clear n0_ n1_ n2_ n3_ n4_ n5_ n6_))
 have n0_:=I (Kd.R_drew HO882.out);have n1_:=I (Kd.R_drew HO885.out);have n2_:=I (Kd.R_drew HO889.out);have n3_:=I (Kd.R_drew HO893.out);have n4_:=I (blk_drew BK877.out);have n5_:=I (blk_drew BK890.out);have n6_:=I (below_drew1 HB.out);clear HO882;clear HO885;clear HO889;clear HO893;clear BK877;clear BK890;clear HB;have HO882:=n0_;have HO885:=n1_;have HO889:=n2_;have HO893:=n3_;have BK877:=n4_;have BK890:=n5_;have HB:=n6_;clear n0_ n1_ n2_ n3_ n4_ n5_ n6_;refine start_ (n:=5) (S:=fun w' => w'.cell? ⟨gb890,0,none⟩ = some (.int .i64 t886) ∧ w'.cell? ⟨gb890,1,none⟩ = some (.slice Ao32 t887.length co32) ∧ w'.cell? ⟨gb877,0,none⟩ = some (.int .i64 a0_0) ∧ w'.cell? ⟨gb877,1,none⟩ = some (.slice A0_1 l0_1.length c0_1)) (ds:=[]) #[false,false,false,false,false] (by kernel_rfl) rfl rfl ⟨(blk_cell BK890.out 0).trans rfl,(blk_cell BK890.out 1).trans rfl,(blk_cell BK877.out 0).trans rfl,(blk_cell BK877.out 1).trans rfl⟩ (fun hHeld => ?_);generalize w33.drew = w36 at HO882 HO885 HO889 HO893 BK877 BK890 HB hHeld ⊢;refine take_ (i:=0) (N:=some 35) (v:=?_) (a':=?_) #[true,false,false,false,false] rfl rfl (by kernel_rfl) (fun _ _ _ h => h) (Or.inl ⟨by rfl,?_⟩) hHeld ?_ ?_;rotate_left
 ·rintro w' ⟨s0,s1,s2,s3⟩;go_simp;with_reducible rfl
 rotate_left
 ·simp only [Act.put,J,U,O,i64_w,i32_w];rfl
 refine take_ (i:=1) (N:=some 36) (v:=?_) (a':=?_) #[true,true,false,false,false] rfl rfl (by kernel_rfl) (fun _ _ _ h => h) (Or.inl ⟨by rfl,?_⟩) hHeld ?_ ?_;rotate_left
 ·rintro w' ⟨s0,s1,s2,s3⟩;go_simp;with_reducible rfl
 rotate_left
 ·simp only [Act.put,J,U,O,i64_w,i32_w];rfl
 refine one_ (i:=2) (N:=some 37) #[true,true,true,false,false] rfl rfl (by kernel_rfl) (by decide) (fun K hK => ?_);refine goes_ Try.func28 (by kernel_rfl) rfl #[.agg #[.int .i64 a0_0,.slice A0_1 l0_1.length c0_1]] (by rfl) rfl rfl (by (try simp only [List.map_toArray,List.map_cons,List.map_nil]); first | done | rfl | (simp only [List.length_drop,List.length_take]; rfl)) ?_;with_reducible refine (laws_toNet.calls k a0_0 _ _ l0_1 t895 t896 _ ?side1 ?side2 A15.out).mono ?_
 (case side1 => repeat (first | exact (Kd.C_below HR0_1.out HB.out) | (with_reducible refine Kd.C_alloc ?_ _) | (with_reducible refine Kd.C_drewN ?_ _) | (with_reducible refine Kd.C_drew ?_)))
 (case side2 => exact HC0_1.out)
 rintro e w37 ⟨v897,rfl,ho0,hb⟩;refine ⟨_,rfl,?_⟩;have n0_:=I (Kd.R_elder' (by (with_reducible repeat (first | apply Kd.R_alloc | apply Kd.R_drewN | apply Kd.R_drew)); exact HO882.out) (Kd.R_base ho0) hb);have n1_:=I (Kd.R_below (by (with_reducible repeat (first | apply Kd.R_alloc | apply Kd.R_drewN | apply Kd.R_drew)); exact HO885.out) hb);have n2_:=I (Kd.R_elder' (by (with_reducible repeat (first | apply Kd.R_alloc | apply Kd.R_drewN | apply Kd.R_drew)); exact HO889.out) (Kd.R_base ho0) hb);have n3_:=I (Kd.R_below (by (with_reducible repeat (first | apply Kd.R_alloc | apply Kd.R_drewN | apply Kd.R_drew)); exact HO893.out) hb);have n4_:=I (Kd.R_lower (Kd.R_new' (Kd.R_new' ho0 (Kd.R_lt (by (with_reducible repeat (first | apply Kd.R_alloc | apply Kd.R_drewN | apply Kd.R_drew)); exact HO882.out))) (Kd.R_lt (by (with_reducible repeat (first | apply Kd.R_alloc | apply Kd.R_drewN | apply Kd.R_drew)); exact HO889.out))) (below_size (by repeat (first | (with_reducible first | exact HB.out | apply below_alloc | apply pw_below_drewN | apply below_drew1 | refine below_set ?_ GE877.out | refine below_set ?_ GE890.out) | exact HB.out))));have n5_:=I (blk_below (g:=gb877) (o:=.cells #[.int .i64 a0_0,.slice A0_1 l0_1.length c0_1] 43 (0,0)) (by (with_reducible repeat (first | refine blk_drewN ?_ _ | refine blk_drew ?_ | refine blk_alloc ?_ _)); exact BK877.out) hb);have n6_:=I (blk_below (g:=gb890) (o:=.cells #[.int .i64 t886,.slice Ao32 t887.length co32] 34 (0,0)) (by (with_reducible repeat (first | refine blk_drewN ?_ _ | refine blk_drew ?_ | refine blk_alloc ?_ _)); exact BK890.out) hb);have n7_:=I (below_step (by repeat (first | (with_reducible first | exact HB.out | apply below_alloc | apply pw_below_drewN | apply below_drew1 | refine below_set ?_ GE877.out | refine below_set ?_ GE890.out) | exact HB.out)) hb);clear HO882;clear HO885;clear HO889;clear HO893;clear BK877;clear BK890;clear HB;have HO882:=n0_;have HO885:=n1_;have HO889:=n2_;have HO893:=n3_;have HO898:=n4_;have BK877:=n5_;have BK890:=n6_;have HB:=n7_;clear n0_ n1_ n2_ n3_ n4_ n5_ n6_ n7_
 (try clear hb)
 (try clear hb2)
 (try clear hk)
 (try clear hi)
 (try clear ho0)
 obtain ⟨Ao38,co38,eo38⟩:=Kd.R_slice HO898.out
 (first | subst eo38 | (injection eo38 with f1_ f2_ f3_; have f4_:=f1_.symm; have f5_:=f3_.symm; clear f1_ f2_ f3_; subst f4_; subst f5_))
 refine hK.out _ _ ⟨(blk_cell BK890.out 0).trans rfl,(blk_cell BK890.out 1).trans rfl,(blk_cell BK877.out 0).trans rfl,(blk_cell BK877.out 1).trans rfl⟩ (fun hHeld => ?_);clear hK K;refine norm_ (a':=?_) ?_ ?_;rotate_left
 ·show Act.put _ (some 37) _ = _
  simp only [Act.put,J,U,O,i64_w,i32_w];rfl
 refine one_ (i:=3) (N:=some 38) #[true,true,true,true,false] rfl rfl (by kernel_rfl) (by decide) (fun K hK => ?_);refine goes_ Try.func31 (by kernel_rfl) rfl #[.agg #[.int .i64 t886,.slice Ao32 t887.length co32],.agg #[.int .i64 t895,.slice Ao38 t896.length co38]] (by rfl) rfl rfl (by (try simp only [List.map_toArray,List.map_cons,List.map_nil]); first | done | rfl | (simp only [List.length_drop,List.length_take]; rfl)) ?_;with_reducible refine (laws_eqNet.calls k t886 _ _ t887 t895 _ _ t896 true _ ?side1 ?side2 ?side3 ?side4 A16.out).mono ?_
 (case side1 => repeat (first | exact (Kd.R_reads' HO889.out).2.2 | (with_reducible refine Kd.C_alloc ?_ _) | (with_reducible refine Kd.C_drewN ?_ _) | (with_reducible refine Kd.C_drew ?_)))
 (case side2 => exact (Kd.R_reads' HO889.out).2.1)
 (case side3 => repeat (first | exact (Kd.R_reads' HO898.out).2.2 | (with_reducible refine Kd.C_alloc ?_ _) | (with_reducible refine Kd.C_drewN ?_ _) | (with_reducible refine Kd.C_drew ?_)))
 (case side4 => exact (Kd.R_reads' HO898.out).2.1)
 rintro e w39 ⟨rfl,hb⟩;refine ⟨_,rfl,?_⟩;have n0_:=I (Kd.R_below (by (with_reducible repeat (first | apply Kd.R_alloc | apply Kd.R_drewN | apply Kd.R_drew)); exact HO882.out) hb);have n1_:=I (Kd.R_below (by (with_reducible repeat (first | apply Kd.R_alloc | apply Kd.R_drewN | apply Kd.R_drew)); exact HO885.out) hb);have n2_:=I (Kd.R_below (by (with_reducible repeat (first | apply Kd.R_alloc | apply Kd.R_drewN | apply Kd.R_drew)); exact HO889.out) hb);have n3_:=I (Kd.R_below (by (with_reducible repeat (first | apply Kd.R_alloc | apply Kd.R_drewN | apply Kd.R_drew)); exact HO893.out) hb);have n4_:=I (Kd.R_below (by (with_reducible repeat (first | apply Kd.R_alloc | apply Kd.R_drewN | apply Kd.R_drew)); exact HO898.out) hb);have n5_:=I (blk_below (g:=gb877) (o:=.cells #[.int .i64 a0_0,.slice A0_1 l0_1.length c0_1] 43 (0,0)) (by (with_reducible repeat (first | refine blk_drewN ?_ _ | refine blk_drew ?_ | refine blk_alloc ?_ _)); exact BK877.out) hb);have n6_:=I (blk_below (g:=gb890) (o:=.cells #[.int .i64 t886,.slice Ao32 t887.length co32] 34 (0,0)) (by (with_reducible repeat (first | refine blk_drewN ?_ _ | refine blk_drew ?_ | refine blk_alloc ?_ _)); exact BK890.out) hb);have n7_:=I (below_step (by repeat (first | (with_reducible first | exact HB.out | apply below_alloc | apply pw_below_drewN | apply below_drew1 | refine below_set ?_ GE877.out | refine below_set ?_ GE890.out) | exact HB.out)) hb);clear HO882;clear HO885;clear HO889;clear HO893;clear HO898;clear BK877;clear BK890;clear HB;have HO882:=n0_;have HO885:=n1_;have HO889:=n2_;have HO893:=n3_;have HO898:=n4_;have BK877:=n5_;have BK890:=n6_;have HB:=n7_;clear n0_ n1_ n2_ n3_ n4_ n5_ n6_ n7_
 (try clear hb)
 (try clear hb2)
 (try clear hk)
 (try clear hi)
 refine hK.out _ _ ⟨(blk_cell BK890.out 0).trans rfl,(blk_cell BK890.out 1).trans rfl,(blk_cell BK877.out 0).trans rfl,(blk_cell BK877.out 1).trans rfl⟩ (fun hHeld => ?_);clear hK K;refine norm_ (a':=?_) ?_ ?_;rotate_left
 ·show Act.put _ (some 38) _ = _
  simp only [Act.put,J,U,O,i64_w,i32_w];rfl
 refine pure_ (i:=4) (N:=some 39) (v:=?_) (a':=?_) #[true,true,true,true,true] rfl rfl (by kernel_rfl) (fun _ _ _ h => h) (Or.inl ⟨by rfl,?_⟩) ?_ ?_;rotate_left
 ·intro w';go_simp;with_reducible rfl
 rotate_left
 ·simp only [Act.put,J,U,O,i64_w,i32_w];rfl
 refine done_ (by kernel_rfl) ?_;have hcz40_0 : w39.cell? ⟨gb890,0,none⟩ = some (.int .i64 t886):=(blk_cell BK890.out 0).trans rfl;have hcz40_1 : w39.cell? ⟨gb890,1,none⟩ = some (.slice Ao32 t887.length co32):=(blk_cell BK890.out 1).trans rfl;have hfz40_0:=blk_frozen BK890.out 0;have hfz40_1:=blk_frozen BK890.out 1
 go_upto_region 14 with (first | ((with_reducible refine gate_callee (f:=41) rfl ?_); refine goesL_ (some 42) rfl rfl Try.func41 (by kernel_rfl) rfl #[.agg #[.int .i64 t886,.slice Ao32 t887.length co32],.int .i64 1] rfl (by (try simp only [List.map_toArray,List.map_cons,List.map_nil]); first | done | rfl | (simp only [List.length_drop,List.length_take]; rfl)) ?_; (with_reducible refine (laws_markNet.calls k t886 (fun k_ => some k_ = (.slice Ao32 t887.length co32 : Value).ownBlock) (.slice Ao32 t887.length co32) t887 1 t900 t901 w _ ?side1 ?side2 A18.out).mono ?_); (case side1 => repeat (first | (with_reducible first | exact HB.out | apply below_alloc | apply pw_below_drewN | apply below_drew1 | refine below_set ?_ GE877.out | refine below_set ?_ GE890.out) | exact HB.out)); (case side2 => exact Kd.R_tight rfl HO889.out); rintro e w41 ⟨rfl,hy0,hb,hkp⟩; refine ⟨_,rfl,?_⟩; have n0_:=I (blk_kept (by (with_reducible repeat (first | refine blk_drewN ?_ _ | refine blk_drew ?_ | refine blk_alloc ?_ _)); exact BK877.out) hkp (fun hs_ => (fun e_ => (Kd.R_ne HO889.out BK877.out (by decide)) e_) hs_)); have n1_:=I (Kd.R_mono (ok':=fun k_ => some k_ ≠ (.slice Ao32 t887.length co32 : Value).ownBlock ∧ some k_ ≠ (.slice Ao38 t896.length co38 : Value).ownBlock) (Kd.R_keptB (HO882.out) hkp (by intro k_ hk_ hs_; first | exact (hk_.1.2) hs_ | exact (hk_.1) hs_)) (by intro k_ hk_; first | exact ⟨hk_.1.1.2,hk_.1.2⟩ | exact ⟨hk_.1.1,hk_.1.2⟩)); have n2_:=I (Kd.R_mono (ok':=fun k_ => some k_ ≠ (.slice Ao34 t891.length co34 : Value).ownBlock) (Kd.R_keptB ((Kd.R_apart' HO885.out (Kd.R_typed HO889.out) (by decide))) hkp (fun k_ hk_ hs_ => (hk_.2) hs_)) (by intro k_ hk_; first | exact hk_.1.1.2 | exact hk_.1.1)); have n3_:=I (Kd.R_reok rfl hy0 (fun k_ e_ => HO889.out.1 k_ e_)); have n4_:=I (blk_kept (by (with_reducible repeat (first | refine blk_drewN ?_ _ | refine blk_drew ?_ | refine blk_alloc ?_ _)); exact BK890.out) hkp (fun hs_ => (fun e_ => (Kd.R_ne HO889.out BK890.out (by decide)) e_) hs_)); have n5_:=I (Kd.R_mono (ok':=fun k_ => some k_ ≠ (.slice Ao35 t883.length co35 : Value).ownBlock) (Kd.R_keptB ((Kd.R_apart' HO893.out (Kd.R_typed HO889.out) (by decide))) hkp (fun k_ hk_ hs_ => (hk_.2) hs_)) (by intro k_ hk_; first | exact hk_.1.1.2 | exact hk_.1.1)); have n6_:=I (Kd.R_mono (ok':=fun k_ => some k_ ≠ (.slice Ao25 t880.length co25 : Value).ownBlock ∧ some k_ ≠ (.slice Ao32 t887.length co32 : Value).ownBlock) (Kd.R_keptB (HO898.out) hkp (fun k_ hk_ hs_ => (hk_.2) hs_)) (by intro k_ hk_; first | exact ⟨hk_.1.1.2,hk_.1.2⟩ | exact ⟨hk_.1.1,hk_.1.2⟩)); have n7_:=I (hb); clear BK877; clear HO882; clear HO885; clear HO889; clear BK890; clear HO893; clear HO898; clear HB; have BK877:=n0_; have HO882:=n1_; have HO885:=n2_; have HO889:=n3_; have BK890:=n4_; have HO893:=n5_; have HO898:=n6_; have HB:=n7_; clear n0_ n1_ n2_ n3_ n4_ n5_ n6_ n7_; (try clear hb); (try clear hkp); (try clear hy0)))
 (try simp only [Act.put,J,U,O])
 go_cut [50] (fun v50 wc => ∃ (kq : Nat) (x50_18 : Bool),v50 = .bool x50_18 ∧ Aside0 (laws_FnExactFlowOf.j0 kq a1 a2 t883 t891 x50_18 a0_0 l0_1 = some r) ∧ Aside0 (kq ≤ k) ∧ Aside0 (Kd.R (Kd.int .i64) 3 wc w.heap.size (fun k_ => some k_ ≠ ((.slice Ao34 t891.length co34) : Value).ownBlock) (.slice Ao35 t883.length co35) t883) ∧ Aside0 (Kd.R (Kd.int .i64) 3 wc w.heap.size (fun k_ => some k_ ≠ ((.slice Ao35 t883.length co35) : Value).ownBlock) (.slice Ao34 t891.length co34) t891) ∧ Aside0 (Kd.R k58 58 wc w.heap.size (fun _ => True) (.slice Ao32 t887.length co32) t901) ∧ Aside0 (wc.heap[gb877]? = some (.cells #[.int .i64 a0_0,(.slice A0_1 l0_1.length c0_1)] 43 (0,0))) ∧ Aside0 (wc.heap[gb890]? = some (.cells #[.int .i64 t886,(.slice Ao32 t887.length co32)] 34 (0,0))) ∧ Aside0 (Below w.heap.size w wc))
 case first =>
  have H:=HC19.out;clear HC19
  by_cases c42 : t900 < 0
  case pos =>
   rw [if_pos c42] at H;have c42b0 : decide (t900 < 0) = true:=decide_eq_true c42;clear c42
   (first | rw [c42b0] | (simp only [i64_w,i32_w]; rw [c42b0]) | skip)
   have H':=I H;clear H
   go_wp2
   go_meet
   case rel => exact ⟨_,(true),(by first | rfl | (simp; done) | (simp [*]; done)),H',⟨by first | omega | exact Nat.le_refl _⟩,⟨by (with_reducible repeat (first | apply Kd.R_alloc | apply Kd.R_drewN | apply Kd.R_drew)); exact HO885.out⟩,⟨by (with_reducible repeat (first | apply Kd.R_alloc | apply Kd.R_drewN | apply Kd.R_drew)); exact HO893.out⟩,⟨by (with_reducible repeat (first | apply Kd.R_alloc | apply Kd.R_drewN | apply Kd.R_drew)); exact Kd.R_mono HO889.out (fun _ hk => trivial)⟩,⟨by (with_reducible repeat (first | refine blk_drewN ?_ _ | refine blk_drew ?_ | refine blk_alloc ?_ _)); exact BK877.out⟩,⟨by (with_reducible repeat (first | refine blk_drewN ?_ _ | refine blk_drew ?_ | refine blk_alloc ?_ _)); exact BK890.out⟩,⟨by repeat (first | (with_reducible first | exact HB.out | apply below_alloc | apply pw_below_drewN | apply below_drew1 | refine below_set ?_ GE877.out | refine below_set ?_ GE890.out) | exact HB.out)⟩⟩
  rw [if_neg c42] at H;have c42b0 : decide (t900 < 0) = false:=decide_eq_false c42;clear c42
  (first | rw [c42b0] | (simp only [i64_w,i32_w]; rw [c42b0]) | skip)
  replace H:=Option.bind_eq_some_iff.mp H;obtain ⟨t902,A430,H⟩:=H;replace H : (laws_FnExactFlowOf.j0 k a1 a2 t883 t891 (!t902) a0_0 l0_1) = some r:=H;have A43:=I A430;clear A430;have H':=I H;clear H
  go_wp2_with (first | (go_at_call 32; (with_reducible refine (laws_eqIntS.calls k _ _ t891 _ _ t883 t902 _ ?side1 ?side2 ?side3 ?side4 A43.out).mono ?_); (case side1 => repeat (first | exact (Kd.R_reads' HO893.out).2.2 | (with_reducible refine Kd.C_alloc ?_ _) | (with_reducible refine Kd.C_drewN ?_ _) | (with_reducible refine Kd.C_drew ?_))); (case side2 => exact (Kd.R_reads' HO893.out).2.1); (case side3 => repeat (first | exact (Kd.R_reads' HO885.out).2.2 | (with_reducible refine Kd.C_alloc ?_ _) | (with_reducible refine Kd.C_drewN ?_ _) | (with_reducible refine Kd.C_drew ?_))); (case side4 => exact (Kd.R_reads' HO885.out).2.1); rintro e w' ⟨rfl,⟨nd,rfl⟩⟩))
  go_meet
  case rel => exact ⟨_,(!t902),(by first | rfl | (simp; done) | (simp [*]; done)),H',⟨by first | omega | exact Nat.le_refl _⟩,⟨by (with_reducible repeat (first | apply Kd.R_alloc | apply Kd.R_drewN | apply Kd.R_drew)); exact HO885.out⟩,⟨by (with_reducible repeat (first | apply Kd.R_alloc | apply Kd.R_drewN | apply Kd.R_drew)); exact HO893.out⟩,⟨by (with_reducible repeat (first | apply Kd.R_alloc | apply Kd.R_drewN | apply Kd.R_drew)); exact Kd.R_mono HO889.out (fun _ hk => trivial)⟩,⟨by (with_reducible repeat (first | refine blk_drewN ?_ _ | refine blk_drew ?_ | refine blk_alloc ?_ _)); exact BK877.out⟩,⟨by (with_reducible repeat (first | refine blk_drewN ?_ _ | refine blk_drew ?_ | refine blk_alloc ?_ _)); exact BK890.out⟩,⟨by repeat (first | (with_reducible first | exact HB.out | apply below_alloc | apply pw_below_drewN | apply below_drew1 | refine below_set ?_ GE877.out | refine below_set ?_ GE890.out) | exact HB.out)⟩⟩
 case rest =>
  clear HC19
  try clear c1
  try clear c2
  try clear p2
  try clear c3
  try clear c4
  try clear c5
  try clear c5b0
  try clear c8
  try clear c14
  try clear c17
  try clear c26
  try clear c28
  try clear c30
  try clear c31
  try clear c32
  try clear c38
  try clear c40
  try clear c41
  try clear c42
  try clear c42b0
  try clear hcz21_0
  try clear hcz21_1
  try clear hcz23_0
  try clear hcz23_1
  try clear hcz27_0
  try clear hcz27_1
  try clear hcz31_0
  try clear hcz31_1
  try clear hcz40_0
  try clear hcz40_1
  try clear hcz7_0
  try clear hcz7_1
  try clear hfz21_0
  try clear hfz21_1
  try clear hfz23_0
  try clear hfz23_1
  try clear hfz27_0
  try clear hfz27_1
  try clear hfz31_0
  try clear hfz31_1
  try clear hfz40_0
  try clear hfz40_1
  try clear hfz7_0
  try clear hfz7_1
  obtain ⟨kq,x50_18,rfl,HA,HJ18,HO_8,HO_10,HO_891001,BK877,BK890,HB⟩:=hcut;have hl891001_18:=(Kd.R_reads' HO_891001.out).1;rw [hl891001_18] at HO_891001
  (try simp only [hl891001_18])
  (try simp only [hl891001_18] at BK877)
  (try simp only [hl891001_18] at BK890)
  (try simp only [hl891001_18] at HO_8)
  (try simp only [hl891001_18] at HO_10)
  cases kq with
  | zero => exact absurd HA.out (by simp [laws_FnExactFlowOf.j0])
  | succ kj18 =>
   have H:=HA.out;clear HA;simp only [laws_FnExactFlowOf.j0] at H
   by_cases c44 : x50_18 = true
   case pos =>
    subst c44;have H1 : (some false) = some r:=by rw [if_pos rfl] at H; exact H
    exact absurd ((Option.some.inj H1).trans HRT_.out) (by decide)
   replace c44:=Bool.eq_false_iff.mpr c44;subst c44;have H1 : ((laws_markIntS.f kj18 t891 1).bind fun bt903 => ((laws_heldIntS.f kj18 bt903.2 1).bind fun t905 => (if t905 < 0 then (some false) else (if t905 = bt903.1 then ((laws_toNet.f kj18 a0_0 l0_1).bind fun bt906 => ((impl_FlowOf.f kj18 bt906.1 bt906.2 a1 a2).bind fun t910 => ((laws_eqIntS.f kj18 t910 t883).bind fun t913 => (if t913 = true then ((laws_heldIntS.f kj18 bt903.2 1).bind fun t914 => (if t914 < 0 then (some false) else (if t914 = bt903.1 then (some true) else (some false)))) else (some false))))) else (some false))))) = some r:=by rw [if_neg (show ¬ (false = true) by decide)] at H; exact H
   clear H;have H:=H1;clear H1;replace H:=Option.bind_eq_some_iff.mp H;obtain ⟨⟨t903,t904⟩,A450,H⟩:=H;replace H : ((laws_heldIntS.f kj18 t904 1).bind fun t905 => (if t905 < 0 then (some false) else (if t905 = t903 then ((laws_toNet.f kj18 a0_0 l0_1).bind fun bt906 => ((impl_FlowOf.f kj18 bt906.1 bt906.2 a1 a2).bind fun t910 => ((laws_eqIntS.f kj18 t910 t883).bind fun t913 => (if t913 = true then ((laws_heldIntS.f kj18 t904 1).bind fun t914 => (if t914 < 0 then (some false) else (if t914 = t903 then (some true) else (some false)))) else (some false))))) else (some false)))) = some r:=H;have A45:=I A450;clear A450;replace H:=Option.bind_eq_some_iff.mp H;obtain ⟨t905,A460,H⟩:=H;replace H : (if t905 < 0 then (some false) else (if t905 = t903 then ((laws_toNet.f kj18 a0_0 l0_1).bind fun bt906 => ((impl_FlowOf.f kj18 bt906.1 bt906.2 a1 a2).bind fun t910 => ((laws_eqIntS.f kj18 t910 t883).bind fun t913 => (if t913 = true then ((laws_heldIntS.f kj18 t904 1).bind fun t914 => (if t914 < 0 then (some false) else (if t914 = t903 then (some true) else (some false)))) else (some false))))) else (some false))) = some r:=H;have A46:=I A460;clear A460
   by_cases c47 : t905 < 0
   case pos =>
    rw [if_pos c47] at H;have c47b0 : decide (t905 < 0) = true:=decide_eq_true c47;clear c47;obtain rfl:=Option.some.inj H
    go_wp2_with (first | ((with_reducible refine gate_callee (f:=42) rfl ?_); refine goesL_ (some 53) rfl rfl Try.func42 (by kernel_rfl) rfl #[.slice Ao34 t891.length co34,.int .i64 1] rfl (by (try simp only [List.map_toArray,List.map_cons,List.map_nil]); first | done | rfl | (simp only [List.length_drop,List.length_take]; rfl)) ?_; (with_reducible refine (laws_markIntS.calls kj18 (fun k_ => some k_ = (.slice Ao34 t891.length co34 : Value).ownBlock) (.slice Ao34 t891.length co34) t891 1 t903 t904 w _ ?side1 ?side2 A45.out).mono ?_); (case side1 => repeat (first | (with_reducible first | exact HB.out | apply below_alloc | apply pw_below_drewN | apply below_drew1 | refine below_set ?_ GE877.out | refine below_set ?_ GE890.out) | exact HB.out)); (case side2 => exact Kd.R_tight rfl HO_10.out); rintro e w48 ⟨rfl,hy0,hb,hkp⟩; refine ⟨_,rfl,?_⟩; have n0_:=I (Kd.R_mono (ok':=fun k_ => some k_ ≠ (.slice Ao34 t891.length co34 : Value).ownBlock) (Kd.R_keptB (HO_8.out) hkp (fun k_ hk_ hs_ => (hk_) hs_)) (fun k_ hk_ => hk_.1)); have n1_:=I (Kd.R_reok rfl hy0 (fun k_ e_ => HO_10.out.1 k_ e_)); have n2_:=I (Kd.R_mono (ok':=fun k_ => True) (Kd.R_keptB ((Kd.R_apart' HO_891001.out (Kd.R_typed HO_10.out) (by decide))) hkp (fun k_ hk_ hs_ => (hk_.2) hs_)) (fun k_ hk_ => trivial)); have n3_:=I (blk_kept (by (with_reducible repeat (first | refine blk_drewN ?_ _ | refine blk_drew ?_ | refine blk_alloc ?_ _)); exact BK877.out) hkp (fun hs_ => (fun e_ => (Kd.R_ne HO_10.out BK877.out (by decide)) e_) hs_)); have n4_:=I (blk_kept (by (with_reducible repeat (first | refine blk_drewN ?_ _ | refine blk_drew ?_ | refine blk_alloc ?_ _)); exact BK890.out) hkp (fun hs_ => (fun e_ => (Kd.R_ne HO_10.out BK890.out (by decide)) e_) hs_)); have n5_:=I (hb); clear HO_8; clear HO_10; clear HO_891001; clear BK877; clear BK890; clear HB; have HO_8:=n0_; have HO_10:=n1_; have HO_891001:=n2_; have BK877:=n3_; have BK890:=n4_; have HB:=n5_; clear n0_ n1_ n2_ n3_ n4_ n5_; (try clear hb); (try clear hkp); (try clear hy0)) | ((with_reducible refine gate_callee (f:=43) rfl ?_); refine goesL_ (some 56) rfl rfl Try.func43 (by kernel_rfl) rfl #[.slice Ao34 t904.length co34,.int .i64 1] rfl (by (try simp only [List.map_toArray,List.map_cons,List.map_nil]); first | done | (rw [show t904.length = t891.length from (Kd.R_reads' HO_10.out).1.symm] <;> rfl) | rfl | (simp only [List.length_drop,List.length_take]; rfl)) ?_; (with_reducible refine (laws_heldIntS.calls kj18 _ _ t904 1 t905 _ ?side1 ?side2 A46.out).mono ?_); (case side1 => repeat (first | exact (Kd.R_reads' HO_10.out).2.2 | (with_reducible refine Kd.C_alloc ?_ _) | (with_reducible refine Kd.C_drewN ?_ _) | (with_reducible refine Kd.C_drew ?_))); (case side2 => rw [show t904.length = t891.length from (Kd.R_reads' HO_10.out).1.symm]; exact (Kd.R_reads' HO_10.out).2.1); rintro e w' ⟨rfl,⟨nd,rfl⟩⟩; refine ⟨_,rfl,?_⟩))
    go_ret;exact ⟨by first | rfl | (simp [errW_none,errW_some] <;> rfl) | (simp [*,errW_none,errW_some] <;> rfl),by repeat (first | (with_reducible first | exact HB.out | apply below_alloc | apply pw_below_drewN | apply below_drew1 | refine below_set ?_ GE877.out | refine below_set ?_ GE890.out) | exact HB.out)⟩
   rw [if_neg c47] at H;have c47b0 : decide (t905 < 0) = false:=decide_eq_false c47;clear c47
   by_cases c49 : t905 = t903
   case neg =>
    rw [if_neg c49] at H;have c49b0 : (t905 == t903) = false:=beq_eq_false_iff_ne.mpr c49;have c49b1 : (t905 != t903) = true:=bne_iff_ne.mpr c49;obtain rfl:=Option.some.inj H
    go_wp2_with (first | ((with_reducible refine gate_callee (f:=42) rfl ?_); refine goesL_ (some 53) rfl rfl Try.func42 (by kernel_rfl) rfl #[.slice Ao34 t891.length co34,.int .i64 1] rfl (by (try simp only [List.map_toArray,List.map_cons,List.map_nil]); first | done | rfl | (simp only [List.length_drop,List.length_take]; rfl)) ?_; (with_reducible refine (laws_markIntS.calls kj18 (fun k_ => some k_ = (.slice Ao34 t891.length co34 : Value).ownBlock) (.slice Ao34 t891.length co34) t891 1 t903 t904 w _ ?side1 ?side2 A45.out).mono ?_); (case side1 => repeat (first | (with_reducible first | exact HB.out | apply below_alloc | apply pw_below_drewN | apply below_drew1 | refine below_set ?_ GE877.out | refine below_set ?_ GE890.out) | exact HB.out)); (case side2 => exact Kd.R_tight rfl HO_10.out); rintro e w85 ⟨rfl,hy0,hb,hkp⟩; refine ⟨_,rfl,?_⟩; have n0_:=I (Kd.R_mono (ok':=fun k_ => some k_ ≠ (.slice Ao34 t891.length co34 : Value).ownBlock) (Kd.R_keptB (HO_8.out) hkp (fun k_ hk_ hs_ => (hk_) hs_)) (fun k_ hk_ => hk_.1)); have n1_:=I (Kd.R_reok rfl hy0 (fun k_ e_ => HO_10.out.1 k_ e_)); have n2_:=I (Kd.R_mono (ok':=fun k_ => True) (Kd.R_keptB ((Kd.R_apart' HO_891001.out (Kd.R_typed HO_10.out) (by decide))) hkp (fun k_ hk_ hs_ => (hk_.2) hs_)) (fun k_ hk_ => trivial)); have n3_:=I (blk_kept (by (with_reducible repeat (first | refine blk_drewN ?_ _ | refine blk_drew ?_ | refine blk_alloc ?_ _)); exact BK877.out) hkp (fun hs_ => (fun e_ => (Kd.R_ne HO_10.out BK877.out (by decide)) e_) hs_)); have n4_:=I (blk_kept (by (with_reducible repeat (first | refine blk_drewN ?_ _ | refine blk_drew ?_ | refine blk_alloc ?_ _)); exact BK890.out) hkp (fun hs_ => (fun e_ => (Kd.R_ne HO_10.out BK890.out (by decide)) e_) hs_)); have n5_:=I (hb); clear HO_8; clear HO_10; clear HO_891001; clear BK877; clear BK890; clear HB; have HO_8:=n0_; have HO_10:=n1_; have HO_891001:=n2_; have BK877:=n3_; have BK890:=n4_; have HB:=n5_; clear n0_ n1_ n2_ n3_ n4_ n5_; (try clear hb); (try clear hkp); (try clear hy0)) | ((with_reducible refine gate_callee (f:=43) rfl ?_); refine goesL_ (some 56) rfl rfl Try.func43 (by kernel_rfl) rfl #[.slice Ao34 t904.length co34,.int .i64 1] rfl (by (try simp only [List.map_toArray,List.map_cons,List.map_nil]); first | done | (rw [show t904.length = t891.length from (Kd.R_reads' HO_10.out).1.symm] <;> rfl) | rfl | (simp only [List.length_drop,List.length_take]; rfl)) ?_; (with_reducible refine (laws_heldIntS.calls kj18 _ _ t904 1 t905 _ ?side1 ?side2 A46.out).mono ?_); (case side1 => repeat (first | exact (Kd.R_reads' HO_10.out).2.2 | (with_reducible refine Kd.C_alloc ?_ _) | (with_reducible refine Kd.C_drewN ?_ _) | (with_reducible refine Kd.C_drew ?_))); (case side2 => rw [show t904.length = t891.length from (Kd.R_reads' HO_10.out).1.symm]; exact (Kd.R_reads' HO_10.out).2.1); rintro e w' ⟨rfl,⟨nd,rfl⟩⟩; refine ⟨_,rfl,?_⟩))
    go_ret;exact ⟨by first | rfl | (simp [errW_none,errW_some] <;> rfl) | (simp [*,errW_none,errW_some] <;> rfl),by repeat (first | (with_reducible first | exact HB.out | apply below_alloc | apply pw_below_drewN | apply below_drew1 | refine below_set ?_ GE877.out | refine below_set ?_ GE890.out) | exact HB.out)⟩
   rw [if_pos c49] at H;have c49b0 : (t905 == t903) = true:=beq_iff_eq.mpr c49;have c49b1 : (t905 != t903) = false:=bne_eq_false_iff_eq.mpr c49;clear c49;replace H:=Option.bind_eq_some_iff.mp H;obtain ⟨⟨t906,t907⟩,A500,H⟩:=H;replace H : ((impl_FlowOf.f kj18 t906 t907 a1 a2).bind fun t910 => ((laws_eqIntS.f kj18 t910 t883).bind fun t913 => (if t913 = true then ((laws_heldIntS.f kj18 t904 1).bind fun t914 => (if t914 < 0 then (some false) else (if t914 = t903 then (some true) else (some false)))) else (some false)))) = some r:=H;have A50:=I A500;clear A500;replace H:=Option.bind_eq_some_iff.mp H;obtain ⟨t910,A510,H⟩:=H;replace H : ((laws_eqIntS.f kj18 t910 t883).bind fun t913 => (if t913 = true then ((laws_heldIntS.f kj18 t904 1).bind fun t914 => (if t914 < 0 then (some false) else (if t914 = t903 then (some true) else (some false)))) else (some false))) = some r:=H;have A51:=I A510;clear A510;replace H:=Option.bind_eq_some_iff.mp H;obtain ⟨t913,A520,H⟩:=H;replace H : (if t913 = true then ((laws_heldIntS.f kj18 t904 1).bind fun t914 => (if t914 < 0 then (some false) else (if t914 = t903 then (some true) else (some false)))) else (some false)) = some r:=H;have A52:=I A520;clear A520
   by_cases c53 : t913 = true
   case neg =>
    replace c53:=Bool.eq_false_iff.mpr c53;subst c53;have H1 : (some false) = some r:=by rw [if_neg (show ¬ (false = true) by decide)] at H; exact H
    exact absurd ((Option.some.inj H1).trans HRT_.out) (by decide)
   subst c53;have H1 : ((laws_heldIntS.f kj18 t904 1).bind fun t914 => (if t914 < 0 then (some false) else (if t914 = t903 then (some true) else (some false)))) = some r:=by rw [if_pos rfl] at H; exact H
   clear H;have H:=H1;clear H1;replace H:=Option.bind_eq_some_iff.mp H;obtain ⟨t914,A540,H⟩:=H;replace H : (if t914 < 0 then (some false) else (if t914 = t903 then (some true) else (some false))) = some r:=H;have A54:=I A540;clear A540
   by_cases c55 : t914 < 0
   case pos =>
    rw [if_pos c55] at H;have c55b0 : decide (t914 < 0) = true:=decide_eq_true c55;clear c55;obtain rfl:=Option.some.inj H
    go_wp2_with (first | ((with_reducible refine gate_callee (f:=42) rfl ?_); refine goesL_ (some 53) rfl rfl Try.func42 (by kernel_rfl) rfl #[.slice Ao34 t891.length co34,.int .i64 1] rfl (by (try simp only [List.map_toArray,List.map_cons,List.map_nil]); first | done | rfl | (simp only [List.length_drop,List.length_take]; rfl)) ?_; (with_reducible refine (laws_markIntS.calls kj18 (fun k_ => some k_ = (.slice Ao34 t891.length co34 : Value).ownBlock) (.slice Ao34 t891.length co34) t891 1 t903 t904 w _ ?side1 ?side2 A45.out).mono ?_); (case side1 => repeat (first | (with_reducible first | exact HB.out | apply below_alloc | apply pw_below_drewN | apply below_drew1 | refine below_set ?_ GE877.out | refine below_set ?_ GE890.out) | exact HB.out)); (case side2 => exact Kd.R_tight rfl HO_10.out); rintro e w56 ⟨rfl,hy0,hb,hkp⟩; refine ⟨_,rfl,?_⟩; have n0_:=I (Kd.R_mono (ok':=fun k_ => some k_ ≠ (.slice Ao34 t891.length co34 : Value).ownBlock) (Kd.R_keptB (HO_8.out) hkp (fun k_ hk_ hs_ => (hk_) hs_)) (fun k_ hk_ => hk_.1)); have n1_:=I (Kd.R_reok rfl hy0 (fun k_ e_ => HO_10.out.1 k_ e_)); have n2_:=I (Kd.R_mono (ok':=fun k_ => True) (Kd.R_keptB ((Kd.R_apart' HO_891001.out (Kd.R_typed HO_10.out) (by decide))) hkp (fun k_ hk_ hs_ => (hk_.2) hs_)) (fun k_ hk_ => trivial)); have n3_:=I (blk_kept (by (with_reducible repeat (first | refine blk_drewN ?_ _ | refine blk_drew ?_ | refine blk_alloc ?_ _)); exact BK877.out) hkp (fun hs_ => (fun e_ => (Kd.R_ne HO_10.out BK877.out (by decide)) e_) hs_)); have n4_:=I (blk_kept (by (with_reducible repeat (first | refine blk_drewN ?_ _ | refine blk_drew ?_ | refine blk_alloc ?_ _)); exact BK890.out) hkp (fun hs_ => (fun e_ => (Kd.R_ne HO_10.out BK890.out (by decide)) e_) hs_)); have n5_:=I (hb); clear HO_8; clear HO_10; clear HO_891001; clear BK877; clear BK890; clear HB; have HO_8:=n0_; have HO_10:=n1_; have HO_891001:=n2_; have BK877:=n3_; have BK890:=n4_; have HB:=n5_; clear n0_ n1_ n2_ n3_ n4_ n5_; (try clear hb); (try clear hkp); (try clear hy0)) | ((with_reducible refine gate_callee (f:=43) rfl ?_); refine goesL_ (some 56) rfl rfl Try.func43 (by kernel_rfl) rfl #[.slice Ao34 t904.length co34,.int .i64 1] rfl (by (try simp only [List.map_toArray,List.map_cons,List.map_nil]); first | done | (rw [show t904.length = t891.length from (Kd.R_reads' HO_10.out).1.symm] <;> rfl) | rfl | (simp only [List.length_drop,List.length_take]; rfl)) ?_; (with_reducible refine (laws_heldIntS.calls kj18 _ _ t904 1 t905 _ ?side1 ?side2 A46.out).mono ?_); (case side1 => repeat (first | exact (Kd.R_reads' HO_10.out).2.2 | (with_reducible refine Kd.C_alloc ?_ _) | (with_reducible refine Kd.C_drewN ?_ _) | (with_reducible refine Kd.C_drew ?_))); (case side2 => rw [show t904.length = t891.length from (Kd.R_reads' HO_10.out).1.symm]; exact (Kd.R_reads' HO_10.out).2.1); rintro e w' ⟨rfl,⟨nd,rfl⟩⟩; refine ⟨_,rfl,?_⟩; have hnb57:=NB877_890.out; have hnc57:=NB890_877.out; have hcz58_0 : w56.cell? ⟨gb877,0,none⟩ = some (.int .i64 a0_0):=(blk_cell BK877.out 0).trans rfl; have hcz58_1 : w56.cell? ⟨gb877,1,none⟩ = some (.slice A0_1 l0_1.length c0_1):=(blk_cell BK877.out 1).trans rfl; have hfz58_0:=blk_frozen BK877.out 0; have hfz58_1:=blk_frozen BK877.out 1) | ((with_reducible refine gate_callee (f:=28) rfl ?_); refine goesL_ (some 63) rfl rfl Try.func28 (by kernel_rfl) rfl #[.agg #[.int .i64 a0_0,.slice A0_1 l0_1.length c0_1]] rfl (by (try simp only [List.map_toArray,List.map_cons,List.map_nil]); first | done | rfl | (simp only [List.length_drop,List.length_take]; rfl)) ?_; (with_reducible refine (laws_toNet.calls kj18 a0_0 _ _ l0_1 t906 t907 _ ?side1 ?side2 A50.out).mono ?_); (case side1 => repeat (first | exact (Kd.C_below HR0_1.out (by repeat (first | (with_reducible first | exact HB.out | apply below_alloc | apply pw_below_drewN | apply below_drew1 | refine below_set ?_ GE877.out | refine below_set ?_ GE890.out) | exact HB.out))) | (with_reducible refine Kd.C_alloc ?_ _) | (with_reducible refine Kd.C_drewN ?_ _) | (with_reducible refine Kd.C_drew ?_))); (case side2 => exact HC0_1.out); rintro e w59 ⟨v908,rfl,ho0,hb⟩; refine ⟨_,rfl,?_⟩; have n0_:=I (Kd.R_below (by (with_reducible repeat (first | apply Kd.R_alloc | apply Kd.R_drewN | apply Kd.R_drew)); exact HO_8.out) hb); have n1_:=I (Kd.R_below (by (with_reducible repeat (first | apply Kd.R_alloc | apply Kd.R_drewN | apply Kd.R_drew)); exact HO_10.out) hb); have n2_:=I (Kd.R_elder' (by (with_reducible repeat (first | apply Kd.R_alloc | apply Kd.R_drewN | apply Kd.R_drew)); exact HO_891001.out) (Kd.R_base ho0) hb); have n3_:=I (Kd.R_lower (Kd.R_new' ho0 (Kd.R_lt (by (with_reducible repeat (first | apply Kd.R_alloc | apply Kd.R_drewN | apply Kd.R_drew)); exact HO_891001.out))) (below_size (by repeat (first | (with_reducible first | exact HB.out | apply below_alloc | apply pw_below_drewN | apply below_drew1 | refine below_set ?_ GE877.out | refine below_set ?_ GE890.out) | exact HB.out)))); have n4_:=I (blk_below (g:=gb877) (o:=.cells #[.int .i64 a0_0,.slice A0_1 l0_1.length c0_1] 43 (0,0)) (by (with_reducible repeat (first | refine blk_drewN ?_ _ | refine blk_drew ?_ | refine blk_alloc ?_ _)); exact BK877.out) hb); have n5_:=I (blk_below (g:=gb890) (o:=.cells #[.int .i64 t886,.slice Ao32 t901.length co32] 34 (0,0)) (by (with_reducible repeat (first | refine blk_drewN ?_ _ | refine blk_drew ?_ | refine blk_alloc ?_ _)); exact BK890.out) hb); have n6_:=I (below_step (by repeat (first | (with_reducible first | exact HB.out | apply below_alloc | apply pw_below_drewN | apply below_drew1 | refine below_set ?_ GE877.out | refine below_set ?_ GE890.out) | exact HB.out)) hb); clear HO_8; clear HO_10; clear HO_891001; clear BK877; clear BK890; clear HB; have HO_8:=n0_; have HO_10:=n1_; have HO_891001:=n2_; have HO909:=n3_; have BK877:=n4_; have BK890:=n5_; have HB:=n6_; clear n0_ n1_ n2_ n3_ n4_ n5_ n6_; (try clear hb); (try clear hb2); (try clear hk); (try clear hi); (try clear ho0); obtain ⟨Ao60,co60,eo60⟩:=Kd.R_slice HO909.out; subst eo60) | ((with_reducible refine gate_callee (f:=38) rfl ?_); refine goesL_ (some 66) rfl rfl Try.func38 (by kernel_rfl) rfl #[.agg #[.int .i64 t906,.slice Ao60 t907.length co60],.int .i64 a1,.int .i64 a2] rfl (by (try simp only [List.map_toArray,List.map_cons,List.map_nil]); first | done | rfl | (simp only [List.length_drop,List.length_take]; rfl)) ?_; (with_reducible refine (impl_FlowOf.calls kj18 t906 _ _ t907 a1 a2 t910 _ ?side1 ?side2 A51.out).mono ?_); (case side1 => repeat (first | exact (Kd.R_reads' HO909.out).2.2 | (with_reducible refine Kd.C_alloc ?_ _) | (with_reducible refine Kd.C_drewN ?_ _) | (with_reducible refine Kd.C_drew ?_))); (case side2 => exact (Kd.R_reads' HO909.out).2.1); rintro e w61 ⟨v911,rfl,ho0,hb⟩; refine ⟨_,rfl,?_⟩; have n0_:=I (Kd.R_elder' (by (with_reducible repeat (first | apply Kd.R_alloc | apply Kd.R_drewN | apply Kd.R_drew)); exact HO_8.out) (Kd.R_base ho0) hb); have n1_:=I (Kd.R_elder' (by (with_reducible repeat (first | apply Kd.R_alloc | apply Kd.R_drewN | apply Kd.R_drew)); exact HO_10.out) (Kd.R_base ho0) hb); have n2_:=I (Kd.R_below (by (with_reducible repeat (first | apply Kd.R_alloc | apply Kd.R_drewN | apply Kd.R_drew)); exact HO_891001.out) hb); have n3_:=I (Kd.R_below (by (with_reducible repeat (first | apply Kd.R_alloc | apply Kd.R_drewN | apply Kd.R_drew)); exact HO909.out) hb); have n4_:=I (Kd.R_lower (Kd.R_new' (Kd.R_new' ho0 (Kd.R_lt (by (with_reducible repeat (first | apply Kd.R_alloc | apply Kd.R_drewN | apply Kd.R_drew)); exact HO_8.out))) (Kd.R_lt (by (with_reducible repeat (first | apply Kd.R_alloc | apply Kd.R_drewN | apply Kd.R_drew)); exact HO_10.out))) (below_size (by repeat (first | (with_reducible first | exact HB.out | apply below_alloc | apply pw_below_drewN | apply below_drew1 | refine below_set ?_ GE877.out | refine below_set ?_ GE890.out) | exact HB.out)))); have n5_:=I (blk_below (g:=gb877) (o:=.cells #[.int .i64 a0_0,.slice A0_1 l0_1.length c0_1] 43 (0,0)) (by (with_reducible repeat (first | refine blk_drewN ?_ _ | refine blk_drew ?_ | refine blk_alloc ?_ _)); exact BK877.out) hb); have n6_:=I (blk_below (g:=gb890) (o:=.cells #[.int .i64 t886,.slice Ao32 t901.length co32] 34 (0,0)) (by (with_reducible repeat (first | refine blk_drewN ?_ _ | refine blk_drew ?_ | refine blk_alloc ?_ _)); exact BK890.out) hb); have n7_:=I (below_step (by repeat (first | (with_reducible first | exact HB.out | apply below_alloc | apply pw_below_drewN | apply below_drew1 | refine below_set ?_ GE877.out | refine below_set ?_ GE890.out) | exact HB.out)) hb); clear HO_8; clear HO_10; clear HO_891001; clear HO909; clear BK877; clear BK890; clear HB; have HO_8:=n0_; have HO_10:=n1_; have HO_891001:=n2_; have HO909:=n3_; have HO912:=n4_; have BK877:=n5_; have BK890:=n6_; have HB:=n7_; clear n0_ n1_ n2_ n3_ n4_ n5_ n6_ n7_; (try clear hb); (try clear hb2); (try clear hk); (try clear hi); (try clear ho0); obtain ⟨Ao62,co62,eo62⟩:=Kd.R_slice HO912.out; subst eo62) | ((with_reducible refine gate_callee (f:=32) rfl ?_); refine goesL_ (some 69) rfl rfl Try.func32 (by kernel_rfl) rfl #[.slice Ao62 t910.length co62,.slice Ao35 t883.length co35] rfl (by (try simp only [List.map_toArray,List.map_cons,List.map_nil]); first | done | rfl | (simp only [List.length_drop,List.length_take]; rfl)) ?_; (with_reducible refine (laws_eqIntS.calls kj18 _ _ t910 _ _ t883 true _ ?side1 ?side2 ?side3 ?side4 A52.out).mono ?_); (case side1 => repeat (first | exact (Kd.R_reads' HO912.out).2.2 | (with_reducible refine Kd.C_alloc ?_ _) | (with_reducible refine Kd.C_drewN ?_ _) | (with_reducible refine Kd.C_drew ?_))); (case side2 => exact (Kd.R_reads' HO912.out).2.1); (case side3 => repeat (first | exact (Kd.R_reads' HO_8.out).2.2 | (with_reducible refine Kd.C_alloc ?_ _) | (with_reducible refine Kd.C_drewN ?_ _) | (with_reducible refine Kd.C_drew ?_))); (case side4 => exact (Kd.R_reads' HO_8.out).2.1); rintro e w' ⟨rfl,⟨nd,rfl⟩⟩; refine ⟨_,rfl,?_⟩) | ((with_reducible refine gate_callee (f:=43) rfl ?_); refine goesL_ (some 73) rfl rfl Try.func43 (by kernel_rfl) rfl #[.slice Ao34 t904.length co34,.int .i64 1] rfl (by (try simp only [List.map_toArray,List.map_cons,List.map_nil]); first | done | (rw [show t904.length = t891.length from (Kd.R_reads' HO_10.out).1.symm] <;> rfl) | rfl | (simp only [List.length_drop,List.length_take]; rfl)) ?_; (with_reducible refine (laws_heldIntS.calls kj18 _ _ t904 1 t914 _ ?side1 ?side2 A54.out).mono ?_); (case side1 => repeat (first | exact (Kd.R_reads' HO_10.out).2.2 | (with_reducible refine Kd.C_alloc ?_ _) | (with_reducible refine Kd.C_drewN ?_ _) | (with_reducible refine Kd.C_drew ?_))); (case side2 => rw [show t904.length = t891.length from (Kd.R_reads' HO_10.out).1.symm]; exact (Kd.R_reads' HO_10.out).2.1); rintro e w' ⟨rfl,⟨nd,rfl⟩⟩; refine ⟨_,rfl,?_⟩))
    go_ret;exact ⟨by first | rfl | (simp [errW_none,errW_some] <;> rfl) | (simp [*,errW_none,errW_some] <;> rfl),by repeat (first | (with_reducible first | exact HB.out | apply below_alloc | apply pw_below_drewN | apply below_drew1 | refine below_set ?_ GE877.out | refine below_set ?_ GE890.out) | exact HB.out)⟩
   rw [if_neg c55] at H;have c55b0 : decide (t914 < 0) = false:=decide_eq_false c55;clear c55
   by_cases c63 : t914 = t903
   case neg =>
    rw [if_neg c63] at H;have c63b0 : (t914 == t903) = false:=beq_eq_false_iff_ne.mpr c63;have c63b1 : (t914 != t903) = true:=bne_iff_ne.mpr c63;obtain rfl:=Option.some.inj H
    go_wp2_with (first | ((with_reducible refine gate_callee (f:=42) rfl ?_); refine goesL_ (some 53) rfl rfl Try.func42 (by kernel_rfl) rfl #[.slice Ao34 t891.length co34,.int .i64 1] rfl (by (try simp only [List.map_toArray,List.map_cons,List.map_nil]); first | done | rfl | (simp only [List.length_drop,List.length_take]; rfl)) ?_; (with_reducible refine (laws_markIntS.calls kj18 (fun k_ => some k_ = (.slice Ao34 t891.length co34 : Value).ownBlock) (.slice Ao34 t891.length co34) t891 1 t903 t904 w _ ?side1 ?side2 A45.out).mono ?_); (case side1 => repeat (first | (with_reducible first | exact HB.out | apply below_alloc | apply pw_below_drewN | apply below_drew1 | refine below_set ?_ GE877.out | refine below_set ?_ GE890.out) | exact HB.out)); (case side2 => exact Kd.R_tight rfl HO_10.out); rintro e w71 ⟨rfl,hy0,hb,hkp⟩; refine ⟨_,rfl,?_⟩; have n0_:=I (Kd.R_mono (ok':=fun k_ => some k_ ≠ (.slice Ao34 t891.length co34 : Value).ownBlock) (Kd.R_keptB (HO_8.out) hkp (fun k_ hk_ hs_ => (hk_) hs_)) (fun k_ hk_ => hk_.1)); have n1_:=I (Kd.R_reok rfl hy0 (fun k_ e_ => HO_10.out.1 k_ e_)); have n2_:=I (Kd.R_mono (ok':=fun k_ => True) (Kd.R_keptB ((Kd.R_apart' HO_891001.out (Kd.R_typed HO_10.out) (by decide))) hkp (fun k_ hk_ hs_ => (hk_.2) hs_)) (fun k_ hk_ => trivial)); have n3_:=I (blk_kept (by (with_reducible repeat (first | refine blk_drewN ?_ _ | refine blk_drew ?_ | refine blk_alloc ?_ _)); exact BK877.out) hkp (fun hs_ => (fun e_ => (Kd.R_ne HO_10.out BK877.out (by decide)) e_) hs_)); have n4_:=I (blk_kept (by (with_reducible repeat (first | refine blk_drewN ?_ _ | refine blk_drew ?_ | refine blk_alloc ?_ _)); exact BK890.out) hkp (fun hs_ => (fun e_ => (Kd.R_ne HO_10.out BK890.out (by decide)) e_) hs_)); have n5_:=I (hb); clear HO_8; clear HO_10; clear HO_891001; clear BK877; clear BK890; clear HB; have HO_8:=n0_; have HO_10:=n1_; have HO_891001:=n2_; have BK877:=n3_; have BK890:=n4_; have HB:=n5_; clear n0_ n1_ n2_ n3_ n4_ n5_; (try clear hb); (try clear hkp); (try clear hy0)) | ((with_reducible refine gate_callee (f:=43) rfl ?_); refine goesL_ (some 56) rfl rfl Try.func43 (by kernel_rfl) rfl #[.slice Ao34 t904.length co34,.int .i64 1] rfl (by (try simp only [List.map_toArray,List.map_cons,List.map_nil]); first | done | (rw [show t904.length = t891.length from (Kd.R_reads' HO_10.out).1.symm] <;> rfl) | rfl | (simp only [List.length_drop,List.length_take]; rfl)) ?_; (with_reducible refine (laws_heldIntS.calls kj18 _ _ t904 1 t905 _ ?side1 ?side2 A46.out).mono ?_); (case side1 => repeat (first | exact (Kd.R_reads' HO_10.out).2.2 | (with_reducible refine Kd.C_alloc ?_ _) | (with_reducible refine Kd.C_drewN ?_ _) | (with_reducible refine Kd.C_drew ?_))); (case side2 => rw [show t904.length = t891.length from (Kd.R_reads' HO_10.out).1.symm]; exact (Kd.R_reads' HO_10.out).2.1); rintro e w' ⟨rfl,⟨nd,rfl⟩⟩; refine ⟨_,rfl,?_⟩; have hnb72:=NB877_890.out; have hnc72:=NB890_877.out; have hcz73_0 : w71.cell? ⟨gb877,0,none⟩ = some (.int .i64 a0_0):=(blk_cell BK877.out 0).trans rfl; have hcz73_1 : w71.cell? ⟨gb877,1,none⟩ = some (.slice A0_1 l0_1.length c0_1):=(blk_cell BK877.out 1).trans rfl; have hfz73_0:=blk_frozen BK877.out 0; have hfz73_1:=blk_frozen BK877.out 1) | ((with_reducible refine gate_callee (f:=28) rfl ?_); refine goesL_ (some 63) rfl rfl Try.func28 (by kernel_rfl) rfl #[.agg #[.int .i64 a0_0,.slice A0_1 l0_1.length c0_1]] rfl (by (try simp only [List.map_toArray,List.map_cons,List.map_nil]); first | done | rfl | (simp only [List.length_drop,List.length_take]; rfl)) ?_; (with_reducible refine (laws_toNet.calls kj18 a0_0 _ _ l0_1 t906 t907 _ ?side1 ?side2 A50.out).mono ?_); (case side1 => repeat (first | exact (Kd.C_below HR0_1.out (by repeat (first | (with_reducible first | exact HB.out | apply below_alloc | apply pw_below_drewN | apply below_drew1 | refine below_set ?_ GE877.out | refine below_set ?_ GE890.out) | exact HB.out))) | (with_reducible refine Kd.C_alloc ?_ _) | (with_reducible refine Kd.C_drewN ?_ _) | (with_reducible refine Kd.C_drew ?_))); (case side2 => exact HC0_1.out); rintro e w74 ⟨v908,rfl,ho0,hb⟩; refine ⟨_,rfl,?_⟩; have n0_:=I (Kd.R_below (by (with_reducible repeat (first | apply Kd.R_alloc | apply Kd.R_drewN | apply Kd.R_drew)); exact HO_8.out) hb); have n1_:=I (Kd.R_below (by (with_reducible repeat (first | apply Kd.R_alloc | apply Kd.R_drewN | apply Kd.R_drew)); exact HO_10.out) hb); have n2_:=I (Kd.R_elder' (by (with_reducible repeat (first | apply Kd.R_alloc | apply Kd.R_drewN | apply Kd.R_drew)); exact HO_891001.out) (Kd.R_base ho0) hb); have n3_:=I (Kd.R_lower (Kd.R_new' ho0 (Kd.R_lt (by (with_reducible repeat (first | apply Kd.R_alloc | apply Kd.R_drewN | apply Kd.R_drew)); exact HO_891001.out))) (below_size (by repeat (first | (with_reducible first | exact HB.out | apply below_alloc | apply pw_below_drewN | apply below_drew1 | refine below_set ?_ GE877.out | refine below_set ?_ GE890.out) | exact HB.out)))); have n4_:=I (blk_below (g:=gb877) (o:=.cells #[.int .i64 a0_0,.slice A0_1 l0_1.length c0_1] 43 (0,0)) (by (with_reducible repeat (first | refine blk_drewN ?_ _ | refine blk_drew ?_ | refine blk_alloc ?_ _)); exact BK877.out) hb); have n5_:=I (blk_below (g:=gb890) (o:=.cells #[.int .i64 t886,.slice Ao32 t901.length co32] 34 (0,0)) (by (with_reducible repeat (first | refine blk_drewN ?_ _ | refine blk_drew ?_ | refine blk_alloc ?_ _)); exact BK890.out) hb); have n6_:=I (below_step (by repeat (first | (with_reducible first | exact HB.out | apply below_alloc | apply pw_below_drewN | apply below_drew1 | refine below_set ?_ GE877.out | refine below_set ?_ GE890.out) | exact HB.out)) hb); clear HO_8; clear HO_10; clear HO_891001; clear BK877; clear BK890; clear HB; have HO_8:=n0_; have HO_10:=n1_; have HO_891001:=n2_; have HO909:=n3_; have BK877:=n4_; have BK890:=n5_; have HB:=n6_; clear n0_ n1_ n2_ n3_ n4_ n5_ n6_; (try clear hb); (try clear hb2); (try clear hk); (try clear hi); (try clear ho0); obtain ⟨Ao75,co75,eo75⟩:=Kd.R_slice HO909.out; subst eo75) | ((with_reducible refine gate_callee (f:=38) rfl ?_); refine goesL_ (some 66) rfl rfl Try.func38 (by kernel_rfl) rfl #[.agg #[.int .i64 t906,.slice Ao75 t907.length co75],.int .i64 a1,.int .i64 a2] rfl (by (try simp only [List.map_toArray,List.map_cons,List.map_nil]); first | done | rfl | (simp only [List.length_drop,List.length_take]; rfl)) ?_; (with_reducible refine (impl_FlowOf.calls kj18 t906 _ _ t907 a1 a2 t910 _ ?side1 ?side2 A51.out).mono ?_); (case side1 => repeat (first | exact (Kd.R_reads' HO909.out).2.2 | (with_reducible refine Kd.C_alloc ?_ _) | (with_reducible refine Kd.C_drewN ?_ _) | (with_reducible refine Kd.C_drew ?_))); (case side2 => exact (Kd.R_reads' HO909.out).2.1); rintro e w76 ⟨v911,rfl,ho0,hb⟩; refine ⟨_,rfl,?_⟩; have n0_:=I (Kd.R_elder' (by (with_reducible repeat (first | apply Kd.R_alloc | apply Kd.R_drewN | apply Kd.R_drew)); exact HO_8.out) (Kd.R_base ho0) hb); have n1_:=I (Kd.R_elder' (by (with_reducible repeat (first | apply Kd.R_alloc | apply Kd.R_drewN | apply Kd.R_drew)); exact HO_10.out) (Kd.R_base ho0) hb); have n2_:=I (Kd.R_below (by (with_reducible repeat (first | apply Kd.R_alloc | apply Kd.R_drewN | apply Kd.R_drew)); exact HO_891001.out) hb); have n3_:=I (Kd.R_below (by (with_reducible repeat (first | apply Kd.R_alloc | apply Kd.R_drewN | apply Kd.R_drew)); exact HO909.out) hb); have n4_:=I (Kd.R_lower (Kd.R_new' (Kd.R_new' ho0 (Kd.R_lt (by (with_reducible repeat (first | apply Kd.R_alloc | apply Kd.R_drewN | apply Kd.R_drew)); exact HO_8.out))) (Kd.R_lt (by (with_reducible repeat (first | apply Kd.R_alloc | apply Kd.R_drewN | apply Kd.R_drew)); exact HO_10.out))) (below_size (by repeat (first | (with_reducible first | exact HB.out | apply below_alloc | apply pw_below_drewN | apply below_drew1 | refine below_set ?_ GE877.out | refine below_set ?_ GE890.out) | exact HB.out)))); have n5_:=I (blk_below (g:=gb877) (o:=.cells #[.int .i64 a0_0,.slice A0_1 l0_1.length c0_1] 43 (0,0)) (by (with_reducible repeat (first | refine blk_drewN ?_ _ | refine blk_drew ?_ | refine blk_alloc ?_ _)); exact BK877.out) hb); have n6_:=I (blk_below (g:=gb890) (o:=.cells #[.int .i64 t886,.slice Ao32 t901.length co32] 34 (0,0)) (by (with_reducible repeat (first | refine blk_drewN ?_ _ | refine blk_drew ?_ | refine blk_alloc ?_ _)); exact BK890.out) hb); have n7_:=I (below_step (by repeat (first | (with_reducible first | exact HB.out | apply below_alloc | apply pw_below_drewN | apply below_drew1 | refine below_set ?_ GE877.out | refine below_set ?_ GE890.out) | exact HB.out)) hb); clear HO_8; clear HO_10; clear HO_891001; clear HO909; clear BK877; clear BK890; clear HB; have HO_8:=n0_; have HO_10:=n1_; have HO_891001:=n2_; have HO909:=n3_; have HO912:=n4_; have BK877:=n5_; have BK890:=n6_; have HB:=n7_; clear n0_ n1_ n2_ n3_ n4_ n5_ n6_ n7_; (try clear hb); (try clear hb2); (try clear hk); (try clear hi); (try clear ho0); obtain ⟨Ao77,co77,eo77⟩:=Kd.R_slice HO912.out; subst eo77) | ((with_reducible refine gate_callee (f:=32) rfl ?_); refine goesL_ (some 69) rfl rfl Try.func32 (by kernel_rfl) rfl #[.slice Ao77 t910.length co77,.slice Ao35 t883.length co35] rfl (by (try simp only [List.map_toArray,List.map_cons,List.map_nil]); first | done | rfl | (simp only [List.length_drop,List.length_take]; rfl)) ?_; (with_reducible refine (laws_eqIntS.calls kj18 _ _ t910 _ _ t883 true _ ?side1 ?side2 ?side3 ?side4 A52.out).mono ?_); (case side1 => repeat (first | exact (Kd.R_reads' HO912.out).2.2 | (with_reducible refine Kd.C_alloc ?_ _) | (with_reducible refine Kd.C_drewN ?_ _) | (with_reducible refine Kd.C_drew ?_))); (case side2 => exact (Kd.R_reads' HO912.out).2.1); (case side3 => repeat (first | exact (Kd.R_reads' HO_8.out).2.2 | (with_reducible refine Kd.C_alloc ?_ _) | (with_reducible refine Kd.C_drewN ?_ _) | (with_reducible refine Kd.C_drew ?_))); (case side4 => exact (Kd.R_reads' HO_8.out).2.1); rintro e w' ⟨rfl,⟨nd,rfl⟩⟩; refine ⟨_,rfl,?_⟩) | ((with_reducible refine gate_callee (f:=43) rfl ?_); refine goesL_ (some 73) rfl rfl Try.func43 (by kernel_rfl) rfl #[.slice Ao34 t904.length co34,.int .i64 1] rfl (by (try simp only [List.map_toArray,List.map_cons,List.map_nil]); first | done | (rw [show t904.length = t891.length from (Kd.R_reads' HO_10.out).1.symm] <;> rfl) | rfl | (simp only [List.length_drop,List.length_take]; rfl)) ?_; (with_reducible refine (laws_heldIntS.calls kj18 _ _ t904 1 t914 _ ?side1 ?side2 A54.out).mono ?_); (case side1 => repeat (first | exact (Kd.R_reads' HO_10.out).2.2 | (with_reducible refine Kd.C_alloc ?_ _) | (with_reducible refine Kd.C_drewN ?_ _) | (with_reducible refine Kd.C_drew ?_))); (case side2 => rw [show t904.length = t891.length from (Kd.R_reads' HO_10.out).1.symm]; exact (Kd.R_reads' HO_10.out).2.1); rintro e w' ⟨rfl,⟨nd,rfl⟩⟩; refine ⟨_,rfl,?_⟩))
    go_ret;exact ⟨by first | rfl | (simp [errW_none,errW_some] <;> rfl) | (simp [*,errW_none,errW_some] <;> rfl),by repeat (first | (with_reducible first | exact HB.out | apply below_alloc | apply pw_below_drewN | apply below_drew1 | refine below_set ?_ GE877.out | refine below_set ?_ GE890.out) | exact HB.out)⟩
   rw [if_pos c63] at H;have c63b0 : (t914 == t903) = true:=beq_iff_eq.mpr c63;have c63b1 : (t914 != t903) = false:=bne_eq_false_iff_eq.mpr c63;clear c63;obtain rfl:=Option.some.inj H
   go_wp2_with (first | ((with_reducible refine gate_callee (f:=42) rfl ?_); refine goesL_ (some 53) rfl rfl Try.func42 (by kernel_rfl) rfl #[.slice Ao34 t891.length co34,.int .i64 1] rfl (by (try simp only [List.map_toArray,List.map_cons,List.map_nil]); first | done | rfl | (simp only [List.length_drop,List.length_take]; rfl)) ?_; (with_reducible refine (laws_markIntS.calls kj18 (fun k_ => some k_ = (.slice Ao34 t891.length co34 : Value).ownBlock) (.slice Ao34 t891.length co34) t891 1 t903 t904 w _ ?side1 ?side2 A45.out).mono ?_); (case side1 => repeat (first | (with_reducible first | exact HB.out | apply below_alloc | apply pw_below_drewN | apply below_drew1 | refine below_set ?_ GE877.out | refine below_set ?_ GE890.out) | exact HB.out)); (case side2 => exact Kd.R_tight rfl HO_10.out); rintro e w64 ⟨rfl,hy0,hb,hkp⟩; refine ⟨_,rfl,?_⟩; have n0_:=I (Kd.R_mono (ok':=fun k_ => some k_ ≠ (.slice Ao34 t891.length co34 : Value).ownBlock) (Kd.R_keptB (HO_8.out) hkp (fun k_ hk_ hs_ => (hk_) hs_)) (fun k_ hk_ => hk_.1)); have n1_:=I (Kd.R_reok rfl hy0 (fun k_ e_ => HO_10.out.1 k_ e_)); have n2_:=I (Kd.R_mono (ok':=fun k_ => True) (Kd.R_keptB ((Kd.R_apart' HO_891001.out (Kd.R_typed HO_10.out) (by decide))) hkp (fun k_ hk_ hs_ => (hk_.2) hs_)) (fun k_ hk_ => trivial)); have n3_:=I (blk_kept (by (with_reducible repeat (first | refine blk_drewN ?_ _ | refine blk_drew ?_ | refine blk_alloc ?_ _)); exact BK877.out) hkp (fun hs_ => (fun e_ => (Kd.R_ne HO_10.out BK877.out (by decide)) e_) hs_)); have n4_:=I (blk_kept (by (with_reducible repeat (first | refine blk_drewN ?_ _ | refine blk_drew ?_ | refine blk_alloc ?_ _)); exact BK890.out) hkp (fun hs_ => (fun e_ => (Kd.R_ne HO_10.out BK890.out (by decide)) e_) hs_)); have n5_:=I (hb); clear HO_8; clear HO_10; clear HO_891001; clear BK877; clear BK890; clear HB; have HO_8:=n0_; have HO_10:=n1_; have HO_891001:=n2_; have BK877:=n3_; have BK890:=n4_; have HB:=n5_; clear n0_ n1_ n2_ n3_ n4_ n5_; (try clear hb); (try clear hkp); (try clear hy0)) | ((with_reducible refine gate_callee (f:=43) rfl ?_); refine goesL_ (some 56) rfl rfl Try.func43 (by kernel_rfl) rfl #[.slice Ao34 t904.length co34,.int .i64 1] rfl (by (try simp only [List.map_toArray,List.map_cons,List.map_nil]); first | done | (rw [show t904.length = t891.length from (Kd.R_reads' HO_10.out).1.symm] <;> rfl) | rfl | (simp only [List.length_drop,List.length_take]; rfl)) ?_; (with_reducible refine (laws_heldIntS.calls kj18 _ _ t904 1 t905 _ ?side1 ?side2 A46.out).mono ?_); (case side1 => repeat (first | exact (Kd.R_reads' HO_10.out).2.2 | (with_reducible refine Kd.C_alloc ?_ _) | (with_reducible refine Kd.C_drewN ?_ _) | (with_reducible refine Kd.C_drew ?_))); (case side2 => rw [show t904.length = t891.length from (Kd.R_reads' HO_10.out).1.symm]; exact (Kd.R_reads' HO_10.out).2.1); rintro e w' ⟨rfl,⟨nd,rfl⟩⟩; refine ⟨_,rfl,?_⟩; have hnb65:=NB877_890.out; have hnc65:=NB890_877.out; have hcz66_0 : w64.cell? ⟨gb877,0,none⟩ = some (.int .i64 a0_0):=(blk_cell BK877.out 0).trans rfl; have hcz66_1 : w64.cell? ⟨gb877,1,none⟩ = some (.slice A0_1 l0_1.length c0_1):=(blk_cell BK877.out 1).trans rfl; have hfz66_0:=blk_frozen BK877.out 0; have hfz66_1:=blk_frozen BK877.out 1) | ((with_reducible refine gate_callee (f:=28) rfl ?_); refine goesL_ (some 63) rfl rfl Try.func28 (by kernel_rfl) rfl #[.agg #[.int .i64 a0_0,.slice A0_1 l0_1.length c0_1]] rfl (by (try simp only [List.map_toArray,List.map_cons,List.map_nil]); first | done | rfl | (simp only [List.length_drop,List.length_take]; rfl)) ?_; (with_reducible refine (laws_toNet.calls kj18 a0_0 _ _ l0_1 t906 t907 _ ?side1 ?side2 A50.out).mono ?_); (case side1 => repeat (first | exact (Kd.C_below HR0_1.out (by repeat (first | (with_reducible first | exact HB.out | apply below_alloc | apply pw_below_drewN | apply below_drew1 | refine below_set ?_ GE877.out | refine below_set ?_ GE890.out) | exact HB.out))) | (with_reducible refine Kd.C_alloc ?_ _) | (with_reducible refine Kd.C_drewN ?_ _) | (with_reducible refine Kd.C_drew ?_))); (case side2 => exact HC0_1.out); rintro e w67 ⟨v908,rfl,ho0,hb⟩; refine ⟨_,rfl,?_⟩; have n0_:=I (Kd.R_below (by (with_reducible repeat (first | apply Kd.R_alloc | apply Kd.R_drewN | apply Kd.R_drew)); exact HO_8.out) hb); have n1_:=I (Kd.R_below (by (with_reducible repeat (first | apply Kd.R_alloc | apply Kd.R_drewN | apply Kd.R_drew)); exact HO_10.out) hb); have n2_:=I (Kd.R_elder' (by (with_reducible repeat (first | apply Kd.R_alloc | apply Kd.R_drewN | apply Kd.R_drew)); exact HO_891001.out) (Kd.R_base ho0) hb); have n3_:=I (Kd.R_lower (Kd.R_new' ho0 (Kd.R_lt (by (with_reducible repeat (first | apply Kd.R_alloc | apply Kd.R_drewN | apply Kd.R_drew)); exact HO_891001.out))) (below_size (by repeat (first | (with_reducible first | exact HB.out | apply below_alloc | apply pw_below_drewN | apply below_drew1 | refine below_set ?_ GE877.out | refine below_set ?_ GE890.out) | exact HB.out)))); have n4_:=I (blk_below (g:=gb877) (o:=.cells #[.int .i64 a0_0,.slice A0_1 l0_1.length c0_1] 43 (0,0)) (by (with_reducible repeat (first | refine blk_drewN ?_ _ | refine blk_drew ?_ | refine blk_alloc ?_ _)); exact BK877.out) hb); have n5_:=I (blk_below (g:=gb890) (o:=.cells #[.int .i64 t886,.slice Ao32 t901.length co32] 34 (0,0)) (by (with_reducible repeat (first | refine blk_drewN ?_ _ | refine blk_drew ?_ | refine blk_alloc ?_ _)); exact BK890.out) hb); have n6_:=I (below_step (by repeat (first | (with_reducible first | exact HB.out | apply below_alloc | apply pw_below_drewN | apply below_drew1 | refine below_set ?_ GE877.out | refine below_set ?_ GE890.out) | exact HB.out)) hb); clear HO_8; clear HO_10; clear HO_891001; clear BK877; clear BK890; clear HB; have HO_8:=n0_; have HO_10:=n1_; have HO_891001:=n2_; have HO909:=n3_; have BK877:=n4_; have BK890:=n5_; have HB:=n6_; clear n0_ n1_ n2_ n3_ n4_ n5_ n6_; (try clear hb); (try clear hb2); (try clear hk); (try clear hi); (try clear ho0); obtain ⟨Ao68,co68,eo68⟩:=Kd.R_slice HO909.out; subst eo68) | ((with_reducible refine gate_callee (f:=38) rfl ?_); refine goesL_ (some 66) rfl rfl Try.func38 (by kernel_rfl) rfl #[.agg #[.int .i64 t906,.slice Ao68 t907.length co68],.int .i64 a1,.int .i64 a2] rfl (by (try simp only [List.map_toArray,List.map_cons,List.map_nil]); first | done | rfl | (simp only [List.length_drop,List.length_take]; rfl)) ?_; (with_reducible refine (impl_FlowOf.calls kj18 t906 _ _ t907 a1 a2 t910 _ ?side1 ?side2 A51.out).mono ?_); (case side1 => repeat (first | exact (Kd.R_reads' HO909.out).2.2 | (with_reducible refine Kd.C_alloc ?_ _) | (with_reducible refine Kd.C_drewN ?_ _) | (with_reducible refine Kd.C_drew ?_))); (case side2 => exact (Kd.R_reads' HO909.out).2.1); rintro e w69 ⟨v911,rfl,ho0,hb⟩; refine ⟨_,rfl,?_⟩; have n0_:=I (Kd.R_elder' (by (with_reducible repeat (first | apply Kd.R_alloc | apply Kd.R_drewN | apply Kd.R_drew)); exact HO_8.out) (Kd.R_base ho0) hb); have n1_:=I (Kd.R_elder' (by (with_reducible repeat (first | apply Kd.R_alloc | apply Kd.R_drewN | apply Kd.R_drew)); exact HO_10.out) (Kd.R_base ho0) hb); have n2_:=I (Kd.R_below (by (with_reducible repeat (first | apply Kd.R_alloc | apply Kd.R_drewN | apply Kd.R_drew)); exact HO_891001.out) hb); have n3_:=I (Kd.R_below (by (with_reducible repeat (first | apply Kd.R_alloc | apply Kd.R_drewN | apply Kd.R_drew)); exact HO909.out) hb); have n4_:=I (Kd.R_lower (Kd.R_new' (Kd.R_new' ho0 (Kd.R_lt (by (with_reducible repeat (first | apply Kd.R_alloc | apply Kd.R_drewN | apply Kd.R_drew)); exact HO_8.out))) (Kd.R_lt (by (with_reducible repeat (first | apply Kd.R_alloc | apply Kd.R_drewN | apply Kd.R_drew)); exact HO_10.out))) (below_size (by repeat (first | (with_reducible first | exact HB.out | apply below_alloc | apply pw_below_drewN | apply below_drew1 | refine below_set ?_ GE877.out | refine below_set ?_ GE890.out) | exact HB.out)))); have n5_:=I (blk_below (g:=gb877) (o:=.cells #[.int .i64 a0_0,.slice A0_1 l0_1.length c0_1] 43 (0,0)) (by (with_reducible repeat (first | refine blk_drewN ?_ _ | refine blk_drew ?_ | refine blk_alloc ?_ _)); exact BK877.out) hb); have n6_:=I (blk_below (g:=gb890) (o:=.cells #[.int .i64 t886,.slice Ao32 t901.length co32] 34 (0,0)) (by (with_reducible repeat (first | refine blk_drewN ?_ _ | refine blk_drew ?_ | refine blk_alloc ?_ _)); exact BK890.out) hb); have n7_:=I (below_step (by repeat (first | (with_reducible first | exact HB.out | apply below_alloc | apply pw_below_drewN | apply below_drew1 | refine below_set ?_ GE877.out | refine below_set ?_ GE890.out) | exact HB.out)) hb); clear HO_8; clear HO_10; clear HO_891001; clear HO909; clear BK877; clear BK890; clear HB; have HO_8:=n0_; have HO_10:=n1_; have HO_891001:=n2_; have HO909:=n3_; have HO912:=n4_; have BK877:=n5_; have BK890:=n6_; have HB:=n7_; clear n0_ n1_ n2_ n3_ n4_ n5_ n6_ n7_; (try clear hb); (try clear hb2); (try clear hk); (try clear hi); (try clear ho0); obtain ⟨Ao70,co70,eo70⟩:=Kd.R_slice HO912.out; subst eo70) | ((with_reducible refine gate_callee (f:=32) rfl ?_); refine goesL_ (some 69) rfl rfl Try.func32 (by kernel_rfl) rfl #[.slice Ao70 t910.length co70,.slice Ao35 t883.length co35] rfl (by (try simp only [List.map_toArray,List.map_cons,List.map_nil]); first | done | rfl | (simp only [List.length_drop,List.length_take]; rfl)) ?_; (with_reducible refine (laws_eqIntS.calls kj18 _ _ t910 _ _ t883 true _ ?side1 ?side2 ?side3 ?side4 A52.out).mono ?_); (case side1 => repeat (first | exact (Kd.R_reads' HO912.out).2.2 | (with_reducible refine Kd.C_alloc ?_ _) | (with_reducible refine Kd.C_drewN ?_ _) | (with_reducible refine Kd.C_drew ?_))); (case side2 => exact (Kd.R_reads' HO912.out).2.1); (case side3 => repeat (first | exact (Kd.R_reads' HO_8.out).2.2 | (with_reducible refine Kd.C_alloc ?_ _) | (with_reducible refine Kd.C_drewN ?_ _) | (with_reducible refine Kd.C_drew ?_))); (case side4 => exact (Kd.R_reads' HO_8.out).2.1); rintro e w' ⟨rfl,⟨nd,rfl⟩⟩; refine ⟨_,rfl,?_⟩) | ((with_reducible refine gate_callee (f:=43) rfl ?_); refine goesL_ (some 73) rfl rfl Try.func43 (by kernel_rfl) rfl #[.slice Ao34 t904.length co34,.int .i64 1] rfl (by (try simp only [List.map_toArray,List.map_cons,List.map_nil]); first | done | (rw [show t904.length = t891.length from (Kd.R_reads' HO_10.out).1.symm] <;> rfl) | rfl | (simp only [List.length_drop,List.length_take]; rfl)) ?_; (with_reducible refine (laws_heldIntS.calls kj18 _ _ t904 1 t914 _ ?side1 ?side2 A54.out).mono ?_); (case side1 => repeat (first | exact (Kd.R_reads' HO_10.out).2.2 | (with_reducible refine Kd.C_alloc ?_ _) | (with_reducible refine Kd.C_drewN ?_ _) | (with_reducible refine Kd.C_drew ?_))); (case side2 => rw [show t904.length = t891.length from (Kd.R_reads' HO_10.out).1.symm]; exact (Kd.R_reads' HO_10.out).2.1); rintro e w' ⟨rfl,⟨nd,rfl⟩⟩; refine ⟨_,rfl,?_⟩))
   go_ret;exact ⟨by first | rfl | (simp [errW_none,errW_some] <;> rfl) | (simp [*,errW_none,errW_some] <;> rfl),by repeat (first | (with_reducible first | exact HB.out | apply below_alloc | apply pw_below_drewN | apply below_drew1 | refine below_set ?_ GE877.out | refine below_set ?_ GE890.out) | exact HB.out)⟩
end Go.Proofs.Ytlhmljngjdfbpaa.Pr
end
section
set_option linter.unusedVariables false
namespace Go.Proofs.YtlhmljngjdfbpaaW.PrintWords
open Go.RowKit Go.ChangeShapes Go.WideShapes
def Opens (P : Program) {α : Type} (d : Kd α) (t : TypeId) (wf : α → Prop) : Prop :=
 ∀ {H : Type} {enc : TypeId × Value → H} {w : World} {sp : Nat → Bool} {held : Bool} {fuel : Nat} {cs : List Value} {x : DataW H × List MemPlace},DataW.trod enc P w 0 sp held fuel t cs = some x → ∃ a,d.K w a cs ∧ wf a
def OpensF (P : Program) {α : Type} (d : Kd α) (fs : List Field) (off tot : Nat) (wf : α → Prop) : Prop :=
 ∀ {H : Type} {enc : TypeId × Value → H} {w : World} {sp : Nat → Bool} {held : Bool} {fuel : Nat} {cs : List Value},cs.length = tot → (∀ f ∈ fs,∃ y,DataW.trod enc P w 0 sp held fuel f.type ((cs.drop f.offset).take (P.cellsOf f.type)) = some y) → ∃ a,d.K w a (cs.drop off) ∧ wf a
section
variable {P : Program} {α β : Type}
def I64 (n : Int) : Prop:=-9223372036854775808 ≤ n ∧ n ≤ 9223372036854775807
theorem I64_of {n : Int} (h : (Lit.int .i64 n).wf = true) : I64 n:=by
 simp only [Lit.wf,Bool.and_eq_true,decide_eq_true_eq] at h;have h1 : IntKind.i64.min = -9223372036854775808:=rfl;have h2 : IntKind.i64.max = 9223372036854775807:=rfl
 unfold I64
 omega
theorem opens_i64 {t : TypeId} (ht : P.underlying t = some (.int .i64)) : Opens P (Kd.int .i64) t I64:=by
 intro H enc w sp held fuel cs x h;obtain ⟨n,rfl,_,hw⟩:=DataW.trod_int ht h;exact ⟨n,rfl,I64_of hw⟩
theorem addr_add_add (a : Addr) (i j : Nat) : (a.add i).add j = a.add (i + j):=by
 unfold Addr.add
 by_cases hi : i = 0 <;> by_cases hj : j = 0 <;> simp [hi,hj,Nat.add_assoc]
theorem opens_slice [Inhabited α] {d : Kd α} {t e : TypeId} {wf : α → Prop} (ht : P.underlying t = some (.slice e)) (hc : P.cellsOf e = d.sz) (he : Opens P d e wf) : Opens P (Kd.slice e d) t (fun l => l.length ≤ maxLen ∧ ∀ x ∈ l,wf x):=by
 intro H enc w sp held fuel cs x h
 rcases Deep.open_slice ht h with ⟨rfl,_⟩ | ⟨a,len,cap,m,n,D,Pl,rfl,_,hl,hm,hmm,_,hel⟩
 ·exact ⟨[],⟨none,0,rfl,Nat.le_refl _,Kd.C_nil d w⟩,by simp,by simp⟩
 ·have hlm : len ≤ m:=by rw [hmm]; split <;> omega
  have hx : ∀ i,i < len → ∃ y : α,(∃ c,c.length = d.sz ∧ d.K w y c ∧ ∀ j u,c[j]? = some u → w.cell? (a.add (i * d.sz + j)) = some u) ∧ wf y:=by
   intro i hi;obtain ⟨cs',hcs,htr⟩:=hel i (by omega);obtain ⟨y,hk,hw⟩:=he htr;obtain ⟨_,hlen,hcell⟩:=World.cells?_some hcs;refine ⟨y,⟨cs',d.K_len hk,hk,fun j u hu => ?_⟩,hw⟩;have hj : j < P.cellsOf e:=by
    have:=(List.getElem?_eq_some_iff.1 hu).1;omega
   have:=hcell j hj;rw [addr_add_add,hc,hu] at this;exact this
  obtain ⟨f,hf⟩:=Deep.choose_lt hx;refine ⟨(List.range len).map f,⟨some a,cap,by simp,by simpa using hl,by simp,by simp only [maxLen] at hm; simp; omega,fun _ => ⟨a,rfl,fun j p hj => ?_⟩⟩,by simp; omega,fun y hy => ?_⟩
  ·obtain ⟨hj1,hj2⟩:=List.getElem?_eq_some_iff.1 hj;simp at hj1 hj2;subst hj2;exact (hf j hj1).1
  ·simp only [List.mem_map,List.mem_range] at hy;obtain ⟨i,hi,rfl⟩:=hy;exact (hf i hi).2
theorem opensF_last {d : Kd α} {f : Field} {off tot : Nat} {wf : α → Prop} (ho : f.offset = off) (hn : off + P.cellsOf f.type = tot) (h : Opens P d f.type wf) : OpensF P d [f] off tot wf:=by
 intro H enc w sp held fuel cs hl hf;obtain ⟨y,hy⟩:=hf f (by simp);obtain ⟨a,hk,hw⟩:=h hy;refine ⟨a,?_,hw⟩
 rwa [ho,List.take_of_length_le (by rw [List.length_drop]; omega)] at hk
theorem opensF_cons {d : Kd α} {d' : Kd β} {f : Field} {fs : List Field} {off tot : Nat} {wf : α → Prop} {wf' : β → Prop} (ho : f.offset = off) (h : Opens P d f.type wf) (h' : OpensF P d' fs (off + P.cellsOf f.type) tot wf') :
  OpensF P (Kd.pair d d') (f :: fs) off tot (fun x => wf x.1 ∧ wf' x.2):=by
 intro H enc w sp held fuel cs hl hf;obtain ⟨y,hy⟩:=hf f (by simp);obtain ⟨a,hk,hw⟩:=h hy;obtain ⟨b,hk',hw'⟩:=h' hl (fun g hg => hf g (by simp [hg]));refine ⟨(a,b),⟨_,_,?_,hk,hk'⟩,hw,hw'⟩;rw [ho,← List.drop_drop,List.take_append_drop]
theorem opens_struct {d : Kd α} {t : TypeId} {fs : Array Field} {wf : α → Prop} (ht : P.underlying t = some (.struct fs)) (h : OpensF P d fs.toList 0 (P.cellsOf t) wf) : Opens P d t wf:=by
 intro H enc w sp held fuel cs x hx;obtain ⟨xs,n,_,_,hl,hlen,hf⟩:=DataW.trod_struct ht hx;obtain ⟨a,hk,hw⟩:=h hl (fun f hfm => by
  obtain ⟨i,hi,rfl⟩:=List.getElem_of_mem hfm;have hi' : i < fs.size:=by simpa using hi
  have h1:=hf i fs[i] (Array.getElem?_eq_getElem hi');rw [List.getElem?_eq_getElem (by omega)] at h1;exact ⟨_,by simpa using h1⟩)
 exact ⟨a,by simpa using hk,hw⟩
theorem opens_iso {d : Kd α} {t : TypeId} {wf : α → Prop} (f : β → α) (g : α → β) (hfg : ∀ a,f (g a) = a) (h : Opens P d t wf) : Opens P (Kd.iso d f) t (fun b => wf (f b)):=by
 intro H enc w sp held fuel cs x hx;obtain ⟨a,hk,hw⟩:=h hx;exact ⟨g a,by show d.K w (f (g a)) cs; rw [hfg]; exact hk,by show wf (f (g a)); rw [hfg]; exact hw⟩
end
end Go.Proofs.YtlhmljngjdfbpaaW.PrintWords
end
section
namespace Go.Proofs.Ytlhmljngjdfbpaa.Pr
open Go.RowKit Go.Proofs.YtlhmljngjdfbpaaW.PrintWords Go.Proofs.YtlhmljngjdfbpaaW.PrintLast Go.Proofs.YtlhmljngjdfbpaaW.PrintMore
open List renaming setIfInBounds_toArray → J,set_cons_zero → U,set_cons_succ → O
open Go.Proofs.YtlhmljngjdfbpaaW.PrintWords.Aside0 renaming mk → I
def laws_FnExactFlowOf.Asked : Prop:=∀ (a0_0 : Int) (l0_1 : List (S127)) (a1 : Int) (a2 : Int),I64 a0_0 → (l0_1.length ≤ maxLen ∧ ∀ x_ ∈ l0_1,(I64 x_.f0 ∧ I64 x_.f1 ∧ I64 x_.f2 ∧ I64 x_.f3 ∧ I64 x_.f4)) → I64 a1 → I64 a2 → ∃ k,laws_FnExactFlowOf.f k a0_0 l0_1 a1 a2 = some true
end Go.Proofs.Ytlhmljngjdfbpaa.Pr
end
section
set_option linter.unusedVariables false
namespace Go.Proofs.YtlhmljngjdfbpaaW.PrintWords
open Go.RowKit
section
variable {α β : Type}
theorem Ev.pos {c : Prop} [Decidable c] {t e : Nat → Option α} {r : α} (h : c) (k : Ev t r) : Ev (fun n => if c then t n else e n) r:=by
 simp only [if_pos h]; exact k
theorem Ev.neg {c : Prop} [Decidable c] {t e : Nat → Option α} {r : α} (h : ¬ c) (k : Ev e r) : Ev (fun n => if c then t n else e n) r:=by
 simp only [if_neg h]; exact k
theorem Ev.bind0 {g : Option α} {f : Nat → α → Option β} {a : α} {r : β} (h : g = some a) (k : Ev (fun n => f n a) r) : Ev (fun n => g.bind (f n)) r:=by
 subst h; exact k
theorem Ev.is {a r : α} (h : a = r) : Ev (fun _ => some a) r:=by subst h; exact Ev.now _
theorem Ev.cast {g : Nat → Option α} {a r : α} (k : Ev g a) (h : a = r) : Ev g r:=h ▸ k
theorem Ev.go {g f : Nat → Option α} {r : α} (k : Ev f r) (h : ∀ k,g (k + 1) = f k) : Ev g r:=Ev.step h k
end
theorem w64 {n : Int} (h : -9223372036854775808 ≤ n) (h' : n ≤ 9223372036854775807) : wrap64 n = n:=by unfold wrap64; omega
theorem some_ite (b x : Bool) : (if b = true then some x else some false) = some (b && x):=by cases b <;> rfl
end Go.Proofs.YtlhmljngjdfbpaaW.PrintWords
end
section
set_option linter.unusedSimpArgs false
set_option linter.unusedVariables false
namespace Go.Proofs.Ytlhmljngjdfbpaa.Pure
open Go.RowKit Go.Proofs.Ytlhmljngjdfbpaa.Pr Go.Proofs.YtlhmljngjdfbpaaW.PrintWords Go.Proofs.YtlhmljngjdfbpaaW.PrintLast Go.Proofs.YtlhmljngjdfbpaaW.PrintMore
def inB (x a b : Int) : Bool:=decide (a ≤ x) && decide (x ≤ b)
theorem inB_iff {x a b : Int} : inB x a b = true ↔ a ≤ x ∧ x ≤ b:=by simp [inB]
theorem in1 (x a b : Int) : spec_l1In.f x a b = some (inB x a b):=by
 unfold spec_l1In.f inB
 by_cases h : x ≥ a
 case pos => rw [if_pos h]; simp [show a ≤ x from h]
 rw [if_neg h]; simp [show ¬ a ≤ x from h]
theorem up1 {i n : Nat} (h : i < n) (hn : n ≤ maxLen) : wrap64 ((i : Int) + 1) = ((i + 1 : Nat) : Int):=by
 simp only [maxLen] at hn;rw [w64 (by omega) (by omega)]; omega
def nth (l : List Int) (i : Nat) : Int:=l.getD i 0
theorem rdg {l : List Int} (i : Nat) : rd l (i : Int) = nth l i:=by simp [rd,nth]
theorem nth_get {l : List Int} {i : Nat} (h : i < l.length) : nth l i = l[i]:=by simp [nth,h]
theorem drop_cons {α : Type} {l : List α} {i : Nat} (h : i < l.length) : l.drop i = l[i] :: l.drop (i + 1):=List.drop_eq_getElem_cons h
def Pv {α : Type} (g : Nat → Option α) (P : α → Prop) : Prop:=∃ r,Ev g r ∧ P r
section
variable {α β : Type} {P : α → Prop}
theorem Pv.now {a : α} (h : P a) : Pv (fun _ => some a) P:=⟨a,Ev.now a,h⟩
theorem Pv.pos {c : Prop} [Decidable c] {t e : Nat → Option α} (h : c) (k : Pv t P) : Pv (fun n => if c then t n else e n) P:=by
 obtain ⟨r,k,hp⟩:=k;exact ⟨r,Ev.pos h k,hp⟩
theorem Pv.neg {c : Prop} [Decidable c] {t e : Nat → Option α} (h : ¬ c) (k : Pv e P) : Pv (fun n => if c then t n else e n) P:=by
 obtain ⟨r,k,hp⟩:=k;exact ⟨r,Ev.neg h k,hp⟩
theorem Pv.bind {g : Nat → Option β} {f : Nat → β → Option α} {R : β → Prop} (h : Pv g R) (k : ∀ b,R b → Pv (fun n => f n b) P) : Pv (fun n => (g n).bind (f n)) P:=by
 obtain ⟨b,h,hb⟩:=h;obtain ⟨r,k,hp⟩:=k b hb;exact ⟨r,Ev.bind h k,hp⟩
theorem Pv.go {g f : Nat → Option α} (k : Pv f P) (h : ∀ k,g (k + 1) = f k) : Pv g P:=by
 obtain ⟨r,k,hp⟩:=k;exact ⟨r,Ev.go k h,hp⟩
end
end Go.Proofs.Ytlhmljngjdfbpaa.Pure
end
section
set_option linter.unusedSimpArgs false
set_option linter.unusedVariables false
namespace Go.Proofs.Ytlhmljngjdfbpaa.Pure
open Go.RowKit Go.Proofs.Ytlhmljngjdfbpaa.Pr Go.Proofs.YtlhmljngjdfbpaaW.PrintWords Go.Proofs.YtlhmljngjdfbpaaW.PrintLast Go.Proofs.YtlhmljngjdfbpaaW.PrintMore
section
variable {t e : Nat → Option Bool} {r : Bool}
theorem Ev.and {b : Bool} (k : Ev t r) : Ev (fun n => if b = true then t n else some false) (b && r):=by
 cases b with
 | false => exact Ev.neg (by simp) (Ev.now _)
 | true => exact Ev.pos rfl k
theorem Ev.nand {c : Prop} [Decidable c] (k : Ev t r) : Ev (fun n => if c then some false else t n) (!decide c && r):=by
 by_cases h : c
 case pos => exact Ev.pos h (Ev.is (by simp [h]))
 exact Ev.neg h (k.cast (by simp [h]))
end
abbrev Arc:=S58
def arc (l : List Arc) (i : Nat) : Arc:=rd_T58 l (i : Int)
theorem rda (l : List Arc) (i : Nat) : rd_T58 l (i : Int) = arc l i:=rfl
theorem arc_get {l : List Arc} {i : Nat} (h : i < l.length) : arc l i = l[i]:=by simp [arc,rd_T58,h]
theorem arc_mem {l : List Arc} {i : Nat} (h : i < l.length) : arc l i ∈ l:=by
 rw [arc_get h];exact List.getElem_mem h
attribute [irreducible] arc
def okArcW (n : Int) (a : Arc) : Bool:=inB a.f0 0 (wrap64 (n - 1)) && (inB a.f1 0 (wrap64 (n - 1)) && (!decide (a.f0 = a.f1) && (inB a.f2 0 99 && (inB a.f3 0 99 && inB a.f4 0 9))))
theorem l1Ok_l (n : Int) (l : List Arc) (hm : l.length ≤ maxLen) : ∀ (m i : Nat),l.length - i = m → i ≤ l.length → Ev (fun k => spec_l1Ok.l0 k (i : Int) n l) ((l.drop i).all (okArcW n) && (inB n 1 8 && decide ((l.length : Int) ≤ 16))):=by
 intro m
 induction m with
 | zero =>
  intro i hd hi;refine Ev.go ?_ (fun k => by rw [spec_l1Ok.l0]);refine Ev.neg (by omega) (Ev.bind0 (in1 _ _ _) ?_);rw [List.drop_of_length_le (by omega)];exact (Ev.and (Ev.now _)).cast (by simp)
 | succ m ih =>
  intro i hd hi;have hlt : i < l.length:=by omega
  refine Ev.go ?_ (fun k => by rw [spec_l1Ok.l0]);rw [drop_cons hlt,← arc_get hlt,List.all_cons,rda,up1 hlt hm];refine Ev.pos (by omega) (Ev.pos (by omega) ?_);refine Ev.cast (Ev.bind0 (in1 _ _ _) (Ev.and (Ev.bind0 (in1 _ _ _) (Ev.and (Ev.nand (Ev.bind0 (in1 _ _ _) (Ev.and (Ev.bind0 (in1 _ _ _) (Ev.and (Ev.bind0 (in1 _ _ _) (Ev.and (ih (i + 1) (by omega) (by omega))))))))))))) ?_;simp only [okArcW,Bool.and_assoc]
theorem okArcW_okArc {n : Int} (h : 1 ≤ n) (h8 : n ≤ 8) (a : Arc) : okArcW n a = okArc n a:=by
 unfold okArcW okArc inB okN okC
 rw [w64 (by omega) (by omega)];have e : (a.f4 ≤ 9) ↔ (a.f4 ≤ 10 - 1):=by omega
 have e2 : (a.f0 == a.f1) = decide (a.f0 = a.f1):=by
  by_cases c : a.f0 = a.f1 <;> simp [c]
 rw [e2];simp only [Bool.and_assoc,e]
theorem l1Ok_ev (n : Int) (l : List Arc) (hm : l.length ≤ maxLen) : Ev (fun k => spec_l1Ok.f k n l) (netOkB n l):=by
 unfold spec_l1Ok.f
 refine (l1Ok_l n l hm _ 0 rfl (by omega)).cast ?_
 unfold netOkB
 rw [List.drop_zero]
 by_cases h : 1 ≤ n ∧ n ≤ 8
 case pos =>
  have e : l.all (okArcW n) = l.all (okArc n):=by
   congr 1
   funext a
   exact okArcW_okArc h.1 h.2 a
  rw [e,show inB n 1 8 = true from inB_iff.2 h];simp [h.1,h.2,Bool.and_comm]
 have e : inB n 1 8 = false:=by
  cases c : inB n 1 8 with
  | false => rfl
  | true => exact absurd (inB_iff.1 c) h
 rw [e];have e2 : (decide (1 ≤ n) && decide (n ≤ 8)) = false:=e;simp only [e2,Bool.false_and,Bool.and_false]
structure NetGood (n : Int) (l : List Arc) : Prop where
 n1 : 1 ≤ n
 n8 : n ≤ 8
 len : l.length ≤ 16
 ok : ∀ i,i < l.length → (0 ≤ (arc l i).f0 ∧ (arc l i).f0 < n) ∧ (0 ≤ (arc l i).f1 ∧ (arc l i).f1 < n) ∧ (arc l i).f0 ≠ (arc l i).f1 ∧ (0 ≤ (arc l i).f2 ∧ (arc l i).f2 ≤ 99) ∧ (0 ≤ (arc l i).f3 ∧ (arc l i).f3 ≤ 99) ∧ (0 ≤ (arc l i).f4 ∧ (arc l i).f4 ≤ 9)
theorem okArc_iff (n : Int) (a : Arc) : okArc n a = true ↔ (0 ≤ a.f0 ∧ a.f0 < n) ∧ (0 ≤ a.f1 ∧ a.f1 < n) ∧ a.f0 ≠ a.f1 ∧ (0 ≤ a.f2 ∧ a.f2 ≤ 99) ∧ (0 ≤ a.f3 ∧ a.f3 ≤ 99) ∧ (0 ≤ a.f4 ∧ a.f4 ≤ 9):=by
 simp only [okArc,okN,okC,Bool.and_eq_true,decide_eq_true_eq,Bool.not_eq_true',beq_eq_false_iff_ne];constructor
 ·rintro ⟨⟨⟨⟨⟨⟨a1,a2⟩,a3,a4⟩,a5⟩,a6⟩,a7⟩,a8,a9⟩;exact ⟨⟨a1,by omega⟩,⟨a3,by omega⟩,a5,a6,a7,a8,by omega⟩
 ·rintro ⟨⟨a1,a2⟩,⟨a3,a4⟩,a5,a6,a7,a8,a9⟩;exact ⟨⟨⟨⟨⟨⟨a1,by omega⟩,a3,by omega⟩,a5⟩,a6⟩,a7⟩,a8,by omega⟩
theorem netOkB_iff (n : Int) (l : List Arc) : netOkB n l = true ↔ NetGood n l:=by
 simp only [netOkB,Bool.and_eq_true,decide_eq_true_eq,List.all_eq_true];constructor
 ·rintro ⟨⟨⟨h1,h2⟩,h3⟩,h4⟩;exact ⟨h1,h2,by omega,fun i hi => (okArc_iff n _).1 (h4 _ (arc_mem hi))⟩
 ·rintro ⟨h1,h2,h3,h4⟩;refine ⟨⟨⟨h1,h2⟩,by omega⟩,fun a ha => ?_⟩;obtain ⟨i,hi,rfl⟩:=List.getElem_of_mem ha;rw [← arc_get hi];exact (okArc_iff n _).2 (h4 i hi)
theorem hasOf {n : Int} {l : List Arc} (h : NetGood n l) (v : List Int) : impl_Net_has.f n l v = some (v.all (okN n)):=by
 have:=h.n1;have:=h.n8
 unfold impl_Net_has.f
 rw [if_pos (by omega),if_pos (by omega)]
theorem nodesIn_eq (n : Int) (l : List Arc) (v : List Int) : impl_nodesIn.f n l v = some (netOkB n l && v.all (okN n)):=by
 unfold impl_nodesIn.f
 rw [show impl_NetOk.f n l = some (netOkB n l) from rfl,Option.bind_some];cases h : netOkB n l with
 | false => rfl
 | true => rw [if_pos rfl,hasOf ((netOkB_iff n l).1 h),Option.bind_some,Bool.true_and]
theorem apart_eq (n : Int) (l : List Arc) (a b : Int) : impl_apart.f n l a b = some (netOkB n l && (okN n a && (okN n b && (a != b)))):=by
 unfold impl_apart.f
 rw [nodesIn_eq,Option.bind_some];simp only [List.all_cons,List.all_nil,Bool.and_true,some_ite,Bool.and_assoc]
theorem szNet_eq (n : Int) (l : List S127) (a : Int) (ha : -1 ≤ a) (ha' : a ≤ 1048576) (hm : l.length ≤ maxLen) : laws_szNet.f n l a = some (if a - (l.length : Int) < 0 then -1 else a - (l.length : Int)):=by
 simp only [maxLen] at hm
 unfold laws_szNet.f laws_szArcS.f
 rw [w64 (by omega) (by omega)]
 by_cases c : a - (l.length : Int) < 0
 case neg => rw [if_neg c,if_neg c,Option.bind_some,if_neg c]
 rw [if_pos c,if_pos c,Option.bind_some,if_pos (by omega)]
def toA (a : S127) : Arc:=⟨a.f0,a.f1,a.f2,a.f3,a.f4⟩
theorem toArcS_l (l : List S127) (hm : l.length ≤ maxLen) : ∀ (d i : Nat) (x : List Arc),l.length - i = d → i ≤ l.length → x.length = l.length → x.take i = (l.map toA).take i → Ev (fun k => laws_toArcS.l0 k l x (i : Int)) (l.map toA):=by
 intro d
 induction d with
 | zero =>
  intro i x hd hi hx ht;refine Ev.go ?_ (fun k => by rw [laws_toArcS.l0]);refine Ev.neg (by omega) (Ev.is ?_);have e : i = l.length:=by omega
  subst e
  rwa [List.take_of_length_le (by omega),List.take_of_length_le (by simp)] at ht
 | succ d ih =>
  intro i x hd hi hx ht;have hlt : i < l.length:=by omega
  refine Ev.go ?_ (fun k => by rw [laws_toArcS.l0]);refine Ev.pos (by omega) (Ev.pos (by omega) (Ev.bind0 rfl (Ev.pos (by omega) ?_)));rw [up1 hlt hm];refine ih (i + 1) _ (by omega) (by omega) (by simp [hx]) ?_;have hr : rd_T127 l (i : Int) = l[i]:=by simp [rd_T127,hlt]
  simp only [Int.toNat_natCast,hr];rw [List.take_succ_eq_append_getElem (by simp; omega),List.take_succ_eq_append_getElem (l:=l.map toA) (by simpa using hlt),List.take_set_of_le (Nat.le_refl _),ht];simp [toA]
theorem toNet_ev (n : Int) (l : List S127) (hm : l.length ≤ 7036874417766) : Ev (fun k => laws_toNet.f k n l) (n,l.map toA):=by
 unfold laws_toNet.f
 refine Ev.bind (a:=l.map toA) ?_ (Ev.now _)
 unfold laws_toArcS.f
 refine Ev.pos (by omega) (Ev.pos (by simp; omega) ?_);exact toArcS_l l (by simp only [maxLen]; omega) _ 0 _ rfl (by omega) (by simp) (by simp)
theorem eqArcS_l (l : List Arc) (hm : l.length ≤ maxLen) : ∀ (d i : Nat),l.length - i = d → i ≤ l.length → Ev (fun k => laws_eqArcS.l0 k l l (i : Int)) true:=by
 intro d
 induction d with
 | zero =>
  intro i hd hi;refine Ev.go ?_ (fun k => by rw [laws_eqArcS.l0]);exact Ev.neg (by omega) (Ev.now _)
 | succ d ih =>
  intro i hd hi;have hlt : i < l.length:=by omega
  refine Ev.go ?_ (fun k => by rw [laws_eqArcS.l0]);refine Ev.pos (by omega) (Ev.pos (by omega) (Ev.pos (by omega) (Ev.bind0 (a:=true) (by simp [laws_eqArc.f]) (Ev.pos rfl ?_))));rw [up1 hlt hm];exact ih (i + 1) (by omega) (by omega)
theorem eqNet_ev (n : Int) (l : List Arc) (hm : l.length ≤ maxLen) : Ev (fun k => laws_eqNet.f k n l n l) true:=by
 unfold laws_eqNet.f
 refine Ev.pos rfl (Ev.bind (a:=true) ?_ (Ev.pos rfl (Ev.now _)))
 unfold laws_eqArcS.f
 exact Ev.pos rfl (eqArcS_l l hm _ 0 rfl (by omega))
end Go.Proofs.Ytlhmljngjdfbpaa.Pure
end
section
set_option linter.unusedSimpArgs false
set_option linter.unusedVariables false
namespace Go.Proofs.Ytlhmljngjdfbpaa.Pure
open Go.RowKit Go.Proofs.Ytlhmljngjdfbpaa.Pr Go.Proofs.YtlhmljngjdfbpaaW.PrintWords Go.Proofs.YtlhmljngjdfbpaaW.PrintLast Go.Proofs.YtlhmljngjdfbpaaW.PrintMore
def mostB (n : Int) (l : List Arc) (a b : Int) : Bool:=netOkB n l && (okN n a && (okN n b && (a != b)))
theorem mostB_iff (n : Int) (l : List Arc) (a b : Int) : mostB n l a b = true ↔ NetGood n l ∧ (0 ≤ a ∧ a < n) ∧ (0 ≤ b ∧ b < n) ∧ a ≠ b:=by
 simp only [mostB,Bool.and_eq_true,netOkB_iff,okN,decide_eq_true_eq,bne_iff_ne];constructor
 ·rintro ⟨h1,⟨h2,h3⟩,⟨h4,h5⟩,h6⟩;exact ⟨h1,⟨h2,by omega⟩,⟨h4,by omega⟩,h6⟩
 ·rintro ⟨h1,⟨h2,h3⟩,⟨h4,h5⟩,h6⟩;exact ⟨h1,⟨h2,by omega⟩,⟨h4,by omega⟩,h6⟩
theorem inB_okN {n : Int} {l : List Arc} (h : NetGood n l) (a : Int) : inB a 0 (wrap64 (n - 1)) = okN n a:=by
 have:=h.n1;have:=h.n8;rw [w64 (by omega) (by omega)];rfl
theorem eqIntS_l (l : List Int) (hm : l.length ≤ maxLen) : ∀ (d i : Nat),l.length - i = d → i ≤ l.length → Ev (fun k => laws_eqIntS.l0 k l l (i : Int)) true:=by
 intro d
 induction d with
 | zero =>
  intro i hd hi;refine Ev.go ?_ (fun k => by rw [laws_eqIntS.l0]);exact Ev.neg (by omega) (Ev.now _)
 | succ d ih =>
  intro i hd hi;have hlt : i < l.length:=by omega
  refine Ev.go ?_ (fun k => by rw [laws_eqIntS.l0]);refine Ev.pos (by omega) (Ev.pos (by omega) (Ev.pos (by omega) (Ev.pos rfl ?_)));rw [up1 hlt hm];exact ih (i + 1) (by omega) (by omega)
theorem eqIntS_ev (l : List Int) (hm : l.length ≤ maxLen) : Ev (fun k => laws_eqIntS.f k l l) true:=by
 unfold laws_eqIntS.f
 exact Ev.pos rfl (eqIntS_l l hm _ 0 rfl (by omega))
end Go.Proofs.Ytlhmljngjdfbpaa.Pure
end
section
set_option linter.unusedSimpArgs false
set_option linter.unusedVariables false
set_option linter.unusedVariables false
end
section
set_option linter.unusedSectionVars false
namespace Go.Proofs.Ytlhmljngjdfbpaa.Fl
def sm (F : Nat → Int) : Nat → Int
 | 0 => 0
 | n + 1 => sm F n + F n
theorem sm_congr {F H : Nat → Int} {n : Nat} (h : ∀ i,i < n → F i = H i) : sm F n = sm H n:=by
 induction n with
 | zero => rfl
 | succ n ih => simp only [sm]; rw [ih (fun i hi => h i (by omega)),h n (by omega)]
theorem sm_add (F H : Nat → Int) (n : Nat) : sm (fun i => F i + H i) n = sm F n + sm H n:=by
 induction n with
 | zero => rfl
 | succ n ih => simp only [sm]; rw [ih]; omega
theorem sm_sub (F H : Nat → Int) (n : Nat) : sm (fun i => F i - H i) n = sm F n - sm H n:=by
 induction n with
 | zero => rfl
 | succ n ih => simp only [sm]; rw [ih]; omega
theorem sm_zero (n : Nat) : sm (fun _ => 0) n = 0:=by
 induction n with
 | zero => rfl
 | succ n ih => simp only [sm]; rw [ih]; rfl
theorem sm_le {F H : Nat → Int} {n : Nat} (h : ∀ i,i < n → F i ≤ H i) : sm F n ≤ sm H n:=by
 induction n with
 | zero => exact Int.le_refl _
 | succ n ih => simp only [sm]; have:=ih (fun i hi => h i (by omega)); have:=h n (by omega); omega
theorem sm_swap (F : Nat → Nat → Int) (n m : Nat) : sm (fun v => sm (F v) m) n = sm (fun i => sm (fun v => F v i) n) m:=by
 induction n with
 | zero => simp only [sm]; rw [sm_zero]
 | succ n ih => simp only [sm]; rw [ih,sm_add]
theorem sm_one (n a : Nat) (x : Int) (h : a < n) : sm (fun v => if v = a then x else 0) n = x:=by
 induction n with
 | zero => omega
 | succ n ih =>
  simp only [sm]
  by_cases e : a = n
  case neg =>
   rw [ih (by omega),if_neg (by omega)];omega
  subst e;rw [if_pos rfl,sm_congr (H:=fun _ => 0) (fun i hi => by rw [if_neg (by omega)]),sm_zero];omega
theorem sm_pick (n a : Nat) (S : Nat → Bool) (x : Int) (h : a < n) : sm (fun v => if S v = true then (if a = v then x else 0) else 0) n = if S a = true then x else 0:=by
 have : sm (fun v => if S v = true then (if a = v then x else 0) else 0) n = sm (fun v => if v = a then (if S a = true then x else 0) else 0) n:=by
  apply sm_congr
  intro v _
  by_cases e : v = a
  case pos => subst e; simp
  have e' : ¬ a = v:=fun h => e h.symm
  rw [if_neg e]; simp [e']
 rw [this,sm_one n a _ h]
section
variable {n m : Nat} {fr tw : Nat → Nat} {f : Nat → Int} (hf : ∀ i,i < m → fr i < n) (ht : ∀ i,i < m → tw i < n)
def net (m : Nat) (fr tw : Nat → Nat) (f : Nat → Int) (v : Nat) : Int:=sm (fun i => (if fr i = v then f i else 0) - (if tw i = v then f i else 0)) m
include hf ht
theorem net_set (S : Nat → Bool) : sm (fun v => if S v = true then net m fr tw f v else 0) n = sm (fun i => (if S (fr i) = true then f i else 0) - (if S (tw i) = true then f i else 0)) m:=by
 have h1 : sm (fun v => if S v = true then net m fr tw f v else 0) n = sm (fun v => sm (fun i => (if S v = true then (if fr i = v then f i else 0) else 0) - (if S v = true then (if tw i = v then f i else 0) else 0)) m) n:=by
  apply sm_congr
  intro v _
  by_cases e : S v = true
  case pos => simp only [e,if_true,net]
  simp only [e,if_false,Bool.false_eq_true];rw [show (fun i : Nat => (0 : Int) - 0) = fun _ => 0 from rfl,sm_zero]
 rw [h1,sm_swap]
 apply sm_congr
 intro i hi;rw [sm_sub,sm_pick n (fr i) S (f i) (hf i hi),sm_pick n (tw i) S (f i) (ht i hi)]
theorem net_cut {s t : Nat} (hs : s < n) (hz : ∀ v,v < n → v ≠ s → v ≠ t → net m fr tw f v = 0) (S : Nat → Bool) (h1 : S s = true) (h2 : S t = false) : net m fr tw f s = sm (fun i => (if S (fr i) = true then f i else 0) - (if S (tw i) = true then f i else 0)) m:=by
 rw [← net_set hf ht S];have : sm (fun v => if S v = true then net m fr tw f v else 0) n = sm (fun v => if v = s then net m fr tw f s else 0) n:=by
  apply sm_congr
  intro v hv
  by_cases e : v = s
  case pos => subst e; rw [if_pos h1,if_pos rfl]
  rw [if_neg e]
  split
  ·rename_i h3;exact hz v hv e (by rintro rfl; rw [h2] at h3; cases h3)
  ·rfl
 rw [this,sm_one n s _ hs]
end
def cut (m : Nat) (fr tw : Nat → Nat) (cap : Nat → Int) (S : Nat → Bool) : Int:=sm (fun i => if S (fr i) = true then (if S (tw i) = true then 0 else cap i) else 0) m
section
variable {n m : Nat} {fr tw : Nat → Nat} {f cap : Nat → Int} (hf : ∀ i,i < m → fr i < n) (ht : ∀ i,i < m → tw i < n) (h0 : ∀ i,i < m → 0 ≤ f i ∧ f i ≤ cap i) {s t : Nat} (hs : s < n) (hz : ∀ v,v < n → v ≠ s → v ≠ t → net m fr tw f v = 0)
include hf ht h0 hs hz
theorem value_le (S : Nat → Bool) (h1 : S s = true) (h2 : S t = false) : net m fr tw f s ≤ cut m fr tw cap S:=by
 rw [net_cut hf ht hs hz S h1 h2]
 apply sm_le
 intro i hi;have:=h0 i hi
 by_cases a : S (fr i) = true <;> by_cases b : S (tw i) = true <;> simp only [a,b,if_true,if_false,Bool.false_eq_true] <;> omega
end
end Go.Proofs.Ytlhmljngjdfbpaa.Fl
end
section
set_option linter.unusedSectionVars false
namespace Go.Proofs.Ytlhmljngjdfbpaa.Sp
structure G where
 n : Nat
 m : Nat
 fr : Nat → Nat
 tw : Nat → Nat
 w : Nat → Int
 use : Nat → Bool
structure G.Ok (g : G) : Prop where
 fl : ∀ i,i < g.m → g.fr i < g.n
 tl : ∀ i,i < g.m → g.tw i < g.n
 w0 : ∀ i,i < g.m → 0 ≤ g.w i
inductive Wk (g : G) : Nat → Nat → Nat → Int → Prop
 | nil (v : Nat) : Wk g v v 0 0
 | cons {i v k : Nat} {c : Int} : i < g.m → g.use i = true → Wk g (g.tw i) v k c → Wk g (g.fr i) v (k + 1) (g.w i + c)
theorem nodup_len : ∀ (n : Nat) (l : List Nat),l.Nodup → (∀ x ∈ l,x < n) → l.length ≤ n:=by
 intro n
 induction n with
 | zero =>
  intro l _ h;cases l with
  | nil => simp
  | cons a l => exact absurd (h a (by simp)) (by omega)
 | succ n ih =>
  intro l hn h;have h1:=ih (l.erase n) (hn.erase n) (fun x hx => by
   have h2:=h x (List.mem_of_mem_erase hx);have h3 : x ≠ n:=by
    rintro rfl;exact (List.Nodup.not_mem_erase hn) hx
   omega)
  have:=List.length_erase_le (a:=n) (l:=l);have h4 : l.length ≤ (l.erase n).length + 1:=by
   rw [List.length_erase]
   split <;> omega
  omega
inductive Sm (g : G) (t : Nat) : Nat → List Nat → Nat → Int → Prop
 | nil : Sm g t t [t] 0 0
 | cons {i k : Nat} {L : List Nat} {c : Int} : i < g.m → g.use i = true → Sm g t (g.tw i) L k c → g.fr i ∉ L → Sm g t (g.fr i) (g.fr i :: L) (k + 1) (g.w i + c)
def Opt (g : G) (t : Nat) (L : Nat → Option Int) : Prop:=∀ v,v < g.n → (∀ x,L v = some x → ∃ k,Wk g v t k x) ∧ (∀ k c,Wk g v t k c → ∃ x,L v = some x ∧ x ≤ c)
def lts (a : Int) : Option Int → Bool
 | none => true
 | some y => decide (a < y)
def put (L : Nat → Option Int) (a : Nat) (x : Int) : Nat → Option Int:=fun v => if v = a then some x else L v
def relax (g : G) (L : Nat → Option Int) (i : Nat) : Nat → Option Int :=
 if g.use i = true then
  match L (g.tw i) with
  | none => L
  | some x => if lts (x + g.w i) (L (g.fr i)) = true then put L (g.fr i) (x + g.w i) else L
 else L
def sweep (g : G) (L : Nat → Option Int) : Nat → (Nat → Option Int)
 | 0 => L
 | i + 1 => relax g (sweep g L i) i
def start (t : Nat) : Nat → Option Int:=fun v => if v = t then some 0 else none
def rounds (g : G) (t : Nat) : Nat → (Nat → Option Int)
 | 0 => start t
 | r + 1 => sweep g (rounds g t r) g.m
end Go.Proofs.Ytlhmljngjdfbpaa.Sp
namespace Go.Proofs.Ytlhmljngjdfbpaa.Sp
structure Dbl (g e s : G) (D : Nat → Option Int) : Prop where
 en : e.n = g.n
 em : e.m = g.m
 ef : e.fr = g.fr
 et : e.tw = g.tw
 eu : e.use = g.use
 ew : ∀ i,i < g.m → e.w i = 1000 * g.w i + 1
 sn : s.n = g.n
 sm : s.m = g.m
 sf : s.fr = g.fr
 st : s.tw = g.tw
 sw : ∀ i,i < g.m → s.w i = 1
 su : ∀ i,i < g.m → (s.use i = true ↔ g.use i = true ∧ ∃ x,D (g.tw i) = some x ∧ D (g.fr i) = some (g.w i + x))
section
variable {g e s : G} {t : Nat} {D S : Nat → Option Int} (h : Dbl g e s D) (ok : g.Ok) (hD : Opt g t D) (hS : Opt s t S) (ht : t < g.n)
include h
end
end Go.Proofs.Ytlhmljngjdfbpaa.Sp
end
section
set_option linter.unusedSimpArgs false
set_option linter.unusedSectionVars false
set_option linter.unusedVariables false
namespace Go.Proofs.Ytlhmljngjdfbpaa.Fl
def ud (F : Nat → Int) (a : Nat) (x : Int) : Nat → Int:=fun v => if v = a then x else F v
theorem ud_at (F : Nat → Int) (a : Nat) (x : Int) : ud F a x a = x:=by simp [ud]
theorem ud_off (F : Nat → Int) {a v : Nat} (x : Int) (h : v ≠ a) : ud F a x v = F v:=by simp [ud,h]
section
variable {m : Nat} {fr tw : Nat → Nat} {cap f : Nat → Int} {s : Nat}
def Came (m : Nat) (fr tw : Nat → Nat) (cap f : Nat → Int) (b : Int) (u v : Nat) : Prop:=(∃ i : Nat,i < m ∧ b = (i : Int) + 1 ∧ fr i = u ∧ tw i = v ∧ f i < cap i) ∨ (∃ i : Nat,i < m ∧ b = -(i : Int) - 1 ∧ tw i = u ∧ fr i = v ∧ 0 < f i)
structure Tr (m : Nat) (fr tw : Nat → Nat) (cap f : Nat → Int) (s : Nat) (b : Nat → Int) (L : List Nat) : Prop where
 nodup : L.Nodup
 root : s ∈ L
 up : ∀ p v q,L = p ++ v :: q → v ≠ s → ∃ u,u ∈ p ∧ Came m fr tw cap f (b v) u v
 none : ∀ v,v ∉ L ∨ v = s → b v = 0
theorem Came.ne {b : Int} {u v : Nat} (h : Came m fr tw cap f b u v) : b ≠ 0:=by
 rcases h with ⟨i,_,e,_⟩ | ⟨i,_,e,_⟩ <;> omega
theorem Tr.some {b : Nat → Int} {L : List Nat} (h : Tr m fr tw cap f s b L) {v : Nat} (hv : v ∈ L) (hs : v ≠ s) : b v ≠ 0:=by
 obtain ⟨p,q,e⟩:=List.append_of_mem hv;obtain ⟨u,_,c⟩:=h.up p v q e hs;exact c.ne
theorem Tr.free {b : Nat → Int} {L : List Nat} (h : Tr m fr tw cap f s b L) (v : Nat) : (b v = 0 ∧ v ≠ s) ↔ v ∉ L:=by
 constructor
 ·exact fun ⟨h1,h2⟩ hv => h.some hv h2 h1
 ·exact fun hv => ⟨h.none v (.inl hv),fun e => hv (by rw [e]; exact h.root)⟩
theorem Tr.start : Tr m fr tw cap f s (fun _ => 0) [s]:=by
 refine ⟨by simp,by simp,fun p v q e hv => ?_,fun _ _ => rfl⟩;cases p with
 | nil => simp at e; exact absurd e.1.symm hv
 | cons a p => simp at e
theorem Tr.add {b : Nat → Int} {L : List Nat} (h : Tr m fr tw cap f s b L) {u v : Nat} {x : Int} (hu : u ∈ L) (hv : v ∉ L) (c : Came m fr tw cap f x u v) : Tr m fr tw cap f s (ud b v x) (L ++ [v]):=by
 have hvs : v ≠ s:=fun e => hv (by rw [e]; exact h.root)
 refine ⟨?_,List.mem_append_left _ h.root,fun p w q e hw => ?_,fun w hw => ?_⟩
 ·rw [List.nodup_append];exact ⟨h.nodup,by simp,fun a ha b hb e => hv (by rw [List.mem_singleton] at hb; rw [← hb,← e]; exact ha)⟩
 ·by_cases hq : q = []
  case pos =>
   subst hq;have e2:=List.append_inj' e (by simp);obtain ⟨rfl,e3⟩:=e2;have e4 : v = w:=by simpa using e3
   subst e4;exact ⟨u,hu,by rw [ud_at]; exact c⟩
  obtain ⟨q',y,rfl⟩ : ∃ q' y,q = q' ++ [y]:=⟨q.dropLast,q.getLast hq,(List.dropLast_concat_getLast hq).symm⟩
  have e1 : L ++ [v] = (p ++ w :: q') ++ [y]:=by rw [e]; simp
  have e3:=(List.append_inj' e1 (by simp)).1;have hwv : w ≠ v:=fun e => hv (by rw [e3,← e]; simp)
  rw [ud_off _ _ hwv];exact h.up p w q' e3 hw
 ·have hwv : w ≠ v:=by
   rcases hw with hw | hw
   ·exact fun e => hw (by rw [e]; simp)
   ·exact fun e => hvs (by rw [← e]; exact hw)
  rw [ud_off _ _ hwv];exact h.none w (hw.imp (fun h k => h (List.mem_append_left _ k)) id)
abbrev St:=(Nat → Int) × List Nat
variable (fr tw cap f)
def vis1 (u i : Nat) (st : St) : St:=if fr i = u ∧ f i < cap i ∧ tw i ∉ st.2 then (ud st.1 (tw i) ((i : Int) + 1),st.2 ++ [tw i]) else st
def vis2 (u i : Nat) (st : St) : St:=if tw i = u ∧ 0 < f i ∧ fr i ∉ st.2 then (ud st.1 (fr i) (-(i : Int) - 1),st.2 ++ [fr i]) else st
def vis (u i : Nat) (st : St) : St:=vis2 fr tw f u i (vis1 fr tw cap f u i st)
def visAll (u : Nat) : Nat → Nat → St → St
 | _,0,st => st
 | i,d + 1,st => visAll u (i + 1) d (vis fr tw cap f u i st)
def bfs (m : Nat) : Nat → Nat → St → St
 | 0,_,st => st
 | d + 1,h,st => if hh : h < st.2.length then bfs m d (h + 1) (visAll fr tw cap f st.2[h] 0 m st) else st
variable {fr tw cap f}
def Shut (m : Nat) (fr tw : Nat → Nat) (cap f : Nat → Int) (L : List Nat) (u : Nat) (lo hi : Nat) : Prop:=∀ i,lo ≤ i → i < hi → (fr i = u → f i < cap i → tw i ∈ L) ∧ (tw i = u → 0 < f i → fr i ∈ L)
theorem Shut.mono {L L' : List Nat} {u lo hi : Nat} (h : Shut m fr tw cap f L u lo hi) (k : ∀ x,x ∈ L → x ∈ L') : Shut m fr tw cap f L' u lo hi :=
 fun i h1 h2 => ⟨fun a b => k _ ((h i h1 h2).1 a b),fun a b => k _ ((h i h1 h2).2 a b)⟩
variable {N : Nat} (hf : ∀ i,i < m → fr i < N) (ht : ∀ i,i < m → tw i < N)
def Good (m : Nat) (fr tw : Nat → Nat) (cap f : Nat → Int) (s N : Nat) (st : St) : Prop:=Tr m fr tw cap f s st.1 st.2 ∧ ∀ v ∈ st.2,v < N
include hf ht
theorem vis1_good {u i : Nat} {st : St} (h : Good m fr tw cap f s N st) (hu : u ∈ st.2) (hi : i < m) : Good m fr tw cap f s N (vis1 fr tw cap f u i st) ∧ ∃ x,(vis1 fr tw cap f u i st).2 = st.2 ++ x:=by
 unfold vis1
 split
 ·rename_i c;refine ⟨⟨h.1.add hu c.2.2 (.inl ⟨i,hi,rfl,c.1,rfl,c.2.1⟩),fun v hv => ?_⟩,_,rfl⟩
  rcases List.mem_append.1 hv with h1 | h1
  ·exact h.2 v h1
  ·rw [List.mem_singleton.1 h1]; exact ht i hi
 ·exact ⟨h,[],by simp⟩
theorem vis2_good {u i : Nat} {st : St} (h : Good m fr tw cap f s N st) (hu : u ∈ st.2) (hi : i < m) : Good m fr tw cap f s N (vis2 fr tw f u i st) ∧ ∃ x,(vis2 fr tw f u i st).2 = st.2 ++ x:=by
 unfold vis2
 split
 ·rename_i c;refine ⟨⟨h.1.add hu c.2.2 (.inr ⟨i,hi,rfl,c.1,rfl,c.2.1⟩),fun v hv => ?_⟩,_,rfl⟩
  rcases List.mem_append.1 hv with h1 | h1
  ·exact h.2 v h1
  ·rw [List.mem_singleton.1 h1]; exact hf i hi
 ·exact ⟨h,[],by simp⟩
theorem vis_good {u i : Nat} {st : St} (h : Good m fr tw cap f s N st) (hu : u ∈ st.2) (hi : i < m) : Good m fr tw cap f s N (vis fr tw cap f u i st) ∧ (∃ x,(vis fr tw cap f u i st).2 = st.2 ++ x) ∧ Shut m fr tw cap f (vis fr tw cap f u i st).2 u i (i + 1):=by
 obtain ⟨g1,x1,e1⟩:=vis1_good hf ht h hu hi;obtain ⟨g2,x2,e2⟩:=vis2_good hf ht g1 (u:=u) (i:=i) (by rw [e1]; exact List.mem_append_left _ hu) hi;refine ⟨g2,⟨x1 ++ x2,by unfold vis; rw [e2,e1,List.append_assoc]⟩,fun j h1 h2 => ?_⟩;have : j = i:=by omega
 subst this;constructor
 ·intro a b
  unfold vis
  rw [e2];refine List.mem_append_left _ ?_
  by_cases c : tw j ∈ st.2
  case pos => rw [e1]; exact List.mem_append_left _ c
  unfold vis1
  rw [if_pos ⟨a,b,c⟩];simp
 ·intro a b
  unfold vis
  by_cases c : fr j ∈ (vis1 fr tw cap f u j st).2
  case pos => rw [e2]; exact List.mem_append_left _ c
  unfold vis2
  rw [if_pos ⟨a,b,c⟩];simp
theorem visAll_good {u : Nat} : ∀ (d i : Nat) (st : St),Good m fr tw cap f s N st → u ∈ st.2 → i + d ≤ m → Good m fr tw cap f s N (visAll fr tw cap f u i d st) ∧ (∃ x,(visAll fr tw cap f u i d st).2 = st.2 ++ x) ∧ Shut m fr tw cap f (visAll fr tw cap f u i d st).2 u i (i + d)
 | 0,i,st,h,_,_ => ⟨h,⟨[],by simp [visAll]⟩,fun j h1 h2 => by omega⟩
 | d + 1,i,st,h,hu,hd => by
  obtain ⟨g1,⟨x1,e1⟩,s1⟩:=vis_good hf ht h hu (i:=i) (by omega);obtain ⟨g2,⟨x2,e2⟩,s2⟩:=visAll_good d (i + 1) (vis fr tw cap f u i st) g1 (by rw [e1]; exact List.mem_append_left _ hu) (by omega);refine ⟨g2,⟨x1 ++ x2,by simp only [visAll]; rw [e2,e1,List.append_assoc]⟩,fun j h1 h2 => ?_⟩
  by_cases c : j = i
  case neg => exact s2 j (by omega) (by omega)
  exact (s1.mono (L':=(visAll fr tw cap f u i (d + 1) st).2) (fun y hy => by simp only [visAll]; rw [e2]; exact List.mem_append_left _ hy)) j h1 (by omega)
theorem bfs_good : ∀ (d h : Nat) (st : St),Good m fr tw cap f s N st → N ≤ d + h → (∀ u ∈ st.2.take h,Shut m fr tw cap f st.2 u 0 m) → Good m fr tw cap f s N (bfs fr tw cap f m d h st) ∧ ∀ u ∈ (bfs fr tw cap f m d h st).2,Shut m fr tw cap f (bfs fr tw cap f m d h st).2 u 0 m
 | 0,h,st,g,hd,hs => by
  have:=Sp.nodup_len N st.2 g.1.nodup g.2;refine ⟨g,fun u hu => hs u ?_⟩;rw [List.take_of_length_le (by omega)];exact hu
 | d + 1,h,st,g,hd,hs => by
  unfold bfs
  split
  ·rename_i hh;obtain ⟨g1,⟨x,e⟩,s1⟩:=visAll_good hf ht (u:=st.2[h]) m 0 st g (List.getElem_mem hh) (by omega);refine bfs_good d (h + 1) _ g1 (by omega) (fun u hu => ?_);rw [e,List.take_append_of_le_length (by omega),List.take_succ_eq_append_getElem hh] at hu
   rcases List.mem_append.1 hu with h1 | h1
   ·exact (hs u h1).mono (fun y hy => by rw [e]; exact List.mem_append_left _ hy)
   ·rw [List.mem_singleton.1 h1];rw [Nat.zero_add] at s1;exact s1
  ·rename_i hh;refine ⟨g,fun u hu => hs u ?_⟩;rw [List.take_of_length_le (by omega)];exact hu
omit hf ht
inductive Way (fr tw : Nat → Nat) (s : Nat) (b : Nat → Int) : Nat → List (Nat × Bool) → Prop
 | nil : Way fr tw s b s []
 | fwd {v i : Nat} {P : List (Nat × Bool)} : v ≠ s → b v = (i : Int) + 1 → tw i = v → Way fr tw s b (fr i) P → Way fr tw s b v ((i,true) :: P)
 | bck {v i : Nat} {P : List (Nat × Bool)} : v ≠ s → b v = -(i : Int) - 1 → fr i = v → Way fr tw s b (tw i) P → Way fr tw s b v ((i,false) :: P)
def dl (d : Bool) : Int:=if d = true then 1 else -1
def ap (f : Nat → Int) : List (Nat × Bool) → (Nat → Int)
 | [] => f
 | x :: P => ap (ud f x.1 (f x.1 + dl x.2)) P
def Fit (m : Nat) (cap f : Nat → Int) (x : Nat × Bool) : Prop:=x.1 < m ∧ (x.2 = true → f x.1 < cap x.1) ∧ (x.2 = false → 0 < f x.1)
theorem Tr.way {b : Nat → Int} {L : List Nat} (h : Tr m fr tw cap f s b L) : ∀ (n : Nat) (p : List Nat) (v : Nat) (q : List Nat),p.length ≤ n → L = p ++ v :: q → ∃ P,Way fr tw s b v P ∧ (P.map Prod.fst).Nodup ∧ ∀ x ∈ P,Fit m cap f x ∧ fr x.1 ∈ p ++ [v] ∧ tw x.1 ∈ p ++ [v]:=by
 intro n
 induction n with
 | zero =>
  intro p v q hp e;have : p = []:=List.length_eq_zero_iff.1 (by omega);subst this
  by_cases hv : v = s
  case pos => subst hv; exact ⟨[],.nil,by simp,by simp⟩
  obtain ⟨u,hu,_⟩:=h.up [] v q e hv;simp at hu
 | succ n ih =>
  intro p v q hp e
  by_cases hv : v = s
  case pos => subst hv; exact ⟨[],.nil,by simp,by simp⟩
  obtain ⟨u,hu,c⟩:=h.up p v q e hv;obtain ⟨p1,p2,ep⟩:=List.append_of_mem hu;have hvp : v ∉ p:=fun hm => by
   have hn:=h.nodup;rw [e] at hn;exact (List.nodup_append.1 hn).2.2 v hm v (List.mem_cons_self ..) rfl
  obtain ⟨P,w,hn,hP⟩:=ih p1 u (p2 ++ v :: q) (by rw [ep] at hp; simp at hp; omega) (by rw [e,ep]; simp);have hin : ∀ y,y ∈ p1 ++ [u] → y ∈ p:=fun y hy => by
   rw [ep]
   rcases List.mem_append.1 hy with h1 | h1
   ·exact List.mem_append_left _ h1
   ·rw [List.mem_singleton.1 h1]; simp
  have hL : ∀ x ∈ P,Fit m cap f x ∧ fr x.1 ∈ p ++ [v] ∧ tw x.1 ∈ p ++ [v]:=fun x hx => ⟨(hP x hx).1,List.mem_append_left _ (hin _ (hP x hx).2.1),List.mem_append_left _ (hin _ (hP x hx).2.2)⟩
  rcases c with ⟨i,hi,eb,e1,e2,hc⟩ | ⟨i,hi,eb,e1,e2,hc⟩
  ·refine ⟨(i,true) :: P,.fwd hv eb e2 (by rw [e1]; exact w),?_,fun x hx => ?_⟩
   ·rw [List.map_cons,List.nodup_cons];refine ⟨fun hm => ?_,hn⟩;obtain ⟨x,hx,ex⟩:=List.mem_map.1 hm;have h3:=hin _ (hP x hx).2.2;have ex : x.1 = i:=ex;rw [ex,e2] at h3;exact hvp h3
   ·rcases List.mem_cons.1 hx with rfl | hx
    ·exact ⟨⟨hi,fun _ => hc,fun h => by simp at h⟩,by show fr i ∈ _; rw [e1]; exact List.mem_append_left _ hu,by show tw i ∈ _; rw [e2]; simp⟩
    ·exact hL x hx
  ·refine ⟨(i,false) :: P,.bck hv eb e2 (by rw [e1]; exact w),?_,fun x hx => ?_⟩
   ·rw [List.map_cons,List.nodup_cons];refine ⟨fun hm => ?_,hn⟩;obtain ⟨x,hx,ex⟩:=List.mem_map.1 hm;have h3:=hin _ (hP x hx).2.1;have ex : x.1 = i:=ex;rw [ex,e2] at h3;exact hvp h3
   ·rcases List.mem_cons.1 hx with rfl | hx
    ·exact ⟨⟨hi,fun h => by simp at h,fun _ => hc⟩,by show fr i ∈ _; rw [e2]; simp,by show tw i ∈ _; rw [e1]; exact List.mem_append_left _ hu⟩
    ·exact hL x hx
theorem ap_fit : ∀ (P : List (Nat × Bool)) (f : Nat → Int),(P.map Prod.fst).Nodup → (∀ x ∈ P,Fit m cap f x) → (∀ i,i < m → 0 ≤ f i ∧ f i ≤ cap i) → ∀ i,i < m → 0 ≤ ap f P i ∧ ap f P i ≤ cap i
 | [],f,_,_,h => h
 | x :: P,f,hn,hx,h => by
  rw [List.map_cons,List.nodup_cons] at hn;have h1:=hx x (List.mem_cons_self ..);refine ap_fit P _ hn.2 (fun y hy => ?_) (fun i hi => ?_)
  ·have hne : y.1 ≠ x.1:=fun e => hn.1 (by rw [← e]; exact List.mem_map_of_mem hy)
   have:=hx y (List.mem_cons_of_mem _ hy)
   unfold Fit at this ⊢
   rw [ud_off _ _ hne];exact this
  ·have:=h i hi
   by_cases c : i = x.1
   case neg => rw [ud_off _ _ c]; exact this
   subst c;rw [ud_at]
   unfold dl
   cases hd : x.2 with
   | true => have:=h1.2.1 hd; rw [if_pos rfl]; omega
   | false => have:=h1.2.2 hd; rw [if_neg (by simp)]; omega
theorem net_ud (f : Nat → Int) {i : Nat} (hi : i < m) (c : Int) (w : Nat) : net m fr tw (ud f i (f i + c)) w = net m fr tw f w + ((if fr i = w then c else 0) - (if tw i = w then c else 0)):=by
 unfold net
 have e : sm (fun j => (if fr j = w then ud f i (f i + c) j else 0) - (if tw j = w then ud f i (f i + c) j else 0)) m = sm (fun j => ((if fr j = w then f j else 0) - (if tw j = w then f j else 0)) + (if j = i then ((if fr i = w then c else 0) - (if tw i = w then c else 0)) else 0)) m:=by
  apply sm_congr
  intro j hj
  by_cases e : j = i
  case neg => rw [ud_off _ _ e,if_neg e,Int.add_zero]
  subst e;rw [ud_at,if_pos rfl]
  by_cases a : fr j = w <;> by_cases b : tw j = w <;> simp only [a,b,if_true,if_false] <;> omega
 rw [e,sm_add,sm_one m i _ hi]
theorem ap_net {b : Nat → Int} {v : Nat} {P : List (Nat × Bool)} (h : Way fr tw s b v P) : ∀ (f : Nat → Int),(∀ x ∈ P,x.1 < m) → ∀ w,net m fr tw (ap f P) w = net m fr tw f w + ((if s = w then 1 else 0) - (if v = w then 1 else 0)):=by
 induction h with
 | nil => intro f _ w; show net m fr tw f w = _; omega
 | @fwd v i P hv _ e _ ih =>
  intro f hP w;have hi:=hP _ (List.mem_cons_self ..);have:=ih (ud f i (f i + 1)) (fun x hx => hP x (List.mem_cons_of_mem _ hx)) w
  show net m fr tw (ap (ud f i (f i + 1)) P) w = _
  rw [this,net_ud f hi,e]
  by_cases a : s = w <;> by_cases b : fr i = w <;> by_cases c : v = w <;> simp only [a,b,c,if_true,if_false] <;> omega
 | @bck v i P hv _ e _ ih =>
  intro f hP w;have hi:=hP _ (List.mem_cons_self ..);have:=ih (ud f i (f i + -1)) (fun x hx => hP x (List.mem_cons_of_mem _ hx)) w
  show net m fr tw (ap (ud f i (f i + -1)) P) w = _
  rw [this,net_ud f hi,e]
  by_cases a : s = w <;> by_cases b : tw i = w <;> by_cases c : v = w <;> simp only [a,b,c,if_true,if_false] <;> omega
end
end Go.Proofs.Ytlhmljngjdfbpaa.Fl
end
section
set_option linter.unusedSimpArgs false
set_option linter.unusedVariables false
namespace Go.Proofs.Ytlhmljngjdfbpaa.Pure
open Go.RowKit Go.Proofs.Ytlhmljngjdfbpaa.Pr Go.Proofs.YtlhmljngjdfbpaaW.PrintWords Go.Proofs.YtlhmljngjdfbpaaW.PrintLast Go.Proofs.YtlhmljngjdfbpaaW.PrintMore
def lst (n : Nat) (F : Nat → Int) : List Int:=(List.range n).map F
theorem lst_len (n : Nat) (F : Nat → Int) : (lst n F).length = n:=by simp [lst]
theorem lst_nth {n v : Nat} (F : Nat → Int) (h : v < n) : nth (lst n F) v = F v:=by
 simp [nth,lst,h]
theorem lst_rd {n v : Nat} (F : Nat → Int) (h : v < n) : rd (lst n F) (v : Int) = F v:=by rw [rdg,lst_nth F h]
theorem lst_congr {n : Nat} {F G : Nat → Int} (h : ∀ v,v < n → F v = G v) : lst n F = lst n G:=by
 unfold lst
 exact List.map_congr_left (fun v hv => h v (List.mem_range.1 hv))
theorem lst_of (l : List Int) : lst l.length (nth l) = l:=by
 apply List.ext_getElem (lst_len _ _)
 intro i h1 h2;have:=lst_nth (n:=l.length) (nth l) (v:=i) h2;rw [nth_get h1,nth_get h2] at this;exact this
def upd (F : Nat → Int) (a : Nat) (x : Int) : Nat → Int:=fun v => if v = a then x else F v
theorem lst_set {n a : Nat} (F : Nat → Int) (x : Int) : (lst n F).set a x = lst n (upd F a x):=by
 apply List.ext_getElem (by simp [lst])
 intro i h1 h2;have hi : i < n:=by simpa [lst] using h2
 simp only [List.getElem_set]
 by_cases e : a = i
 case pos => subst e; simp [lst,upd]
 simp [lst,upd,e,show ¬ i = a from fun h => e h.symm]
theorem upd_same (F : Nat → Int) (a : Nat) (x : Int) : upd F a x a = x:=by simp [upd]
theorem upd_far (F : Nat → Int) {a v : Nat} (x : Int) (h : v ≠ a) : upd F a x v = F v:=by simp [upd,h]
inductive Conn (E : Nat → Nat → Prop) : Nat → Nat → Prop
 | refl (v : Nat) : Conn E v v
 | tail {u v w : Nat} : Conn E u v → (E v w ∨ E w v) → Conn E u w
end Go.Proofs.Ytlhmljngjdfbpaa.Pure
end
section
set_option linter.unusedSimpArgs false
set_option linter.unusedVariables false
set_option linter.unusedSectionVars false
namespace Go.Proofs.Ytlhmljngjdfbpaa.Pure
open Go.RowKit Go.Proofs.Ytlhmljngjdfbpaa.Pr Go.Proofs.YtlhmljngjdfbpaaW.PrintWords Go.Proofs.YtlhmljngjdfbpaaW.PrintLast Go.Proofs.YtlhmljngjdfbpaaW.PrintMore
open Go.Proofs.Ytlhmljngjdfbpaa.Fl (ud vis1 vis2 vis visAll bfs Tr Way Fit ap dl net cut Shut sm)
def frF (l : List Arc) (i : Nat) : Nat:=(arc l i).f0.toNat
def twF (l : List Arc) (i : Nat) : Nat:=(arc l i).f1.toNat
def capF (l : List Arc) (i : Nat) : Int:=(arc l i).f4
def iL (L : List Nat) : List Int:=L.map fun v => ((v : Nat) : Int)
theorem iL_len (L : List Nat) : (iL L).length = L.length:=by simp [iL]
theorem iL_snoc (L : List Nat) (v : Nat) : iL L ++ [((v : Nat) : Int)] = iL (L ++ [v]):=by simp [iL]
theorem iL_rd {L : List Nat} {h : Nat} (hh : h < L.length) : rd (iL L) (h : Int) = ((L[h] : Nat) : Int):=by
 rw [rdg,nth_get (by rw [iL_len]; exact hh)];simp [iL]
theorem set_ud (n : Nat) (F : Nat → Int) (a : Nat) (x : Int) : (lst n F).set a x = lst n (ud F a x):=lst_set F x
section
variable {N : Nat} {l : List Arc} (hg : NetGood N l)
include hg
theorem arcF {i : Nat} (h : i < l.length) : (((frF l i : Nat) : Int) = (arc l i).f0 ∧ frF l i < N) ∧ (((twF l i : Nat) : Int) = (arc l i).f1 ∧ twF l i < N) ∧ (0 ≤ capF l i ∧ capF l i ≤ 9):=by
 have:=hg.ok i h
 unfold frF twF capF
 omega
variable {f : Nat → Int} {s t : Nat} (hs : s < N) (ht : t < N)
include hs ht
abbrev GoodF (N : Nat) (l : List Arc) (f : Nat → Int) (s : Nat) (st : Fl.St) : Prop:=Fl.Good l.length (frF l) (twF l) (capF l) f s N st
abbrev visF (l : List Arc) (f : Nat → Int) (u i : Nat) (st : Fl.St) : Fl.St:=vis (frF l) (twF l) (capF l) f u i st
theorem good_len {st : Fl.St} (h : GoodF N l f s st) : st.2.length ≤ 8:=by
 have:=Sp.nodup_len N st.2 h.1.nodup h.2;have:=hg.n8;omega
theorem hfF : ∀ i,i < l.length → frF l i < N:=fun i hi => (arcF hg hi).1.2
theorem htF : ∀ i,i < l.length → twF l i < N:=fun i hi => (arcF hg hi).2.1.2
omit hg hs ht in
theorem back_w {i : Nat} (h : i < 100) : wrap64 ((wrap64 (-(i : Int))) - 1) = -(i : Int) - 1:=by
 rw [w64 (n:=-(i : Int)) (by omega) (by omega),w64 (by omega) (by omega)]
omit hg hs ht in
theorem next_w {i : Nat} (h : i < 100) : wrap64 ((i : Int) + 1) = (i : Int) + 1:=w64 (by omega) (by omega)
omit hg hs ht in
theorem short_w {L : List Nat} (h : L.length ≤ 100) : (iL L).length < 17592186044416:=by rw [iL_len]; omega
def come (N : Nat) (l : List Arc) (f : Nat → Int) (s : Nat) : Fl.St:=bfs (frF l) (twF l) (capF l) f l.length N 0 ((fun _ => 0),[s])
omit ht in
theorem start_good : GoodF N l f s ((fun _ => 0),[s]):=⟨Fl.Tr.start,fun v hv => by rw [List.mem_singleton.1 hv]; exact hs⟩
theorem come_good : GoodF N l f s (come N l f s) ∧ ∀ u ∈ (come N l f s).2,Fl.Shut l.length (frF l) (twF l) (capF l) f (come N l f s).2 u 0 l.length :=
 Fl.bfs_good (hfF hg hs ht) (htF hg hs ht) N 0 _ (start_good hg hs) (by omega) (fun u hu => by simp at hu)
theorem come_way (h : t ∈ (come N l f s).2) : ∃ P,Fl.Way (frF l) (twF l) s (come N l f s).1 t P ∧ (P.map Prod.fst).Nodup ∧ ∀ x ∈ P,Fl.Fit l.length (capF l) f x:=by
 obtain ⟨p,q,e⟩:=List.append_of_mem h;obtain ⟨P,w,hn,hP⟩:=(come_good hg hs ht).1.1.way p.length p t q (Nat.le_refl _) e;exact ⟨P,w,hn,fun x hx => (hP x hx).1⟩
end
inductive Aug (N : Nat) (l : List Arc) (s t : Nat) : (Nat → Int) → (Nat → Int) → Prop
 | stop {f : Nat → Int} : t ∉ (come N l f s).2 → Aug N l s t f f
 | more {f g : Nat → Int} {P : List (Nat × Bool)} : t ∈ (come N l f s).2 → Fl.Way (frF l) (twF l) s (come N l f s).1 t P → (P.map Prod.fst).Nodup → (∀ x ∈ P,Fl.Fit l.length (capF l) f x) → Aug N l s t (ap f P) g → Aug N l s t f g
structure FlowI (N : Nat) (l : List Arc) (s t : Nat) (f : Nat → Int) : Prop where
 fits : ∀ i,i < l.length → 0 ≤ f i ∧ f i ≤ capF l i
 even : ∀ v,v < N → v ≠ s → v ≠ t → Fl.net l.length (frF l) (twF l) f v = 0
section
variable {N : Nat} {l : List Arc} (hg : NetGood N l) {s t : Nat} (hs : s < N) (ht : t < N) (hne : s ≠ t)
include hg hs ht hne
theorem flow_ap {f : Nat → Int} (h : FlowI N l s t f) {b : Nat → Int} {P : List (Nat × Bool)} (w : Fl.Way (frF l) (twF l) s b t P) (hn : (P.map Prod.fst).Nodup) (hf : ∀ x ∈ P,Fl.Fit l.length (capF l) f x) : FlowI N l s t (ap f P) ∧ Fl.net l.length (frF l) (twF l) (ap f P) s = Fl.net l.length (frF l) (twF l) f s + 1:=by
 have hnet:=Fl.ap_net w f (fun x hx => (hf x hx).1);refine ⟨⟨Fl.ap_fit P f hn hf h.fits,fun v hv h1 h2 => ?_⟩,?_⟩
 ·rw [hnet,h.even v hv h1 h2,if_neg (fun e => h1 e.symm),if_neg (fun e => h2 e.symm)]; rfl
 ·rw [hnet,if_pos rfl,if_neg (fun e => hne e.symm)]; rfl
theorem flow_le {f : Nat → Int} (h : FlowI N l s t f) : Fl.net l.length (frF l) (twF l) f s ≤ Fl.cut l.length (frF l) (twF l) (capF l) (fun v => v == s) :=
 Fl.value_le (hfF hg hs ht) (htF hg hs ht) h.fits hs h.even _ (by simp) (by simp; exact fun e => hne e.symm)
theorem aug_ex : ∀ (m : Nat) (f : Nat → Int),FlowI N l s t f → Fl.cut l.length (frF l) (twF l) (capF l) (fun v => v == s) - Fl.net l.length (frF l) (twF l) f s ≤ (m : Int) → ∃ g,Aug N l s t f g:=by
 intro m
 induction m with
 | zero =>
  intro f h hm
  by_cases c : t ∈ (come N l f s).2
  case neg => exact ⟨f,.stop c⟩
  obtain ⟨P,w,hn,hf⟩:=come_way hg hs ht c;have h1:=flow_ap hg hs ht hne h w hn hf;have h2:=flow_le hg hs ht hne h1.1;omega
 | succ m ih =>
  intro f h hm
  by_cases c : t ∈ (come N l f s).2
  case neg => exact ⟨f,.stop c⟩
  obtain ⟨P,w,hn,hf⟩:=come_way hg hs ht c;have h1:=flow_ap hg hs ht hne h w hn hf;obtain ⟨g,hg2⟩:=ih (ap f P) h1.1 (by omega);exact ⟨g,.more c w hn hf hg2⟩
theorem flow_zero : FlowI N l s t (fun _ => 0):=by
 refine ⟨fun i hi => ?_,fun v hv _ _ => ?_⟩
 ·have:=(arcF hg hi).2.2;omega
 ·unfold Fl.net
  have e : (fun i => (if frF l i = v then (0 : Int) else 0) - (if twF l i = v then (0 : Int) else 0)) = fun _ => 0:=by
   funext i
   split <;> split <;> rfl
  rw [e,Fl.sm_zero]
theorem aug_zero : ∃ g,Aug N l s t (fun _ => 0) g:=by
 have h0:=flow_zero hg hs ht hne;exact aug_ex hg hs ht hne _ _ h0 (Int.self_le_toNat _)
end
end Go.Proofs.Ytlhmljngjdfbpaa.Pure
end
section
set_option linter.unusedSimpArgs false
set_option linter.unusedVariables false
set_option linter.unusedSectionVars false
namespace Go.Proofs.Ytlhmljngjdfbpaa.Pure
open Go.RowKit Go.Proofs.Ytlhmljngjdfbpaa.Pr Go.Proofs.YtlhmljngjdfbpaaW.PrintWords Go.Proofs.YtlhmljngjdfbpaaW.PrintLast Go.Proofs.YtlhmljngjdfbpaaW.PrintMore
open Go.Proofs.Ytlhmljngjdfbpaa.Fl (ud net cut sm)
section
variable {N : Nat} {l : List Arc} (hg : NetGood N l)
include hg
variable {s t : Nat} (hs : s < N) (ht : t < N) (hne : s ≠ t)
include hs ht hne
end
end Go.Proofs.Ytlhmljngjdfbpaa.Pure
end
section
set_option linter.unusedSimpArgs false
set_option linter.unusedVariables false
set_option linter.unusedVariables false
end
section
set_option linter.unusedSimpArgs false
set_option linter.unusedVariables false
set_option linter.unusedSectionVars false
namespace Go.Proofs.Ytlhmljngjdfbpaa.Pure
open Go.RowKit Go.Proofs.Ytlhmljngjdfbpaa.Pr Go.Proofs.YtlhmljngjdfbpaaW.PrintWords Go.Proofs.YtlhmljngjdfbpaaW.PrintLast Go.Proofs.YtlhmljngjdfbpaaW.PrintMore
open Go.Proofs.Ytlhmljngjdfbpaa.Fl (ud net cut sm)
section
variable {N : Nat} {l : List Arc} (hg : NetGood N l)
include hg
end
section
variable {N : Nat} {l : List Arc} (hg : NetGood N l) {s t : Nat} (hs : s < N) (ht : t < N) (hne : s ≠ t)
include hg hs ht hne
end
end Go.Proofs.Ytlhmljngjdfbpaa.Pure
end
section
set_option linter.unusedSimpArgs false
set_option linter.unusedVariables false
set_option linter.unusedSectionVars false
namespace Go.Proofs.Ytlhmljngjdfbpaa.Pure
open Go.RowKit Go.Proofs.Ytlhmljngjdfbpaa.Pr Go.Proofs.YtlhmljngjdfbpaaW.PrintWords Go.Proofs.YtlhmljngjdfbpaaW.PrintLast Go.Proofs.YtlhmljngjdfbpaaW.PrintMore
open Go.Proofs.Ytlhmljngjdfbpaa.Fl (ud vis1 vis2 vis visAll bfs Tr Fit ap dl net cut Shut sm)
abbrev Stp:=S103
def dec (b : Int) : Int × Bool:=if 0 < b then (b - 1,true) else (-b - 1,false)
theorem dec_pos (i : Nat) : dec ((i : Int) + 1) = ((i : Int),true):=by
 unfold dec
 rw [if_pos (by omega),show (i : Int) + 1 - 1 = i by omega]
theorem dec_neg (i : Nat) : dec (-(i : Int) - 1) = ((i : Int),false):=by
 unfold dec
 rw [if_neg (by omega),show -(-(i : Int) - 1) - 1 = i by omega]
theorem iL_mem {L : List Nat} {v : Nat} : ((v : Nat) : Int) ∈ iL L ↔ v ∈ L:=by
 simp only [iL,List.mem_map];constructor
 ·rintro ⟨u,h,e⟩;rw [← Int.ofNat_inj.1 e];exact h
 ·exact fun h => ⟨v,h,rfl⟩
structure Rl (s : Nat) (x : StA) (st : Fl.St) : Prop where
 list : x.2 = iL st.2
 at_ : ∀ v ∈ st.2,v ≠ s → x.1 ((v : Nat) : Int) = dec (st.1 v)
section
variable {N : Nat} {l : List Arc} (hg : NetGood N l)
include hg
variable {f : Nat → Int} {s t : Nat} (hs : s < N) (ht : t < N)
include hs ht
theorem put_rl {x : StA} {st : Fl.St} (r : Rl s x st) (h : GoodF N l f s st) {v : Nat} (hv : v < N) (b : Int) : ∃ x',putA x ((v : Nat) : Int) (dec b) = some x' ∧ Rl s x' (if v ∉ st.2 then (ud st.1 v b,st.2 ++ [v]) else st):=by
 have h8:=hg.n8;have hl:=good_len hg hs ht h
 unfold putA
 rw [r.list,if_pos (by rw [iL_len]; omega)]
 by_cases c : v ∈ st.2
 case pos =>
  rw [if_pos (iL_mem.2 c),if_neg (fun h => h c)];exact ⟨x,rfl,r⟩
 rw [if_neg (fun h => c (iL_mem.1 h)),if_pos (by omega),if_pos c];refine ⟨_,rfl,⟨iL_snoc _ _,fun w hw hne => ?_⟩⟩
 by_cases e : w = v
 case pos =>
  subst e
  show (if ((w : Nat) : Int) = ((w : Nat) : Int) then dec b else x.1 _) = dec (ud st.1 w b w)
  rw [if_pos rfl,Fl.ud_at]
 show (if ((w : Nat) : Int) = ((v : Nat) : Int) then dec b else x.1 _) = dec (ud st.1 v b w)
 rw [if_neg (fun h => e (Int.ofNat_inj.1 h)),Fl.ud_off _ _ e]
 rcases List.mem_append.1 hw with h1 | h1
 ·exact r.at_ w h1 hne
 ·exact absurd (List.mem_singleton.1 h1) e
theorem arc_rl {x : StA} {st : Fl.St} (r : Rl s x st) (h : GoodF N l f s st) {i u : Nat} (hi : i < l.length) (hu : u ∈ st.2) : ∃ x',arcA l (lst l.length f) (u : Int) i x = some x' ∧ Rl s x' (visF l f u i st):=by
 have ha:=arcF hg hi;obtain ⟨g1,⟨x1,e1⟩⟩:=Fl.vis1_good (hfF hg hs ht) (htF hg hs ht) h (u:=u) (i:=i) hu hi;have hrd : rd (lst l.length f) (i : Int) = f i:=lst_rd _ hi
 unfold arcA
 rw [rda,← ha.1.1,← ha.2.1.1,hrd,lst_len];have one : ∃ x',(if ((frF l i : Nat) : Int) = (u : Int) then (if i < l.length then (if f i < (arc l i).f4 then putA x ((twF l i : Nat) : Int) ((i : Int),true) else some x) else none) else some x) = some x' ∧ Rl s x' (vis1 (frF l) (twF l) (capF l) f u i st):=by
  unfold vis1
  by_cases c1 : frF l i = u
  case neg =>
   rw [if_neg (fun h => c1 (Int.ofNat_inj.1 h)),if_neg (fun h => c1 h.1)];exact ⟨x,rfl,r⟩
  rw [if_pos (by rw [c1]),if_pos hi]
  by_cases c2 : f i < capF l i
  case neg =>
   rw [if_neg (show ¬ f i < (arc l i).f4 from c2),if_neg (fun h => c2 h.2.1)];exact ⟨x,rfl,r⟩
  rw [if_pos (show f i < (arc l i).f4 from c2),← dec_pos];obtain ⟨x',p,q⟩:=put_rl hg hs ht r h ha.2.1.2 ((i : Int) + 1);refine ⟨x',p,?_⟩
  by_cases c3 : twF l i ∉ st.2
  case pos => rw [if_pos ⟨c1,c2,c3⟩]; rw [if_pos c3] at q; exact q
  rw [if_neg (fun h => c3 h.2.2)]; rw [if_neg c3] at q; exact q
 obtain ⟨x',p,q⟩:=one;rw [p,Option.bind_some]
 show ∃ x'',_ = some x'' ∧ Rl s x'' (vis2 (frF l) (twF l) f u i (vis1 (frF l) (twF l) (capF l) f u i st))
 unfold vis2
 by_cases c1 : twF l i = u
 case neg =>
  rw [if_neg (fun h => c1 (Int.ofNat_inj.1 h)),if_neg (fun h => c1 h.1)];exact ⟨x',rfl,q⟩
 rw [if_pos (by rw [c1]),if_pos hi]
 by_cases c2 : 0 < f i
 case neg =>
  rw [if_neg (show ¬ f i > 0 from c2),if_neg (fun h => c2 h.2.1)];exact ⟨x',rfl,q⟩
 rw [if_pos (show f i > 0 from c2),← dec_neg];obtain ⟨x2,p,q⟩:=put_rl hg hs ht q g1 ha.1.2 (-(i : Int) - 1);refine ⟨x2,p,?_⟩
 by_cases c3 : frF l i ∉ (vis1 (frF l) (twF l) (capF l) f u i st).2
 case pos => rw [if_pos ⟨c1,c2,c3⟩]; rw [if_pos c3] at q; exact q
 rw [if_neg (fun h => c3 h.2.2)]; rw [if_neg c3] at q; exact q
theorem row_rl {u : Nat} : ∀ (d i : Nat) (x : StA) (st : Fl.St),i + d = l.length → Rl s x st → GoodF N l f s st → u ∈ st.2 → ∃ x',rowA l (lst l.length f) (u : Int) d x = some x' ∧ Rl s x' (visAll (frF l) (twF l) (capF l) f u i d st)
 | 0,i,x,st,_,r,_,_ => ⟨x,rfl,r⟩
 | d + 1,i,x,st,hd,r,h,hu => by
  obtain ⟨x1,p,q⟩:=arc_rl hg hs ht r h (i:=i) (by omega) hu;obtain ⟨g2,⟨y,e⟩,_⟩:=Fl.vis_good (hfF hg hs ht) (htF hg hs ht) h (u:=u) (i:=i) hu (by omega);obtain ⟨x2,p2,q2⟩:=row_rl d (i + 1) x1 _ (by omega) q g2 (by rw [e]; exact List.mem_append_left _ hu);refine ⟨x2,?_,q2⟩
  show (arcA l (lst l.length f) (u : Int) (l.length - (d + 1)) x).bind _ = _
  rw [show l.length - (d + 1) = i by omega,p];exact p2
theorem bfs_rl : ∀ (d q : Nat) (x : StA) (st : Fl.St),N ≤ d + q → Rl s x st → GoodF N l f s st → ∃ x',Ev (fun k => bfsA l (lst l.length f) k q x) x' ∧ Rl s x' (bfs (frF l) (twF l) (capF l) f l.length d q st):=by
 intro d
 induction d with
 | zero =>
  intro q x st hd r h;have:=Sp.nodup_len N st.2 h.1.nodup h.2;refine ⟨x,Ev.go ?_ (fun k => by rw [bfsA]),r⟩;exact Ev.neg (by rw [r.list,iL_len]; omega) (Ev.now _)
 | succ d ih =>
  intro q x st hd r h
  by_cases hq : q < st.2.length
  case neg =>
   refine ⟨x,Ev.go ?_ (fun k => by rw [bfsA]),?_⟩
   ·exact Ev.neg (by rw [r.list,iL_len]; exact hq) (Ev.now _)
   ·simp only [bfs];rw [dif_neg hq];exact r
  have hm:=List.getElem_mem hq;obtain ⟨x1,p1,r1⟩:=row_rl hg hs ht l.length 0 x st (by omega) r h hm;obtain ⟨g2,_,_⟩:=Fl.visAll_good (hfF hg hs ht) (htF hg hs ht) l.length 0 st h hm (by omega);obtain ⟨x2,p2,r2⟩:=ih (q + 1) x1 _ (by omega) r1 g2;refine ⟨x2,Ev.go ?_ (fun k => by rw [bfsA]),?_⟩
  ·refine Ev.pos (by rw [r.list,iL_len]; exact hq) ?_;rw [r.list,iL_rd hq];exact Ev.bind0 p1 p2
  ·simp only [bfs];rw [dif_pos hq];exact r2
def stepOf (x : Nat × Bool) : Stp:=⟨(x.1 : Int),x.2⟩
omit ht in
theorem way_rl {x : StA} {st : Fl.St} (r : Rl s x st) (hno : ∀ v,v ∉ st.2 ∨ v = s → st.1 v = 0) {v : Nat} {P : List (Nat × Bool)} (w : Fl.Way (frF l) (twF l) s st.1 v P) : ∀ (out : List Stp),v < N → (∀ y ∈ P,y.1 < l.length) → out.length + P.length ≤ 1000 → Ev (fun k => pathA l x.1 (s : Int) k (v : Int) out) (out ++ P.map stepOf):=by
 have h8:=hg.n8;have hx : ∀ v,v ≠ s → st.1 v ≠ 0 → x.1 ((v : Nat) : Int) = dec (st.1 v):=fun v h1 h2 =>
  r.at_ v (Classical.byContradiction fun h3 => h2 (hno v (.inl h3))) h1
 induction w with
 | nil =>
  intro out hv hP hlen;refine Ev.go ?_ (fun k => by rw [pathA]);exact Ev.pos rfl (Ev.is (by simp))
 | @fwd v i P hne eb e w ih =>
  intro out hv hP hlen;have hi:=hP _ (List.mem_cons_self ..);have ha:=arcF hg hi;have hd : x.1 ((v : Nat) : Int) = ((i : Int),true):=by rw [hx v hne (by rw [eb]; omega),eb,dec_pos]
  rw [List.length_cons] at hlen;have:=ih (out ++ [stepOf (i,true)]) ha.1.2 (fun y hy => hP y (List.mem_cons_of_mem _ hy)) (by rw [List.length_append,List.length_singleton]; omega);refine Ev.go ?_ (fun k => by rw [pathA]);refine Ev.neg (fun h => hne (Int.ofNat_inj.1 h)) (Ev.pos (by omega) (Ev.pos (by omega) ?_));rw [hd];refine Ev.pos ⟨Int.natCast_nonneg _,Int.ofNat_lt.2 hi⟩ ?_;rw [if_pos rfl,rda,← ha.1.1];rw [List.append_assoc] at this;exact this
 | @bck v i P hne eb e w ih =>
  intro out hv hP hlen;have hi:=hP _ (List.mem_cons_self ..);have ha:=arcF hg hi;have hd : x.1 ((v : Nat) : Int) = ((i : Int),false):=by rw [hx v hne (by rw [eb]; omega),eb,dec_neg]
  rw [List.length_cons] at hlen;have:=ih (out ++ [stepOf (i,false)]) ha.2.1.2 (fun y hy => hP y (List.mem_cons_of_mem _ hy)) (by rw [List.length_append,List.length_singleton]; omega);refine Ev.go ?_ (fun k => by rw [pathA]);refine Ev.neg (fun h => hne (Int.ofNat_inj.1 h)) (Ev.pos (by omega) (Ev.pos (by omega) ?_));rw [hd];refine Ev.pos ⟨Int.natCast_nonneg _,Int.ofNat_lt.2 hi⟩ ?_;rw [if_neg (by simp),rda,← ha.2.1.1];rw [List.append_assoc] at this;exact this
theorem augI_ev (R : List Stp × Bool) (h1 : t ∉ (come N l f s).2 → R = ([],false)) (h2 : t ∈ (come N l f s).2 → ∃ P,Fl.Way (frF l) (twF l) s (come N l f s).1 t P ∧ (P.map Prod.fst).Nodup ∧ (∀ x ∈ P,Fit l.length (capF l) f x) ∧ R = (P.map stepOf,true)) : Ev (fun k => impl_Net_augment.f k (N : Int) l (lst l.length f) (s : Int) (t : Int)) R:=by
 have h16:=hg.len
 unfold impl_Net_augment.f
 have r0 : Rl s ((fun _ => (0,false)),[((s : Nat) : Int)]) ((fun _ => 0),[s]):=⟨rfl,fun v hv hne => absurd (List.mem_singleton.1 hv) hne⟩
 obtain ⟨x,hx,r⟩:=bfs_rl hg hs ht (f:=f) N 0 _ _ (by omega) r0 (start_good hg hs);have hc:=(come_good hg hs ht (f:=f)).1;refine Ev.bind hx ?_;rw [r.list]
 by_cases c : t ∈ (come N l f s).2
 case neg =>
  rw [h1 c];exact Ev.neg (fun h => c (iL_mem.1 h)) (Ev.now _)
 obtain ⟨P,w,hn,hf,rfl⟩:=h2 c;have hlen:=Sp.nodup_len l.length (P.map Prod.fst) hn (fun y hy => by
  obtain ⟨z,hz,e⟩:=List.mem_map.1 hy;rw [← e];exact (hf z hz).1)
 rw [List.length_map] at hlen;refine Ev.pos (iL_mem.2 c) (Ev.bind (way_rl hg hs r hc.1.none w [] ht (fun y hy => (hf y hy).1) (by rw [List.length_nil]; omega)) ?_);rw [List.nil_append];exact Ev.now _
theorem add_ev {R : List Int} : ∀ (P : List (Nat × Bool)) (A : List (Nat × Bool)) (g : Nat → Int),(A ++ P).length ≤ 16 → (P.map Prod.fst).Nodup → (∀ x ∈ P,Fit l.length (capF l) g x) → (∀ i,i < l.length → 0 ≤ g i ∧ g i ≤ capF l i) → Ev (fun k => impl_FlowOf.l0 k (s : Int) (t : Int) (lst l.length (ap g P)) (N : Int) l) R → Ev (fun k => impl_FlowOf.l1 k (s : Int) (t : Int) (lst l.length g) ((A ++ P).map stepOf) (((A ++ P).length : Nat) : Int) (A.length : Int) (N : Int) l) R:=by
 intro P
 induction P with
 | nil =>
  intro A g hl hn hf hb hk;refine Ev.go ?_ (fun k => by rw [impl_FlowOf.l1]);exact Ev.neg (by simp) hk
 | cons x P ih =>
  intro A g hl hn hf hb hk;have hfi:=hf _ (List.mem_cons_self ..);have hi : x.1 < l.length:=hfi.1;have ha:=arcF hg hi;have hgi:=hb _ hi;have hlA : A.length < (A ++ x :: P).length:=by simp
  rw [List.map_cons,List.nodup_cons] at hn;have hstep:=Fl.ap_fit (m:=l.length) (cap:=capF l) [x] g (by simp) (fun y hy => by rw [List.mem_singleton.1 hy]; exact hfi) hb;have hrow : rd_T103 ((A ++ x :: P).map stepOf) (A.length : Int) = stepOf x:=by simp [rd_T103]
  have hgr : rd (lst l.length g) ((x.1 : Nat) : Int) = g x.1:=lst_rd _ hi;have ih:=ih (A ++ [x]) (ud g x.1 (g x.1 + dl x.2)) (by rw [List.append_assoc]; exact hl) hn.2 (fun y hy => by
   have hx2:=hf y (List.mem_cons_of_mem _ hy);have hne : y.1 ≠ x.1:=fun e => hn.1 (by rw [← e]; exact List.mem_map_of_mem hy)
   unfold Fl.Fit at hx2 ⊢
   rw [Fl.ud_off _ _ hne];exact hx2) hstep hk
  rw [show A ++ [x] ++ P = A ++ x :: P by simp,show (A ++ [x]).length = A.length + 1 by simp] at ih;refine Ev.go ?_ (fun k => by rw [impl_FlowOf.l1]);rw [hrow,up1 hlA (by simp only [maxLen]; omega)];refine Ev.pos (Int.ofNat_lt.2 hlA) (Ev.pos (Int.natCast_nonneg _) (Ev.pos (by rw [List.length_map]; exact Int.ofNat_lt.2 hlA) ?_));simp only [stepOf];rw [hgr,Int.toNat_natCast,lst_len]
  rcases Bool.eq_false_or_eq_true x.2 with hd | hd
  ·rw [hd] at ih;refine Ev.pos hd (Ev.pos (Int.natCast_nonneg _) (Ev.pos (Int.ofNat_lt.2 hi) ?_));rw [w64 (by omega) (by omega),set_ud];exact ih
  ·rw [hd] at ih;refine Ev.neg (by rw [hd]; simp) (Ev.pos (Int.natCast_nonneg _) (Ev.pos (Int.ofNat_lt.2 hi) ?_));rw [w64 (by omega) (by omega),set_ud];exact ih
end
section
variable {N : Nat} {l : List Arc} (hg : NetGood N l) {s t : Nat} (hs : s < N) (ht : t < N) (hne : s ≠ t)
include hg hs ht hne
theorem implAug_ev {f g : Nat → Int} (h : Aug N l s t f g) : FlowI N l s t f → Ev (fun k => impl_FlowOf.l0 k (s : Int) (t : Int) (lst l.length f) (N : Int) l) (lst l.length g):=by
 induction h with
 | @stop f c =>
  intro h;refine Ev.go ?_ (fun k => by rw [impl_FlowOf.l0]);exact Ev.bind (augI_ev hg hs ht ([],false) (fun _ => rfl) (fun h => absurd h c)) (Ev.neg (by simp) (Ev.now _))
 | @more f g P c w hn hf _ ih =>
  intro h;have hlen:=Sp.nodup_len l.length (P.map Prod.fst) hn (fun y hy => by
   obtain ⟨z,hz,e⟩:=List.mem_map.1 hy;rw [← e];exact (hf z hz).1)
  rw [List.length_map] at hlen;have h16:=hg.len;have hi:=ih (flow_ap hg hs ht hne h w hn hf).1;have ha:=add_ev hg hs ht P [] f (by rw [List.nil_append]; omega) hn hf h.fits hi;rw [List.nil_append] at ha;refine Ev.go ?_ (fun k => by rw [impl_FlowOf.l0]);refine Ev.bind (augI_ev hg hs ht (P.map stepOf,true) (fun h => absurd c h) (fun _ => ⟨P,w,hn,hf,rfl⟩)) (Ev.pos rfl ?_);rw [List.length_map];exact ha
theorem implFlowOf_ev {g : Nat → Int} (h : Aug N l s t (fun _ => 0) g) : Ev (fun k => impl_FlowOf.f k (N : Int) l (s : Int) (t : Int)) (lst l.length g):=by
 have h16:=hg.len;have hb : (netOkB (N : Int) l && (okN (N : Int) (s : Int) && (okN (N : Int) (t : Int) && ((s : Int) != (t : Int))))) = true:=by
  rw [(netOkB_iff _ _).2 hg];simp only [okN,Bool.true_and,Bool.and_eq_true,decide_eq_true_eq,bne_iff_ne];omega
 have ez : List.replicate (((l.length : Int)) : Int).toNat (0 : Int) = lst l.length (fun _ => 0):=by
  apply List.ext_getElem (by simp [lst])
  intro i h1 h2;simp [lst]
 unfold impl_FlowOf.f
 refine Ev.bind0 (apart_eq _ _ _ _) (Ev.pos hb (Ev.pos (by omega) (Ev.pos (by omega) ?_)));rw [ez];exact implAug_ev hg hs ht hne h (flow_zero hg hs ht hne)
end
end Go.Proofs.Ytlhmljngjdfbpaa.Pure
end
section
set_option linter.unusedSimpArgs false
set_option linter.unusedVariables false
set_option linter.unusedSectionVars false
namespace Go.Proofs.Ytlhmljngjdfbpaa.Pure
open Go.RowKit Go.Proofs.Ytlhmljngjdfbpaa.Pr Go.Proofs.YtlhmljngjdfbpaaW.PrintWords Go.Proofs.YtlhmljngjdfbpaaW.PrintLast Go.Proofs.YtlhmljngjdfbpaaW.PrintMore
open Go.Proofs.Ytlhmljngjdfbpaa.Fl (ud vis1 vis2 vis visAll bfs Tr Way Fit ap dl net cut Shut sm)
section
variable {N : Nat} {l : List Arc} (hg : NetGood N l)
include hg
variable {f : Nat → Int} {s t : Nat} (hs : s < N) (ht : t < N)
include hs ht
theorem half2 {R : List Int × Bool} {st : Fl.St} (h : GoodF N l f s st) {i q u : Nat} (hi : i < l.length) (hq : q < st.2.length) (hu : rd (iL st.2) (q : Int) = (u : Int)) (hn : Ev (fun k => spec_l25Push.l2 k (lst l.length f) (s : Int) (t : Int) (lst N (vis2 (frF l) (twF l) f u i st).1) (iL (vis2 (frF l) (twF l) f u i st).2) (q : Int) ((i : Int) + 1) (N : Int) l) R) :
  Ev (fun k => if 0 ≤ (q : Int) then (if (q : Int) < ((iL st.2).length : Int) then (if ((twF l i : Nat) : Int) = (rd (iL st.2) (q : Int)) then (if 0 ≤ (i : Int) then (if (i : Int) < (l.length : Int) then (if (rd (lst l.length f) (i : Int)) > 0 then (if 0 ≤ ((frF l i : Nat) : Int) then (if ((frF l i : Nat) : Int) < (N : Int) then (if (rd (lst N st.1) ((frF l i : Nat) : Int)) = 0 then (if ((frF l i : Nat) : Int) = (s : Int) then (spec_l25Push.l2 k (lst l.length f) (s : Int) (t : Int) (lst N st.1) (iL st.2) (q : Int) ((i : Int) + 1) (N : Int) l) else (if (iL st.2).length < 17592186044416 then (spec_l25Push.l2 k (lst l.length f) (s : Int) (t : Int) ((lst N st.1).set (frF l i) (-(i : Int) - 1)) (iL st.2 ++ [((frF l i : Nat) : Int)]) (q : Int) ((i : Int) + 1) (N : Int) l) else (none))) else (spec_l25Push.l2 k (lst l.length f) (s : Int) (t : Int) (lst N st.1) (iL st.2) (q : Int) ((i : Int) + 1) (N : Int) l)) else (none)) else (none)) else (spec_l25Push.l2 k (lst l.length f) (s : Int) (t : Int) (lst N st.1) (iL st.2) (q : Int) ((i : Int) + 1) (N : Int) l)) else (none)) else (none)) else (spec_l25Push.l2 k (lst l.length f) (s : Int) (t : Int) (lst N st.1) (iL st.2) (q : Int) ((i : Int) + 1) (N : Int) l)) else (none)) else (none)) R:=by
 have ha:=(arcF hg hi).1.2;have hl8:=good_len hg hs ht h;have hfree:=h.1.free (frF l i);have hb : rd (lst N st.1) ((frF l i : Nat) : Int) = st.1 (frF l i):=lst_rd _ ha;have hfl : rd (lst l.length f) (i : Int) = f i:=lst_rd _ hi;rw [hb,hfl,hu];refine Ev.pos (Int.natCast_nonneg q) (Ev.pos (by rw [iL_len]; exact Int.ofNat_lt.2 hq) ?_)
 unfold vis2 at hn
 by_cases c1 : twF l i = u
 case neg =>
  rw [if_neg (fun h => c1 h.1)] at hn;exact Ev.neg (fun e => c1 (Int.ofNat_inj.1 e)) hn
 refine Ev.pos (by rw [c1]) (Ev.pos (Int.natCast_nonneg i) (Ev.pos (Int.ofNat_lt.2 hi) ?_))
 by_cases c2 : 0 < f i
 case neg =>
  rw [if_neg (fun h => c2 h.2.1)] at hn;exact Ev.neg c2 hn
 refine Ev.pos c2 (Ev.pos (Int.natCast_nonneg _) (Ev.pos (Int.ofNat_lt.2 ha) ?_))
 by_cases c3 : frF l i ∉ st.2
 case pos =>
  rw [if_pos ⟨c1,c2,c3⟩] at hn;obtain ⟨f1,f2⟩:=hfree.2 c3;refine Ev.pos f1 (Ev.neg (fun e => f2 (Int.ofNat_inj.1 e)) (Ev.pos (short_w (Nat.le_trans hl8 (by decide))) ?_));rw [iL_snoc,set_ud];exact hn
 rw [if_neg (fun h => c3 h.2.2)] at hn
 by_cases c4 : st.1 (frF l i) = 0
 case neg => exact Ev.neg c4 hn
 have e : frF l i = s:=Classical.byContradiction (fun e => c3 (hfree.1 ⟨c4,e⟩));exact Ev.pos c4 (Ev.pos (by rw [e]) hn)
theorem arc_step {R : List Int × Bool} {st : Fl.St} (h : GoodF N l f s st) {i q u : Nat} (hi : i < l.length) (hq : q < st.2.length) (hu : rd (iL st.2) (q : Int) = (u : Int)) (hm : u ∈ st.2) (hn : Ev (fun k => spec_l25Push.l2 k (lst l.length f) (s : Int) (t : Int) (lst N (visF l f u i st).1) (iL (visF l f u i st).2) (q : Int) ((i : Int) + 1) (N : Int) l) R) :
  Ev (fun k => spec_l25Push.l2 k (lst l.length f) (s : Int) (t : Int) (lst N st.1) (iL st.2) (q : Int) (i : Int) (N : Int) l) R:=by
 have hfr:=(arcF hg hi).1;have htw:=(arcF hg hi).2.1;have hi100 : i < 100:=Nat.lt_of_lt_of_le hi (Nat.le_trans hg.len (by decide));have hl8:=good_len hg hs ht h;have hfree:=h.1.free (twF l i);have hup:=next_w hi100;have hbw:=back_w hi100;have hb : rd (lst N st.1) ((twF l i : Nat) : Int) = st.1 (twF l i):=lst_rd _ htw.2;have hfl : rd (lst l.length f) (i : Int) = f i:=lst_rd _ hi;obtain ⟨g1,⟨x1,e1⟩⟩:=Fl.vis1_good (hfF hg hs ht) (htF hg hs ht) h (u:=u) (i:=i) hm hi;have hq1 : q < (vis1 (frF l) (twF l) (capF l) f u i st).2.length:=by rw [e1,List.length_append]; exact Nat.lt_of_lt_of_le hq (Nat.le_add_right _ _)
 have hu1 : rd (iL (vis1 (frF l) (twF l) (capF l) f u i st).2) (q : Int) = (u : Int):=by
  rw [← hu,e1,iL_rd hq,iL_rd (by rw [List.length_append]; exact Nat.lt_of_lt_of_le hq (Nat.le_add_right _ _)),List.getElem_append_left hq]
 have hh:=half2 hg hs ht g1 hi hq1 hu1 hn;refine Ev.go ?_ (fun k => by rw [spec_l25Push.l2]);rw [rda,← hfr.1,← htw.1,hu,hfl,hb];refine Ev.pos (Int.ofNat_lt.2 hi) (Ev.pos (Int.natCast_nonneg i) (Ev.pos (Int.natCast_nonneg q) (Ev.pos (by rw [iL_len]; exact Int.ofNat_lt.2 hq) ?_)));have no : ¬ (frF l i = u ∧ f i < capF l i ∧ twF l i ∉ st.2) → Ev (fun k => spec_l25Push.j3 k (lst l.length f) (s : Int) (t : Int) (lst N st.1) (iL st.2) (q : Int) (i : Int) false (N : Int) l ((frF l i : Nat) : Int) ((twF l i : Nat) : Int) (arc l i).f2 (arc l i).f3 (arc l i).f4) R:=by
  intro c;have e : vis1 (frF l) (twF l) (capF l) f u i st = st:=if_neg c;refine Ev.go ?_ (fun k => by rw [spec_l25Push.j3]);rw [e] at hh;simp only [lst_len,hup,hbw,Int.toNat_natCast];exact Ev.neg (by simp) hh
 by_cases c1 : frF l i = u
 case neg => exact Ev.neg (fun e => c1 (Int.ofNat_inj.1 e)) (no (fun h2 => c1 h2.1))
 refine Ev.pos (by rw [c1]) (Ev.pos (by rw [lst_len]; exact Int.ofNat_lt.2 hi) ?_)
 by_cases c2 : f i < capF l i
 case neg => exact Ev.neg c2 (no (fun h2 => c2 h2.2.1))
 refine Ev.pos c2 (Ev.pos (Int.natCast_nonneg _) (Ev.pos (by rw [lst_len]; exact Int.ofNat_lt.2 htw.2) ?_))
 by_cases c3 : st.1 (twF l i) = 0
 case neg => exact Ev.neg c3 (no (fun h2 => c3 (hfree.2 h2.2.2).1))
 refine Ev.pos c3 ?_
 by_cases c4 : twF l i = s
 case pos =>
  have e : (((twF l i : Nat) : Int) != (s : Int)) = false:=by rw [bne_eq_false_iff_eq,c4]
  rw [e];exact no (fun h2 => h2.2.2 (by rw [c4]; exact h.1.root))
 have e : (((twF l i : Nat) : Int) != (s : Int)) = true:=by rw [bne_iff_ne]; exact fun e => c4 (Int.ofNat_inj.1 e)
 rw [e];have hin:=hfree.1 ⟨c3,c4⟩;have e2 : vis1 (frF l) (twF l) (capF l) f u i st = (ud st.1 (twF l i) ((i : Int) + 1),st.2 ++ [twF l i]):=if_pos ⟨c1,c2,hin⟩;refine Ev.go ?_ (fun k => by rw [spec_l25Push.j3]);rw [e2] at hh;refine Ev.pos rfl (Ev.pos (Int.natCast_nonneg _) (Ev.pos (by rw [lst_len]; exact Int.ofNat_lt.2 htw.2) (Ev.bind0 rfl (Ev.pos (short_w (Nat.le_trans hl8 (by decide))) (Ev.bind0 rfl ?_)))));simp only [lst_len,hup,hbw,Int.toNat_natCast,set_ud,iL_snoc];simp only [set_ud,iL_snoc] at hh;exact hh
end
end Go.Proofs.Ytlhmljngjdfbpaa.Pure
end
section
set_option linter.unusedSimpArgs false
set_option linter.unusedVariables false
set_option linter.unusedSectionVars false
namespace Go.Proofs.Ytlhmljngjdfbpaa.Pure
open Go.RowKit Go.Proofs.Ytlhmljngjdfbpaa.Pr Go.Proofs.YtlhmljngjdfbpaaW.PrintWords Go.Proofs.YtlhmljngjdfbpaaW.PrintLast Go.Proofs.YtlhmljngjdfbpaaW.PrintMore
open Go.Proofs.Ytlhmljngjdfbpaa.Fl (ud vis1 vis2 vis visAll bfs ap dl)
section
variable {N : Nat} {l : List Arc} (hg : NetGood N l)
include hg
variable {f : Nat → Int} {s t : Nat} (hs : s < N) (ht : t < N)
include hs ht
theorem row_step {R : List Int × Bool} {q u : Nat} : ∀ (d i : Nat) (st : Fl.St),l.length - i = d → i ≤ l.length → GoodF N l f s st → q < st.2.length → rd (iL st.2) (q : Int) = (u : Int) → u ∈ st.2 → (∀ st' : Fl.St,st' = visAll (frF l) (twF l) (capF l) f u i d st → Ev (fun k => spec_l25Push.l1 k (lst l.length f) (s : Int) (t : Int) (lst N st'.1) (iL st'.2) ((q + 1 : Nat) : Int) (N : Int) l) R) → Ev (fun k => spec_l25Push.l2 k (lst l.length f) (s : Int) (t : Int) (lst N st.1) (iL st.2) (q : Int) (i : Int) (N : Int) l) R:=by
 intro d
 induction d with
 | zero =>
  intro i st hd hi h hq hu hm hn;have hl8:=good_len hg hs ht h;have hq100 : q < 100:=Nat.lt_of_lt_of_le hq (Nat.le_trans hl8 (by decide));refine Ev.go ?_ (fun k => by rw [spec_l25Push.l2]);have hn:=hn st rfl;rw [next_w hq100];exact Ev.neg (fun e => absurd (Int.ofNat_lt.1 e) (by omega)) hn
 | succ d ih =>
  intro i st hd hi h hq hu hm hn;have hlt : i < l.length:=by omega
  refine arc_step hg hs ht h hlt hq hu hm ?_;obtain ⟨g2,⟨x,e⟩,_⟩:=Fl.vis_good (hfF hg hs ht) (htF hg hs ht) h (u:=u) (i:=i) hm hlt;have hq2 : q < (visF l f u i st).2.length:=by rw [e,List.length_append]; exact Nat.lt_of_lt_of_le hq (Nat.le_add_right _ _)
  have hu2 : rd (iL (visF l f u i st).2) (q : Int) = (u : Int):=by
   rw [← hu,e,iL_rd hq,iL_rd (by rw [List.length_append]; exact Nat.lt_of_lt_of_le hq (Nat.le_add_right _ _)),List.getElem_append_left hq]
  exact ih (i + 1) _ (by omega) (by omega) g2 hq2 hu2 (by rw [e]; exact List.mem_append_left _ hm) (fun st' e' => hn st' e')
theorem list_step {R : List Int × Bool} : ∀ (d q : Nat) (st : Fl.St),N ≤ d + q → GoodF N l f s st → (∀ st' : Fl.St,st' = bfs (frF l) (twF l) (capF l) f l.length d q st → GoodF N l f s st' → Ev (fun k => if 0 ≤ (t : Int) then (if (t : Int) < ((lst N st'.1).length : Int) then (if (rd (lst N st'.1) (t : Int)) = 0 then (some (lst l.length f,false)) else ((some (([] : List Int) : List Int)).bind fun y652 => (if y652.length + (lst l.length f).length < 17592186044416 then (spec_l25Push.l3 k (s : Int) (lst N st'.1) (y652 ++ lst l.length f) (t : Int) (N : Int) l) else (none)))) else (none)) else (none)) R) → Ev (fun k => spec_l25Push.l1 k (lst l.length f) (s : Int) (t : Int) (lst N st.1) (iL st.2) (q : Int) (N : Int) l) R:=by
 intro d
 induction d with
 | zero =>
  intro q st hd h hn;have:=Sp.nodup_len N st.2 h.1.nodup h.2;refine Ev.go ?_ (fun k => by rw [spec_l25Push.l1]);exact Ev.neg (by rw [iL_len]; omega) (hn st rfl h)
 | succ d ih =>
  intro q st hd h hn;refine Ev.go ?_ (fun k => by rw [spec_l25Push.l1])
  by_cases hq : q < st.2.length
  case neg =>
   refine Ev.neg (by rw [iL_len]; omega) (hn st ?_ h);simp only [bfs];rw [dif_neg hq]
  refine Ev.pos (by rw [iL_len]; omega) (row_step hg hs ht _ 0 st rfl (Nat.zero_le _) h hq (iL_rd hq) (List.getElem_mem hq) (fun st' e => ?_));obtain ⟨g2,_,_⟩:=Fl.visAll_good (hfF hg hs ht) (htF hg hs ht) l.length 0 st h (List.getElem_mem hq) (by omega);rw [Nat.sub_zero] at e;rw [← e] at g2;refine ih (q + 1) st' (by omega) g2 (fun st2 e2 g3 => hn st2 ?_ g3);rw [e2,e];simp only [bfs];rw [dif_pos hq]
theorem fill_step {R : List Int × Bool} (hn : Ev (fun k => spec_l25Push.l1 k (lst l.length f) (s : Int) (t : Int) (lst N (fun _ => 0)) (iL [s]) 0 (N : Int) l) R) : ∀ (d i : Nat),N - i = d → i ≤ N → Ev (fun k => spec_l25Push.l0 k (lst l.length f) (s : Int) (t : Int) (lst N (fun _ => 0)) (i : Int) (N : Int) l) R:=by
 have h8:=hg.n8;intro d
 induction d with
 | zero =>
  intro i hd hi;refine Ev.go ?_ (fun k => by rw [spec_l25Push.l0]);exact Ev.neg (by omega) hn
 | succ d ih =>
  intro i hd hi;have hlt : i < N:=by omega
  have e : (lst N (fun _ => (0 : Int))).set i 0 = lst N (fun _ => 0):=by
   rw [lst_set];exact lst_congr (fun v _ => by unfold upd; split <;> rfl)
  refine Ev.go ?_ (fun k => by rw [spec_l25Push.l0]);rw [up1 hlt (by simp only [maxLen]; omega),Int.toNat_natCast,e];exact Ev.pos (by omega) (Ev.pos (by omega) (Ev.pos (by rw [lst_len]; omega) (ih (i + 1) (by omega) (by omega))))
omit ht in
theorem way_step {b : Nat → Int} {v : Nat} {P : List (Nat × Bool)} (w : Fl.Way (frF l) (twF l) s b v P) : ∀ (g : Nat → Int),v < N → (P.map Prod.fst).Nodup → (∀ x ∈ P,Fl.Fit l.length (capF l) g x) → (∀ i,i < l.length → 0 ≤ g i ∧ g i ≤ capF l i) → Ev (fun k => spec_l25Push.l3 k (s : Int) (lst N b) (lst l.length g) (v : Int) (N : Int) l) (lst l.length (ap g P),true):=by
 have h16:=hg.len
 induction w with
 | nil =>
  intro g hv hn hf hb;refine Ev.go ?_ (fun k => by rw [spec_l25Push.l3]);exact Ev.pos rfl (Ev.now _)
 | @fwd v i P hne eb e w ih =>
  intro g hv hn hf hb;have hfi:=hf _ (List.mem_cons_self ..);have hi : i < l.length:=hfi.1;have ha:=arcF hg hi;have hgi:=hb i hi;have hbv : rd (lst N b) (v : Int) = (i : Int) + 1:=by rw [lst_rd _ hv,eb]
  have hw : wrap64 ((i : Int) + 1 - 1) = (i : Int):=by rw [w64 (by omega) (by omega)]; omega
  have hgr : rd (lst l.length g) (i : Int) = g i:=lst_rd _ hi;rw [List.map_cons,List.nodup_cons] at hn;have hstep:=Fl.ap_fit (m:=l.length) (cap:=capF l) [(i,true)] g (by simp) (fun x hx => by rw [List.mem_singleton.1 hx]; exact hfi) hb;have ih:=ih (ud g i (g i + 1)) ha.1.2 hn.2 (fun x hx => by
   have hx2:=hf x (List.mem_cons_of_mem _ hx);have hne : x.1 ≠ i:=fun e => hn.1 (by show i ∈ _; rw [← e]; exact List.mem_map_of_mem hx)
   unfold Fl.Fit at hx2 ⊢
   rw [Fl.ud_off _ _ hne];exact hx2) hstep
  refine Ev.go ?_ (fun k => by rw [spec_l25Push.l3]);rw [hbv,hw,hgr,rda,w64 (n:=g i + 1) (by omega) (by omega),Int.toNat_natCast,set_ud,← ha.1.1];exact Ev.neg (fun e => hne (by omega)) (Ev.pos (by omega) (Ev.pos (by rw [lst_len]; omega) (Ev.pos (by omega) (Ev.pos (by omega) (Ev.pos (by rw [lst_len]; omega) (Ev.pos (by omega) ih))))))
 | @bck v i P hne eb e w ih =>
  intro g hv hn hf hb;have hfi:=hf _ (List.mem_cons_self ..);have hi : i < l.length:=hfi.1;have ha:=arcF hg hi;have hgi:=hb i hi;have hbv : rd (lst N b) (v : Int) = -(i : Int) - 1:=by rw [lst_rd _ hv,eb]
  have hw : wrap64 ((wrap64 (-(-(i : Int) - 1))) - 1) = (i : Int):=by
   rw [w64 (n:=-(-(i : Int) - 1)) (by omega) (by omega),w64 (by omega) (by omega)]; omega
  have hgr : rd (lst l.length g) (i : Int) = g i:=lst_rd _ hi;rw [List.map_cons,List.nodup_cons] at hn;have hstep:=Fl.ap_fit (m:=l.length) (cap:=capF l) [(i,false)] g (by simp) (fun x hx => by rw [List.mem_singleton.1 hx]; exact hfi) hb;have ih:=ih (ud g i (g i + -1)) ha.2.1.2 hn.2 (fun x hx => by
   have hx2:=hf x (List.mem_cons_of_mem _ hx);have hne : x.1 ≠ i:=fun e => hn.1 (by show i ∈ _; rw [← e]; exact List.mem_map_of_mem hx)
   unfold Fl.Fit at hx2 ⊢
   rw [Fl.ud_off _ _ hne];exact hx2) hstep
  refine Ev.go ?_ (fun k => by rw [spec_l25Push.l3]);rw [hbv,hw,hgr,rda,w64 (n:=g i - 1) (by omega) (by omega),Int.toNat_natCast,show g i - 1 = g i + -1 by omega,← ha.2.1.1];exact Ev.neg (fun e => hne (by omega)) (Ev.pos (by omega) (Ev.pos (by rw [lst_len]; omega) (Ev.neg (by omega) (Ev.pos (by omega) (Ev.pos (by rw [lst_len]; omega) (Ev.pos (by omega) (by rw [set_ud]; exact ih)))))))
theorem push_ev (hne : s ≠ t) (hb : ∀ i,i < l.length → 0 ≤ f i ∧ f i ≤ capF l i) (R : List Int × Bool) (h1 : t ∉ (come N l f s).2 → R = (lst l.length f,false)) (h2 : t ∈ (come N l f s).2 → ∃ P,Fl.Way (frF l) (twF l) s (come N l f s).1 t P ∧ (P.map Prod.fst).Nodup ∧ (∀ x ∈ P,Fl.Fit l.length (capF l) f x) ∧ R = (lst l.length (ap f P),true)) : Ev (fun k => spec_l25Push.f k (N : Int) l (lst l.length f) (s : Int) (t : Int)) R:=by
 have h8:=hg.n8;have h16:=hg.len
 unfold spec_l25Push.f
 have hz : List.replicate ((N : Int)).toNat (0 : Int) = lst N (fun _ => 0):=by
  apply List.ext_getElem (by simp [lst])
  intro i h1 h2;simp [lst]
 rw [hz];refine Ev.pos (by omega) (Ev.pos (by omega) (fill_step hg hs ht ?_ _ 0 rfl (Nat.zero_le _)));refine list_step hg hs ht N 0 ((fun _ => 0),[s]) (by omega) (start_good hg hs) (fun st' e g => ?_);have e : st' = come N l f s:=e;subst e;have hfr:=g.1.free t;have hbt : rd (lst N (come N l f s).1) (t : Int) = (come N l f s).1 t:=lst_rd _ ht;rw [hbt];refine Ev.pos (by omega) (Ev.pos (by rw [lst_len]; omega) ?_)
 by_cases c : t ∈ (come N l f s).2
 case neg =>
  rw [h1 c];exact Ev.pos (hfr.2 c).1 (Ev.now _)
 obtain ⟨P,w,hn,hf,rfl⟩:=h2 c;refine Ev.neg (fun e => hfr.1 ⟨e,fun e2 => hne e2.symm⟩ c) (Ev.bind0 rfl (Ev.pos (by rw [lst_len,List.length_nil]; omega) ?_));rw [List.nil_append];exact way_step hg hs w f ht hn hf hb
end
section
variable {N : Nat} {l : List Arc} (hg : NetGood N l) {s t : Nat} (hs : s < N) (ht : t < N) (hne : s ≠ t)
include hg hs ht hne
theorem specAug_ev {f g : Nat → Int} (h : Aug N l s t f g) : FlowI N l s t f → Ev (fun k => spec_FlowOf.l0 k (s : Int) (t : Int) (lst l.length f) true (N : Int) l) (lst l.length g):=by
 induction h with
 | @stop f c =>
  intro h;have hp:=push_ev hg hs ht hne h.fits (lst l.length f,false) (fun _ => rfl) (fun h => absurd h c);refine Ev.go ?_ (fun k => by rw [spec_FlowOf.l0]);refine Ev.pos rfl (Ev.bind hp (Ev.go ?_ (fun k => by rw [spec_FlowOf.l0])));exact Ev.neg (by simp) (Ev.now _)
 | @more f g P c w hn hf _ ih =>
  intro h;have hp:=push_ev hg hs ht hne h.fits (lst l.length (ap f P),true) (fun h => absurd c h) (fun _ => ⟨P,w,hn,hf,rfl⟩);refine Ev.go ?_ (fun k => by rw [spec_FlowOf.l0]);exact Ev.pos rfl (Ev.bind hp (ih (flow_ap hg hs ht hne h w hn hf).1))
end
end Go.Proofs.Ytlhmljngjdfbpaa.Pure
end
section
set_option linter.unusedSimpArgs false
set_option linter.unusedVariables false
set_option linter.unusedSectionVars false
namespace Go.Proofs.Ytlhmljngjdfbpaa.Pure
open Go.RowKit Go.Proofs.Ytlhmljngjdfbpaa.Pr Go.Proofs.YtlhmljngjdfbpaaW.PrintWords Go.Proofs.YtlhmljngjdfbpaaW.PrintLast Go.Proofs.YtlhmljngjdfbpaaW.PrintMore
open Classical in
noncomputable def flowF (N : Nat) (l : List Arc) (s t : Nat) : Nat → Int:=if h : ∃ g,Aug N l s t (fun _ => 0) g then Classical.choose h else fun _ => 0
noncomputable def flowOfV (n : Int) (l : List Arc) (a b : Int) : List Int:=if mostB n l a b = true then lst l.length (flowF n.toNat l a.toNat b.toNat) else []
section
variable {N : Nat} {l : List Arc} (hg : NetGood N l) {s t : Nat} (hs : s < N) (ht : t < N) (hne : s ≠ t)
include hg hs ht hne
theorem flowF_aug : Aug N l s t (fun _ => 0) (flowF N l s t):=by
 have h:=aug_zero hg hs ht hne
 unfold flowF
 rw [dif_pos h];exact Classical.choose_spec h
theorem flowOfV_is : flowOfV (N : Int) l (s : Int) (t : Int) = lst l.length (flowF N l s t):=by
 unfold flowOfV
 rw [if_pos ((mostB_iff _ _ _ _).2 ⟨hg,by omega,by omega,fun e => hne (by omega)⟩),Int.toNat_natCast,Int.toNat_natCast,Int.toNat_natCast]
end
theorem flowOfV_len (n : Int) (l : List Arc) (a b : Int) : (flowOfV n l a b).length ≤ 16:=by
 unfold flowOfV
 by_cases h : mostB n l a b = true
 case neg =>
  rw [if_neg h];simp
 have:=((mostB_iff _ _ _ _).1 h).1.len;rw [if_pos h,lst_len];exact this
theorem most_nat {n : Int} {l : List Arc} {a b : Int} (h : mostB n l a b = true) : ∃ N s t : Nat,n = (N : Int) ∧ a = (s : Int) ∧ b = (t : Int) ∧ NetGood (N : Int) l ∧ s < N ∧ t < N ∧ s ≠ t:=by
 obtain ⟨hg,ha,hb,hab⟩:=(mostB_iff _ _ _ _).1 h;obtain ⟨N,rfl⟩ : ∃ N : Nat,n = (N : Int):=⟨n.toNat,by have:=hg.n1; omega⟩
 obtain ⟨s,rfl⟩ : ∃ s : Nat,a = (s : Int):=⟨a.toNat,by omega⟩
 obtain ⟨t,rfl⟩ : ∃ t : Nat,b = (t : Int):=⟨b.toNat,by omega⟩
 exact ⟨N,s,t,rfl,rfl,rfl,hg,by omega,by omega,fun h => hab (by rw [h])⟩
theorem implFlowOfV_ev (n : Int) (l : List Arc) (a b : Int) : Ev (fun k => impl_FlowOf.f k n l a b) (flowOfV n l a b):=by
 by_cases h : mostB n l a b = true
 case pos =>
  obtain ⟨N,s,t,rfl,rfl,rfl,hg,hs,ht,hne⟩:=most_nat h;rw [flowOfV_is hg hs ht hne];exact implFlowOf_ev hg hs ht hne (flowF_aug hg hs ht hne)
 have e : flowOfV n l a b = []:=by unfold flowOfV; rw [if_neg h]
 rw [e]
 unfold impl_FlowOf.f
 refine Ev.bind0 (apart_eq _ _ _ _) (Ev.neg (fun hb => h ?_) (Ev.now _));simp only [Bool.and_eq_true,okN,decide_eq_true_eq,bne_iff_ne] at hb;exact (mostB_iff _ _ _ _).2 ⟨(netOkB_iff _ _).1 hb.1,by omega,by omega,hb.2.2.2⟩
theorem specFlowOfV_ev (n : Int) (l : List Arc) (a b : Int) (hl : l.length ≤ maxLen) : Ev (fun k => spec_FlowOf.f k n l a b) (flowOfV n l a b):=by
 have hno : mostB n l a b ≠ true → Ev (fun k => spec_FlowOf.j0 k a b true n l) (flowOfV n l a b):=by
  intro h;have e : flowOfV n l a b = []:=by unfold flowOfV; rw [if_neg h]
  rw [e];refine Ev.go ?_ (fun k => by rw [spec_FlowOf.j0]);exact Ev.pos rfl (Ev.now _)
 unfold spec_FlowOf.f
 refine Ev.bind (l1Ok_ev n l hl) ?_;cases hk : netOkB n l with
 | false => exact Ev.neg (by simp) (hno (fun h => by have:=(netOkB_iff _ _).2 ((mostB_iff _ _ _ _).1 h).1; rw [hk] at this; cases this))
 | true =>
  have hg:=(netOkB_iff n l).1 hk;refine Ev.pos rfl (Ev.bind0 (in1 _ _ _) ?_);rw [inB_okN hg];cases ha : okN n a with
  | false =>
   refine Ev.neg (by simp) (hno (fun h => ?_));have:=((mostB_iff _ _ _ _).1 h).2.1;have e : okN n a = true:=by simp only [okN,Bool.and_eq_true,decide_eq_true_eq]; omega
   rw [ha] at e; cases e
  | true =>
   refine Ev.pos rfl (Ev.bind0 (in1 _ _ _) ?_);rw [inB_okN hg];cases hb : okN n b with
   | false =>
    refine Ev.neg (by simp) (hno (fun h => ?_));have:=((mostB_iff _ _ _ _).1 h).2.2.1;have e : okN n b = true:=by simp only [okN,Bool.and_eq_true,decide_eq_true_eq]; omega
    rw [hb] at e; cases e
   | true =>
    refine Ev.pos rfl ?_
    by_cases e : a = b
    case pos =>
     rw [show (a == b) = true from beq_iff_eq.2 e];exact hno (fun h => ((mostB_iff _ _ _ _).1 h).2.2.2 e)
    rw [show (a == b) = false from beq_eq_false_iff_ne.2 e];simp only [okN,Bool.and_eq_true,decide_eq_true_eq] at ha hb;have hm : mostB n l a b = true:=(mostB_iff _ _ _ _).2 ⟨hg,by omega,by omega,e⟩;obtain ⟨N,s,t,rfl,rfl,rfl,hg,hs,ht,hne⟩:=most_nat hm;rw [flowOfV_is hg hs ht hne];refine Ev.go ?_ (fun k => by rw [spec_FlowOf.j0]);have h:=specAug_ev hg hs ht hne (flowF_aug hg hs ht hne) (flow_zero hg hs ht hne);have h16:=hg.len;have ez : List.replicate (((l.length : Int)) : Int).toNat (0 : Int) = lst l.length (fun _ => 0):=by
     apply List.ext_getElem (by simp [lst])
     intro i h1 h2;simp [lst]
    rw [ez];exact Ev.neg (by simp) (Ev.pos (by omega) (Ev.pos (by omega) h))
end Go.Proofs.Ytlhmljngjdfbpaa.Pure
end
section
set_option linter.unusedSimpArgs false
set_option linter.unusedVariables false
namespace Go.Proofs.Ytlhmljngjdfbpaa.Pure
open Go.RowKit Go.Proofs.Ytlhmljngjdfbpaa.Pr Go.Proofs.YtlhmljngjdfbpaaW.PrintWords Go.Proofs.YtlhmljngjdfbpaaW.PrintLast Go.Proofs.YtlhmljngjdfbpaaW.PrintMore
def ramp (a : Int) (n : Nat) : List Int:=lst n (fun v => a + v)
theorem markIntS_l (x : List Int) (a : Int) (ha : 0 ≤ a) (hm : a + x.length ≤ 1000000000) : ∀ (m i : Nat),x.length - i = m → i ≤ x.length → Ev (fun k => laws_markIntS.l0 k (lst x.length (fun v => if v < i then a + v else nth x v)) (a + i) (i : Int)) (a + x.length,ramp a x.length):=by
 intro m
 induction m with
 | zero =>
  intro i hd hi;have e : i = x.length:=by omega
  refine Ev.go ?_ (fun k => by rw [laws_markIntS.l0]);refine Ev.neg (by rw [lst_len]; omega) (Ev.is ?_);rw [lst_congr (G:=fun v => a + v) (fun v hv => if_pos (by omega)),e];rfl
 | succ m ih =>
  intro i hd hi;have hlt : i < x.length:=by omega
  have hn:=ih (i + 1) (by omega) (by omega);refine Ev.go ?_ (fun k => by rw [laws_markIntS.l0]);refine Ev.pos (by rw [lst_len]; omega) (Ev.pos (by omega) ?_);rw [up1 hlt (by simp only [maxLen]; omega),w64 (by omega) (by omega)];simp only [Int.toNat_natCast,lst_set];rw [show a + (i : Int) + 1 = a + ((i + 1 : Nat) : Int) by omega,lst_congr (G:=fun v => if v < i + 1 then a + v else nth x v) ?_]
  ·exact hn
  ·intro v hv
   by_cases e : v = i
   case pos => subst e; rw [upd_same,if_pos (Nat.lt_succ_self _)]
   rw [upd_far _ _ e]
   by_cases h : v < i
   case neg => rw [if_neg h,if_neg (by omega)]
   rw [if_pos h,if_pos (by omega)]
theorem markIntS_ev (x : List Int) (a : Int) (ha : 0 ≤ a) (hm : a + x.length ≤ 1000000000) : Ev (fun k => laws_markIntS.f k x a) (a + x.length,ramp a x.length):=by
 unfold laws_markIntS.f
 have:=markIntS_l x a ha hm _ 0 rfl (Nat.zero_le _);rw [lst_congr (G:=nth x) (fun v hv => if_neg (Nat.not_lt_zero v)),lst_of,show a + ((0 : Nat) : Int) = a by omega] at this;exact this
theorem heldIntS_l (a : Int) (n : Nat) (ha : 0 ≤ a) (hm : a + n ≤ 1000000000) : ∀ (m i : Nat),n - i = m → i ≤ n → Ev (fun k => laws_heldIntS.l0 k (ramp a n) (a + i) (i : Int)) (a + n):=by
 intro m
 induction m with
 | zero =>
  intro i hd hi;have e : i = n:=by omega
  subst e;refine Ev.go ?_ (fun k => by rw [laws_heldIntS.l0]);exact Ev.neg (by rw [ramp,lst_len]; omega) (Ev.now _)
 | succ m ih =>
  intro i hd hi;have hlt : i < n:=by omega
  have hn:=ih (i + 1) (by omega) (by omega);refine Ev.go ?_ (fun k => by rw [laws_heldIntS.l0]);refine Ev.pos (by rw [ramp,lst_len]; omega) (Ev.pos (by omega) (Ev.pos (by rw [ramp,lst_rd _ hlt]) ?_));rw [up1 hlt (by simp only [maxLen]; omega),w64 (by omega) (by omega),show a + (i : Int) + 1 = a + ((i + 1 : Nat) : Int) by omega];exact hn
theorem heldIntS_ev (a : Int) (n : Nat) (ha : 0 ≤ a) (hm : a + n ≤ 1000000000) : Ev (fun k => laws_heldIntS.f k (ramp a n) a) (a + n):=by
 unfold laws_heldIntS.f
 have:=heldIntS_l a n ha hm _ 0 rfl (Nat.zero_le _)
 rwa [show a + ((0 : Nat) : Int) = a by omega] at this
theorem markArcS_l (n : Nat) (a : Int) (ha : 0 ≤ a) (hm : a + 5 * n ≤ 1000000000) : ∀ (m i : Nat) (l : List Arc),l.length = n → n - i = m → i ≤ n → Pv (fun k => laws_markArcS.l0 k l (a + 5 * i) (i : Int)) (fun r => r.1 = a + 5 * n):=by
 intro m
 induction m with
 | zero =>
  intro i l hl hd hi;have e : i = n:=by omega
  subst e;refine Pv.go ?_ (fun k => by rw [laws_markArcS.l0]);exact Pv.neg (by omega) (Pv.now rfl)
 | succ m ih =>
  intro i l hl hd hi;have hlt : i < n:=by omega
  have hup : wrap64 ((i : Int) + 1) = ((i + 1 : Nat) : Int):=up1 hlt (by simp only [maxLen]; omega);have s1 : wrap64 (a + 5 * (i : Int) + 1) = a + 5 * (i : Int) + 1:=w64 (by omega) (by omega);have s2 : wrap64 (a + 5 * (i : Int) + 1 + 1) = a + 5 * (i : Int) + 2:=by rw [w64 (by omega) (by omega)]; omega
  have s3 : wrap64 (a + 5 * (i : Int) + 2 + 1) = a + 5 * (i : Int) + 3:=by rw [w64 (by omega) (by omega)]; omega
  have s4 : wrap64 (a + 5 * (i : Int) + 3 + 1) = a + 5 * (i : Int) + 4:=by rw [w64 (by omega) (by omega)]; omega
  have s5 : wrap64 (a + 5 * (i : Int) + 4 + 1) = a + 5 * ((i + 1 : Nat) : Int):=by rw [w64 (by omega) (by omega)]; omega
  refine Pv.go ?_ (fun k => by rw [laws_markArcS.l0]);simp only [s1,s2,s3,s4,s5,hup,Option.bind_some];exact Pv.pos (by omega) (Pv.pos (by omega) (ih (i + 1) _ (by simp [hl]) (by omega) (by omega)))
theorem markNet_pv (n : Int) (l : List Arc) (a : Int) (ha : 0 ≤ a) (hm : a + 5 * l.length ≤ 1000000000) : Pv (fun k => laws_markNet.f k n l a) (fun r => r.1 = a + 5 * l.length):=by
 have h:=markArcS_l l.length a ha hm _ 0 l rfl rfl (Nat.zero_le _);rw [show a + 5 * ((0 : Nat) : Int) = a by omega] at h;exact Pv.bind (R:=fun r => r.1 = a + 5 * l.length) h (fun r hr => Pv.now hr)
theorem markNet_ev (n : Int) (l : List Arc) (a : Int) (ha : 0 ≤ a) (hm : a + 5 * l.length ≤ 1000000000) : ∃ y,Ev (fun k => laws_markNet.f k n l a) (a + 5 * l.length,y):=by
 obtain ⟨⟨r,y⟩,h,e⟩:=markNet_pv n l a ha hm;dsimp only at e;exact ⟨y,e ▸ h⟩
theorem FnExactFlowOf : laws_FnExactFlowOf.Asked:=by
 intro n l a b hn hl ha hb;refine Ev.rounds ?_
 unfold laws_FnExactFlowOf.f
 refine Ev.bind0 (szNet_eq n l 1048576 (by omega) (by omega) hl.1) ?_
 by_cases hs : (l.length : Int) ≤ 1048576
 case neg =>
  rw [if_pos (by omega)];exact Ev.pos (by omega) (Ev.now _)
 rw [if_neg (by omega)];have ht:=toNet_ev n l (by omega);have hm : (l.map toA).length ≤ maxLen:=by simpa using hl.1
 have hlen : (l.map toA).length = l.length:=by simp
 have hv:=flowOfV_len n (l.map toA) a b;have hvm : (flowOfV n (l.map toA) a b).length ≤ maxLen:=by simp only [maxLen]; omega
 have hq:=eqIntS_ev _ hvm;obtain ⟨y,hy⟩:=markNet_ev n (l.map toA) 1 (by omega) (by omega);have hmv:=markIntS_ev (flowOfV n (l.map toA) a b) 1 (by omega) (by omega);have hh:=heldIntS_ev 1 (flowOfV n (l.map toA) a b).length (by omega) (by omega);refine Ev.neg (by omega) (Ev.bind ht (Ev.bind (specFlowOfV_ev n _ a b hm) (Ev.bind ht (Ev.bind (implFlowOfV_ev n _ a b) (Ev.bind hq (Ev.pos rfl (Ev.bind ht (Ev.bind (eqNet_ev n _ hm) (Ev.pos rfl (Ev.bind hy (Ev.neg (by simp only; omega) (Ev.bind hq ?_))))))))))));refine Ev.go ?_ (fun k => by rw [laws_FnExactFlowOf.j0]);refine Ev.neg (by simp) (Ev.bind hmv (Ev.bind hh (Ev.neg (by omega) (Ev.pos rfl ?_))));exact Ev.bind ht (Ev.bind (implFlowOfV_ev n _ a b) (Ev.bind hq (Ev.pos rfl (Ev.bind hh (Ev.neg (by omega) (Ev.pos rfl (Ev.now _)))))))
end Go.Proofs.Ytlhmljngjdfbpaa.Pure
end
section
namespace Go.Proofs.Ytlhmljngjdfbpaa.fnExactFlowOf
open Go.ChangeShapes Go.WideShapes Go.ChangeAt Go.RowKit Go.Proofs.YtlhmljngjdfbpaaW.PrintWords Go.Proofs.Ytlhmljngjdfbpaa.Pr
open Go.ChangeMaps (open_string shut_string)
set_option linter.unusedVariables false
set_option linter.unusedSimpArgs false
theorem own : ownKnob Try.prog.godebug = none:=by kernel_rfl
theorem laidOut : laidOutB Try.prog = true:=by kernel_rfl
instance inh127 : Inhabited S127:=⟨z127⟩
theorem opens0 : Opens Try.prog (Kd.pair (Kd.int .i64) (Kd.slice 127 k127)) 43 (fun x => I64 x.1 ∧ (fun l => l.length ≤ maxLen ∧ ∀ x ∈ l,(fun b : S127 => (fun x => I64 x.1 ∧ (fun x => I64 x.1 ∧ (fun x => I64 x.1 ∧ (fun x => I64 x.1 ∧ I64 x.2) x.2) x.2) x.2) (b.f0,b.f1,b.f2,b.f3,b.f4)) x) x.2):=(opens_struct (P:=Try.prog) Try.underlying43 (opensF_cons (P:=Try.prog) (by kernel_rfl) (opens_i64 (P:=Try.prog) Try.underlying3) (opensF_last (P:=Try.prog) (by kernel_rfl) (by kernel_rfl) (opens_slice (P:=Try.prog) Try.underlying41 (by kernel_rfl) (opens_iso (P:=Try.prog) (fun x : S127 => (x.f0,x.f1,x.f2,x.f3,x.f4)) (fun x => (⟨x.1,x.2.1,x.2.2.1,x.2.2.2.1,x.2.2.2.2⟩ : S127)) (fun _ => rfl) (opens_struct (P:=Try.prog) Try.underlying127 (opensF_cons (P:=Try.prog) (by kernel_rfl) (opens_i64 (P:=Try.prog) Try.underlying3) (opensF_cons (P:=Try.prog) (by kernel_rfl) (opens_i64 (P:=Try.prog) Try.underlying3) (opensF_cons (P:=Try.prog) (by kernel_rfl) (opens_i64 (P:=Try.prog) Try.underlying3) (opensF_cons (P:=Try.prog) (by kernel_rfl) (opens_i64 (P:=Try.prog) Try.underlying3) (opensF_last (P:=Try.prog) (by kernel_rfl) (by kernel_rfl) (opens_i64 (P:=Try.prog) Try.underlying3))))))))))))
set_option maxRecDepth 100000 in
set_option maxHeartbeats 2000000 in
theorem lifted (os : Os) (started : os.Started) (H : Type) (enc : TypeId × Value → H) :
  ReturnsInHanded {} Try.checked os 8 .any (Rows.fnExactFlowOfSpec.pre6 enc Try.prog Try.f8 Rows.fnExactFlowOfRow.domain false) (Rows.fnExactFlowOfSpec.post enc Try.prog Try.f8 false true false false):=by
 refine returnsInHanded_of_change_sized (C:=Try.checked) own started (by kernel_rfl) Try.func8
  (ChangeSpec.witness6 (enc:=enc) (C:=Try.checked) false ⟨#[],#[(.agg #[(.int .i64 0),(.slice none 0 0)]),(.int .i64 0),(.int .i64 0)],[]⟩ 8 (by kernel_rfl) (by kernel_rfl) (by kernel_rfl) (by kernel_rfl)) ?_
 intro W base args ds gs before hval0 hW hcnd hsz0 _;have hval : ∀ (j : Nat) t v,Try.f8.params[j]? = some t → args[j]? = some v → Value.okWide Try.prog W .any base t v:=hval0
 have hW':=hW;obtain ⟨p,q,hA0,hV,rfl,hfz,hnd⟩:=hW;have hA : DataW.TrodAll enc Try.prog W 0 (fun _ => true) true Try.f8.params.toList args.toList ds p:=hA0;rw [Try.params8] at hA hval;obtain ⟨v0,vs0,d0,ds0,p0,q0,hargs,rfl,rfl,h0,r0⟩:=trodAll_cons hA;obtain ⟨v1,vs1,d1,ds1,p1,q1,rfl,rfl,rfl,h1,r1⟩:=trodAll_cons r0;obtain ⟨v2,vs2,d2,ds2,p2,q2,rfl,rfl,rfl,h2,r2⟩:=trodAll_cons r1;obtain ⟨rfl,rfl,rfl⟩:=trodAll_nil r2;obtain rfl : args = #[v0,v1,v2]:=by cases args; simp_all
 obtain ⟨rfl,rfl⟩:=trodVars_none hV;have k0:=h0;have lt0 : ∀ x ∈ p0,x.block < W.heap.size:=by obtain ⟨m,hm⟩:=k0; exact DataW.trod_lt m _ _ _ hm
 obtain ⟨cs0,rfl,hsz0⟩:=okWide_struct Try.underlying43 (hval 0 43 v0 rfl rfl);obtain ⟨fuel0,hf0⟩:=h0;obtain ⟨x0,hK0,w0⟩:=opens0 hf0;obtain ⟨u0_0,v0_0,e0_0,ha0_0,hb0_0⟩:=hK0;have e0_1 : u0_0 = [.int .i64 x0.1]:=ha0_0;obtain ⟨A0_2,c0_2,e0_2,hc0_2,hr0_2⟩:=hb0_0;have z0 : cs0 = #[.int .i64 x0.1,.slice A0_2 x0.2.length c0_2]:=by
  apply Array.toList_inj.1
  have ee : (Value.agg cs0).cells.toList = cs0.toList:=rfl;rw [← ee];rw [e0_0];subst e0_1;subst e0_2;rfl
 subst z0;clear e0_2 e0_1 e0_0;obtain ⟨a1,rfl,rfl,rfl,w1⟩:=open_int Try.underlying3 (hval 1 3 v1 rfl rfl) h1;obtain ⟨a2,rfl,rfl,rfl,w2⟩:=open_int Try.underlying3 (hval 2 3 v2 rfl rfl) h2;obtain ⟨k,hh⟩:=Pure.FnExactFlowOf (x0.1) x0.2 a1 a2 w0.1 w0.2 (I64_of w1) (I64_of w2);refine (laws_FnExactFlowOf.calls k (x0.1) A0_2 c0_2 x0.2 a1 a2 true W hr0_2 hc0_2 hh).mono fun e W' ⟨he,bel0⟩ => ?_
 have bel : Below W.heap.size W W':=bel0;subst he;exact ⟨_,rfl,_,_,_,[],_,[],hW',trodAll_mk1 (shut_bool Try.underlying4 _),(trodAll_cons_mk (Below.trod laidOut (by kernel_rfl) (of_decide_eq_true (by kernel_rfl)) k0 bel lt0) (trodAll_cons_mk (shut_int Try.underlying3 w1) (trodAll_cons_mk (shut_int Try.underlying3 w2) trodAll_mk0))),rfl,bel.frame _,fun h => by cases h⟩
theorem over : Rows.fnExactFlowOfRow.holds Try.pinned (OpenSpec.ofChange Rows.fnExactFlowOfSpec) :=
 OpenClaim.holds_of_wide 8 Try.f8 rfl rfl rfl rfl rfl rfl rfl ⟨rfl,rfl,rfl,rfl,rfl⟩ rfl rfl rfl rfl rfl (by kernel_rfl) Try.func8 (by kernel_rfl)
  (of_decide_eq_true (by kernel_rfl)) (by unfold Func.isWrapper; first | (rw [if_pos (by decide +kernel)]; kernel_rfl) | (rw [if_neg (by decide +kernel)]; exact ⟨rfl,rfl⟩))
  (fun os started H enc _ => lifted os started H enc)
theorem proved : Rows.FnExactFlowOfSaid:=over
#print axioms proved
end Go.Proofs.Ytlhmljngjdfbpaa.fnExactFlowOf
namespace Go.Proofs.Ytlhmljngjdfbpaa
theorem fnExactFlowOf_holds : Rows.FnExactFlowOfSaid:=fnExactFlowOf.proved
end Go.Proofs.Ytlhmljngjdfbpaa
end
