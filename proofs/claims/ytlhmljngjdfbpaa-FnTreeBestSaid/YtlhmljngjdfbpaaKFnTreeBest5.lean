/- For the statement FnTreeBest of this seat: it is proved here, with no further conditions (part 6 of its texts: words, walks of the functions, the plain law, the row). -/
import Derived.ChangeArms
import Derived.ChangeSlices
import Derived.Deep.Slices
import Derived.WideShapes
import Derived.DataReads
import Derived.Test.YtlhmljngjdfbpaaRows
import Derived.WalkKit
import Derived.ProofKit
import Derived.OpenShut
import Derived.ShutString
import Derived.ChangeOld
import Derived.Below
import Derived.SizedLaws
import Derived.Test.YtlhmljngjdfbpaaKFnTreeBest4
section
namespace Go.Proofs.Ytlhmljngjdfbpaa.Pr
open Go.RowKit Go.Proofs.YtlhmljngjdfbpaaW.PrintWords Go.Proofs.YtlhmljngjdfbpaaW.PrintLast Go.Proofs.YtlhmljngjdfbpaaW.PrintMore
attribute [local go_sem] max2_int min2_int max_two min_two max_three min_three max_four min_four
set_option linter.unusedVariables false
set_option linter.unusedSimpArgs false
open List renaming setIfInBounds_toArray → U,set_cons_zero → V,set_cons_succ → Z
open Go.Proofs.YtlhmljngjdfbpaaW.PrintWords.Aside0 renaming mk → zx
mutual
def laws_FnTreeBest.j0 : Nat → List Int → Bool → Int → List (S58) → Option (Bool)
 | 0,_,_,_,_ => none
 | k + 1,x4,x28,x1061000,x1061001 => if x28 = true then ((spec_TreeBest.f k x1061000 x1061001).bind fun t1069 => ((laws_wkInts.f k x4 t1069).bind fun t1072 => (some t1072))) else (laws_FnTreeBest.l0 k x4 (([] : List Int)) 0 x1061000 x1061001)
def laws_FnTreeBest.l0 : Nat → List Int → List Int → Int → Int → List (S58) → Option (Bool)
 | 0,_,_,_,_,_ => none
 | k + 1,x4,x5,x6,x1061000,x1061001 => if x6 < (x1061001.length : Int) then (if x5.length < 17592186044416 then (laws_FnTreeBest.l0 k x4 (x5 ++ [x6]) (wrap64 (x6 + 1)) x1061000 x1061001) else (none)) else ((impl_TreeParts.f k x1061000 x1061001 x5).bind fun t1079 => (laws_FnTreeBest.l1 k x4 t1079 0 0 x1061001 x1061000))
def laws_FnTreeBest.l1 : Nat → List Int → List Int → Int → Int → List (S58) → Int → Option (Bool)
 | 0,_,_,_,_,_,_ => none
 | k + 1,x4,x7,x8,x9,x36,x1061000 => if x9 < x1061000 then (if 0 ≤ x9 then (if x9 < (x7.length : Int) then (if (rd x7 x9) = x9 then (laws_FnTreeBest.l1 k x4 x7 (wrap64 (x8 + 1)) (wrap64 (x9 + 1)) x36 x1061000) else (laws_FnTreeBest.l1 k x4 x7 x8 (wrap64 (x9 + 1)) x36 x1061000)) else (none)) else (none)) else (laws_FnTreeBest.l2 k x4 x7 x8 0 x36 x1061000)
def laws_FnTreeBest.l2 : Nat → List Int → List Int → Int → Int → List (S58) → Int → Option (Bool)
 | 0,_,_,_,_,_,_ => none
 | k + 1,x4,x7,x8,x10,x36,x1061000 => if x10 < (x4.length : Int) then ((some (([] : List Int) : List Int)).bind fun y1087 => (if 0 ≤ x10 then (if x10 ≤ (x4.length : Int) then ((some (x4.take (x10 : Int).toNat : List Int)).bind fun y1090 => (if y1087.length + y1090.length < 17592186044416 then ((some (y1087 ++ y1090 : List Int)).bind fun y1094 => (if 0 ≤ (wrap64 (x10 + 1)) then (if (wrap64 (x10 + 1)) ≤ (x4.length : Int) then ((some (x4.drop ((wrap64 (x10 + 1)) : Int).toNat : List Int)).bind fun y1097 => (if y1094.length + y1097.length < 17592186044416 then ((impl_TreeParts.f k x1061000 x36 (y1094 ++ y1097)).bind fun t1104 => ((laws_wkInts.f k t1104 x7).bind fun t1107 => (if t1107 = true then (some false) else ((laws_wkIn.f k (x4.take (x10 : Int).toNat) (rd x4 x10)).bind fun t1113 => (if t1113 = true then (some false) else (laws_FnTreeBest.l2 k x4 x7 x8 (wrap64 (x10 + 1)) x36 x1061000)))))) else (none))) else (none)) else (none))) else (none))) else (none)) else (none))) else ((impl_TreeParts.f k x1061000 x36 x4).bind fun t1083 => ((laws_wkInts.f k t1083 x7).bind fun t1086 => (if t1086 = true then (some ((x4.length : Int) == (wrap64 (x1061000 - x8)))) else (some false))))
end
def laws_FnTreeBest.f (k : Nat) (l0 : List Int) : Option (Bool):=if (l0.length : Int) > 1048576 then (some true) else ((spec_DrawTreeBest.f k l0).bind fun bt1056 => ((impl_TreeBest.f k bt1056.1 bt1056.2).bind fun t1061 => ((spec_TreeBest.f k bt1056.1 bt1056.2).bind fun t1064 => ((laws_wkInts.f k t1061 t1064).bind fun t1067 => (if t1067 = true then ((impl_NetOk.f bt1056.1 bt1056.2).bind fun t1068 => (laws_FnTreeBest.j0 k t1061 (!t1068) bt1056.1 bt1056.2)) else (laws_FnTreeBest.j0 k t1061 true bt1056.1 bt1056.2))))))
def laws_FnTreeBest.T22 : Bool × List (List Nat × List Nat):=(true,[([],[]),([],[]),([],[]),([1,2],[1,2]),([0,3],[0,3]),([],[]),([],[]),([6],[6]),([5,7],[5,7]),([4,8,4],[4,8]),([9,9,0,1,2,3,4,5,6,7,8,9],[9])])
def laws_FnTreeBest.B22 : List Nat:=[0,0,0,6,15,0,0,64,224,511,1023]
theorem laws_FnTreeBest.tab22 : rtab .any (opsOf Try.f10 22) = laws_FnTreeBest.T22:=by kernel_rfl
theorem laws_FnTreeBest.bits22 : waitsOk laws_FnTreeBest.T22.2 laws_FnTreeBest.B22 = true:=by kernel_rfl
def laws_FnTreeBest.T23 : Bool × List (List Nat × List Nat):=(true,[([],[]),([],[]),([0,1],[0,1]),([],[]),([2,3,2],[2,3]),([4,4],[4]),([5],[5]),([5],[5]),([6,7,5],[5,6,7]),([5],[5]),([5],[5]),([9,10,5],[5,9,10]),([11,5],[5,11]),([8,12,5,5],[5,8,12]),([5,13],[5,13])])
def laws_FnTreeBest.B23 : List Nat:=[0,0,3,0,15,31,63,63,255,63,63,1599,3647,8191,16383]
theorem laws_FnTreeBest.tab23 : rtab .any (opsOf Try.f10 23) = laws_FnTreeBest.T23:=by kernel_rfl
theorem laws_FnTreeBest.bits23 : waitsOk laws_FnTreeBest.T23.2 laws_FnTreeBest.B23 = true:=by kernel_rfl
set_option maxHeartbeats 8000000 in
set_option maxRecDepth 100000 in
theorem laws_FnTreeBest.calls (k : Nat) (A0 : Option Addr) (c0 : Nat) (l0 : List Int) (r : Bool) (w : World) (hr0 : Kd.C (Kd.int .u8) w A0 l0.length l0) (hc0 : l0.length ≤ c0) (h : laws_FnTreeBest.f k l0 = some r) (hrT_ : r = true:=by rfl) :
  Calls Try.prog 10 #[.slice A0 l0.length c0] w fun e w' => e = .returned (.bool r) ∧ Below w.heap.size w w':=by
 have HRT_:=zx hrT_;clear hrT_;have hu34:=Try.underlying34;have HR0:=zx hr0;have HC0:=zx hc0;clear hr0 hc0;have HB:=zx (Below.refl w.heap.size w);have H : (if (l0.length : Int) > 1048576 then (some true) else ((spec_DrawTreeBest.f k l0).bind fun bt1056 => ((impl_TreeBest.f k bt1056.1 bt1056.2).bind fun t1061 => ((spec_TreeBest.f k bt1056.1 bt1056.2).bind fun t1064 => ((laws_wkInts.f k t1061 t1064).bind fun t1067 => (if t1067 = true then ((impl_NetOk.f bt1056.1 bt1056.2).bind fun t1068 => (laws_FnTreeBest.j0 k t1061 (!t1068) bt1056.1 bt1056.2)) else (laws_FnTreeBest.j0 k t1061 true bt1056.1 bt1056.2))))))) = some r:=h;clear h
 by_cases c2 : (l0.length : Int) > 1048576
 case pos =>
  rw [if_pos c2] at H;have c2b0 : decide (1048576 < (l0.length : Int)) = true:=decide_eq_true c2;have c2b1 : decide (1048576 < l0.length) = true:=decide_eq_true (by omega);clear c2;obtain rfl:=Option.some.inj H
  go_enter Try.func10,Try.ntmps10
  go_wp2
  go_ret;exact ⟨by first | rfl | (simp [errW_none,errW_some] <;> rfl) | (simp [*,errW_none,errW_some] <;> rfl),by repeat (first | (with_reducible first | exact HB.out | apply below_alloc | apply pw_below_drewN | apply below_drew1) | exact HB.out)⟩
 rw [if_neg c2] at H;have c2b0 : decide (1048576 < (l0.length : Int)) = false:=decide_eq_false c2;have c2b1 : decide (1048576 < l0.length) = false:=decide_eq_false (by omega);clear c2;replace H:=Option.bind_eq_some_iff.mp H;obtain ⟨⟨t1056,t1057⟩,A30,H⟩:=H;replace H : ((impl_TreeBest.f k t1056 t1057).bind fun t1061 => ((spec_TreeBest.f k t1056 t1057).bind fun t1064 => ((laws_wkInts.f k t1061 t1064).bind fun t1067 => (if t1067 = true then ((impl_NetOk.f t1056 t1057).bind fun t1068 => (laws_FnTreeBest.j0 k t1061 (!t1068) t1056 t1057)) else (laws_FnTreeBest.j0 k t1061 true t1056 t1057))))) = some r:=H;have A3:=zx A30;clear A30;replace H:=Option.bind_eq_some_iff.mp H;obtain ⟨t1061,A40,H⟩:=H;replace H : ((spec_TreeBest.f k t1056 t1057).bind fun t1064 => ((laws_wkInts.f k t1061 t1064).bind fun t1067 => (if t1067 = true then ((impl_NetOk.f t1056 t1057).bind fun t1068 => (laws_FnTreeBest.j0 k t1061 (!t1068) t1056 t1057)) else (laws_FnTreeBest.j0 k t1061 true t1056 t1057)))) = some r:=H;have A4:=zx A40;clear A40;have HC5:=zx H;clear H
 go_enter Try.func10,Try.ntmps10
 go_upto_region 5 with (first | ((with_reducible refine gate_callee (f:=48) rfl ?_); refine goesL_ (some 16) rfl rfl Try.func48 (by kernel_rfl) rfl #[.slice A0 l0.length c0] rfl (by (try simp only [List.map_toArray,List.map_cons,List.map_nil]); first | done | rfl | (simp only [List.length_drop,List.length_take]; rfl)) ?_; (with_reducible refine (spec_DrawTreeBest.calls k _ _ l0 t1056 t1057 _ ?side1 ?side2 A3.out).mono ?_); (case side1 => repeat (first | exact HR0.out | (with_reducible refine Kd.C_alloc ?_ _) | (with_reducible refine Kd.C_drewN ?_ _) | (with_reducible refine Kd.C_drew ?_))); (case side2 => exact HC0.out); rintro e w6 ⟨v1058,rfl,ho0,hb⟩; refine ⟨_,rfl,?_⟩; have n0_:=zx (Kd.R_lower ho0 (below_size (by repeat (first | (with_reducible first | exact HB.out | apply below_alloc | apply pw_below_drewN | apply below_drew1) | exact HB.out)))); have n1_:=zx (below_step (by repeat (first | (with_reducible first | exact HB.out | apply below_alloc | apply pw_below_drewN | apply below_drew1) | exact HB.out)) hb); clear HB; have HO1059:=n0_; have HB:=n1_; clear n0_ n1_; (try clear hb); (try clear hb2); (try clear hk); (try clear hi); (try clear ho0)) | ((with_reducible refine gate_dst (N:=3) rfl ?_); (try (refine gate_guard (by rfl) ?_; dsimp only)); refine box_event ?hg (N:=3) ?hd (cs:=#[.int .i64 0,.slice none 0 0]) (t:=34) ?hr ?_; (case hd => rfl); (case hg => rfl); (case hr => first | (go_simp; done) | (go_simp; rfl)); intro gb1060 hg w7 hbox hb; have n0_:=zx (Kd.R_below (by (with_reducible repeat (first | apply Kd.R_alloc | apply Kd.R_drewN | apply Kd.R_drew)); exact HO1059.out) hb); have n1_:=zx (below_step (by repeat (first | (with_reducible first | exact HB.out | apply below_alloc | apply pw_below_drewN | apply below_drew1) | exact HB.out)) hb); have n2_:=zx (hbox); have n3_:=zx ((by rw [hg]; exact (below_size (by repeat (first | (with_reducible first | exact HB.out | apply below_alloc | apply pw_below_drewN | apply below_drew1) | exact HB.out))) : w.heap.size ≤ gb1060)); have n4_:=zx ((by rw [hg]; exact (below_size (by repeat (first | (with_reducible first | exact HB.out | apply below_alloc | apply pw_below_drewN | apply below_drew1) | exact HB.out))) : w.heap.size ≤ gb1060)); clear HO1059; clear HB; have HO1059:=n0_; have HB:=n1_; have BK1060:=n2_; have GW1060:=n3_; have GE1060:=n4_; clear n0_ n1_ n2_ n3_ n4_; clear hb hbox hg; have hcz8_0 : w7.cell? ⟨gb1060,0,none⟩ = some (.int .i64 0):=(blk_cell BK1060.out 0).trans rfl; have hcz8_1 : w7.cell? ⟨gb1060,1,none⟩ = some (.slice none 0 0):=(blk_cell BK1060.out 1).trans rfl; have hfz8_0:=blk_frozen BK1060.out 0; have hfz8_1:=blk_frozen BK1060.out 1; obtain ⟨Ao9,co9,eo9⟩:=Kd.R_slice HO1059.out; subst eo9) | ((with_reducible refine gate_callee (f:=49) rfl ?_); refine goesL_ (some 18) rfl rfl Try.func49 (by kernel_rfl) rfl #[.agg #[.int .i64 t1056,.slice Ao9 t1057.length co9]] rfl (by (try simp only [List.map_toArray,List.map_cons,List.map_nil]); first | done | rfl | (simp only [List.length_drop,List.length_take]; rfl)) ?_; (with_reducible refine (impl_TreeBest.calls k t1056 _ _ t1057 t1061 _ ?side1 ?side2 A4.out).mono ?_); (case side1 => refine (Kd.R_reads' (e:=58) (base:=w.heap.size) (ok:=fun k_ => True) (n:=t1057.length) (c:=co9) ?_).2.2; exact (by (with_reducible repeat (first | apply Kd.R_alloc | apply Kd.R_drewN | apply Kd.R_drew)); exact (Kd.R_mono (Kd.R_far (p:=⟨gb1060,1,none⟩) (Kd.R_far (p:=⟨gb1060,0,none⟩) (Kd.R_types HO1059.out BK1060.out (by decide)) (fun _ hk => hk.2) (.int .i64 t1056)) (fun _ hk => hk.2) (.slice Ao9 t1057.length co9)) (fun _ h_ => h_.1)))); (case side2 => exact (Kd.R_reads' HO1059.out).2.1); rintro e w10 ⟨v1062,rfl,ho0,hb⟩; refine ⟨_,rfl,?_⟩; have n0_:=zx (Kd.R_below (by (with_reducible repeat (first | apply Kd.R_alloc | apply Kd.R_drewN | apply Kd.R_drew)); exact (Kd.R_mono (Kd.R_far (p:=⟨gb1060,1,none⟩) (Kd.R_far (p:=⟨gb1060,0,none⟩) (Kd.R_types HO1059.out BK1060.out (by decide)) (fun _ hk => hk.2) (.int .i64 t1056)) (fun _ hk => hk.2) (.slice Ao9 t1057.length co9)) (fun _ h_ => h_.1))) hb); have n1_:=zx (Kd.R_lower ho0 (below_size (by repeat (first | (with_reducible first | exact HB.out | apply below_alloc | apply pw_below_drewN | apply below_drew1 | refine below_set ?_ GE1060.out) | exact HB.out)))); have n2_:=zx (blk_below (g:=gb1060) (o:=.cells #[.int .i64 t1056,.slice Ao9 t1057.length co9] 34 (0,0)) (by (with_reducible repeat (first | refine blk_drewN ?_ _ | refine blk_drew ?_ | refine blk_alloc ?_ _)); refine blk_put (cs:=#[.int .i64 t1056,.slice none 0 0]) ?_ 1 _ rfl; (with_reducible repeat (first | refine blk_drewN ?_ _ | refine blk_drew ?_ | refine blk_alloc ?_ _)); refine blk_put (cs:=#[.int .i64 0,.slice none 0 0]) ?_ 0 _ rfl; (with_reducible repeat (first | refine blk_drewN ?_ _ | refine blk_drew ?_ | refine blk_alloc ?_ _)); exact BK1060.out) hb); have n3_:=zx (below_step (by repeat (first | (with_reducible first | exact HB.out | apply below_alloc | apply pw_below_drewN | apply below_drew1 | refine below_set ?_ GE1060.out) | exact HB.out)) hb); clear HO1059; clear BK1060; clear HB; have HO1059:=n0_; have HO1063:=n1_; have BK1060:=n2_; have HB:=n3_; clear n0_ n1_ n2_ n3_; (try clear hb); (try clear hb2); (try clear hk); (try clear hi); (try clear ho0)))
 (try simp only [Act.put,U,V,Z])
 go_cut [28] (fun v28 wc => ∃ (kq : Nat) (x28_4 : Bool),v28 = .bool x28_4 ∧ Aside0 (laws_FnTreeBest.j0 kq t1061 x28_4 t1056 t1057 = some r) ∧ Aside0 (kq ≤ k) ∧ Aside0 (Kd.R (Kd.int .i64) 3 wc w.heap.size (fun _ => True) v1062 t1061) ∧ Aside0 (Kd.R k58 58 wc w.heap.size (fun _ => True) (.slice Ao9 t1057.length co9) t1057) ∧ Aside0 (wc.heap[gb1060]? = some (.cells #[.int .i64 t1056,(.slice Ao9 t1057.length co9)] 34 (0,0))) ∧ Aside0 (Below w.heap.size w wc))
 case first =>
  have H:=HC5.out;clear HC5;replace H:=Option.bind_eq_some_iff.mp H;obtain ⟨t1064,A110,H⟩:=H;replace H : ((laws_wkInts.f k t1061 t1064).bind fun t1067 => (if t1067 = true then ((impl_NetOk.f t1056 t1057).bind fun t1068 => (laws_FnTreeBest.j0 k t1061 (!t1068) t1056 t1057)) else (laws_FnTreeBest.j0 k t1061 true t1056 t1057))) = some r:=H;have A11:=zx A110;clear A110;replace H:=Option.bind_eq_some_iff.mp H;obtain ⟨t1067,A120,H⟩:=H;replace H : (if t1067 = true then ((impl_NetOk.f t1056 t1057).bind fun t1068 => (laws_FnTreeBest.j0 k t1061 (!t1068) t1056 t1057)) else (laws_FnTreeBest.j0 k t1061 true t1056 t1057)) = some r:=H;have A12:=zx A120;clear A120
  by_cases c13 : t1067 = true
  case neg =>
   replace c13:=Bool.eq_false_iff.mpr c13;subst c13;have H1 : (laws_FnTreeBest.j0 k t1061 true t1056 t1057) = some r:=by rw [if_neg (show ¬ (false = true) by decide)] at H; exact H
   clear H;have H:=H1;clear H1;have H':=zx H;clear H;have hcz21_0 : w10.cell? ⟨gb1060,0,none⟩ = some (.int .i64 t1056):=(blk_cell BK1060.out 0).trans rfl;have hcz21_1 : w10.cell? ⟨gb1060,1,none⟩ = some (.slice Ao9 t1057.length co9):=(blk_cell BK1060.out 1).trans rfl;have hfz21_0:=blk_frozen BK1060.out 0;have hfz21_1:=blk_frozen BK1060.out 1
   go_wp2_with (first | ((with_reducible refine gate_callee (f:=50) rfl ?_); refine goesL_ (some 21) rfl rfl Try.func50 (by kernel_rfl) rfl #[.agg #[.int .i64 t1056,.slice Ao9 t1057.length co9]] rfl (by (try simp only [List.map_toArray,List.map_cons,List.map_nil]); first | done | rfl | (simp only [List.length_drop,List.length_take]; rfl)) ?_; (with_reducible refine (spec_TreeBest.calls k t1056 _ _ t1057 t1064 _ ?side1 ?side2 A11.out).mono ?_); (case side1 => repeat (first | exact (Kd.R_reads' HO1059.out).2.2 | (with_reducible refine Kd.C_alloc ?_ _) | (with_reducible refine Kd.C_drewN ?_ _) | (with_reducible refine Kd.C_drew ?_))); (case side2 => exact (Kd.R_reads' HO1059.out).2.1); rintro e w22 ⟨v1065,rfl,ho0,hb⟩; refine ⟨_,rfl,?_⟩; have n0_:=zx (Kd.R_below (by (with_reducible repeat (first | apply Kd.R_alloc | apply Kd.R_drewN | apply Kd.R_drew)); exact HO1059.out) hb); have n1_:=zx (Kd.R_elder' (by (with_reducible repeat (first | apply Kd.R_alloc | apply Kd.R_drewN | apply Kd.R_drew)); exact HO1063.out) (Kd.R_base ho0) hb); have n2_:=zx (Kd.R_lower (Kd.R_new' ho0 (Kd.R_lt (by (with_reducible repeat (first | apply Kd.R_alloc | apply Kd.R_drewN | apply Kd.R_drew)); exact HO1063.out))) (below_size (by repeat (first | (with_reducible first | exact HB.out | apply below_alloc | apply pw_below_drewN | apply below_drew1 | refine below_set ?_ GE1060.out) | exact HB.out)))); have n3_:=zx (blk_below (g:=gb1060) (o:=.cells #[.int .i64 t1056,.slice Ao9 t1057.length co9] 34 (0,0)) (by (with_reducible repeat (first | refine blk_drewN ?_ _ | refine blk_drew ?_ | refine blk_alloc ?_ _)); exact BK1060.out) hb); have n4_:=zx (below_step (by repeat (first | (with_reducible first | exact HB.out | apply below_alloc | apply pw_below_drewN | apply below_drew1 | refine below_set ?_ GE1060.out) | exact HB.out)) hb); clear HO1059; clear HO1063; clear BK1060; clear HB; have HO1059:=n0_; have HO1063:=n1_; have HO1066:=n2_; have BK1060:=n3_; have HB:=n4_; clear n0_ n1_ n2_ n3_ n4_; (try clear hb); (try clear hb2); (try clear hk); (try clear hi); (try clear ho0); obtain ⟨Ao23,co23,eo23⟩:=Kd.R_slice HO1063.out; subst eo23; obtain ⟨Ao24,co24,eo24⟩:=Kd.R_slice HO1066.out; subst eo24) | ((with_reducible refine gate_callee (f:=39) rfl ?_); refine goesL_ (some 22) rfl rfl Try.func39 (by kernel_rfl) rfl #[.slice Ao23 t1061.length co23,.slice Ao24 t1064.length co24] rfl (by (try simp only [List.map_toArray,List.map_cons,List.map_nil]); first | done | rfl | (simp only [List.length_drop,List.length_take]; rfl)) ?_; (with_reducible refine (laws_wkInts.calls k _ _ t1061 _ _ t1064 false _ ?side1 ?side2 ?side3 ?side4 A12.out).mono ?_); (case side1 => repeat (first | exact (Kd.R_reads' HO1063.out).2.2 | (with_reducible refine Kd.C_alloc ?_ _) | (with_reducible refine Kd.C_drewN ?_ _) | (with_reducible refine Kd.C_drew ?_))); (case side2 => exact (Kd.R_reads' HO1063.out).2.1); (case side3 => repeat (first | exact (Kd.R_reads' HO1066.out).2.2 | (with_reducible refine Kd.C_alloc ?_ _) | (with_reducible refine Kd.C_drewN ?_ _) | (with_reducible refine Kd.C_drew ?_))); (case side4 => exact (Kd.R_reads' HO1066.out).2.1); rintro e w' ⟨rfl,⟨nd,rfl⟩⟩; refine ⟨_,rfl,?_⟩))
   go_meet
   case rel => exact ⟨_,(true),(by first | rfl | (simp; done) | (simp [*]; done)),H',⟨by first | omega | exact Nat.le_refl _⟩,⟨by (with_reducible repeat (first | apply Kd.R_alloc | apply Kd.R_drewN | apply Kd.R_drew)); exact Kd.R_mono HO1063.out (fun _ hk => trivial)⟩,⟨by (with_reducible repeat (first | apply Kd.R_alloc | apply Kd.R_drewN | apply Kd.R_drew)); exact HO1059.out⟩,⟨by (with_reducible repeat (first | refine blk_drewN ?_ _ | refine blk_drew ?_ | refine blk_alloc ?_ _)); exact BK1060.out⟩,⟨by repeat (first | (with_reducible first | exact HB.out | apply below_alloc | apply pw_below_drewN | apply below_drew1 | refine below_set ?_ GE1060.out) | exact HB.out)⟩⟩
  subst c13;have H1 : ((impl_NetOk.f t1056 t1057).bind fun t1068 => (laws_FnTreeBest.j0 k t1061 (!t1068) t1056 t1057)) = some r:=by rw [if_pos rfl] at H; exact H
  clear H;have H:=H1;clear H1;replace H:=Option.bind_eq_some_iff.mp H;obtain ⟨t1068,A140,H⟩:=H;replace H : (laws_FnTreeBest.j0 k t1061 (!t1068) t1056 t1057) = some r:=H;have A14:=zx A140;clear A140;have H':=zx H;clear H;have hcz15_0 : w10.cell? ⟨gb1060,0,none⟩ = some (.int .i64 t1056):=(blk_cell BK1060.out 0).trans rfl;have hcz15_1 : w10.cell? ⟨gb1060,1,none⟩ = some (.slice Ao9 t1057.length co9):=(blk_cell BK1060.out 1).trans rfl;have hfz15_0:=blk_frozen BK1060.out 0;have hfz15_1:=blk_frozen BK1060.out 1
  go_wp2_with (first | ((with_reducible refine gate_callee (f:=50) rfl ?_); refine goesL_ (some 21) rfl rfl Try.func50 (by kernel_rfl) rfl #[.agg #[.int .i64 t1056,.slice Ao9 t1057.length co9]] rfl (by (try simp only [List.map_toArray,List.map_cons,List.map_nil]); first | done | rfl | (simp only [List.length_drop,List.length_take]; rfl)) ?_; (with_reducible refine (spec_TreeBest.calls k t1056 _ _ t1057 t1064 _ ?side1 ?side2 A11.out).mono ?_); (case side1 => repeat (first | exact (Kd.R_reads' HO1059.out).2.2 | (with_reducible refine Kd.C_alloc ?_ _) | (with_reducible refine Kd.C_drewN ?_ _) | (with_reducible refine Kd.C_drew ?_))); (case side2 => exact (Kd.R_reads' HO1059.out).2.1); rintro e w16 ⟨v1065,rfl,ho0,hb⟩; refine ⟨_,rfl,?_⟩; have n0_:=zx (Kd.R_below (by (with_reducible repeat (first | apply Kd.R_alloc | apply Kd.R_drewN | apply Kd.R_drew)); exact HO1059.out) hb); have n1_:=zx (Kd.R_elder' (by (with_reducible repeat (first | apply Kd.R_alloc | apply Kd.R_drewN | apply Kd.R_drew)); exact HO1063.out) (Kd.R_base ho0) hb); have n2_:=zx (Kd.R_lower (Kd.R_new' ho0 (Kd.R_lt (by (with_reducible repeat (first | apply Kd.R_alloc | apply Kd.R_drewN | apply Kd.R_drew)); exact HO1063.out))) (below_size (by repeat (first | (with_reducible first | exact HB.out | apply below_alloc | apply pw_below_drewN | apply below_drew1 | refine below_set ?_ GE1060.out) | exact HB.out)))); have n3_:=zx (blk_below (g:=gb1060) (o:=.cells #[.int .i64 t1056,.slice Ao9 t1057.length co9] 34 (0,0)) (by (with_reducible repeat (first | refine blk_drewN ?_ _ | refine blk_drew ?_ | refine blk_alloc ?_ _)); exact BK1060.out) hb); have n4_:=zx (below_step (by repeat (first | (with_reducible first | exact HB.out | apply below_alloc | apply pw_below_drewN | apply below_drew1 | refine below_set ?_ GE1060.out) | exact HB.out)) hb); clear HO1059; clear HO1063; clear BK1060; clear HB; have HO1059:=n0_; have HO1063:=n1_; have HO1066:=n2_; have BK1060:=n3_; have HB:=n4_; clear n0_ n1_ n2_ n3_ n4_; (try clear hb); (try clear hb2); (try clear hk); (try clear hi); (try clear ho0); obtain ⟨Ao17,co17,eo17⟩:=Kd.R_slice HO1063.out; subst eo17; obtain ⟨Ao18,co18,eo18⟩:=Kd.R_slice HO1066.out; subst eo18) | ((with_reducible refine gate_callee (f:=39) rfl ?_); refine goesL_ (some 22) rfl rfl Try.func39 (by kernel_rfl) rfl #[.slice Ao17 t1061.length co17,.slice Ao18 t1064.length co18] rfl (by (try simp only [List.map_toArray,List.map_cons,List.map_nil]); first | done | rfl | (simp only [List.length_drop,List.length_take]; rfl)) ?_; (with_reducible refine (laws_wkInts.calls k _ _ t1061 _ _ t1064 true _ ?side1 ?side2 ?side3 ?side4 A12.out).mono ?_); (case side1 => repeat (first | exact (Kd.R_reads' HO1063.out).2.2 | (with_reducible refine Kd.C_alloc ?_ _) | (with_reducible refine Kd.C_drewN ?_ _) | (with_reducible refine Kd.C_drew ?_))); (case side2 => exact (Kd.R_reads' HO1063.out).2.1); (case side3 => repeat (first | exact (Kd.R_reads' HO1066.out).2.2 | (with_reducible refine Kd.C_alloc ?_ _) | (with_reducible refine Kd.C_drewN ?_ _) | (with_reducible refine Kd.C_drew ?_))); (case side4 => exact (Kd.R_reads' HO1066.out).2.1); rintro e w' ⟨rfl,⟨nd,rfl⟩⟩; refine ⟨_,rfl,?_⟩; have hcz19_0 : w16.cell? ⟨gb1060,0,none⟩ = some (.int .i64 t1056):=(blk_cell BK1060.out 0).trans rfl; have hcz19_1 : w16.cell? ⟨gb1060,1,none⟩ = some (.slice Ao9 t1057.length co9):=(blk_cell BK1060.out 1).trans rfl; have hfz19_0:=blk_frozen BK1060.out 0; have hfz19_1:=blk_frozen BK1060.out 1) | (go_at_call 51; (with_reducible refine (impl_NetOk.calls t1056 _ _ t1057 t1068 _ ?side1 ?side2 A14.out).mono ?_); (case side1 => repeat (first | exact (Kd.R_reads' HO1059.out).2.2 | (with_reducible refine Kd.C_alloc ?_ _) | (with_reducible refine Kd.C_drewN ?_ _) | (with_reducible refine Kd.C_drew ?_))); (case side2 => exact (Kd.R_reads' HO1059.out).2.1); rintro e w20 ⟨rfl,hb⟩; have n0_:=zx (Kd.R_below (by (with_reducible repeat (first | apply Kd.R_alloc | apply Kd.R_drewN | apply Kd.R_drew)); exact HO1059.out) hb); have n1_:=zx (Kd.R_below (by (with_reducible repeat (first | apply Kd.R_alloc | apply Kd.R_drewN | apply Kd.R_drew)); exact HO1063.out) hb); have n2_:=zx (Kd.R_below (by (with_reducible repeat (first | apply Kd.R_alloc | apply Kd.R_drewN | apply Kd.R_drew)); exact HO1066.out) hb); have n3_:=zx (blk_below (g:=gb1060) (o:=.cells #[.int .i64 t1056,.slice Ao9 t1057.length co9] 34 (0,0)) (by (with_reducible repeat (first | refine blk_drewN ?_ _ | refine blk_drew ?_ | refine blk_alloc ?_ _)); exact BK1060.out) hb); have n4_:=zx (below_step (by repeat (first | (with_reducible first | exact HB.out | apply below_alloc | apply pw_below_drewN | apply below_drew1 | refine below_set ?_ GE1060.out) | exact HB.out)) hb); clear HO1059; clear HO1063; clear HO1066; clear BK1060; clear HB; have HO1059:=n0_; have HO1063:=n1_; have HO1066:=n2_; have BK1060:=n3_; have HB:=n4_; clear n0_ n1_ n2_ n3_ n4_; (try clear hb); (try clear hb2); (try clear hk); (try clear hi)))
  go_meet
  case rel => exact ⟨_,(!t1068),(by first | rfl | (simp; done) | (simp [*]; done)),H',⟨by first | omega | exact Nat.le_refl _⟩,⟨by (with_reducible repeat (first | apply Kd.R_alloc | apply Kd.R_drewN | apply Kd.R_drew)); exact Kd.R_mono HO1063.out (fun _ hk => trivial)⟩,⟨by (with_reducible repeat (first | apply Kd.R_alloc | apply Kd.R_drewN | apply Kd.R_drew)); exact HO1059.out⟩,⟨by (with_reducible repeat (first | refine blk_drewN ?_ _ | refine blk_drew ?_ | refine blk_alloc ?_ _)); exact BK1060.out⟩,⟨by repeat (first | (with_reducible first | exact HB.out | apply below_alloc | apply pw_below_drewN | apply below_drew1 | refine below_set ?_ GE1060.out) | exact HB.out)⟩⟩
 case rest =>
  clear HC5
  try clear c1
  try clear c2
  try clear c2b0
  try clear c2b1
  try clear p2
  try clear c3
  try clear c4
  try clear c5
  try clear c10
  try clear c13
  try clear hcz15_0
  try clear hcz15_1
  try clear hcz19_0
  try clear hcz19_1
  try clear hcz21_0
  try clear hcz21_1
  try clear hcz8_0
  try clear hcz8_1
  try clear hfz15_0
  try clear hfz15_1
  try clear hfz19_0
  try clear hfz19_1
  try clear hfz21_0
  try clear hfz21_1
  try clear hfz8_0
  try clear hfz8_1
  obtain ⟨kq,x28_4,rfl,HA,HJ4,HO_4,HO_1061001,BK1060,HB⟩:=hcut;cases kq with
  | zero => exact absurd HA.out (by simp [laws_FnTreeBest.j0])
  | succ kj4 =>
   have H:=HA.out;clear HA;simp only [laws_FnTreeBest.j0] at H
   by_cases c25 : x28_4 = true
   case pos =>
    subst c25;have H1 : ((spec_TreeBest.f kj4 t1056 t1057).bind fun t1069 => ((laws_wkInts.f kj4 t1061 t1069).bind fun t1072 => (some t1072))) = some r:=by rw [if_pos rfl] at H; exact H
    clear H;have H:=H1;clear H1;replace H:=Option.bind_eq_some_iff.mp H;obtain ⟨t1069,A260,H⟩:=H;replace H : ((laws_wkInts.f kj4 t1061 t1069).bind fun t1072 => (some t1072)) = some r:=H;have A26:=zx A260;clear A260;replace H:=Option.bind_eq_some_iff.mp H;obtain ⟨t1072,A270,H⟩:=H;replace H : (some t1072) = some r:=H;have A27:=zx A270;clear A270;obtain rfl:=Option.some.inj H;have hcz28_0 : wc.cell? ⟨gb1060,0,none⟩ = some (.int .i64 t1056):=(blk_cell BK1060.out 0).trans rfl;have hcz28_1 : wc.cell? ⟨gb1060,1,none⟩ = some (.slice Ao9 t1057.length co9):=(blk_cell BK1060.out 1).trans rfl;have hfz28_0:=blk_frozen BK1060.out 0;have hfz28_1:=blk_frozen BK1060.out 1
    go_wp2_with (first | ((with_reducible refine gate_callee (f:=50) rfl ?_); refine goesL_ (some 31) rfl rfl Try.func50 (by kernel_rfl) rfl #[.agg #[.int .i64 t1056,.slice Ao9 t1057.length co9]] rfl (by (try simp only [List.map_toArray,List.map_cons,List.map_nil]); first | done | rfl | (simp only [List.length_drop,List.length_take]; rfl)) ?_; (with_reducible refine (spec_TreeBest.calls kj4 t1056 _ _ t1057 t1069 _ ?side1 ?side2 A26.out).mono ?_); (case side1 => repeat (first | exact (Kd.R_reads' HO_1061001.out).2.2 | (with_reducible refine Kd.C_alloc ?_ _) | (with_reducible refine Kd.C_drewN ?_ _) | (with_reducible refine Kd.C_drew ?_))); (case side2 => exact (Kd.R_reads' HO_1061001.out).2.1); rintro e w29 ⟨v1070,rfl,ho0,hb⟩; refine ⟨_,rfl,?_⟩; have n0_:=zx (Kd.R_elder' (by (with_reducible repeat (first | apply Kd.R_alloc | apply Kd.R_drewN | apply Kd.R_drew)); exact HO_4.out) (Kd.R_base ho0) hb); have n1_:=zx (Kd.R_below (by (with_reducible repeat (first | apply Kd.R_alloc | apply Kd.R_drewN | apply Kd.R_drew)); exact HO_1061001.out) hb); have n2_:=zx (Kd.R_lower (Kd.R_new' ho0 (Kd.R_lt (by (with_reducible repeat (first | apply Kd.R_alloc | apply Kd.R_drewN | apply Kd.R_drew)); exact HO_4.out))) (below_size (by repeat (first | (with_reducible first | exact HB.out | apply below_alloc | apply pw_below_drewN | apply below_drew1 | refine below_set ?_ GE1060.out) | exact HB.out)))); have n3_:=zx (blk_below (g:=gb1060) (o:=.cells #[.int .i64 t1056,.slice Ao9 t1057.length co9] 34 (0,0)) (by (with_reducible repeat (first | refine blk_drewN ?_ _ | refine blk_drew ?_ | refine blk_alloc ?_ _)); exact BK1060.out) hb); have n4_:=zx (below_step (by repeat (first | (with_reducible first | exact HB.out | apply below_alloc | apply pw_below_drewN | apply below_drew1 | refine below_set ?_ GE1060.out) | exact HB.out)) hb); clear HO_4; clear HO_1061001; clear BK1060; clear HB; have HO_4:=n0_; have HO_1061001:=n1_; have HO1071:=n2_; have BK1060:=n3_; have HB:=n4_; clear n0_ n1_ n2_ n3_ n4_; (try clear hb); (try clear hb2); (try clear hk); (try clear hi); (try clear ho0); obtain ⟨Ao30,co30,eo30⟩:=Kd.R_slice HO_4.out; subst eo30; obtain ⟨Ao31,co31,eo31⟩:=Kd.R_slice HO1071.out; subst eo31) | ((with_reducible refine gate_callee (f:=39) rfl ?_); refine goesL_ (some 32) rfl rfl Try.func39 (by kernel_rfl) rfl #[.slice Ao30 t1061.length co30,.slice Ao31 t1069.length co31] rfl (by (try simp only [List.map_toArray,List.map_cons,List.map_nil]); first | done | rfl | (simp only [List.length_drop,List.length_take]; rfl)) ?_; (with_reducible refine (laws_wkInts.calls kj4 _ _ t1061 _ _ t1069 t1072 _ ?side1 ?side2 ?side3 ?side4 A27.out).mono ?_); (case side1 => repeat (first | exact (Kd.R_reads' HO_4.out).2.2 | (with_reducible refine Kd.C_alloc ?_ _) | (with_reducible refine Kd.C_drewN ?_ _) | (with_reducible refine Kd.C_drew ?_))); (case side2 => exact (Kd.R_reads' HO_4.out).2.1); (case side3 => repeat (first | exact (Kd.R_reads' HO1071.out).2.2 | (with_reducible refine Kd.C_alloc ?_ _) | (with_reducible refine Kd.C_drewN ?_ _) | (with_reducible refine Kd.C_drew ?_))); (case side4 => exact (Kd.R_reads' HO1071.out).2.1); rintro e w' ⟨rfl,⟨nd,rfl⟩⟩; refine ⟨_,rfl,?_⟩))
    go_ret;exact ⟨by first | rfl | (simp [errW_none,errW_some] <;> rfl) | (simp [*,errW_none,errW_some] <;> rfl),by repeat (first | (with_reducible first | exact HB.out | apply below_alloc | apply pw_below_drewN | apply below_drew1 | refine below_set ?_ GE1060.out) | exact HB.out)⟩
   replace c25:=Bool.eq_false_iff.mpr c25;subst c25;have H1 : (laws_FnTreeBest.l0 kj4 t1061 (([] : List Int)) 0 t1056 t1057) = some r:=by rw [if_neg (show ¬ (false = true) by decide)] at H; exact H
   clear H;have H:=H1;clear H1;obtain ⟨y1073,hy1073⟩ : ∃ y_ : List Int,y_ = (([] : List Int)):=⟨_,rfl⟩
   replace H : (laws_FnTreeBest.l0 kj4 t1061 y1073 0 t1056 t1057) = some r:=by first | (rw [hy1073]; with_reducible exact H) | (have H2_:=(Option.bind_some _ _).symm.trans H; rw [hy1073]; with_reducible exact H2_) | (have H2_:=(Option.bind_some _ _).symm.trans H; with_reducible exact H2_) | with_reducible exact H | (rw [hy1073]; exact H) | exact H
   have Ny1073:=zx hy1073;clear hy1073;have H':=zx H;clear H
   go_wp2_with (first | ((with_reducible refine gate_dst (N:=33) rfl ?_); (try (refine gate_guard (by rfl) ?_; dsimp only)); refine Kd.R_lit (Kd.int .i64) _ 3 ?hg (N:=33) ?hd (xs:=([] : List Int)) (inner:=[]) (ok:=fun _ => True) (okp:=fun _ => True) ?hr ?hp (fun _ hk => hk) trivial (Below.refl _ _) (Nat.le_refl _) (by simp) ?_; (case hd => rfl); (case hg => rfl); (case hr => first | (go_simp; done) | (go_simp; rfl)); (case hp => exact (Reps.none _ _)); intro v1074 w32 ho33 hb hg_ hnew_; clear hg_ hnew_; (first | rw [← Ny1073.out] at ho33 | (simp only [Int.reduceToNat] at ho33; rw [← Ny1073.out] at ho33)); have n0_:=zx (Kd.R_elder' (by (with_reducible repeat (first | apply Kd.R_alloc | apply Kd.R_drewN | apply Kd.R_drew)); exact HO_4.out) (Kd.R_base ho33) hb); have n1_:=zx (Kd.R_below (by (with_reducible repeat (first | apply Kd.R_alloc | apply Kd.R_drewN | apply Kd.R_drew)); exact HO_1061001.out) hb); have n2_:=zx (Kd.R_lower (Kd.R_new' ho33 (Kd.R_lt (by (with_reducible repeat (first | apply Kd.R_alloc | apply Kd.R_drewN | apply Kd.R_drew)); exact HO_4.out))) (below_size (by repeat (first | (with_reducible first | exact HB.out | apply below_alloc | apply pw_below_drewN | apply below_drew1 | refine below_set ?_ GE1060.out) | exact HB.out)))); have n3_:=zx (blk_below (g:=gb1060) (o:=.cells #[.int .i64 t1056,.slice Ao9 t1057.length co9] 34 (0,0)) (by (with_reducible repeat (first | refine blk_drewN ?_ _ | refine blk_drew ?_ | refine blk_alloc ?_ _)); exact BK1060.out) hb); have n4_:=zx (below_step (by repeat (first | (with_reducible first | exact HB.out | apply below_alloc | apply pw_below_drewN | apply below_drew1 | refine below_set ?_ GE1060.out) | exact HB.out)) hb); clear HO_4; clear HO_1061001; clear BK1060; clear HB; have HO_4:=n0_; have HO_1061001:=n1_; have HO1075:=n2_; have BK1060:=n3_; have HB:=n4_; clear n0_ n1_ n2_ n3_ n4_; clear hb ho33))
   go_loopg [5,6] kj4 (fun kq v5 v6 w' => ∃ (x5_2 : List Int) (x6_2 : Int),v6 = .int .i64 x6_2 ∧ Aside0 (laws_FnTreeBest.l0 kq t1061 x5_2 x6_2 t1056 t1057 = some r) ∧ Aside0 (kq ≤ kj4) ∧ Aside0 (Kd.R (Kd.int .i64) 3 w' w.heap.size (fun k_ => some k_ ≠ (v5 : Value).ownBlock) v1062 t1061) ∧ Aside0 (Kd.R (Kd.int .i64) 3 w' w.heap.size (fun k_ => some k_ ≠ (v1062 : Value).ownBlock) v5 x5_2) ∧ Aside0 (Kd.R k58 58 w' w.heap.size (fun _ => True) (.slice Ao9 t1057.length co9) t1057) ∧ Aside0 (w'.heap[gb1060]? = some (.cells #[.int .i64 t1056,(.slice Ao9 t1057.length co9)] 34 (0,0))) ∧ Aside0 (Below w.heap.size w w'))
   case atStart => exact ⟨(y1073),(0),(by first | rfl | (simp; done) | (simp [*]; done)),H',⟨Nat.le_refl _⟩,⟨by (with_reducible repeat (first | apply Kd.R_alloc | apply Kd.R_drewN | apply Kd.R_drew)); exact Kd.R_mono HO_4.out (fun _ hk => hk.2)⟩,⟨by (with_reducible repeat (first | apply Kd.R_alloc | apply Kd.R_drewN | apply Kd.R_drew)); exact Kd.R_mono HO1075.out (fun _ hk => hk.2)⟩,⟨by (with_reducible repeat (first | apply Kd.R_alloc | apply Kd.R_drewN | apply Kd.R_drew)); exact HO_1061001.out⟩,⟨by (with_reducible repeat (first | refine blk_drewN ?_ _ | refine blk_drew ?_ | refine blk_alloc ?_ _)); exact BK1060.out⟩,⟨by repeat (first | (with_reducible first | exact HB.out | apply below_alloc | apply pw_below_drewN | apply below_drew1 | refine below_set ?_ GE1060.out) | exact HB.out)⟩⟩
   case round =>
    clear H'
    try clear c1
    try clear c2
    try clear c2b0
    try clear c2b1
    try clear p2
    try clear c3
    try clear c4
    try clear c5
    try clear c10
    try clear c13
    try clear c25
    try clear hcz15_0
    try clear hcz15_1
    try clear hcz19_0
    try clear hcz19_1
    try clear hcz21_0
    try clear hcz21_1
    try clear hcz28_0
    try clear hcz28_1
    try clear hcz8_0
    try clear hcz8_1
    try clear hfz15_0
    try clear hfz15_1
    try clear hfz19_0
    try clear hfz19_1
    try clear hfz21_0
    try clear hfz21_1
    try clear hfz28_0
    try clear hfz28_1
    try clear hfz8_0
    try clear hfz8_1
    try clear p2
    obtain ⟨x5_2,x6_2,rfl,HA,HK2,HO_4,HO_5,HO_1061001,BK1060,HB⟩:=hrel;cases gk with
    | zero => exact absurd HA.out (by simp [laws_FnTreeBest.l0])
    | succ k2 =>
     have H:=HA.out;clear HA;simp only [laws_FnTreeBest.l0] at H
     by_cases c34 : x6_2 < (t1057.length : Int)
     case pos =>
      rw [if_pos c34] at H;have c34b0 : decide (x6_2 < (t1057.length : Int)) = true:=decide_eq_true c34;clear c34
      by_cases c35 : x5_2.length < 17592186044416
      case neg =>
       rw [if_neg c35] at H;exact absurd H (by simp)
      rw [if_pos c35] at H;have LMc35:=zx c35;clear c35;obtain ⟨y1076,hy1076⟩ : ∃ y_ : List Int,y_ = (x5_2 ++ [x6_2]):=⟨_,rfl⟩
      replace H : (laws_FnTreeBest.l0 k2 t1061 y1076 (wrap64 (x6_2 + 1)) t1056 t1057) = some r:=by first | (rw [hy1076]; with_reducible exact H) | (have H2_:=(Option.bind_some _ _).symm.trans H; rw [hy1076]; with_reducible exact H2_) | (have H2_:=(Option.bind_some _ _).symm.trans H; with_reducible exact H2_) | with_reducible exact H | (rw [hy1076]; exact H) | exact H
      have Ny1076:=zx hy1076;clear hy1076;have H':=zx H;clear H;have hcz36_0 : wr.cell? ⟨gb1060,0,none⟩ = some (.int .i64 t1056):=(blk_cell BK1060.out 0).trans rfl;have hcz36_1 : wr.cell? ⟨gb1060,1,none⟩ = some (.slice Ao9 t1057.length co9):=(blk_cell BK1060.out 1).trans rfl;have hfz36_0:=blk_frozen BK1060.out 0;have hfz36_1:=blk_frozen BK1060.out 1
      go_wp2_with (first | ((with_reducible refine gate_builtin (b:=.append) (xs:=#[.tmp 41,.tmp 43]) rfl ?_); (try (refine gate_guard (by rfl) ?_; dsimp only)); at_builtin; refine Kd.R_append (Kd.int .i64) (w0:=w) w.heap.size rfl (.tmp 41) (.tmp 43) 23 3 (.int .i64 0) 8 rfl Try.underlying23 info3 rfl (by decide) (by omega) u5 x5_2 x6_2 [.int .i64 x6_2] (fun k_ => some k_ ≠ (v1062 : Value).ownBlock) (fun _ => False) rfl rfl ?aP (fun _ hk => hk.elim) ?aF ?aO ?aB ?aS ?aL ?_; (case aP => exact rfl); (case aB => exact (by repeat (first | (with_reducible first | exact HB.out | apply below_alloc | apply pw_below_drewN | apply below_drew1 | refine below_set ?_ GE1060.out) | exact HB.out))); (case aF => exact (fun k_ hk => Kd.fresh' (Kd.R_lt (by (with_reducible repeat (first | apply Kd.R_alloc | apply Kd.R_drewN | apply Kd.R_drew)); exact HO_4.out)) k_ hk)); (case aO => exact (by (with_reducible repeat (first | apply Kd.R_alloc | apply Kd.R_drewN | apply Kd.R_drew)); exact HO_5.out)); (case aS => exact (below_size (by repeat (first | (with_reducible first | exact HB.out | apply below_alloc | apply pw_below_drewN | apply below_drew1 | refine below_set ?_ GE1060.out) | exact HB.out)))); (case aL => have:=LMc35.out; omega); intro v1077 w37 ho hb hg hat; rw [← Ny1076.out] at ho; have n0_:=zx (Kd.R_after (ok:=(fun _ => True)) (by (with_reducible repeat (first | apply Kd.R_alloc | apply Kd.R_drewN | apply Kd.R_drew)); exact Kd.R_mono HO_4.out (fun _ hk => ⟨trivial,hk⟩)) hg hat); have n1_:=zx (Kd.R_over' (by (with_reducible repeat (first | apply Kd.R_alloc | apply Kd.R_drewN | apply Kd.R_drew)); exact HO_1061001.out) (Kd.R_typed (by (with_reducible repeat (first | apply Kd.R_alloc | apply Kd.R_drewN | apply Kd.R_drew)); exact HO_5.out)) (by decide) hg); have n2_:=zx (blk_grown (g:=gb1060) (o:=.cells #[.int .i64 t1056,.slice Ao9 t1057.length co9] 34 (0,0)) (by (with_reducible repeat (first | refine blk_drewN ?_ _ | refine blk_drew ?_ | refine blk_alloc ?_ _)); exact BK1060.out) hg (Kd.R_ne HO_5.out BK1060.out (by decide))); have n3_:=zx (hb); have n4_:=zx (ho); clear HO_4; clear HO_1061001; clear BK1060; clear HB; clear HO_5; have HO_4:=n0_; have HO_1061001:=n1_; have BK1060:=n2_; have HB:=n3_; have HO1078:=n4_; clear n0_ n1_ n2_ n3_ n4_; clear ho hb hg hat))
      go_roundg k2
      case measure => have:=HJ4.out; have:=HK2.out; omega
      case rel => exact ⟨(y1076),(wrap64 (x6_2 + 1)),(by first | rfl | (simp; done) | (simp [*]; done)),H',⟨by have:=HJ4.out; have:=HK2.out; omega⟩,⟨by (with_reducible repeat (first | apply Kd.R_alloc | apply Kd.R_drewN | apply Kd.R_drew)); exact Kd.R_mono HO_4.out (fun _ hk => hk.2)⟩,⟨by (with_reducible repeat (first | apply Kd.R_alloc | apply Kd.R_drewN | apply Kd.R_drew)); exact HO1078.out⟩,⟨by (with_reducible repeat (first | apply Kd.R_alloc | apply Kd.R_drewN | apply Kd.R_drew)); exact HO_1061001.out⟩,⟨by (with_reducible repeat (first | refine blk_drewN ?_ _ | refine blk_drew ?_ | refine blk_alloc ?_ _)); exact BK1060.out⟩,⟨by repeat (first | (with_reducible first | exact HB.out | apply below_alloc | apply pw_below_drewN | apply below_drew1 | refine below_set ?_ GE1060.out) | exact HB.out)⟩⟩
     rw [if_neg c34] at H;have c34b0 : decide (x6_2 < (t1057.length : Int)) = false:=decide_eq_false c34;clear c34;replace H:=Option.bind_eq_some_iff.mp H;obtain ⟨t1079,A380,H⟩:=H;replace H : (laws_FnTreeBest.l1 k2 t1061 t1079 0 0 t1057 t1056) = some r:=H;have A38:=zx A380;clear A380;have H':=zx H;clear H;have hcz39_0 : wr.cell? ⟨gb1060,0,none⟩ = some (.int .i64 t1056):=(blk_cell BK1060.out 0).trans rfl;have hcz39_1 : wr.cell? ⟨gb1060,1,none⟩ = some (.slice Ao9 t1057.length co9):=(blk_cell BK1060.out 1).trans rfl;have hfz39_0:=blk_frozen BK1060.out 0;have hfz39_1:=blk_frozen BK1060.out 1;obtain ⟨Ao40,co40,eo40⟩:=Kd.R_slice HO_5.out;subst eo40
     go_wp2_with (first | ((with_reducible refine gate_callee (f:=52) rfl ?_); refine goesL_ (some 47) rfl rfl Try.func52 (by kernel_rfl) rfl #[.agg #[.int .i64 t1056,.slice Ao9 t1057.length co9],.slice Ao40 x5_2.length co40] rfl (by (try simp only [List.map_toArray,List.map_cons,List.map_nil]); first | done | rfl | (simp only [List.length_drop,List.length_take]; rfl)) ?_; (with_reducible refine (impl_TreeParts.calls k2 t1056 _ _ t1057 _ _ x5_2 t1079 _ ?side1 ?side2 ?side3 ?side4 A38.out).mono ?_); (case side1 => repeat (first | exact (Kd.R_reads' HO_1061001.out).2.2 | (with_reducible refine Kd.C_alloc ?_ _) | (with_reducible refine Kd.C_drewN ?_ _) | (with_reducible refine Kd.C_drew ?_))); (case side2 => exact (Kd.R_reads' HO_1061001.out).2.1); (case side3 => repeat (first | exact (Kd.R_reads' HO_5.out).2.2 | (with_reducible refine Kd.C_alloc ?_ _) | (with_reducible refine Kd.C_drewN ?_ _) | (with_reducible refine Kd.C_drew ?_))); (case side4 => exact (Kd.R_reads' HO_5.out).2.1); rintro e w41 ⟨v1080,rfl,ho0,hb⟩; refine ⟨_,rfl,?_⟩; have n0_:=zx (Kd.R_elder' (by (with_reducible repeat (first | apply Kd.R_alloc | apply Kd.R_drewN | apply Kd.R_drew)); exact HO_4.out) (Kd.R_base ho0) hb); have n1_:=zx (Kd.R_elder' (by (with_reducible repeat (first | apply Kd.R_alloc | apply Kd.R_drewN | apply Kd.R_drew)); exact HO_5.out) (Kd.R_base ho0) hb); have n2_:=zx (Kd.R_below (by (with_reducible repeat (first | apply Kd.R_alloc | apply Kd.R_drewN | apply Kd.R_drew)); exact HO_1061001.out) hb); have n3_:=zx (Kd.R_lower (Kd.R_new' (Kd.R_new' ho0 (Kd.R_lt (by (with_reducible repeat (first | apply Kd.R_alloc | apply Kd.R_drewN | apply Kd.R_drew)); exact HO_4.out))) (Kd.R_lt (by (with_reducible repeat (first | apply Kd.R_alloc | apply Kd.R_drewN | apply Kd.R_drew)); exact HO_5.out))) (below_size (by repeat (first | (with_reducible first | exact HB.out | apply below_alloc | apply pw_below_drewN | apply below_drew1 | refine below_set ?_ GE1060.out) | exact HB.out)))); have n4_:=zx (blk_below (g:=gb1060) (o:=.cells #[.int .i64 t1056,.slice Ao9 t1057.length co9] 34 (0,0)) (by (with_reducible repeat (first | refine blk_drewN ?_ _ | refine blk_drew ?_ | refine blk_alloc ?_ _)); exact BK1060.out) hb); have n5_:=zx (below_step (by repeat (first | (with_reducible first | exact HB.out | apply below_alloc | apply pw_below_drewN | apply below_drew1 | refine below_set ?_ GE1060.out) | exact HB.out)) hb); clear HO_4; clear HO_5; clear HO_1061001; clear BK1060; clear HB; have HO_4:=n0_; have HO_5:=n1_; have HO_1061001:=n2_; have HO1081:=n3_; have BK1060:=n4_; have HB:=n5_; clear n0_ n1_ n2_ n3_ n4_ n5_; (try clear hb); (try clear hb2); (try clear hk); (try clear hi); (try clear ho0)))
     go_loopg [8,9] k2 (fun kq v8 v9 w' => ∃ (x8_3 : Int) (x9_3 : Int),v8 = .int .i64 x8_3 ∧ v9 = .int .i64 x9_3 ∧ Aside0 (laws_FnTreeBest.l1 kq t1061 t1079 x8_3 x9_3 t1057 t1056 = some r) ∧ Aside0 (kq ≤ k2) ∧ Aside0 (Kd.R (Kd.int .i64) 3 w' w.heap.size (fun k_ => some k_ ≠ (v1080 : Value).ownBlock) v1062 t1061) ∧ Aside0 (Kd.R (Kd.int .i64) 3 w' w.heap.size (fun k_ => some k_ ≠ (v1062 : Value).ownBlock) v1080 t1079) ∧ Aside0 (Kd.R k58 58 w' w.heap.size (fun _ => True) (.slice Ao9 t1057.length co9) t1057) ∧ Aside0 (Kd.R k58 58 w' w.heap.size (fun _ => True) (.slice Ao9 t1057.length co9) t1057) ∧ Aside0 (w'.heap[gb1060]? = some (.cells #[.int .i64 t1056,(.slice Ao9 t1057.length co9)] 34 (0,0))) ∧ Aside0 (Below w.heap.size w w'))
     case atStart => exact ⟨(0),(0),(by first | rfl | (simp; done) | (simp [*]; done)),(by first | rfl | (simp; done) | (simp [*]; done)),H',⟨Nat.le_refl _⟩,⟨by (with_reducible repeat (first | apply Kd.R_alloc | apply Kd.R_drewN | apply Kd.R_drew)); exact Kd.R_mono HO_4.out (fun _ hk => hk.2)⟩,⟨by (with_reducible repeat (first | apply Kd.R_alloc | apply Kd.R_drewN | apply Kd.R_drew)); exact Kd.R_mono HO1081.out (fun _ hk => hk.1.2)⟩,⟨by (with_reducible repeat (first | apply Kd.R_alloc | apply Kd.R_drewN | apply Kd.R_drew)); exact HO_1061001.out⟩,⟨by (with_reducible repeat (first | apply Kd.R_alloc | apply Kd.R_drewN | apply Kd.R_drew)); exact HO_1061001.out⟩,⟨by (with_reducible repeat (first | refine blk_drewN ?_ _ | refine blk_drew ?_ | refine blk_alloc ?_ _)); exact BK1060.out⟩,⟨by repeat (first | (with_reducible first | exact HB.out | apply below_alloc | apply pw_below_drewN | apply below_drew1 | refine below_set ?_ GE1060.out) | exact HB.out)⟩⟩
     case round =>
      clear H'
      try clear c1
      try clear c2
      try clear c2b0
      try clear c2b1
      try clear p2
      try clear c3
      try clear c4
      try clear c5
      try clear p6
      try clear c10
      try clear c13
      try clear c25
      try clear c34
      try clear c34b0
      try clear c35
      try clear c39
      try clear hcz15_0
      try clear hcz15_1
      try clear hcz19_0
      try clear hcz19_1
      try clear hcz21_0
      try clear hcz21_1
      try clear hcz28_0
      try clear hcz28_1
      try clear hcz36_0
      try clear hcz36_1
      try clear hcz39_0
      try clear hcz39_1
      try clear hcz8_0
      try clear hcz8_1
      try clear hfz15_0
      try clear hfz15_1
      try clear hfz19_0
      try clear hfz19_1
      try clear hfz21_0
      try clear hfz21_1
      try clear hfz28_0
      try clear hfz28_1
      try clear hfz36_0
      try clear hfz36_1
      try clear hfz39_0
      try clear hfz39_1
      try clear hfz8_0
      try clear hfz8_1
      try clear p2
      obtain ⟨x8_3,x9_3,rfl,rfl,HA,HK3,HO_4,HO_7,HO_36,HO_1061001,BK1060,HB⟩:=hrel;cases gk with
      | zero => exact absurd HA.out (by simp [laws_FnTreeBest.l1])
      | succ k3 =>
       have H:=HA.out;clear HA;simp only [laws_FnTreeBest.l1] at H
       by_cases c42 : x9_3 < t1056
       case pos =>
        rw [if_pos c42] at H;have c42b0 : decide (x9_3 < t1056) = true:=decide_eq_true c42;clear c42
        by_cases c43 : 0 ≤ x9_3
        case neg =>
         rw [if_neg c43] at H;exact absurd H (by simp)
        rw [if_pos c43] at H;have c43b0 : decide (0 ≤ x9_3) = true:=decide_eq_true c43;clear c43
        by_cases c44 : x9_3 < (t1079.length : Int)
        case neg =>
         rw [if_neg c44] at H;exact absurd H (by simp)
        rw [if_pos c44] at H;have c44b0 : decide (x9_3 < (t1079.length : Int)) = true:=decide_eq_true c44;clear c44
        by_cases c45 : (rd t1079 x9_3) = x9_3
        case neg =>
         rw [if_neg c45] at H;have c45b0 : ((rd t1079 x9_3) == x9_3) = false:=beq_eq_false_iff_ne.mpr c45;have c45b1 : ((rd t1079 x9_3) != x9_3) = true:=bne_iff_ne.mpr c45;have H':=zx H;clear H;have hcz48_0 : wr.cell? ⟨gb1060,0,none⟩ = some (.int .i64 t1056):=(blk_cell BK1060.out 0).trans rfl;have hcz48_1 : wr.cell? ⟨gb1060,1,none⟩ = some (.slice Ao9 t1057.length co9):=(blk_cell BK1060.out 1).trans rfl;have hfz48_0:=blk_frozen BK1060.out 0;have hfz48_1:=blk_frozen BK1060.out 1;obtain ⟨Ao49,co49,eo49⟩:=Kd.R_slice HO_7.out;subst eo49;have p1082 : 0 ≤ (x9_3 : Int):=of_decide_eq_true (by first | (with_reducible assumption) | assumption);have q1082 : x9_3 < (t1079.length : Int):=of_decide_eq_true (by first | (with_reducible assumption) | assumption);obtain ⟨ad1082,e1082,hx1082_0⟩:=Kd.at_int (Kd.R_reads' HO_7.out).2.2 x9_3 p1082 q1082;cases e1082;replace p1082:=eq_true p1082;replace q1082:=eq_true q1082
         go_wp2
         go_roundg k3
         case measure => have:=HJ4.out; have:=HK2.out; have:=HK3.out; omega
         case rel => exact ⟨(x8_3),(wrap64 (x9_3 + 1)),(by first | rfl | (simp; done) | (simp [*]; done)),(by first | rfl | (simp; done) | (simp [*]; done)),H',⟨by have:=HJ4.out; have:=HK2.out; have:=HK3.out; omega⟩,⟨by (with_reducible repeat (first | apply Kd.R_alloc | apply Kd.R_drewN | apply Kd.R_drew)); exact HO_4.out⟩,⟨by (with_reducible repeat (first | apply Kd.R_alloc | apply Kd.R_drewN | apply Kd.R_drew)); exact HO_7.out⟩,⟨by (with_reducible repeat (first | apply Kd.R_alloc | apply Kd.R_drewN | apply Kd.R_drew)); exact HO_36.out⟩,⟨by (with_reducible repeat (first | apply Kd.R_alloc | apply Kd.R_drewN | apply Kd.R_drew)); exact HO_36.out⟩,⟨by (with_reducible repeat (first | refine blk_drewN ?_ _ | refine blk_drew ?_ | refine blk_alloc ?_ _)); exact BK1060.out⟩,⟨by repeat (first | (with_reducible first | exact HB.out | apply below_alloc | apply pw_below_drewN | apply below_drew1 | refine below_set ?_ GE1060.out) | exact HB.out)⟩⟩
        rw [if_pos c45] at H;have c45b0 : ((rd t1079 x9_3) == x9_3) = true:=beq_iff_eq.mpr c45;have c45b1 : ((rd t1079 x9_3) != x9_3) = false:=bne_eq_false_iff_eq.mpr c45;clear c45;have H':=zx H;clear H;have hcz46_0 : wr.cell? ⟨gb1060,0,none⟩ = some (.int .i64 t1056):=(blk_cell BK1060.out 0).trans rfl;have hcz46_1 : wr.cell? ⟨gb1060,1,none⟩ = some (.slice Ao9 t1057.length co9):=(blk_cell BK1060.out 1).trans rfl;have hfz46_0:=blk_frozen BK1060.out 0;have hfz46_1:=blk_frozen BK1060.out 1;obtain ⟨Ao47,co47,eo47⟩:=Kd.R_slice HO_7.out;subst eo47;have p1082 : 0 ≤ (x9_3 : Int):=of_decide_eq_true (by first | (with_reducible assumption) | assumption);have q1082 : x9_3 < (t1079.length : Int):=of_decide_eq_true (by first | (with_reducible assumption) | assumption);obtain ⟨ad1082,e1082,hx1082_0⟩:=Kd.at_int (Kd.R_reads' HO_7.out).2.2 x9_3 p1082 q1082;cases e1082;replace p1082:=eq_true p1082;replace q1082:=eq_true q1082
        go_wp2
        go_roundg k3
        case measure => have:=HJ4.out; have:=HK2.out; have:=HK3.out; omega
        case rel => exact ⟨(wrap64 (x8_3 + 1)),(wrap64 (x9_3 + 1)),(by first | rfl | (simp; done) | (simp [*]; done)),(by first | rfl | (simp; done) | (simp [*]; done)),H',⟨by have:=HJ4.out; have:=HK2.out; have:=HK3.out; omega⟩,⟨by (with_reducible repeat (first | apply Kd.R_alloc | apply Kd.R_drewN | apply Kd.R_drew)); exact HO_4.out⟩,⟨by (with_reducible repeat (first | apply Kd.R_alloc | apply Kd.R_drewN | apply Kd.R_drew)); exact HO_7.out⟩,⟨by (with_reducible repeat (first | apply Kd.R_alloc | apply Kd.R_drewN | apply Kd.R_drew)); exact HO_36.out⟩,⟨by (with_reducible repeat (first | apply Kd.R_alloc | apply Kd.R_drewN | apply Kd.R_drew)); exact HO_36.out⟩,⟨by (with_reducible repeat (first | refine blk_drewN ?_ _ | refine blk_drew ?_ | refine blk_alloc ?_ _)); exact BK1060.out⟩,⟨by repeat (first | (with_reducible first | exact HB.out | apply below_alloc | apply pw_below_drewN | apply below_drew1 | refine below_set ?_ GE1060.out) | exact HB.out)⟩⟩
       rw [if_neg c42] at H;have c42b0 : decide (x9_3 < t1056) = false:=decide_eq_false c42;clear c42;have H':=zx H;clear H;have hcz50_0 : wr.cell? ⟨gb1060,0,none⟩ = some (.int .i64 t1056):=(blk_cell BK1060.out 0).trans rfl;have hcz50_1 : wr.cell? ⟨gb1060,1,none⟩ = some (.slice Ao9 t1057.length co9):=(blk_cell BK1060.out 1).trans rfl;have hfz50_0:=blk_frozen BK1060.out 0;have hfz50_1:=blk_frozen BK1060.out 1
       go_wp2
       go_loopg [10] k3 (fun kq v10 w' => ∃ (x10_4 : Int),v10 = .int .i64 x10_4 ∧ Aside0 (laws_FnTreeBest.l2 kq t1061 t1079 x8_3 x10_4 t1057 t1056 = some r) ∧ Aside0 (kq ≤ k3) ∧ Aside0 (Kd.R (Kd.int .i64) 3 w' w.heap.size (fun k_ => some k_ ≠ (v1080 : Value).ownBlock) v1062 t1061) ∧ Aside0 (Kd.R (Kd.int .i64) 3 w' w.heap.size (fun k_ => some k_ ≠ (v1062 : Value).ownBlock) v1080 t1079) ∧ Aside0 (Kd.R k58 58 w' w.heap.size (fun _ => True) (.slice Ao9 t1057.length co9) t1057) ∧ Aside0 (Kd.R k58 58 w' w.heap.size (fun _ => True) (.slice Ao9 t1057.length co9) t1057) ∧ Aside0 (w'.heap[gb1060]? = some (.cells #[.int .i64 t1056,(.slice Ao9 t1057.length co9)] 34 (0,0))) ∧ Aside0 (Below w.heap.size w w'))
       case atStart => exact ⟨(0),(by first | rfl | (simp; done) | (simp [*]; done)),H',⟨Nat.le_refl _⟩,⟨by (with_reducible repeat (first | apply Kd.R_alloc | apply Kd.R_drewN | apply Kd.R_drew)); exact HO_4.out⟩,⟨by (with_reducible repeat (first | apply Kd.R_alloc | apply Kd.R_drewN | apply Kd.R_drew)); exact HO_7.out⟩,⟨by (with_reducible repeat (first | apply Kd.R_alloc | apply Kd.R_drewN | apply Kd.R_drew)); exact HO_36.out⟩,⟨by (with_reducible repeat (first | apply Kd.R_alloc | apply Kd.R_drewN | apply Kd.R_drew)); exact HO_36.out⟩,⟨by (with_reducible repeat (first | refine blk_drewN ?_ _ | refine blk_drew ?_ | refine blk_alloc ?_ _)); exact BK1060.out⟩,⟨by repeat (first | (with_reducible first | exact HB.out | apply below_alloc | apply pw_below_drewN | apply below_drew1 | refine below_set ?_ GE1060.out) | exact HB.out)⟩⟩
       case round =>
        clear H'
        try clear c1
        try clear p1
        try clear q1
        try clear hx1
        try clear c2
        try clear c2b0
        try clear c2b1
        try clear p2
        try clear c3
        try clear c4
        try clear c5
        try clear p6
        try clear c10
        try clear p10
        try clear q10
        try clear hx10
        try clear c13
        try clear c25
        try clear c34
        try clear c34b0
        try clear c35
        try clear c39
        try clear c42
        try clear c42b0
        try clear c43
        try clear c43b0
        try clear c44
        try clear c44b0
        try clear c45
        try clear c45b0
        try clear c45b1
        try clear c48
        try clear c49
        try clear c50
        try clear hcz15_0
        try clear hcz15_1
        try clear hcz19_0
        try clear hcz19_1
        try clear hcz21_0
        try clear hcz21_1
        try clear hcz28_0
        try clear hcz28_1
        try clear hcz36_0
        try clear hcz36_1
        try clear hcz39_0
        try clear hcz39_1
        try clear hcz46_0
        try clear hcz46_1
        try clear hcz48_0
        try clear hcz48_1
        try clear hcz50_0
        try clear hcz50_1
        try clear hcz8_0
        try clear hcz8_1
        try clear hfz15_0
        try clear hfz15_1
        try clear hfz19_0
        try clear hfz19_1
        try clear hfz21_0
        try clear hfz21_1
        try clear hfz28_0
        try clear hfz28_1
        try clear hfz36_0
        try clear hfz36_1
        try clear hfz39_0
        try clear hfz39_1
        try clear hfz46_0
        try clear hfz46_1
        try clear hfz48_0
        try clear hfz48_1
        try clear hfz50_0
        try clear hfz50_1
        try clear hfz8_0
        try clear hfz8_1
        try clear hx1082_0
        try clear p1082
        try clear p2
        try clear p6
        try clear q1082
        obtain ⟨x10_4,rfl,HA,HK4,HO_4,HO_7,HO_36,HO_1061001,BK1060,HB⟩:=hrel;cases gk with
        | zero => exact absurd HA.out (by simp [laws_FnTreeBest.l2])
        | succ k4 =>
         have H:=HA.out;clear HA;simp only [laws_FnTreeBest.l2] at H
         by_cases c51 : x10_4 < (t1061.length : Int)
         case neg =>
          rw [if_neg c51] at H;have c51b0 : decide (x10_4 < (t1061.length : Int)) = false:=decide_eq_false c51;clear c51;replace H:=Option.bind_eq_some_iff.mp H;obtain ⟨t1083,A1070,H⟩:=H;replace H : ((laws_wkInts.f k4 t1083 t1079).bind fun t1086 => (if t1086 = true then (some ((t1061.length : Int) == (wrap64 (t1056 - x8_3)))) else (some false))) = some r:=H;have A107:=zx A1070;clear A1070;replace H:=Option.bind_eq_some_iff.mp H;obtain ⟨t1086,A1080,H⟩:=H;replace H : (if t1086 = true then (some ((t1061.length : Int) == (wrap64 (t1056 - x8_3)))) else (some false)) = some r:=H;have A108:=zx A1080;clear A1080
          by_cases c109 : t1086 = true
          case neg =>
           replace c109:=Bool.eq_false_iff.mpr c109;subst c109;have H1 : (some false) = some r:=by rw [if_neg (show ¬ (false = true) by decide)] at H; exact H
           exact absurd ((Option.some.inj H1).trans HRT_.out) (by decide)
          subst c109;have H1 : (some ((t1061.length : Int) == (wrap64 (t1056 - x8_3)))) = some r:=by rw [if_pos rfl] at H; exact H
          clear H;have H:=H1;clear H1;obtain rfl:=Option.some.inj H;obtain ⟨Ao110,co110,eo110⟩:=Kd.R_slice HO_4.out;subst eo110;have hcz111_0 : wr.cell? ⟨gb1060,0,none⟩ = some (.int .i64 t1056):=(blk_cell BK1060.out 0).trans rfl;have hcz111_1 : wr.cell? ⟨gb1060,1,none⟩ = some (.slice Ao9 t1057.length co9):=(blk_cell BK1060.out 1).trans rfl;have hfz111_0:=blk_frozen BK1060.out 0;have hfz111_1:=blk_frozen BK1060.out 1
          go_wp2_with (first | ((with_reducible refine gate_callee (f:=52) rfl ?_); refine goesL_ (some 95) rfl rfl Try.func52 (by kernel_rfl) rfl #[.agg #[.int .i64 t1056,.slice Ao9 t1057.length co9],.slice Ao110 t1061.length co110] rfl (by (try simp only [List.map_toArray,List.map_cons,List.map_nil]); first | done | rfl | (simp only [List.length_drop,List.length_take]; rfl)) ?_; (with_reducible refine (impl_TreeParts.calls k4 t1056 _ _ t1057 _ _ t1061 t1083 _ ?side1 ?side2 ?side3 ?side4 A107.out).mono ?_); (case side1 => repeat (first | exact (Kd.R_reads' HO_36.out).2.2 | (with_reducible refine Kd.C_alloc ?_ _) | (with_reducible refine Kd.C_drewN ?_ _) | (with_reducible refine Kd.C_drew ?_))); (case side2 => exact (Kd.R_reads' HO_36.out).2.1); (case side3 => repeat (first | exact (Kd.R_reads' HO_4.out).2.2 | (with_reducible refine Kd.C_alloc ?_ _) | (with_reducible refine Kd.C_drewN ?_ _) | (with_reducible refine Kd.C_drew ?_))); (case side4 => exact (Kd.R_reads' HO_4.out).2.1); rintro e w112 ⟨v1084,rfl,ho0,hb⟩; refine ⟨_,rfl,?_⟩; have n0_:=zx (Kd.R_elder' (by (with_reducible repeat (first | apply Kd.R_alloc | apply Kd.R_drewN | apply Kd.R_drew)); exact HO_4.out) (Kd.R_base ho0) hb); have n1_:=zx (Kd.R_elder' (by (with_reducible repeat (first | apply Kd.R_alloc | apply Kd.R_drewN | apply Kd.R_drew)); exact HO_7.out) (Kd.R_base ho0) hb); have n2_:=zx (Kd.R_below (by (with_reducible repeat (first | apply Kd.R_alloc | apply Kd.R_drewN | apply Kd.R_drew)); exact HO_36.out) hb); have n3_:=zx (Kd.R_below (by (with_reducible repeat (first | apply Kd.R_alloc | apply Kd.R_drewN | apply Kd.R_drew)); exact HO_36.out) hb); have n4_:=zx (Kd.R_lower (Kd.R_new' (Kd.R_new' ho0 (Kd.R_lt (by (with_reducible repeat (first | apply Kd.R_alloc | apply Kd.R_drewN | apply Kd.R_drew)); exact HO_4.out))) (Kd.R_lt (by (with_reducible repeat (first | apply Kd.R_alloc | apply Kd.R_drewN | apply Kd.R_drew)); exact HO_7.out))) (below_size (by repeat (first | (with_reducible first | exact HB.out | apply below_alloc | apply pw_below_drewN | apply below_drew1 | refine below_set ?_ GE1060.out) | exact HB.out)))); have n5_:=zx (blk_below (g:=gb1060) (o:=.cells #[.int .i64 t1056,.slice Ao9 t1057.length co9] 34 (0,0)) (by (with_reducible repeat (first | refine blk_drewN ?_ _ | refine blk_drew ?_ | refine blk_alloc ?_ _)); exact BK1060.out) hb); have n6_:=zx (below_step (by repeat (first | (with_reducible first | exact HB.out | apply below_alloc | apply pw_below_drewN | apply below_drew1 | refine below_set ?_ GE1060.out) | exact HB.out)) hb); clear HO_4; clear HO_7; clear HO_36; clear HO_36; clear BK1060; clear HB; have HO_4:=n0_; have HO_7:=n1_; have HO_36:=n2_; have HO_36:=n3_; have HO1085:=n4_; have BK1060:=n5_; have HB:=n6_; clear n0_ n1_ n2_ n3_ n4_ n5_ n6_; (try clear hb); (try clear hb2); (try clear hk); (try clear hi); (try clear ho0); obtain ⟨Ao113,co113,eo113⟩:=Kd.R_slice HO1085.out; subst eo113; obtain ⟨Ao114,co114,eo114⟩:=Kd.R_slice HO_7.out; subst eo114) | ((with_reducible refine gate_callee (f:=39) rfl ?_); refine goesL_ (some 97) rfl rfl Try.func39 (by kernel_rfl) rfl #[.slice Ao113 t1083.length co113,.slice Ao114 t1079.length co114] rfl (by (try simp only [List.map_toArray,List.map_cons,List.map_nil]); first | done | rfl | (simp only [List.length_drop,List.length_take]; rfl)) ?_; (with_reducible refine (laws_wkInts.calls k4 _ _ t1083 _ _ t1079 true _ ?side1 ?side2 ?side3 ?side4 A108.out).mono ?_); (case side1 => repeat (first | exact (Kd.R_reads' HO1085.out).2.2 | (with_reducible refine Kd.C_alloc ?_ _) | (with_reducible refine Kd.C_drewN ?_ _) | (with_reducible refine Kd.C_drew ?_))); (case side2 => exact (Kd.R_reads' HO1085.out).2.1); (case side3 => repeat (first | exact (Kd.R_reads' HO_7.out).2.2 | (with_reducible refine Kd.C_alloc ?_ _) | (with_reducible refine Kd.C_drewN ?_ _) | (with_reducible refine Kd.C_drew ?_))); (case side4 => exact (Kd.R_reads' HO_7.out).2.1); rintro e w' ⟨rfl,⟨nd,rfl⟩⟩; refine ⟨_,rfl,?_⟩; have hcz115_0 : w112.cell? ⟨gb1060,0,none⟩ = some (.int .i64 t1056):=(blk_cell BK1060.out 0).trans rfl; have hcz115_1 : w112.cell? ⟨gb1060,1,none⟩ = some (.slice Ao9 t1057.length co9):=(blk_cell BK1060.out 1).trans rfl; have hfz115_0:=blk_frozen BK1060.out 0; have hfz115_1:=blk_frozen BK1060.out 1))
          go_ret;exact ⟨by first | rfl | (simp [errW_none,errW_some] <;> rfl) | (simp [*,errW_none,errW_some] <;> rfl),by repeat (first | (with_reducible first | exact HB.out | apply below_alloc | apply pw_below_drewN | apply below_drew1 | refine below_set ?_ GE1060.out) | exact HB.out)⟩
         rw [if_pos c51] at H;have c51b0 : decide (x10_4 < (t1061.length : Int)) = true:=decide_eq_true c51;clear c51;obtain ⟨y1087,hy1087⟩ : ∃ y_ : List Int,y_ = (([] : List Int)):=⟨_,rfl⟩
         replace H : (if 0 ≤ x10_4 then (if x10_4 ≤ (t1061.length : Int) then ((some (t1061.take (x10_4 : Int).toNat : List Int)).bind fun y1090 => (if y1087.length + y1090.length < 17592186044416 then ((some (y1087 ++ y1090 : List Int)).bind fun y1094 => (if 0 ≤ (wrap64 (x10_4 + 1)) then (if (wrap64 (x10_4 + 1)) ≤ (t1061.length : Int) then ((some (t1061.drop ((wrap64 (x10_4 + 1)) : Int).toNat : List Int)).bind fun y1097 => (if y1094.length + y1097.length < 17592186044416 then ((impl_TreeParts.f k4 t1056 t1057 (y1094 ++ y1097)).bind fun t1104 => ((laws_wkInts.f k4 t1104 t1079).bind fun t1107 => (if t1107 = true then (some false) else ((laws_wkIn.f k4 (t1061.take (x10_4 : Int).toNat) (rd t1061 x10_4)).bind fun t1113 => (if t1113 = true then (some false) else (laws_FnTreeBest.l2 k4 t1061 t1079 x8_3 (wrap64 (x10_4 + 1)) t1057 t1056)))))) else (none))) else (none)) else (none))) else (none))) else (none)) else (none)) = some r:=by first | (rw [hy1087]; with_reducible exact H) | (have H2_:=(Option.bind_some _ _).symm.trans H; rw [hy1087]; with_reducible exact H2_) | (have H2_:=(Option.bind_some _ _).symm.trans H; with_reducible exact H2_) | with_reducible exact H | (rw [hy1087]; exact H) | exact H
         have Ny1087:=zx hy1087;clear hy1087
         by_cases c52 : 0 ≤ x10_4
         case neg =>
          rw [if_neg c52] at H;exact absurd H (by simp)
         rw [if_pos c52] at H;have c52b0:=eq_true c52;have c52b1 : decide (0 ≤ x10_4) = true:=decide_eq_true c52;clear c52
         by_cases c53 : x10_4 ≤ (t1061.length : Int)
         case neg =>
          rw [if_neg c53] at H;exact absurd H (by simp)
         rw [if_pos c53] at H;have c53b0:=eq_true c53;have c53b1 : decide (x10_4 ≤ (t1061.length : Int)) = true:=decide_eq_true c53;clear c53;obtain ⟨y1090,hy1090⟩ : ∃ y_ : List Int,y_ = (t1061.take (x10_4 : Int).toNat):=⟨_,rfl⟩
         replace H : (if y1087.length + y1090.length < 17592186044416 then ((some (y1087 ++ y1090 : List Int)).bind fun y1094 => (if 0 ≤ (wrap64 (x10_4 + 1)) then (if (wrap64 (x10_4 + 1)) ≤ (t1061.length : Int) then ((some (t1061.drop ((wrap64 (x10_4 + 1)) : Int).toNat : List Int)).bind fun y1097 => (if y1094.length + y1097.length < 17592186044416 then ((impl_TreeParts.f k4 t1056 t1057 (y1094 ++ y1097)).bind fun t1104 => ((laws_wkInts.f k4 t1104 t1079).bind fun t1107 => (if t1107 = true then (some false) else ((laws_wkIn.f k4 (t1061.take (x10_4 : Int).toNat) (rd t1061 x10_4)).bind fun t1113 => (if t1113 = true then (some false) else (laws_FnTreeBest.l2 k4 t1061 t1079 x8_3 (wrap64 (x10_4 + 1)) t1057 t1056)))))) else (none))) else (none)) else (none))) else (none)) = some r:=by first | (rw [hy1090]; with_reducible exact H) | (have H2_:=(Option.bind_some _ _).symm.trans H; rw [hy1090]; with_reducible exact H2_) | (have H2_:=(Option.bind_some _ _).symm.trans H; with_reducible exact H2_) | with_reducible exact H | (rw [hy1090]; exact H) | exact H
         have Ny1090:=zx hy1090;clear hy1090
         by_cases c54 : y1087.length + y1090.length < 17592186044416
         case neg =>
          rw [if_neg c54] at H;exact absurd H (by simp)
         rw [if_pos c54] at H;have LMc54:=zx c54;clear c54;obtain ⟨y1094,hy1094⟩ : ∃ y_ : List Int,y_ = (y1087 ++ y1090):=⟨_,rfl⟩
         replace H : (if 0 ≤ (wrap64 (x10_4 + 1)) then (if (wrap64 (x10_4 + 1)) ≤ (t1061.length : Int) then ((some (t1061.drop ((wrap64 (x10_4 + 1)) : Int).toNat : List Int)).bind fun y1097 => (if y1094.length + y1097.length < 17592186044416 then ((impl_TreeParts.f k4 t1056 t1057 (y1094 ++ y1097)).bind fun t1104 => ((laws_wkInts.f k4 t1104 t1079).bind fun t1107 => (if t1107 = true then (some false) else ((laws_wkIn.f k4 (t1061.take (x10_4 : Int).toNat) (rd t1061 x10_4)).bind fun t1113 => (if t1113 = true then (some false) else (laws_FnTreeBest.l2 k4 t1061 t1079 x8_3 (wrap64 (x10_4 + 1)) t1057 t1056)))))) else (none))) else (none)) else (none)) = some r:=by first | (rw [hy1094]; with_reducible exact H) | (have H2_:=(Option.bind_some _ _).symm.trans H; rw [hy1094]; with_reducible exact H2_) | (have H2_:=(Option.bind_some _ _).symm.trans H; with_reducible exact H2_) | with_reducible exact H | (rw [hy1094]; exact H) | exact H
         have Ny1094:=zx hy1094;clear hy1094;obtain ⟨ji55,hji55⟩ : ∃ j_ : Int,(wrap64 (x10_4 + 1)) = j_:=⟨_,rfl⟩
         replace H : (if 0 ≤ (ji55) then (if (ji55) ≤ (t1061.length : Int) then ((some (t1061.drop ((ji55) : Int).toNat : List Int)).bind fun y1097 => (if y1094.length + y1097.length < 17592186044416 then ((impl_TreeParts.f k4 t1056 t1057 (y1094 ++ y1097)).bind fun t1104 => ((laws_wkInts.f k4 t1104 t1079).bind fun t1107 => (if t1107 = true then (some false) else ((laws_wkIn.f k4 (t1061.take (x10_4 : Int).toNat) (rd t1061 x10_4)).bind fun t1113 => (if t1113 = true then (some false) else (laws_FnTreeBest.l2 k4 t1061 t1079 x8_3 ji55 t1057 t1056)))))) else (none))) else (none)) else (none)) = some r:=by first | (rw [hji55] at H; exact H) | (simp only [hji55] at H ⊢; exact H)
         have hji55w : (IntKind.i64.wrap (x10_4 + 1)) = ji55:=(i64_w _).trans hji55
         by_cases c56 : 0 ≤ (ji55)
         case neg =>
          rw [if_neg c56] at H;exact absurd H (by simp)
         rw [if_pos c56] at H;have c56b0:=eq_true c56;have c56b1 : decide (0 ≤ (ji55)) = true:=decide_eq_true c56;clear c56
         by_cases c57 : (ji55) ≤ (t1061.length : Int)
         case neg =>
          rw [if_neg c57] at H;exact absurd H (by simp)
         rw [if_pos c57] at H;have c57b0:=eq_true c57;have c57b1 : decide ((ji55) ≤ (t1061.length : Int)) = true:=decide_eq_true c57;clear c57;obtain ⟨y1097,hy1097⟩ : ∃ y_ : List Int,y_ = (t1061.drop ((ji55) : Int).toNat):=⟨_,rfl⟩
         replace H : (if y1094.length + y1097.length < 17592186044416 then ((impl_TreeParts.f k4 t1056 t1057 (y1094 ++ y1097)).bind fun t1104 => ((laws_wkInts.f k4 t1104 t1079).bind fun t1107 => (if t1107 = true then (some false) else ((laws_wkIn.f k4 (t1061.take (x10_4 : Int).toNat) (rd t1061 x10_4)).bind fun t1113 => (if t1113 = true then (some false) else (laws_FnTreeBest.l2 k4 t1061 t1079 x8_3 ji55 t1057 t1056)))))) else (none)) = some r:=by first | (rw [hy1097]; with_reducible exact H) | (have H2_:=(Option.bind_some _ _).symm.trans H; rw [hy1097]; with_reducible exact H2_) | (have H2_:=(Option.bind_some _ _).symm.trans H; with_reducible exact H2_) | with_reducible exact H | (rw [hy1097]; exact H) | exact H
         have Ny1097:=zx hy1097;clear hy1097
         by_cases c58 : y1094.length + y1097.length < 17592186044416
         case neg =>
          rw [if_neg c58] at H;exact absurd H (by simp)
         rw [if_pos c58] at H;have LMc58:=zx c58;clear c58;obtain ⟨y1101,hy1101⟩ : ∃ y_ : List Int,y_ = (y1094 ++ y1097):=⟨_,rfl⟩
         replace H : ((impl_TreeParts.f k4 t1056 t1057 y1101).bind fun t1104 => ((laws_wkInts.f k4 t1104 t1079).bind fun t1107 => (if t1107 = true then (some false) else ((laws_wkIn.f k4 (t1061.take (x10_4 : Int).toNat) (rd t1061 x10_4)).bind fun t1113 => (if t1113 = true then (some false) else (laws_FnTreeBest.l2 k4 t1061 t1079 x8_3 ji55 t1057 t1056)))))) = some r:=by first | (rw [hy1101]; with_reducible exact H) | (have H2_:=(Option.bind_some _ _).symm.trans H; rw [hy1101]; with_reducible exact H2_) | (have H2_:=(Option.bind_some _ _).symm.trans H; with_reducible exact H2_) | with_reducible exact H | (rw [hy1101]; exact H) | exact H
         have Ny1101:=zx hy1101;clear hy1101;replace H:=Option.bind_eq_some_iff.mp H;obtain ⟨t1104,A590,H⟩:=H;replace H : ((laws_wkInts.f k4 t1104 t1079).bind fun t1107 => (if t1107 = true then (some false) else ((laws_wkIn.f k4 (t1061.take (x10_4 : Int).toNat) (rd t1061 x10_4)).bind fun t1113 => (if t1113 = true then (some false) else (laws_FnTreeBest.l2 k4 t1061 t1079 x8_3 ji55 t1057 t1056))))) = some r:=H;have A59:=zx A590;clear A590;replace H:=Option.bind_eq_some_iff.mp H;obtain ⟨t1107,A600,H⟩:=H;replace H : (if t1107 = true then (some false) else ((laws_wkIn.f k4 (t1061.take (x10_4 : Int).toNat) (rd t1061 x10_4)).bind fun t1113 => (if t1113 = true then (some false) else (laws_FnTreeBest.l2 k4 t1061 t1079 x8_3 ji55 t1057 t1056)))) = some r:=H;have A60:=zx A600;clear A600
         by_cases c61 : t1107 = true
         case pos =>
          subst c61;have H1 : (some false) = some r:=by rw [if_pos rfl] at H; exact H
          exact absurd ((Option.some.inj H1).trans HRT_.out) (by decide)
         replace c61:=Bool.eq_false_iff.mpr c61;subst c61;have H1 : ((laws_wkIn.f k4 (t1061.take (x10_4 : Int).toNat) (rd t1061 x10_4)).bind fun t1113 => (if t1113 = true then (some false) else (laws_FnTreeBest.l2 k4 t1061 t1079 x8_3 ji55 t1057 t1056))) = some r:=by rw [if_neg (show ¬ (false = true) by decide)] at H; exact H
         clear H;have H:=H1;clear H1;have c75b0:=eq_true (of_decide_eq_true (by first | (with_reducible assumption) | assumption) : 0 ≤ x10_4);have c76b0:=eq_true (of_decide_eq_true (by first | (with_reducible assumption) | assumption) : x10_4 ≤ (t1061.length : Int));obtain ⟨y1108,hy1108⟩ : ∃ y_ : List Int,y_ = (t1061.take (x10_4 : Int).toNat):=⟨_,rfl⟩
         replace H : ((laws_wkIn.f k4 y1108 (rd t1061 x10_4)).bind fun t1113 => (if t1113 = true then (some false) else (laws_FnTreeBest.l2 k4 t1061 t1079 x8_3 ji55 t1057 t1056))) = some r:=by first | (rw [hy1108]; with_reducible exact H) | (have H2_:=(Option.bind_some _ _).symm.trans H; rw [hy1108]; with_reducible exact H2_) | (have H2_:=(Option.bind_some _ _).symm.trans H; with_reducible exact H2_) | with_reducible exact H | (rw [hy1108]; exact H) | exact H
         have Ny1108:=zx hy1108;clear hy1108;replace H:=Option.bind_eq_some_iff.mp H;obtain ⟨t1113,A770,H⟩:=H;replace H : (if t1113 = true then (some false) else (laws_FnTreeBest.l2 k4 t1061 t1079 x8_3 ji55 t1057 t1056)) = some r:=H;have A77:=zx A770;clear A770
         by_cases c78 : t1113 = true
         case pos =>
          subst c78;have H1 : (some false) = some r:=by rw [if_pos rfl] at H; exact H
          exact absurd ((Option.some.inj H1).trans HRT_.out) (by decide)
         replace c78:=Bool.eq_false_iff.mpr c78;subst c78;have H1 : (laws_FnTreeBest.l2 k4 t1061 t1079 x8_3 ji55 t1057 t1056) = some r:=by rw [if_neg (show ¬ (false = true) by decide)] at H; exact H
         clear H;have H:=H1;clear H1;have H':=zx H;clear H;obtain ⟨Ao93,co93,eo93⟩:=Kd.R_slice HO_4.out;subst eo93
         try go_wp2
         have n0_:=zx (Kd.R_drew HO_4.out);have n1_:=zx (Kd.R_drew HO_7.out);have n2_:=zx (Kd.R_drew HO_36.out);have n3_:=zx (Kd.R_drew HO_36.out);have n4_:=zx (blk_drew BK1060.out);have n5_:=zx (below_drew1 HB.out);clear HO_4;clear HO_7;clear HO_36;clear HO_36;clear BK1060;clear HB;have HO_4:=n0_;have HO_7:=n1_;have HO_36:=n2_;have HO_36:=n3_;have BK1060:=n4_;have HB:=n5_;clear n0_ n1_ n2_ n3_ n4_ n5_;have q95 : (x10_4 : Int) ≤ ((t1061.length : Int) : Int):=of_decide_eq_true (by first | (with_reducible assumption) | assumption);obtain ⟨i095,hi095,_,hsz95,_⟩:=info_parts info3;have hroom95 : t1061.length ≤ co93:=(Kd.R_reads' HO_4.out).2.1;have hC95 : Kd.C (Kd.int .i64) _ Ao93 t1061.length t1061:=(Kd.R_reads' HO_4.out).2.2;have hcut95:=cut_to (P:=Try.prog) 23 3 .i64 Try.underlying23 hi095 Ao93 t1061.length co93 x10_4 (of_decide_eq_true (by first | (with_reducible assumption) | assumption)) q95 hroom95;have hr95:=Kd.C_take (m:=(x10_4 : Int).toNat) hC95 (by omega);have hy95 : y1090.length = (x10_4 : Int).toNat:=(by rw [Ny1090.out,List.length_take]; omega)
         rw [← Ny1090.out] at hr95;rw [← hy95] at hcut95;have HR1093:=zx hr95;have HC1093:=zx (show y1090.length ≤ co93 from by omega);clear hr95 hC95 hroom95 hi095 hsz95;have KY95:=zx hy95;clear hy95;have KL95:=zx (show (x10_4 : Int).toNat ≤ t1061.length from by omega);replace q95:=eq_true q95;have q96 : ((ji55) : Int) ≤ ((t1061.length : Int) : Int):=of_decide_eq_true (by first | (with_reducible assumption) | assumption);obtain ⟨i096,hi096,_,hsz96,_⟩:=info_parts info3;have hroom96 : t1061.length ≤ co93:=(Kd.R_reads' HO_4.out).2.1;have hC96 : Kd.C (Kd.int .i64) _ Ao93 t1061.length t1061:=(Kd.R_reads' HO_4.out).2.2;have q096 : (0 : Int) ≤ ((ji55) : Int):=of_decide_eq_true (by first | (with_reducible assumption) | assumption);have hcut96:=cut_from (P:=Try.prog) 23 3 .i64 Try.underlying23 hi096 1 hsz96 Ao93 t1061.length co93 (ji55) q096 q96;have hr96:=Kd.C_drop (m:=((ji55) : Int).toNat) (c:=co93) hC96 (by omega) hroom96;obtain ⟨A96,hA96⟩ : ∃ A1,A1 = (if co93 = ((ji55) : Int).toNat then Ao93 else (Ao93 : Option Addr).map (·.add (((ji55) : Int).toNat * 1))):=⟨_,rfl⟩
         obtain ⟨c96,hc96⟩ : ∃ c1,c1 = co93 - ((ji55) : Int).toNat:=⟨_,rfl⟩
         have hy96 : y1097.length = t1061.length - ((ji55) : Int).toNat:=(by rw [Ny1097.out,List.length_drop] <;> omega)
         rw [show (t1061).drop ((ji55) : Int).toNat = y1097 from Ny1097.out.symm] at hr96;replace hr96 : Kd.C (Kd.int .i64) _ A96 y1097.length y1097:=(by rw [hA96]; exact hr96)
         rw [← hy96,← hA96,← hc96] at hcut96;have HR1100:=zx hr96;have HC1100:=zx (show y1097.length ≤ c96 from by rw [hy96,hc96]; exact Nat.sub_le_sub_right hroom96 _);clear hr96 hC96 hroom96 hi096 hsz96 hc96;have KY96:=zx hy96;have KA96:=zx hA96;clear hy96 hA96;have KL96:=zx (show ((ji55) : Int).toNat ≤ t1061.length from by omega);replace q96:=eq_true q96;refine start_ (n:=11) (S:=fun w' => True) (ds:=[]) #[false,false,false,false,false,false,false,false,false,false,false] (by kernel_rfl) rfl rfl trivial (fun hHeld => ?_); refine with_tabW laws_FnTreeBest.tab22 laws_FnTreeBest.bits22 (fun HT_ HW_ => ?_);generalize wr.drew = w94 at HO_4 HO_7 HO_36 HO_36 BK1060 HB HR1093 HR1100 hHeld ⊢;refine pure_ (i:=1) (N:=some 69) (v:=?_) (a':=?_) #[false,true,false,false,false,false,false,false,false,false,false] rfl rfl (any_of HT_.out (by kernel_rfl)) (fun _ _ _ h => h) (Or.inl ⟨by rfl,?_⟩) ?_ ?_;rotate_left
         ·intro w';go_simp;with_reducible rfl
         rotate_left
         ·simp only [Act.put,U,V,Z,i64_w,i32_w];rfl
         refine pure_ (i:=2) (N:=some 70) (v:=?_) (a':=?_) #[false,true,true,false,false,false,false,false,false,false,false] rfl rfl (any_of HT_.out (by kernel_rfl)) (fun _ _ _ h => h) (Or.inl ⟨by rfl,?_⟩) ?_ ?_;rotate_left
         ·intro w';go_simp;with_reducible rfl
         rotate_left
         ·simp only [Act.put,U,V,Z,i64_w,i32_w];rfl
         refine pure_ (i:=3) (N:=some 71) (v:=?_) (a':=?_) #[false,true,true,true,false,false,false,false,false,false,false] rfl rfl (any_of HT_.out (by kernel_rfl)) (fun _ _ _ h => h) (Or.inl ⟨by rfl,?_⟩) ?_ ?_;rotate_left
         ·intro w';go_simp;with_reducible rfl
         rotate_left
         ·simp only [Act.put,U,V,Z,i64_w,i32_w];rfl
         refine pure_ (i:=5) (N:=some 73) (v:=?_) (a':=?_) #[false,true,true,true,false,true,false,false,false,false,false] rfl rfl (any_of HT_.out (by kernel_rfl)) (fun _ _ _ h => h) (Or.inl ⟨by rfl,?_⟩) ?_ ?_;rotate_left
         ·intro w';go_simp;with_reducible rfl
         rotate_left
         ·simp only [Act.put,U,V,Z,i64_w,i32_w];rfl
         refine pure_ (i:=6) (N:=some 74) (v:=?_) (a':=?_) #[false,true,true,true,false,true,true,false,false,false,false] rfl rfl (any_of HT_.out (by kernel_rfl)) (fun _ _ _ h => h) (Or.inl ⟨by rfl,?_⟩) ?_ ?_;rotate_left
         ·intro w';go_simp;with_reducible rfl
         rotate_left
         ·simp only [Act.put,U,V,Z,i64_w,i32_w];rfl
         refine pure_ (i:=7) (N:=some 75) (v:=?_) (a':=?_) #[false,true,true,true,false,true,true,true,false,false,false] rfl rfl (any_of HT_.out (by kernel_rfl)) (fun _ _ _ h => h) (Or.inl ⟨by rfl,?_⟩) ?_ ?_;rotate_left
         ·intro w';go_simp;with_reducible rfl
         rotate_left
         ·simp only [Act.put,U,V,Z,i64_w,i32_w];rfl
         refine pure_ (i:=8) (N:=some 76) (v:=?_) (a':=?_) #[false,true,true,true,false,true,true,true,true,false,false] rfl rfl (any_of HT_.out (by kernel_rfl)) (fun _ _ _ h => h) (Or.inl ⟨by rfl,?_⟩) ?_ ?_;rotate_left
         ·intro w';go_simp;with_reducible rfl
         rotate_left
         ·simp only [Act.put,U,V,Z,i64_w,i32_w];rfl
         refine one_ (i:=0) (N:=some 68) #[true,true,true,true,false,true,true,true,true,false,false] rfl rfl (one_of HT_.out (by kernel_rfl)) (by decide) (fun K hK => ?_);refine Kd.R_lit_step (Kd.int .i64) _ 3 ?hg (N:=68) ?hd (xs:=([] : List Int)) (inner:=[]) (ok:=fun _ => True) (okp:=fun _ => True) ?hr ?hp (fun _ hk => hk) trivial (Below.refl _ _) (Nat.le_refl _) (by simp) ?_; (case hd => rfl); (case hg => rfl); (case hr => first | (go_simp; done) | (go_simp; rfl)); (case hp => exact (Reps.none _ _));intro v1088 w97 ho98 hb hg_ hnew_;clear hg_ hnew_
         (first | rw [← Ny1087.out] at ho98 | (simp only [Int.reduceToNat] at ho98; rw [← Ny1087.out] at ho98))
         have n0_:=zx (Kd.R_elder' (by (with_reducible repeat (first | apply Kd.R_alloc | apply Kd.R_drewN | apply Kd.R_drew)); exact HO_4.out) (Kd.R_base ho98) hb);have n1_:=zx (Kd.R_elder' (by (with_reducible repeat (first | apply Kd.R_alloc | apply Kd.R_drewN | apply Kd.R_drew)); exact HO_7.out) (Kd.R_base ho98) hb);have n2_:=zx (Kd.R_below (by (with_reducible repeat (first | apply Kd.R_alloc | apply Kd.R_drewN | apply Kd.R_drew)); exact HO_36.out) hb);have n3_:=zx (Kd.R_below (by (with_reducible repeat (first | apply Kd.R_alloc | apply Kd.R_drewN | apply Kd.R_drew)); exact HO_36.out) hb);have n4_:=zx (Kd.R_lower (Kd.R_new' (Kd.R_new' ho98 (Kd.R_lt (by (with_reducible repeat (first | apply Kd.R_alloc | apply Kd.R_drewN | apply Kd.R_drew)); exact HO_4.out))) (Kd.R_lt (by (with_reducible repeat (first | apply Kd.R_alloc | apply Kd.R_drewN | apply Kd.R_drew)); exact HO_7.out))) (below_size (by repeat (first | (with_reducible first | exact HB.out | apply below_alloc | apply pw_below_drewN | apply below_drew1 | refine below_set ?_ GE1060.out) | exact HB.out))));have n5_:=zx (blk_below (g:=gb1060) (o:=.cells #[.int .i64 t1056,.slice Ao9 t1057.length co9] 34 (0,0)) (by (with_reducible repeat (first | refine blk_drewN ?_ _ | refine blk_drew ?_ | refine blk_alloc ?_ _)); exact BK1060.out) hb);have n6_:=zx (Kd.C_below (by repeat (first | (with_reducible exact HR1093.out) | (with_reducible refine Kd.C_alloc ?_ _) | (with_reducible refine Kd.C_drewN ?_ _) | (with_reducible refine Kd.C_drew ?_) | exact HR1093.out)) hb);have n7_:=zx (Kd.C_below (by repeat (first | (with_reducible exact HR1100.out) | (with_reducible refine Kd.C_alloc ?_ _) | (with_reducible refine Kd.C_drewN ?_ _) | (with_reducible refine Kd.C_drew ?_) | exact HR1100.out)) hb);have n8_:=zx (below_step (by repeat (first | (with_reducible first | exact HB.out | apply below_alloc | apply pw_below_drewN | apply below_drew1 | refine below_set ?_ GE1060.out) | exact HB.out)) hb);clear HO_4;clear HO_7;clear HO_36;clear HO_36;clear BK1060;clear HR1093;clear HR1100;clear HB;have HO_4:=n0_;have HO_7:=n1_;have HO_36:=n2_;have HO_36:=n3_;have HO1089:=n4_;have BK1060:=n5_;have HR1093:=n6_;have HR1100:=n7_;have HB:=n8_;clear n0_ n1_ n2_ n3_ n4_ n5_ n6_ n7_ n8_;clear hb ho98;refine hK.out _ _ trivial (fun hHeld => ?_);clear hK K;refine norm_ (a':=?_) ?_ ?_;rotate_left
         ·show Act.put _ (some 68) _ = _
          simp only [Act.put,U,V,Z,i64_w,i32_w];rfl
         refine one_ (i:=4) (N:=some 72) #[true,true,true,true,true,true,true,true,true,false,false] rfl rfl (one_of HT_.out (by kernel_rfl)) (by decide) (fun K hK => ?_);refine Kd.R_append_rows_step (Kd.int .i64) (w0:=w) w.heap.size (by rfl) (.tmp 68) (.tmp 71) 23 3 (.int .i64 0) 8 rfl Try.underlying23 info3 rfl (by decide) (by omega) v1088 y1087 y1090 _ _ _ (fun k_ => some k_ ≠ (.slice Ao93 t1061.length co93 : Value).ownBlock ∧ some k_ ≠ (v1080 : Value).ownBlock) (fun _ => False) rfl rfl ?aO ?aR (fun _ _ h => h) (fun _ h => h.elim) ?aF ?aB ?aS ?aL ?_
         (case aR => repeat (first | exact (by repeat (first | (with_reducible exact HR1093.out) | (with_reducible refine Kd.C_alloc ?_ _) | (with_reducible refine Kd.C_drewN ?_ _) | (with_reducible refine Kd.C_drew ?_) | exact HR1093.out)) | (with_reducible refine Kd.C_alloc ?_ _) | (with_reducible refine Kd.C_drewN ?_ _) | (with_reducible refine Kd.C_drew ?_)))
         (case aB => exact (by repeat (first | (with_reducible first | exact HB.out | apply below_alloc | apply pw_below_drewN | apply below_drew1 | refine below_set ?_ GE1060.out) | exact HB.out)))
         (case aF => exact (fun k_ hk => ⟨Kd.fresh' (Kd.R_lt (by (with_reducible repeat (first | apply Kd.R_alloc | apply Kd.R_drewN | apply Kd.R_drew)); exact HO_4.out)) k_ hk,Kd.fresh' (Kd.R_lt (by (with_reducible repeat (first | apply Kd.R_alloc | apply Kd.R_drewN | apply Kd.R_drew)); exact HO_7.out)) k_ hk⟩))
         (case aO => exact (by (with_reducible repeat (first | apply Kd.R_alloc | apply Kd.R_drewN | apply Kd.R_drew)); exact Kd.R_mono HO1089.out (fun _ hk => ⟨hk.1.2,hk.2⟩)))
         (case aS => exact (below_size (by repeat (first | (with_reducible first | exact HB.out | apply below_alloc | apply pw_below_drewN | apply below_drew1 | refine below_set ?_ GE1060.out) | exact HB.out))))
         (case aL => have:=LMc54.out; omega)
         intro v1095 w99 ho hb hg hat;rw [← Ny1094.out] at ho;have n0_:=zx (Kd.R_after (ok:=(fun k_ => some k_ ≠ (v1080 : Value).ownBlock)) (by (with_reducible repeat (first | apply Kd.R_alloc | apply Kd.R_drewN | apply Kd.R_drew)); exact HO_4.out) hg hat);have n1_:=zx (Kd.R_after (ok:=(fun k_ => some k_ ≠ (.slice Ao93 t1061.length co93 : Value).ownBlock)) (by (with_reducible repeat (first | apply Kd.R_alloc | apply Kd.R_drewN | apply Kd.R_drew)); exact HO_7.out) hg hat);have n2_:=zx (Kd.R_over' (by (with_reducible repeat (first | apply Kd.R_alloc | apply Kd.R_drewN | apply Kd.R_drew)); exact HO_36.out) (Kd.R_typed (by (with_reducible repeat (first | apply Kd.R_alloc | apply Kd.R_drewN | apply Kd.R_drew)); exact HO1089.out)) (by decide) hg);have n3_:=zx (Kd.R_over' (by (with_reducible repeat (first | apply Kd.R_alloc | apply Kd.R_drewN | apply Kd.R_drew)); exact HO_36.out) (Kd.R_typed (by (with_reducible repeat (first | apply Kd.R_alloc | apply Kd.R_drewN | apply Kd.R_drew)); exact HO1089.out)) (by decide) hg);have n4_:=zx (blk_grown (g:=gb1060) (o:=.cells #[.int .i64 t1056,.slice Ao9 t1057.length co9] 34 (0,0)) (by (with_reducible repeat (first | refine blk_drewN ?_ _ | refine blk_drew ?_ | refine blk_alloc ?_ _)); exact BK1060.out) hg (Kd.R_ne HO1089.out BK1060.out (by decide)));have n5_:=zx (hb);have n6_:=zx ((show Kd.C (Kd.int .i64) w99 Ao93 y1090.length y1090 from by rw [Ny1090.out]; exact Kd.C_take (m:=(x10_4 : Int).toNat) ((Kd.R_reads' (Kd.R_after (ok:=(fun k_ => some k_ ≠ (v1080 : Value).ownBlock)) (by (with_reducible repeat (first | apply Kd.R_alloc | apply Kd.R_drewN | apply Kd.R_drew)); exact HO_4.out) hg hat)).2.2) KL95.out));have n7_:=zx ((show Kd.C (Kd.int .i64) w99 A96 y1097.length y1097 from by rw [Ny1097.out,KA96.out]; exact Kd.C_drop (m:=((ji55) : Int).toNat) (c:=co93) ((Kd.R_reads' (Kd.R_after (ok:=(fun k_ => some k_ ≠ (v1080 : Value).ownBlock)) (by (with_reducible repeat (first | apply Kd.R_alloc | apply Kd.R_drewN | apply Kd.R_drew)); exact HO_4.out) hg hat)).2.2) KL96.out ((Kd.R_reads' (Kd.R_after (ok:=(fun k_ => some k_ ≠ (v1080 : Value).ownBlock)) (by (with_reducible repeat (first | apply Kd.R_alloc | apply Kd.R_drewN | apply Kd.R_drew)); exact HO_4.out) hg hat)).2.1)));have n8_:=zx (ho);clear HO_4;clear HO_7;clear HO_36;clear HO_36;clear BK1060;clear HB;clear HR1093;clear HR1100;clear HO1089;have HO_4:=n0_;have HO_7:=n1_;have HO_36:=n2_;have HO_36:=n3_;have BK1060:=n4_;have HB:=n5_;have HR1093:=n6_;have HR1100:=n7_;have HO1096:=n8_;clear n0_ n1_ n2_ n3_ n4_ n5_ n6_ n7_ n8_;clear ho hb hg hat;refine hK.out _ _ trivial (fun hHeld => ?_);clear hK K;refine norm_ (a':=?_) ?_ ?_;rotate_left
         ·show Act.put _ (some 72) _ = _
          simp only [Act.put,U,V,Z,i64_w,i32_w];rfl
         refine one_ (i:=9) (N:=some 77) #[true,true,true,true,true,true,true,true,true,true,false] rfl rfl (one_of HT_.out (by kernel_rfl)) (by decide) (fun K hK => ?_);refine Kd.R_append_rows_step (Kd.int .i64) (w0:=w) w.heap.size (by rfl) (.tmp 72) (.tmp 76) 23 3 (.int .i64 0) 8 rfl Try.underlying23 info3 rfl (by decide) (by omega) v1095 y1094 y1097 _ _ _ (fun k_ => some k_ ≠ (.slice Ao93 t1061.length co93 : Value).ownBlock ∧ some k_ ≠ (v1080 : Value).ownBlock) (fun _ => False) rfl rfl ?aO ?aR (fun _ _ h => h) (fun _ h => h.elim) ?aF ?aB ?aS ?aL ?_
         (case aR => repeat (first | exact (by repeat (first | (with_reducible exact HR1100.out) | (with_reducible refine Kd.C_alloc ?_ _) | (with_reducible refine Kd.C_drewN ?_ _) | (with_reducible refine Kd.C_drew ?_) | exact HR1100.out)) | (with_reducible refine Kd.C_alloc ?_ _) | (with_reducible refine Kd.C_drewN ?_ _) | (with_reducible refine Kd.C_drew ?_)))
         (case aB => exact (by repeat (first | (with_reducible first | exact HB.out | apply below_alloc | apply pw_below_drewN | apply below_drew1 | refine below_set ?_ GE1060.out) | exact HB.out)))
         (case aF => exact (fun k_ hk => ⟨Kd.fresh' (Kd.R_lt (by (with_reducible repeat (first | apply Kd.R_alloc | apply Kd.R_drewN | apply Kd.R_drew)); exact HO_4.out)) k_ hk,Kd.fresh' (Kd.R_lt (by (with_reducible repeat (first | apply Kd.R_alloc | apply Kd.R_drewN | apply Kd.R_drew)); exact HO_7.out)) k_ hk⟩))
         (case aO => exact (by (with_reducible repeat (first | apply Kd.R_alloc | apply Kd.R_drewN | apply Kd.R_drew)); exact HO1096.out))
         (case aS => exact (below_size (by repeat (first | (with_reducible first | exact HB.out | apply below_alloc | apply pw_below_drewN | apply below_drew1 | refine below_set ?_ GE1060.out) | exact HB.out))))
         (case aL => have:=LMc58.out; omega)
         intro v1102 w100 ho hb hg hat;rw [← Ny1101.out] at ho;have n0_:=zx (Kd.R_after (ok:=(fun k_ => some k_ ≠ (v1080 : Value).ownBlock)) (by (with_reducible repeat (first | apply Kd.R_alloc | apply Kd.R_drewN | apply Kd.R_drew)); exact HO_4.out) hg hat);have n1_:=zx (Kd.R_after (ok:=(fun k_ => some k_ ≠ (.slice Ao93 t1061.length co93 : Value).ownBlock)) (by (with_reducible repeat (first | apply Kd.R_alloc | apply Kd.R_drewN | apply Kd.R_drew)); exact HO_7.out) hg hat);have n2_:=zx (Kd.R_over' (by (with_reducible repeat (first | apply Kd.R_alloc | apply Kd.R_drewN | apply Kd.R_drew)); exact HO_36.out) (Kd.R_typed (by (with_reducible repeat (first | apply Kd.R_alloc | apply Kd.R_drewN | apply Kd.R_drew)); exact HO1096.out)) (by decide) hg);have n3_:=zx (Kd.R_over' (by (with_reducible repeat (first | apply Kd.R_alloc | apply Kd.R_drewN | apply Kd.R_drew)); exact HO_36.out) (Kd.R_typed (by (with_reducible repeat (first | apply Kd.R_alloc | apply Kd.R_drewN | apply Kd.R_drew)); exact HO1096.out)) (by decide) hg);have n4_:=zx (blk_grown (g:=gb1060) (o:=.cells #[.int .i64 t1056,.slice Ao9 t1057.length co9] 34 (0,0)) (by (with_reducible repeat (first | refine blk_drewN ?_ _ | refine blk_drew ?_ | refine blk_alloc ?_ _)); exact BK1060.out) hg (Kd.R_ne HO1096.out BK1060.out (by decide)));have n5_:=zx (hb);have n6_:=zx ((show Kd.C (Kd.int .i64) w100 Ao93 y1090.length y1090 from by rw [Ny1090.out]; exact Kd.C_take (m:=(x10_4 : Int).toNat) ((Kd.R_reads' (Kd.R_after (ok:=(fun k_ => some k_ ≠ (v1080 : Value).ownBlock)) (by (with_reducible repeat (first | apply Kd.R_alloc | apply Kd.R_drewN | apply Kd.R_drew)); exact HO_4.out) hg hat)).2.2) KL95.out));have n7_:=zx ((show Kd.C (Kd.int .i64) w100 A96 y1097.length y1097 from by rw [Ny1097.out,KA96.out]; exact Kd.C_drop (m:=((ji55) : Int).toNat) (c:=co93) ((Kd.R_reads' (Kd.R_after (ok:=(fun k_ => some k_ ≠ (v1080 : Value).ownBlock)) (by (with_reducible repeat (first | apply Kd.R_alloc | apply Kd.R_drewN | apply Kd.R_drew)); exact HO_4.out) hg hat)).2.2) KL96.out ((Kd.R_reads' (Kd.R_after (ok:=(fun k_ => some k_ ≠ (v1080 : Value).ownBlock)) (by (with_reducible repeat (first | apply Kd.R_alloc | apply Kd.R_drewN | apply Kd.R_drew)); exact HO_4.out) hg hat)).2.1)));have n8_:=zx (ho);clear HO_4;clear HO_7;clear HO_36;clear HO_36;clear BK1060;clear HB;clear HR1093;clear HR1100;clear HO1096;have HO_4:=n0_;have HO_7:=n1_;have HO_36:=n2_;have HO_36:=n3_;have BK1060:=n4_;have HB:=n5_;have HR1093:=n6_;have HR1100:=n7_;have HO1103:=n8_;clear n0_ n1_ n2_ n3_ n4_ n5_ n6_ n7_ n8_;clear ho hb hg hat;refine hK.out _ _ trivial (fun hHeld => ?_);clear hK K;refine norm_ (a':=?_) ?_ ?_;rotate_left
         ·show Act.put _ (some 77) _ = _
          simp only [Act.put,U,V,Z,i64_w,i32_w];rfl
         refine pure_ (i:=10) (N:=some 11) (v:=?_) (a':=?_) #[true,true,true,true,true,true,true,true,true,true,true] rfl rfl (any_of HT_.out (by kernel_rfl)) (fun _ _ _ h => h) (Or.inl ⟨by rfl,?_⟩) ?_ ?_;rotate_left
         ·intro w';go_simp;with_reducible rfl
         rotate_left
         ·simp only [Act.put,U,V,Z,i64_w,i32_w];rfl
         refine done_ (done_of HT_.out (by kernel_rfl)) ?_
         try go_wp2
         have n0_:=zx (Kd.R_drew HO_4.out);have n1_:=zx (Kd.R_drew HO_7.out);have n2_:=zx (Kd.R_drew HO_36.out);have n3_:=zx (Kd.R_drew HO_36.out);have n4_:=zx (Kd.R_drew HO1103.out);have n5_:=zx (blk_drew BK1060.out);have n6_:=zx (Kd.C_drew HR1093.out);have n7_:=zx (Kd.C_drew HR1100.out);have n8_:=zx (below_drew1 HB.out);clear HO_4;clear HO_7;clear HO_36;clear HO_36;clear HO1103;clear BK1060;clear HR1093;clear HR1100;clear HB;have HO_4:=n0_;have HO_7:=n1_;have HO_36:=n2_;have HO_36:=n3_;have HO1103:=n4_;have BK1060:=n5_;have HR1093:=n6_;have HR1100:=n7_;have HB:=n8_;clear n0_ n1_ n2_ n3_ n4_ n5_ n6_ n7_ n8_;obtain ⟨Ao102,co102,eo102⟩:=Kd.R_slice HO1103.out
         (first | subst eo102 | (injection eo102 with f1_ f2_ f3_; have f4_:=f1_.symm; have f5_:=f3_.symm; clear f1_ f2_ f3_; subst f4_; subst f5_))
         have p1112 : 0 ≤ (x10_4 : Int):=of_decide_eq_true (by first | (with_reducible assumption) | assumption);have q1112 : x10_4 < (t1061.length : Int):=of_decide_eq_true (by first | (with_reducible assumption) | assumption);obtain ⟨ad1112,e1112,hx1112_0⟩:=Kd.at_int (Kd.R_reads' HO_4.out).2.2 x10_4 p1112 q1112;cases e1112;replace p1112:=eq_true p1112;replace q1112:=eq_true q1112;refine start_ (n:=15) (S:=fun w' => w'.cell? ⟨gb1060,0,none⟩ = some (.int .i64 t1056) ∧ w'.cell? ⟨gb1060,1,none⟩ = some (.slice Ao9 t1057.length co9) ∧ w'.cell? (ad1112.add (x10_4).toNat) = some (.int .i64 (rd t1061 x10_4))) (ds:=[]) #[false,false,false,false,false,false,false,false,false,false,false,false,false,false,false] (by kernel_rfl) rfl rfl ⟨(blk_cell BK1060.out 0).trans rfl,(blk_cell BK1060.out 1).trans rfl,hx1112_0⟩ (fun hHeld => ?_); refine with_tabW laws_FnTreeBest.tab23 laws_FnTreeBest.bits23 (fun HT_ HW_ => ?_);generalize w100.drew = w101 at HO_4 HO_7 HO_36 HO_36 HO1103 BK1060 HR1093 HR1100 HB hx1112_0 hHeld ⊢;refine pure_ (i:=1) (N:=some 79) (v:=?_) (a':=?_) #[false,true,false,false,false,false,false,false,false,false,false,false,false,false,false] rfl rfl (any_of HT_.out (by kernel_rfl)) (fun _ _ _ h => h) (Or.inl ⟨by rfl,?_⟩) ?_ ?_;rotate_left
         ·intro w';go_simp;with_reducible rfl
         rotate_left
         ·simp only [Act.put,U,V,Z,i64_w,i32_w];rfl
         refine pure_ (i:=3) (N:=some 81) (v:=?_) (a':=?_) #[false,true,false,true,false,false,false,false,false,false,false,false,false,false,false] rfl rfl (any_of HT_.out (by kernel_rfl)) (fun _ _ _ h => h) (Or.inl ⟨by rfl,?_⟩) ?_ ?_;rotate_left
         ·intro w';go_simp;with_reducible rfl
         rotate_left
         ·simp only [Act.put,U,V,Z,i64_w,i32_w];rfl
         refine take_ (i:=0) (N:=some 78) (v:=?_) (a':=?_) #[true,true,false,true,false,false,false,false,false,false,false,false,false,false,false] rfl rfl (take_ofW HT_.out HW_.out (by kernel_rfl)) (fun _ _ _ h => h) (Or.inl ⟨by rfl,?_⟩) hHeld ?_ ?_;rotate_left
         ·rintro w' ⟨s0,s1,s2⟩;go_simp;with_reducible rfl
         rotate_left
         ·simp only [Act.put,U,V,Z,i64_w,i32_w];rfl
         refine one_ (i:=2) (N:=some 80) #[true,true,true,true,false,false,false,false,false,false,false,false,false,false,false] rfl rfl (one_of HT_.out (by kernel_rfl)) (by decide) (fun K hK => ?_);refine goes_ Try.func52 (by kernel_rfl) rfl #[.agg #[.int .i64 t1056,.slice Ao9 t1057.length co9],.slice Ao102 y1101.length co102] (by rfl) rfl rfl (by (try simp only [List.map_toArray,List.map_cons,List.map_nil]); first | done | rfl | (simp only [List.length_drop,List.length_take]; rfl)) ?_;with_reducible refine (impl_TreeParts.calls k4 t1056 _ _ t1057 _ _ y1101 t1104 _ ?side1 ?side2 ?side3 ?side4 A59.out).mono ?_
         (case side1 => repeat (first | exact (Kd.R_reads' HO_36.out).2.2 | (with_reducible refine Kd.C_alloc ?_ _) | (with_reducible refine Kd.C_drewN ?_ _) | (with_reducible refine Kd.C_drew ?_)))
         (case side2 => exact (Kd.R_reads' HO_36.out).2.1)
         (case side3 => repeat (first | exact (Kd.R_reads' HO1103.out).2.2 | (with_reducible refine Kd.C_alloc ?_ _) | (with_reducible refine Kd.C_drewN ?_ _) | (with_reducible refine Kd.C_drew ?_)))
         (case side4 => exact (Kd.R_reads' HO1103.out).2.1)
         rintro e w103 ⟨v1105,rfl,ho0,hb⟩;have HS2_:=(hb.cell (World.block_lt_of_cell? _ _ (hHeld.2.2))).trans (hHeld.2.2);refine ⟨_,rfl,?_⟩;have n0_:=zx (Kd.R_elder' (by (with_reducible repeat (first | apply Kd.R_alloc | apply Kd.R_drewN | apply Kd.R_drew)); exact HO_4.out) (Kd.R_base ho0) hb);have n1_:=zx (Kd.R_elder' (by (with_reducible repeat (first | apply Kd.R_alloc | apply Kd.R_drewN | apply Kd.R_drew)); exact HO_7.out) (Kd.R_base ho0) hb);have n2_:=zx (Kd.R_below (by (with_reducible repeat (first | apply Kd.R_alloc | apply Kd.R_drewN | apply Kd.R_drew)); exact HO_36.out) hb);have n3_:=zx (Kd.R_below (by (with_reducible repeat (first | apply Kd.R_alloc | apply Kd.R_drewN | apply Kd.R_drew)); exact HO_36.out) hb);have n4_:=zx (Kd.R_elder' (by (with_reducible repeat (first | apply Kd.R_alloc | apply Kd.R_drewN | apply Kd.R_drew)); exact HO1103.out) (Kd.R_base ho0) hb);have n5_:=zx (Kd.R_lower (Kd.R_new' (Kd.R_new' (Kd.R_new' ho0 (Kd.R_lt (by (with_reducible repeat (first | apply Kd.R_alloc | apply Kd.R_drewN | apply Kd.R_drew)); exact HO_4.out))) (Kd.R_lt (by (with_reducible repeat (first | apply Kd.R_alloc | apply Kd.R_drewN | apply Kd.R_drew)); exact HO_7.out))) (Kd.R_lt (by (with_reducible repeat (first | apply Kd.R_alloc | apply Kd.R_drewN | apply Kd.R_drew)); exact HO1103.out))) (below_size (by repeat (first | (with_reducible first | exact HB.out | apply below_alloc | apply pw_below_drewN | apply below_drew1 | refine below_set ?_ GE1060.out) | exact HB.out))));have n6_:=zx (blk_below (g:=gb1060) (o:=.cells #[.int .i64 t1056,.slice Ao9 t1057.length co9] 34 (0,0)) (by (with_reducible repeat (first | refine blk_drewN ?_ _ | refine blk_drew ?_ | refine blk_alloc ?_ _)); exact BK1060.out) hb);have n7_:=zx (Kd.C_below (by repeat (first | (with_reducible exact HR1093.out) | (with_reducible refine Kd.C_alloc ?_ _) | (with_reducible refine Kd.C_drewN ?_ _) | (with_reducible refine Kd.C_drew ?_) | exact HR1093.out)) hb);have n8_:=zx (Kd.C_below (by repeat (first | (with_reducible exact HR1100.out) | (with_reducible refine Kd.C_alloc ?_ _) | (with_reducible refine Kd.C_drewN ?_ _) | (with_reducible refine Kd.C_drew ?_) | exact HR1100.out)) hb);have n9_:=zx (below_step (by repeat (first | (with_reducible first | exact HB.out | apply below_alloc | apply pw_below_drewN | apply below_drew1 | refine below_set ?_ GE1060.out) | exact HB.out)) hb);clear HO_4;clear HO_7;clear HO_36;clear HO_36;clear HO1103;clear BK1060;clear HR1093;clear HR1100;clear HB;have HO_4:=n0_;have HO_7:=n1_;have HO_36:=n2_;have HO_36:=n3_;have HO1103:=n4_;have HO1106:=n5_;have BK1060:=n6_;have HR1093:=n7_;have HR1100:=n8_;have HB:=n9_;clear n0_ n1_ n2_ n3_ n4_ n5_ n6_ n7_ n8_ n9_
         (try clear hb)
         (try clear hb2)
         (try clear hk)
         (try clear hi)
         (try clear ho0)
         obtain ⟨Ao104,co104,eo104⟩:=Kd.R_slice HO1106.out
         (first | subst eo104 | (injection eo104 with f1_ f2_ f3_; have f4_:=f1_.symm; have f5_:=f3_.symm; clear f1_ f2_ f3_; subst f4_; subst f5_))
         obtain ⟨Ao105,co105,eo105⟩:=Kd.R_slice HO_7.out
         (first | subst eo105 | (injection eo105 with f1_ f2_ f3_; have f4_:=f1_.symm; have f5_:=f3_.symm; clear f1_ f2_ f3_; subst f4_; subst f5_))
         refine hK.out _ _ ⟨(blk_cell BK1060.out 0).trans rfl,(blk_cell BK1060.out 1).trans rfl,HS2_⟩ (fun hHeld => ?_);clear hK K;refine norm_ (a':=?_) ?_ ?_;rotate_left
         ·show Act.put _ (some 80) _ = _
          simp only [Act.put,U,V,Z,i64_w,i32_w];rfl
         refine one_ (i:=4) (N:=some 82) #[true,true,true,true,true,false,false,false,false,false,false,false,false,false,false] rfl rfl (one_of HT_.out (by kernel_rfl)) (by decide) (fun K hK => ?_);refine goes_ Try.func39 (by kernel_rfl) rfl #[.slice Ao104 t1104.length co104,.slice Ao105 t1079.length co105] (by rfl) rfl rfl (by (try simp only [List.map_toArray,List.map_cons,List.map_nil]); first | done | rfl | (simp only [List.length_drop,List.length_take]; rfl)) ?_;with_reducible refine (laws_wkInts.calls k4 _ _ t1104 _ _ t1079 false _ ?side1 ?side2 ?side3 ?side4 A60.out).mono ?_
         (case side1 => repeat (first | exact (Kd.R_reads' HO1106.out).2.2 | (with_reducible refine Kd.C_alloc ?_ _) | (with_reducible refine Kd.C_drewN ?_ _) | (with_reducible refine Kd.C_drew ?_)))
         (case side2 => exact (Kd.R_reads' HO1106.out).2.1)
         (case side3 => repeat (first | exact (Kd.R_reads' HO_7.out).2.2 | (with_reducible refine Kd.C_alloc ?_ _) | (with_reducible refine Kd.C_drewN ?_ _) | (with_reducible refine Kd.C_drew ?_)))
         (case side4 => exact (Kd.R_reads' HO_7.out).2.1)
         rintro e w' ⟨rfl,⟨nd,rfl⟩⟩;refine ⟨_,rfl,?_⟩;have q106 : (x10_4 : Int) ≤ ((t1061.length : Int) : Int):=of_decide_eq_true (by first | (with_reducible assumption) | assumption);obtain ⟨i0106,hi0106,_,hsz106,_⟩:=info_parts info3;have hroom106 : t1061.length ≤ co93:=(Kd.R_reads' HO_4.out).2.1;have hC106 : Kd.C (Kd.int .i64) _ (some ad1112) t1061.length t1061:=(Kd.R_reads' HO_4.out).2.2
         try clear hcut95
         have hcut106:=cut_to (P:=Try.prog) 23 3 .i64 Try.underlying23 hi0106 (some ad1112) t1061.length co93 x10_4 (of_decide_eq_true (by first | (with_reducible assumption) | assumption)) q106 hroom106;have hr106:=Kd.C_take (m:=(x10_4 : Int).toNat) hC106 (by omega);have hy106 : y1108.length = (x10_4 : Int).toNat:=(by rw [Ny1108.out,List.length_take]; omega)
         rw [← Ny1108.out] at hr106;rw [← hy106] at hcut106;have HR1111:=zx hr106;have HC1111:=zx (show y1108.length ≤ co93 from by omega);clear hr106 hC106 hroom106 hi0106 hsz106;have KY106:=zx hy106;clear hy106;have KL106:=zx (show (x10_4 : Int).toNat ≤ t1061.length from by omega);replace q106:=eq_true q106;refine hK.out _ _ ⟨(blk_cell BK1060.out 0).trans rfl,(blk_cell BK1060.out 1).trans rfl,hHeld.2.2⟩ (fun hHeld => ?_);clear hK K;refine norm_ (a':=?_) ?_ ?_;rotate_left
         ·show Act.put _ (some 82) _ = _
          simp only [Act.put,U,V,Z,i64_w,i32_w];rfl
         refine pure_ (i:=5) (N:=some 83) (v:=?_) (a':=?_) #[true,true,true,true,true,true,false,false,false,false,false,false,false,false,false] rfl rfl (any_of HT_.out (by kernel_rfl)) (fun _ _ _ h => h) (Or.inl ⟨by rfl,?_⟩) ?_ ?_;rotate_left
         ·intro w';go_simp;with_reducible rfl
         rotate_left
         ·simp only [Act.put,U,V,Z,i64_w,i32_w];rfl
         refine pure_ (i:=6) (N:=some 84) (v:=?_) (a':=?_) #[true,true,true,true,true,true,true,false,false,false,false,false,false,false,false] rfl rfl (any_of HT_.out (by kernel_rfl)) (fun _ _ _ h => h) (Or.inl ⟨by rfl,?_⟩) ?_ ?_;rotate_left
         ·intro w';go_simp;with_reducible rfl
         rotate_left
         ·simp only [Act.put,U,V,Z,i64_w,i32_w];rfl
         refine pure_ (i:=7) (N:=some 85) (v:=?_) (a':=?_) #[true,true,true,true,true,true,true,true,false,false,false,false,false,false,false] rfl rfl (any_of HT_.out (by kernel_rfl)) (fun _ _ _ h => h) (Or.inl ⟨by rfl,?_⟩) ?_ ?_;rotate_left
         ·intro w';go_simp;with_reducible rfl
         rotate_left
         ·simp only [Act.put,U,V,Z,i64_w,i32_w];rfl
         refine pure_ (i:=8) (N:=some 86) (v:=?_) (a':=?_) #[true,true,true,true,true,true,true,true,true,false,false,false,false,false,false] rfl rfl (any_of HT_.out (by kernel_rfl)) (fun _ _ _ h => h) (Or.inl ⟨by rfl,?_⟩) ?_ ?_;rotate_left
         ·intro w';go_simp;with_reducible rfl
         rotate_left
         ·simp only [Act.put,U,V,Z,i64_w,i32_w];rfl
         refine pure_ (i:=9) (N:=some 87) (v:=?_) (a':=?_) #[true,true,true,true,true,true,true,true,true,true,false,false,false,false,false] rfl rfl (any_of HT_.out (by kernel_rfl)) (fun _ _ _ h => h) (Or.inl ⟨by rfl,?_⟩) ?_ ?_;rotate_left
         ·intro w';go_simp;with_reducible rfl
         rotate_left
         ·simp only [Act.put,U,V,Z,i64_w,i32_w];rfl
         refine pure_ (i:=10) (N:=some 88) (v:=?_) (a':=?_) #[true,true,true,true,true,true,true,true,true,true,true,false,false,false,false] rfl rfl (any_of HT_.out (by kernel_rfl)) (fun _ _ _ h => h) (Or.inl ⟨by rfl,?_⟩) ?_ ?_;rotate_left
         ·intro w';go_simp;with_reducible rfl
         rotate_left
         ·simp only [Act.put,U,V,Z,i64_w,i32_w];rfl
         refine pure_ (i:=11) (N:=some 89) (v:=?_) (a':=?_) #[true,true,true,true,true,true,true,true,true,true,true,true,false,false,false] rfl rfl (any_of HT_.out (by kernel_rfl)) (fun _ _ _ h => h) (Or.inl ⟨by rfl,?_⟩) ?_ ?_;rotate_left
         ·intro w';go_simp;with_reducible rfl
         rotate_left
         ·simp only [Act.put,U,V,Z,i64_w,i32_w];rfl
         refine take_ (i:=12) (N:=some 90) (v:=?_) (a':=?_) #[true,true,true,true,true,true,true,true,true,true,true,true,true,false,false] rfl rfl (take_ofW HT_.out HW_.out (by kernel_rfl)) (fun _ _ _ h => h) (Or.inl ⟨by rfl,?_⟩) hHeld ?_ ?_;rotate_left
         ·rintro w' ⟨s0,s1,s2⟩;go_simp;with_reducible rfl
         rotate_left
         ·simp only [Act.put,U,V,Z,i64_w,i32_w];rfl
         refine one_ (i:=13) (N:=some 91) #[true,true,true,true,true,true,true,true,true,true,true,true,true,true,false] rfl rfl (one_of HT_.out (by kernel_rfl)) (by decide) (fun K hK => ?_);refine goes_ Try.func53 (by kernel_rfl) rfl #[.slice (some ad1112) y1108.length co93,.int .i64 (rd t1061 x10_4)] (by rfl) rfl rfl (by (try simp only [List.map_toArray,List.map_cons,List.map_nil]); first | done | rfl | (simp only [List.length_drop,List.length_take]; rfl)) ?_;with_reducible refine (laws_wkIn.calls k4 _ _ y1108 (rd t1061 x10_4) false _ ?side1 ?side2 A77.out).mono ?_
         (case side1 => repeat (first | exact (by repeat (first | (with_reducible exact HR1111.out) | (with_reducible refine Kd.C_alloc ?_ _) | (with_reducible refine Kd.C_drewN ?_ _) | (with_reducible refine Kd.C_drew ?_) | exact HR1111.out)) | (with_reducible refine Kd.C_alloc ?_ _) | (with_reducible refine Kd.C_drewN ?_ _) | (with_reducible refine Kd.C_drew ?_)))
         (case side2 => exact HC1111.out)
         rintro e w' ⟨rfl,⟨nd,rfl⟩⟩;refine ⟨_,rfl,?_⟩;refine hK.out _ _ ⟨(blk_cell BK1060.out 0).trans rfl,(blk_cell BK1060.out 1).trans rfl,hHeld.2.2⟩ (fun hHeld => ?_);clear hK K;refine norm_ (a':=?_) ?_ ?_;rotate_left
         ·show Act.put _ (some 91) _ = _
          simp only [Act.put,U,V,Z,i64_w,i32_w];rfl
         refine pure_ (i:=14) (N:=some 92) (v:=?_) (a':=?_) #[true,true,true,true,true,true,true,true,true,true,true,true,true,true,true] rfl rfl (any_of HT_.out (by kernel_rfl)) (fun _ _ _ h => h) (Or.inl ⟨by rfl,?_⟩) ?_ ?_;rotate_left
         ·intro w';go_simp;with_reducible rfl
         rotate_left
         ·simp only [Act.put,U,V,Z,i64_w,i32_w];rfl
         refine done_ (done_of HT_.out (by kernel_rfl)) ?_
         try go_wp2
         go_roundg k4
         case measure => have:=HJ4.out; have:=HK2.out; have:=HK3.out; have:=HK4.out; omega
         case rel => exact ⟨(ji55),(by first | rfl | (simp; done) | (simp only [← hji55] <;> (first | rfl | simp)) | (simp [*]; done)),H',⟨by have:=HJ4.out; have:=HK2.out; have:=HK3.out; have:=HK4.out; omega⟩,⟨by (with_reducible repeat (first | apply Kd.R_alloc | apply Kd.R_drewN | apply Kd.R_drew)); exact Kd.R_mono HO_4.out (fun _ hk => hk.1.1)⟩,⟨by (with_reducible repeat (first | apply Kd.R_alloc | apply Kd.R_drewN | apply Kd.R_drew)); exact Kd.R_mono HO_7.out (fun _ hk => hk.1.1)⟩,⟨by (with_reducible repeat (first | apply Kd.R_alloc | apply Kd.R_drewN | apply Kd.R_drew)); exact HO_36.out⟩,⟨by (with_reducible repeat (first | apply Kd.R_alloc | apply Kd.R_drewN | apply Kd.R_drew)); exact HO_36.out⟩,⟨by (with_reducible repeat (first | refine blk_drewN ?_ _ | refine blk_drew ?_ | refine blk_alloc ?_ _)); exact BK1060.out⟩,⟨by repeat (first | (with_reducible first | exact HB.out | apply below_alloc | apply pw_below_drewN | apply below_drew1 | refine below_set ?_ GE1060.out) | exact HB.out)⟩⟩
end Go.Proofs.Ytlhmljngjdfbpaa.Pr
end
section
set_option linter.unusedVariables false
namespace Go.Proofs.YtlhmljngjdfbpaaW.PrintWords
open Go.RowKit Go.ChangeShapes Go.WideShapes
def Opens (P : Program) {α : Type} (d : Kd α) (t : TypeId) (wf : α → Prop) : Prop :=
 ∀ {H : Type} {enc : TypeId × Value → H} {w : World} {sp : Nat → Bool} {held : Bool} {fuel : Nat} {cs : List Value} {x : DataW H × List MemPlace},DataW.trod enc P w 0 sp held fuel t cs = some x → ∃ a,d.K w a cs ∧ wf a
section
variable {P : Program} {α β : Type}
theorem opens_int {t : TypeId} {k : IntKind} (ht : P.underlying t = some (.int k)) : Opens P (Kd.int k) t (fun n => (Lit.int k n).wf = true):=by
 intro H enc w sp held fuel cs x h;obtain ⟨n,rfl,_,hw⟩:=DataW.trod_int ht h;exact ⟨n,rfl,hw⟩
theorem addr_add_add (a : Addr) (i j : Nat) : (a.add i).add j = a.add (i + j):=by
 unfold Addr.add
 by_cases hi : i = 0 <;> by_cases hj : j = 0 <;> simp [hi,hj,Nat.add_assoc]
theorem opens_slice [Inhabited α] {d : Kd α} {t e : TypeId} {wf : α → Prop} (ht : P.underlying t = some (.slice e)) (hc : P.cellsOf e = d.sz) (he : Opens P d e wf) : Opens P (Kd.slice e d) t (fun l => l.length ≤ maxLen ∧ ∀ x ∈ l,wf x):=by
 intro H enc w sp held fuel cs x h
 rcases Deep.open_slice ht h with ⟨rfl,_⟩ | ⟨a,len,cap,m,n,D,Pl,rfl,_,hl,hm,hmm,_,hel⟩
 ·exact ⟨[],⟨none,0,rfl,Nat.le_refl _,Kd.C_nil d w⟩,by simp,by simp⟩
 ·have hlm : len ≤ m:=by rw [hmm]; split <;> omega
  have hx : ∀ i,i < len → ∃ y : α,(∃ c,c.length = d.sz ∧ d.K w y c ∧ ∀ j u,c[j]? = some u → w.cell? (a.add (i * d.sz + j)) = some u) ∧ wf y:=by
   intro i hi;obtain ⟨cs',hcs,htr⟩:=hel i (by omega);obtain ⟨y,hk,hw⟩:=he htr;obtain ⟨_,hlen,hcell⟩:=World.cells?_some hcs;refine ⟨y,⟨cs',d.K_len hk,hk,fun j u hu => ?_⟩,hw⟩;have hj : j < P.cellsOf e:=by
    have:=(List.getElem?_eq_some_iff.1 hu).1;omega
   have:=hcell j hj;rw [addr_add_add,hc,hu] at this;exact this
  obtain ⟨f,hf⟩:=Deep.choose_lt hx;refine ⟨(List.range len).map f,⟨some a,cap,by simp,by simpa using hl,by simp,by simp only [maxLen] at hm; simp; omega,fun _ => ⟨a,rfl,fun j p hj => ?_⟩⟩,by simp; omega,fun y hy => ?_⟩
  ·obtain ⟨hj1,hj2⟩:=List.getElem?_eq_some_iff.1 hj;simp at hj1 hj2;subst hj2;exact (hf j hj1).1
  ·simp only [List.mem_map,List.mem_range] at hy;obtain ⟨i,hi,rfl⟩:=hy;exact (hf i hi).2
end
end Go.Proofs.YtlhmljngjdfbpaaW.PrintWords
end
section
namespace Go.Proofs.Ytlhmljngjdfbpaa.Pr
open Go.RowKit Go.Proofs.YtlhmljngjdfbpaaW.PrintWords Go.Proofs.YtlhmljngjdfbpaaW.PrintLast Go.Proofs.YtlhmljngjdfbpaaW.PrintMore
open List renaming setIfInBounds_toArray → U,set_cons_zero → V,set_cons_succ → Z
open Go.Proofs.YtlhmljngjdfbpaaW.PrintWords.Aside0 renaming mk → zx
def laws_FnTreeBest.Asked : Prop:=∀ (l0 : List Int),(l0.length ≤ maxLen ∧ ∀ x_ ∈ l0,(Lit.int .u8 x_).wf = true) → ∃ k,laws_FnTreeBest.f k l0 = some true
end Go.Proofs.Ytlhmljngjdfbpaa.Pr
end
section
set_option linter.unusedVariables false
namespace Go.Proofs.YtlhmljngjdfbpaaW.PrintWords
open Go.RowKit
section
variable {α β : Type}
theorem Ev.pos {c : Prop} [Decidable c] {t e : Nat → Option α} {r : α} (h : c) (k : Ev t r) : Ev (fun n => if c then t n else e n) r:=by
 simp only [if_pos h]; exact k
theorem Ev.neg {c : Prop} [Decidable c] {t e : Nat → Option α} {r : α} (h : ¬ c) (k : Ev e r) : Ev (fun n => if c then t n else e n) r:=by
 simp only [if_neg h]; exact k
theorem Ev.bind0 {g : Option α} {f : Nat → α → Option β} {a : α} {r : β} (h : g = some a) (k : Ev (fun n => f n a) r) : Ev (fun n => g.bind (f n)) r:=by
 subst h; exact k
theorem Ev.is {a r : α} (h : a = r) : Ev (fun _ => some a) r:=by subst h; exact Ev.now _
theorem Ev.cast {g : Nat → Option α} {a r : α} (k : Ev g a) (h : a = r) : Ev g r:=h ▸ k
theorem Ev.go {g f : Nat → Option α} {r : α} (k : Ev f r) (h : ∀ k,g (k + 1) = f k) : Ev g r:=Ev.step h k
end
theorem w64 {n : Int} (h : -9223372036854775808 ≤ n) (h' : n ≤ 9223372036854775807) : wrap64 n = n:=by unfold wrap64; omega
theorem rd_nat {l : List Int} {i : Nat} (h : i < l.length) : rd l (i : Int) = l[i]:=by simp [rd,h]
noncomputable def Bp (p : Prop) : Bool:=@decide p (Classical.propDecidable p)
theorem Bp_iff {p : Prop} : Bp p = true ↔ p:=by unfold Bp; exact @decide_eq_true_iff p (Classical.propDecidable p)
theorem Bp_true {p : Prop} (h : p) : Bp p = true:=Bp_iff.2 h
theorem Bp_false {p : Prop} (h : ¬ p) : Bp p = false:=by
 cases e : Bp p with
 | false => rfl
 | true => exact absurd (Bp_iff.1 e) h
theorem Bp_congr {p q : Prop} (h : p ↔ q) : Bp p = Bp q:=by rw [propext h]
end Go.Proofs.YtlhmljngjdfbpaaW.PrintWords
end
section
set_option linter.unusedSimpArgs false
set_option linter.unusedVariables false
namespace Go.Proofs.Ytlhmljngjdfbpaa.Pure
open Go.RowKit Go.Proofs.Ytlhmljngjdfbpaa.Pr Go.Proofs.YtlhmljngjdfbpaaW.PrintWords Go.Proofs.YtlhmljngjdfbpaaW.PrintLast Go.Proofs.YtlhmljngjdfbpaaW.PrintMore
def inB (x a b : Int) : Bool:=decide (a ≤ x) && decide (x ≤ b)
theorem inB_iff {x a b : Int} : inB x a b = true ↔ a ≤ x ∧ x ≤ b:=by simp [inB]
theorem in1 (x a b : Int) : spec_l1In.f x a b = some (inB x a b):=by
 unfold spec_l1In.f inB
 by_cases h : x ≥ a
 case pos => rw [if_pos h]; simp [show a ≤ x from h]
 rw [if_neg h]; simp [show ¬ a ≤ x from h]
theorem up1 {i n : Nat} (h : i < n) (hn : n ≤ maxLen) : wrap64 ((i : Int) + 1) = ((i + 1 : Nat) : Int):=by
 simp only [maxLen] at hn;rw [w64 (by omega) (by omega)]; omega
theorem rdn {l : List Int} {i : Nat} (h : i < l.length) : rd l (i : Int) = l[i]:=rd_nat h
def nth (l : List Int) (i : Nat) : Int:=l.getD i 0
theorem rdg {l : List Int} (i : Nat) : rd l (i : Int) = nth l i:=by simp [rd,nth]
theorem nth_get {l : List Int} {i : Nat} (h : i < l.length) : nth l i = l[i]:=by simp [nth,h]
theorem getD_mem {l : List Int} {i : Nat} (h : i < l.length) : nth l i ∈ l:=by
 rw [nth_get h];exact List.getElem_mem h
theorem mem_getD {l : List Int} {x : Int} (h : x ∈ l) : ∃ i,i < l.length ∧ nth l i = x:=by
 obtain ⟨i,hi,rfl⟩:=List.getElem_of_mem h;exact ⟨i,hi,nth_get hi⟩
theorem drop_cons {α : Type} {l : List α} {i : Nat} (h : i < l.length) : l.drop i = l[i] :: l.drop (i + 1):=List.drop_eq_getElem_cons h
def Pv {α : Type} (g : Nat → Option α) (P : α → Prop) : Prop:=∃ r,Ev g r ∧ P r
section
variable {α β : Type} {P : α → Prop}
theorem Pv.of {g : Nat → Option α} {r : α} (h : Ev g r) (hp : P r) : Pv g P:=⟨r,h,hp⟩
theorem Pv.now {a : α} (h : P a) : Pv (fun _ => some a) P:=⟨a,Ev.now a,h⟩
theorem Pv.pos {c : Prop} [Decidable c] {t e : Nat → Option α} (h : c) (k : Pv t P) : Pv (fun n => if c then t n else e n) P:=by
 obtain ⟨r,k,hp⟩:=k;exact ⟨r,Ev.pos h k,hp⟩
theorem Pv.neg {c : Prop} [Decidable c] {t e : Nat → Option α} (h : ¬ c) (k : Pv e P) : Pv (fun n => if c then t n else e n) P:=by
 obtain ⟨r,k,hp⟩:=k;exact ⟨r,Ev.neg h k,hp⟩
theorem Pv.ite {c : Prop} [Decidable c] {t e : Nat → Option α} (h : c → Pv t P) (k : ¬ c → Pv e P) : Pv (fun n => if c then t n else e n) P:=by
 by_cases hc : c
 case neg => exact Pv.neg hc (k hc)
 exact Pv.pos hc (h hc)
theorem Pv.bind {g : Nat → Option β} {f : Nat → β → Option α} {R : β → Prop} (h : Pv g R) (k : ∀ b,R b → Pv (fun n => f n b) P) : Pv (fun n => (g n).bind (f n)) P:=by
 obtain ⟨b,h,hb⟩:=h;obtain ⟨r,k,hp⟩:=k b hb;exact ⟨r,Ev.bind h k,hp⟩
theorem Pv.bind0 {g : Option β} {f : Nat → β → Option α} {b : β} (h : g = some b) (k : Pv (fun n => f n b) P) : Pv (fun n => g.bind (f n)) P:=by
 obtain ⟨r,k,hp⟩:=k;exact ⟨r,Ev.bind0 h k,hp⟩
theorem Pv.go {g f : Nat → Option α} (k : Pv f P) (h : ∀ k,g (k + 1) = f k) : Pv g P:=by
 obtain ⟨r,k,hp⟩:=k;exact ⟨r,Ev.go k h,hp⟩
theorem Pv.mono {g : Nat → Option α} {R : α → Prop} (h : Pv g R) (k : ∀ a,R a → P a) : Pv g P:=by
 obtain ⟨r,h,hr⟩:=h;exact ⟨r,h,k r hr⟩
end
theorem Pv.rounds {g : Nat → Option Bool} (h : Pv g (· = true)) : ∃ k,g k = some true:=by
 obtain ⟨r,h,rfl⟩:=h;exact Ev.rounds h
def lst (n : Nat) (F : Nat → Int) : List Int:=(List.range n).map F
theorem lst_len (n : Nat) (F : Nat → Int) : (lst n F).length = n:=by simp [lst]
theorem lst_nth {n v : Nat} (F : Nat → Int) (h : v < n) : nth (lst n F) v = F v:=by
 simp [nth,lst,h]
theorem lst_rd {n v : Nat} (F : Nat → Int) (h : v < n) : rd (lst n F) (v : Int) = F v:=by rw [rdg,lst_nth F h]
theorem lst_congr {n : Nat} {F G : Nat → Int} (h : ∀ v,v < n → F v = G v) : lst n F = lst n G:=by
 unfold lst
 exact List.map_congr_left (fun v hv => h v (List.mem_range.1 hv))
theorem lst_snoc (n : Nat) (F : Nat → Int) : lst n F ++ [F n] = lst (n + 1) F:=by
 simp [lst,List.range_succ]
def upd (F : Nat → Int) (a : Nat) (x : Int) : Nat → Int:=fun v => if v = a then x else F v
theorem lst_set {n a : Nat} (F : Nat → Int) (x : Int) : (lst n F).set a x = lst n (upd F a x):=by
 apply List.ext_getElem (by simp [lst])
 intro i h1 h2;have hi : i < n:=by simpa [lst] using h2
 simp only [List.getElem_set]
 by_cases e : a = i
 case pos => subst e; simp [lst,upd]
 simp [lst,upd,e,show ¬ i = a from fun h => e h.symm]
theorem upd_same (F : Nat → Int) (a : Nat) (x : Int) : upd F a x a = x:=by simp [upd]
theorem upd_far (F : Nat → Int) {a v : Nat} (x : Int) (h : v ≠ a) : upd F a x v = F v:=by simp [upd,h]
inductive Conn (E : Nat → Nat → Prop) : Nat → Nat → Prop
 | refl (v : Nat) : Conn E v v
 | tail {u v w : Nat} : Conn E u v → (E v w ∨ E w v) → Conn E u w
theorem Conn.trans {E : Nat → Nat → Prop} {u v w : Nat} (h : Conn E u v) (k : Conn E v w) : Conn E u w:=by
 induction k with
 | refl => exact h
 | tail _ e ih => exact .tail ih e
theorem Conn.one {E : Nat → Nat → Prop} {u v : Nat} (h : E u v ∨ E v u) : Conn E u v:=.tail (.refl u) h
theorem Conn.symm {E : Nat → Nat → Prop} {u v : Nat} (h : Conn E u v) : Conn E v u:=by
 induction h with
 | refl => exact .refl _
 | tail _ e ih => exact (Conn.one e.symm).trans ih
theorem Conn.mono {E E' : Nat → Nat → Prop} {u v : Nat} (h : Conn E u v) (k : ∀ a b,E a b → E' a b) : Conn E' u v:=by
 induction h with
 | refl => exact .refl _
 | tail _ e ih => exact .tail ih (e.imp (k _ _) (k _ _))
noncomputable def cnt (p : Nat → Prop) : Nat → Nat
 | 0 => 0
 | n + 1 => cnt p n + if Bp (p n) = true then 1 else 0
theorem cnt_le (p : Nat → Prop) (n : Nat) : cnt p n ≤ n:=by
 induction n with
 | zero => exact Nat.le_refl _
 | succ n ih => simp only [cnt]; split <;> omega
theorem cnt_mono {p q : Nat → Prop} (h : ∀ v,p v → q v) (n : Nat) : cnt p n ≤ cnt q n:=by
 induction n with
 | zero => exact Nat.le_refl _
 | succ n ih =>
  simp only [cnt]
  by_cases hp : p n
  case neg => rw [Bp_false hp]; simp; omega
  rw [Bp_true hp,Bp_true (h n hp)]; omega
theorem cnt_lt {p q : Nat → Prop} (h : ∀ v,p v → q v) {n u : Nat} (hu : u < n) (hq : q u) (hp : ¬ p u) : cnt p n < cnt q n:=by
 induction n with
 | zero => omega
 | succ n ih =>
  simp only [cnt]
  by_cases e : u = n
  case pos =>
   subst e;have:=cnt_mono h u;rw [Bp_false hp,Bp_true hq];simp; omega
  have:=ih (by omega)
  by_cases hp' : p n
  case neg => rw [Bp_false hp']; simp; omega
  rw [Bp_true hp',Bp_true (h n hp')]; omega
theorem cnt_all {p : Nat → Prop} {n : Nat} (h : n ≤ cnt p n) : ∀ v,v < n → p v:=by
 induction n with
 | zero => intro v hv; omega
 | succ n ih =>
  intro v hv;simp only [cnt] at h;have:=cnt_le p n
  by_cases hp : p n
  case neg =>
   rw [Bp_false hp] at h;simp at h;omega
  rw [Bp_true hp] at h;simp at h
  by_cases e : v = n
  case pos => subst e; exact hp
  exact ih h v (by omega)
theorem spread (n : Nat) (f : Nat → Nat → Prop) (mono : ∀ r v,f r v → f (r + 1) v) (lt : ∀ r v,f r v → v < n) (stop : ∀ r,(∀ v,f (r + 1) v → f r v) → ∀ v,f (r + 2) v → f (r + 1) v) (h0 : ∃ v,f 0 v) : ∀ r v,f r v → f (n - 1) v:=by
 have monos : ∀ r s v,f r v → f (r + s) v:=by
  intro r s v h
  induction s with
  | zero => exact h
  | succ s ih => exact mono _ _ ih
 have stops : ∀ r,(∀ v,f (r + 1) v → f r v) → ∀ s v,f (r + s) v → f r v:=by
  intro r h s;have hs : ∀ s v,f (r + s + 1) v → f (r + s) v:=by
   intro s
   induction s with
   | zero => exact h
   | succ s ih => exact stop (r + s) ih
  induction s with
  | zero => exact fun v h => h
  | succ s ih => exact fun v h => ih v (hs s v h)
 have key : ∀ r,(∃ s,s < r ∧ ∀ v,f (s + 1) v → f s v) ∨ r + 1 ≤ cnt (f r) n:=by
  intro r
  induction r with
  | zero =>
   right
   obtain ⟨v,hv⟩:=h0;have:=cnt_lt (p:=fun _ => False) (q:=f 0) (fun _ h => h.elim) (lt 0 v hv) hv (fun h => h);omega
  | succ r ih =>
   rcases ih with ⟨s,h1,h2⟩ | ih
   ·exact .inl ⟨s,by omega,h2⟩
   ·by_cases c : ∀ v,f (r + 1) v → f r v
    case pos => exact .inl ⟨r,by omega,c⟩
    right
    have : ∃ v,f (r + 1) v ∧ ¬ f r v:=by
     apply Classical.byContradiction
     intro h;exact c (fun v hv => Classical.byContradiction (fun h' => h ⟨v,hv,h'⟩))
    obtain ⟨v,h1,h2⟩:=this;have:=cnt_lt (mono r) (lt _ v h1) h1 h2;omega
 intro r v hv;obtain ⟨u,hu⟩:=h0;have hn : 0 < n:=by have:=lt 0 u hu; omega
 rcases key (n - 1) with ⟨s,h1,h2⟩ | h
 ·by_cases c : r ≤ s
  case pos =>
   have e : n - 1 = r + (n - 1 - r):=by omega
   rw [e];exact monos _ _ _ hv
  have hs : f s v:=by
   have e : r = s + (r - s):=by omega
   rw [e] at hv;exact stops s h2 _ v hv
  have e : n - 1 = s + (n - 1 - s):=by omega
  rw [e];exact monos _ _ _ hs
 ·exact cnt_all (by omega) v (lt _ v hv)
end Go.Proofs.Ytlhmljngjdfbpaa.Pure
end
section
set_option linter.unusedSectionVars false
namespace Go.Proofs.Ytlhmljngjdfbpaa.Pure
open Go.RowKit Go.Proofs.Ytlhmljngjdfbpaa.Pr Go.Proofs.YtlhmljngjdfbpaaW.PrintWords Go.Proofs.YtlhmljngjdfbpaaW.PrintLast Go.Proofs.YtlhmljngjdfbpaaW.PrintMore
section
variable {fr tw : Nat → Nat}
def LE (fr tw : Nat → Nat) (l : List Nat) (a b : Nat) : Prop:=∃ i,i ∈ l ∧ a = fr i ∧ b = tw i
abbrev Con (fr tw : Nat → Nat) (l : List Nat) (u v : Nat) : Prop:=Conn (LE fr tw l) u v
theorem Con.sub {l l' : List Nat} {u v : Nat} (h : Con fr tw l u v) (k : ∀ x,x ∈ l → x ∈ l') : Con fr tw l' u v :=
 h.mono (fun _ _ ⟨i,hi,e⟩ => ⟨i,k i hi,e⟩)
theorem Con.arc {l : List Nat} {k : Nat} (h : k ∈ l) : Con fr tw l (fr k) (tw k):=Conn.one (.inl ⟨k,h,rfl,rfl⟩)
theorem Con.via {l l' : List Nat} {u v : Nat} (h : Con fr tw l u v) (k : ∀ x,x ∈ l → Con fr tw l' (fr x) (tw x)) : Con fr tw l' u v:=by
 induction h with
 | refl => exact .refl _
 | tail _ e ih =>
  rcases e with ⟨i,hi,rfl,rfl⟩ | ⟨i,hi,rfl,rfl⟩
  ·exact ih.trans (k i hi)
  ·exact ih.trans (k i hi).symm
theorem con_add {l l' : List Nat} {e : Nat} (hl : ∀ x,x ∈ l' → x ∈ l ∨ x = e) {u v : Nat} (h : Con fr tw l' u v) : Con fr tw l u v ∨ (Con fr tw l u (fr e) ∧ Con fr tw l (tw e) v) ∨ (Con fr tw l u (tw e) ∧ Con fr tw l (fr e) v):=by
 induction h with
 | refl => exact .inl (.refl _)
 | @tail v w _ a ih =>
  have key : Con fr tw l v w ∨ (v = fr e ∧ w = tw e) ∨ (v = tw e ∧ w = fr e):=by
   rcases a with ⟨i,hi,rfl,rfl⟩ | ⟨i,hi,rfl,rfl⟩
   ·rcases hl i hi with h | rfl
    ·exact .inl (.arc h)
    ·exact .inr (.inl ⟨rfl,rfl⟩)
   ·rcases hl i hi with h | rfl
    ·exact .inl (Con.arc h).symm
    ·exact .inr (.inr ⟨rfl,rfl⟩)
  rcases key with k | ⟨rfl,rfl⟩ | ⟨rfl,rfl⟩
  ·rcases ih with h | ⟨h1,h2⟩ | ⟨h1,h2⟩
   ·exact .inl (h.trans k)
   ·exact .inr (.inl ⟨h1,h2.trans k⟩)
   ·exact .inr (.inr ⟨h1,h2.trans k⟩)
  ·rcases ih with h | ⟨h1,h2⟩ | ⟨h1,h2⟩
   ·exact .inr (.inl ⟨h,.refl _⟩)
   ·exact .inr (.inl ⟨h1,.refl _⟩)
   ·exact .inl h1
  ·rcases ih with h | ⟨h1,h2⟩ | ⟨h1,h2⟩
   ·exact .inr (.inr ⟨h,.refl _⟩)
   ·exact .inl h1
   ·exact .inr (.inr ⟨h1,.refl _⟩)
inductive Kru (fr tw : Nat → Nat) : List Nat → List Nat → List Nat → Prop
 | nil (o : List Nat) : Kru fr tw [] o o
 | skip {k : Nat} {ks o r : List Nat} : Con fr tw o (fr k) (tw k) → Kru fr tw ks o r → Kru fr tw (k :: ks) o r
 | take {k : Nat} {ks o r : List Nat} : ¬ Con fr tw o (fr k) (tw k) → Kru fr tw ks (o ++ [k]) r → Kru fr tw (k :: ks) o r
theorem Kru.ext {ks o r : List Nat} (h : Kru fr tw ks o r) : ∃ s,r = o ++ s ∧ ∀ x,x ∈ s → x ∈ ks:=by
 induction h with
 | nil => exact ⟨[],by simp,by simp⟩
 | skip _ _ ih =>
  obtain ⟨s,e,h⟩:=ih;exact ⟨s,e,fun x hx => List.mem_cons_of_mem _ (h x hx)⟩
 | @take k _ _ _ _ _ ih =>
  obtain ⟨s,e,h⟩:=ih;refine ⟨k :: s,by rw [e]; simp,fun x hx => ?_⟩
  rcases List.mem_cons.1 hx with rfl | hx
  ·simp
  ·exact List.mem_cons_of_mem _ (h x hx)
theorem Kru.spans {ks o r : List Nat} (h : Kru fr tw ks o r) : ∀ k,k ∈ ks → Con fr tw r (fr k) (tw k):=by
 induction h with
 | nil => simp
 | skip c h ih =>
  intro x hx;obtain ⟨s,e,_⟩:=h.ext
  rcases List.mem_cons.1 hx with rfl | hx
  ·exact c.sub (fun y hy => by rw [e]; simp [hy])
  ·exact ih x hx
 | take _ h ih =>
  intro x hx;obtain ⟨s,e,_⟩:=h.ext
  rcases List.mem_cons.1 hx with rfl | hx
  ·exact .arc (by rw [e]; simp)
  ·exact ih x hx
def Forest (fr tw : Nat → Nat) (r : List Nat) : Prop:=∀ p k q,r = p ++ k :: q → ¬ Con fr tw (p ++ q) (fr k) (tw k)
theorem forest_add {o : List Nat} {k : Nat} (h : Forest fr tw o) (hc : ¬ Con fr tw o (fr k) (tw k)) : Forest fr tw (o ++ [k]):=by
 intro p j q e
 by_cases hq : q = []
 case pos =>
  subst hq;have e1 : o = p ∧ k = j:=by
   have:=List.append_inj' e (by simp);exact ⟨this.1,by simpa using this.2⟩
  obtain ⟨rfl,rfl⟩:=e1
  simpa using hc
 obtain ⟨q',x,rfl⟩ : ∃ q' x,q = q' ++ [x]:=⟨q.dropLast,q.getLast hq,(List.dropLast_concat_getLast hq).symm⟩
 have e1 : o ++ [k] = (p ++ j :: q') ++ [x]:=by rw [e]; simp
 have e2:=List.append_inj' e1 (by simp);obtain rfl : k = x:=by simpa using e2.2
 have e3 : o = p ++ j :: q':=e2.1;have hf:=h p j q' e3;intro c;have up : ∀ {u v : Nat},Con fr tw (p ++ q') u v → Con fr tw o u v:=fun c => c.sub (fun x hx => by
  rw [e3]
  rcases List.mem_append.1 hx with h | h <;> simp [h])
 have hj : Con fr tw o (fr j) (tw j):=.arc (by rw [e3]; simp)
 rcases con_add (l:=p ++ q') (e:=k) (fun x hx => by
  rcases List.mem_append.1 hx with h | h
  ·exact .inl (by simp [h])
  ·rcases List.mem_append.1 h with h | h
   ·exact .inl (by simp [h])
   ·exact .inr (by simpa using h)) c with c | ⟨c1,c2⟩ | ⟨c1,c2⟩
 ·exact hf c
 ·exact hc (((up c1).symm.trans hj).trans (up c2).symm)
 ·exact hc (((up c2).trans hj.symm).trans (up c1))
theorem Kru.forest {ks o r : List Nat} (h : Kru fr tw ks o r) (hf : Forest fr tw o) : Forest fr tw r:=by
 induction h with
 | nil => exact hf
 | skip _ _ ih => exact ih hf
 | take c _ ih => exact ih (forest_add hf c)
def Least (fr tw : Nat → Nat) (l : List Nat) (v : Nat) : Prop:=∀ u,Con fr tw l u v → v ≤ u
theorem cnt_one {p q : Nat → Prop} {c n : Nat} (hc : c < n) (h1 : p c) (h2 : ¬ q c) (h : ∀ v,v ≠ c → (p v ↔ q v)) : cnt p n = cnt q n + 1:=by
 induction n with
 | zero => omega
 | succ n ih =>
  simp only [cnt]
  by_cases e : c = n
  case neg =>
   rw [ih (by omega)];have:=h n (fun x => e x.symm)
   by_cases hp : p n
   case pos => rw [Bp_true hp,Bp_true (this.1 hp)]; omega
   rw [Bp_false hp,Bp_false (fun x => hp (this.2 x))];simp
  subst e;have : ∀ m,m ≤ c → cnt p m = cnt q m:=by
   intro m
   induction m with
   | zero => intro _; rfl
   | succ m ih2 =>
    intro hm;simp only [cnt];rw [ih2 (by omega)];have:=h m (by omega)
    by_cases hp : p m
    case pos => rw [Bp_true hp,Bp_true (this.1 hp)]
    rw [Bp_false hp,Bp_false (fun x => hp (this.2 x))]
  rw [this c (Nat.le_refl _),Bp_true h1,Bp_false h2];simp
theorem least_of (l : List Nat) (v : Nat) : ∃ u,Con fr tw l u v ∧ Least fr tw l u ∧ u ≤ v:=by
 induction v using Nat.strongRecOn with
 | ind v ih =>
  by_cases h : Least fr tw l v
  case pos => exact ⟨v,.refl _,h,Nat.le_refl _⟩
  have : ∃ u,Con fr tw l u v ∧ u < v:=by
   apply Classical.byContradiction
   intro h'
   apply h
   intro u hu
   apply Classical.byContradiction
   intro h2;exact h' ⟨u,hu,by omega⟩
  obtain ⟨u,h1,h2⟩:=this;obtain ⟨w,h3,h4,h5⟩:=ih u h2;exact ⟨w,h3.trans h1,h4,by omega⟩
theorem least_uniq {l : List Nat} {u v : Nat} (hu : Least fr tw l u) (hv : Least fr tw l v) (h : Con fr tw l u v) : u = v:=by
 have:=hu v h.symm;have:=hv u h;omega
theorem kinds_add {o : List Nat} {k n : Nat} (hf : fr k < n) (ht : tw k < n) (hc : ¬ Con fr tw o (fr k) (tw k)) : cnt (Least fr tw o) n = cnt (Least fr tw (o ++ [k])) n + 1:=by
 obtain ⟨a,a1,a2,a3⟩:=least_of (fr:=fr) (tw:=tw) o (fr k);obtain ⟨b,b1,b2,b3⟩:=least_of (fr:=fr) (tw:=tw) o (tw k);have up : ∀ {u v : Nat},Con fr tw o u v → Con fr tw (o ++ [k]) u v:=fun c => c.sub (fun x hx => by simp [hx])
 have hab : a ≠ b:=by rintro rfl; exact hc (a1.symm.trans b1)
 have lk : Con fr tw (o ++ [k]) a b:=((up a1).trans (Con.arc (by simp))).trans (up b1).symm;have split : ∀ {u v : Nat},Con fr tw (o ++ [k]) u v → Con fr tw o u v ∨ (Con fr tw o u a ∧ Con fr tw o b v) ∨ (Con fr tw o u b ∧ Con fr tw o a v):=by
  intro u v c
  rcases con_add (l:=o) (e:=k) (fun x hx => by simpa using hx) c with h | ⟨h1,h2⟩ | ⟨h1,h2⟩
  ·exact .inl h
  ·exact .inr (.inl ⟨h1.trans a1.symm,b1.trans h2⟩)
  ·exact .inr (.inr ⟨h1.trans b1.symm,a1.trans h2⟩)
 have key : ∀ c d : Nat,Least fr tw o c → Least fr tw o d → c < d → Con fr tw (o ++ [k]) c d → (∀ {u v : Nat},Con fr tw (o ++ [k]) u v → Con fr tw o u v ∨ (Con fr tw o u c ∧ Con fr tw o d v) ∨ (Con fr tw o u d ∧ Con fr tw o c v)) → d < n → cnt (Least fr tw o) n = cnt (Least fr tw (o ++ [k])) n + 1:=by
  intro c d hc hd hlt hcd sp hn;refine cnt_one hn hd (fun h => by have:=h c hcd; omega) (fun v hv => ⟨fun h u hu => ?_,fun h u hu => h u (up hu)⟩)
  rcases sp hu with h1 | ⟨h1,h2⟩ | ⟨h1,h2⟩
  ·exact h u h1
  ·exact absurd (least_uniq hd h h2).symm hv
  ·have e:=least_uniq hc h h2;subst e;have:=hd u h1;omega
 by_cases h : a < b
 case pos => exact key a b a2 b2 h lk split (by omega)
 exact key b a b2 a2 (by omega) lk.symm (fun c => by
  rcases split c with h | h | h
  ·exact .inl h
  ·exact .inr (.inr h)
  ·exact .inr (.inl h)) (by omega)
theorem Kru.kinds {n : Nat} {ks o r : List Nat} (h : Kru fr tw ks o r) (hn : ∀ k,k ∈ ks → fr k < n ∧ tw k < n) : cnt (Least fr tw r) n + r.length = cnt (Least fr tw o) n + o.length:=by
 induction h with
 | nil => rfl
 | skip _ _ ih => exact ih (fun k hk => hn k (List.mem_cons_of_mem _ hk))
 | @take k ks o r c _ ih =>
  have h1:=ih (fun k hk => hn k (List.mem_cons_of_mem _ hk));have h2:=kinds_add (fr:=fr) (tw:=tw) (hn k (by simp)).1 (hn k (by simp)).2 c;rw [h1];simp only [List.length_append,List.length_cons,List.length_nil];omega
theorem cnt_true {p : Nat → Prop} {n : Nat} (h : ∀ v,v < n → p v) : cnt p n = n:=by
 induction n with
 | zero => rfl
 | succ n ih => simp only [cnt]; rw [ih (fun v hv => h v (by omega)),Bp_true (h n (by omega))]; simp
theorem con_nil {u v : Nat} (h : Con fr tw [] u v) : u = v:=by
 induction h with
 | refl => rfl
 | tail _ e _ => rcases e with ⟨i,hi,_⟩ | ⟨i,hi,_⟩ <;> simp at hi
theorem Kru.nodup {ks o r : List Nat} (h : Kru fr tw ks o r) (hn : ks.Nodup) (ho : o.Nodup) (hd : ∀ x,x ∈ ks → x ∉ o) : r.Nodup:=by
 induction h with
 | nil => exact ho
 | skip _ _ ih => exact ih (List.nodup_cons.1 hn).2 ho (fun x hx => hd x (List.mem_cons_of_mem _ hx))
 | @take k ks o r _ _ ih =>
  refine ih (List.nodup_cons.1 hn).2 ?_ (fun x hx => ?_)
  ·rw [List.nodup_append];refine ⟨ho,by simp,fun a ha b hb => ?_⟩;rintro rfl;obtain rfl : a = k:=by simpa using hb
   exact hd a (by simp) ha
  ·intro hx2
   rcases List.mem_append.1 hx2 with h | h
   ·exact hd x (List.mem_cons_of_mem _ hx) h
   ·obtain rfl : x = k:=by simpa using h
    exact (List.nodup_cons.1 hn).1 hx
end
end Go.Proofs.Ytlhmljngjdfbpaa.Pure
end
section
set_option linter.unusedSimpArgs false
set_option linter.unusedVariables false
namespace Go.Proofs.Ytlhmljngjdfbpaa.Pure
open Go.RowKit Go.Proofs.Ytlhmljngjdfbpaa.Pr Go.Proofs.YtlhmljngjdfbpaaW.PrintWords Go.Proofs.YtlhmljngjdfbpaaW.PrintLast Go.Proofs.YtlhmljngjdfbpaaW.PrintMore
section
variable {t e : Nat → Option Bool} {r : Bool}
theorem Ev.and {b : Bool} (k : Ev t r) : Ev (fun n => if b = true then t n else some false) (b && r):=by
 cases b with
 | false => exact Ev.neg (by simp) (Ev.now _)
 | true => exact Ev.pos rfl k
theorem Ev.nand {c : Prop} [Decidable c] (k : Ev t r) : Ev (fun n => if c then some false else t n) (!decide c && r):=by
 by_cases h : c
 case pos => exact Ev.pos h (Ev.is (by simp [h]))
 exact Ev.neg h (k.cast (by simp [h]))
end
abbrev Arc:=S58
def arc (l : List Arc) (i : Nat) : Arc:=rd_T58 l (i : Int)
theorem rda (l : List Arc) (i : Nat) : rd_T58 l (i : Int) = arc l i:=rfl
theorem arc_get {l : List Arc} {i : Nat} (h : i < l.length) : arc l i = l[i]:=by simp [arc,rd_T58,h]
theorem arc_mem {l : List Arc} {i : Nat} (h : i < l.length) : arc l i ∈ l:=by
 rw [arc_get h];exact List.getElem_mem h
attribute [irreducible] arc
def okArcW (n : Int) (a : Arc) : Bool:=inB a.f0 0 (wrap64 (n - 1)) && (inB a.f1 0 (wrap64 (n - 1)) && (!decide (a.f0 = a.f1) && (inB a.f2 0 99 && (inB a.f3 0 99 && inB a.f4 0 9))))
theorem l1Ok_l (n : Int) (l : List Arc) (hm : l.length ≤ maxLen) : ∀ (m i : Nat),l.length - i = m → i ≤ l.length → Ev (fun k => spec_l1Ok.l0 k (i : Int) n l) ((l.drop i).all (okArcW n) && (inB n 1 8 && decide ((l.length : Int) ≤ 16))):=by
 intro m
 induction m with
 | zero =>
  intro i hd hi;refine Ev.go ?_ (fun k => by rw [spec_l1Ok.l0]);refine Ev.neg (by omega) (Ev.bind0 (in1 _ _ _) ?_);rw [List.drop_of_length_le (by omega)];exact (Ev.and (Ev.now _)).cast (by simp)
 | succ m ih =>
  intro i hd hi;have hlt : i < l.length:=by omega
  refine Ev.go ?_ (fun k => by rw [spec_l1Ok.l0]);rw [drop_cons hlt,← arc_get hlt,List.all_cons,rda,up1 hlt hm];refine Ev.pos (by omega) (Ev.pos (by omega) ?_);refine Ev.cast (Ev.bind0 (in1 _ _ _) (Ev.and (Ev.bind0 (in1 _ _ _) (Ev.and (Ev.nand (Ev.bind0 (in1 _ _ _) (Ev.and (Ev.bind0 (in1 _ _ _) (Ev.and (Ev.bind0 (in1 _ _ _) (Ev.and (ih (i + 1) (by omega) (by omega))))))))))))) ?_;simp only [okArcW,Bool.and_assoc]
theorem okArcW_okArc {n : Int} (h : 1 ≤ n) (h8 : n ≤ 8) (a : Arc) : okArcW n a = okArc n a:=by
 unfold okArcW okArc inB okN okC
 rw [w64 (by omega) (by omega)];have e : (a.f4 ≤ 9) ↔ (a.f4 ≤ 10 - 1):=by omega
 have e2 : (a.f0 == a.f1) = decide (a.f0 = a.f1):=by
  by_cases c : a.f0 = a.f1 <;> simp [c]
 rw [e2];simp only [Bool.and_assoc,e]
theorem l1Ok_ev (n : Int) (l : List Arc) (hm : l.length ≤ maxLen) : Ev (fun k => spec_l1Ok.f k n l) (netOkB n l):=by
 unfold spec_l1Ok.f
 refine (l1Ok_l n l hm _ 0 rfl (by omega)).cast ?_
 unfold netOkB
 rw [List.drop_zero]
 by_cases h : 1 ≤ n ∧ n ≤ 8
 case pos =>
  have e : l.all (okArcW n) = l.all (okArc n):=by
   congr 1
   funext a
   exact okArcW_okArc h.1 h.2 a
  rw [e,show inB n 1 8 = true from inB_iff.2 h];simp [h.1,h.2,Bool.and_comm]
 have e : inB n 1 8 = false:=by
  cases c : inB n 1 8 with
  | false => rfl
  | true => exact absurd (inB_iff.1 c) h
 rw [e];have e2 : (decide (1 ≤ n) && decide (n ≤ 8)) = false:=e;simp only [e2,Bool.false_and,Bool.and_false]
structure NetGood (n : Int) (l : List Arc) : Prop where
 n1 : 1 ≤ n
 n8 : n ≤ 8
 len : l.length ≤ 16
 ok : ∀ i,i < l.length → (0 ≤ (arc l i).f0 ∧ (arc l i).f0 < n) ∧ (0 ≤ (arc l i).f1 ∧ (arc l i).f1 < n) ∧ (arc l i).f0 ≠ (arc l i).f1 ∧ (0 ≤ (arc l i).f2 ∧ (arc l i).f2 ≤ 99) ∧ (0 ≤ (arc l i).f3 ∧ (arc l i).f3 ≤ 99) ∧ (0 ≤ (arc l i).f4 ∧ (arc l i).f4 ≤ 9)
theorem okArc_iff (n : Int) (a : Arc) : okArc n a = true ↔ (0 ≤ a.f0 ∧ a.f0 < n) ∧ (0 ≤ a.f1 ∧ a.f1 < n) ∧ a.f0 ≠ a.f1 ∧ (0 ≤ a.f2 ∧ a.f2 ≤ 99) ∧ (0 ≤ a.f3 ∧ a.f3 ≤ 99) ∧ (0 ≤ a.f4 ∧ a.f4 ≤ 9):=by
 simp only [okArc,okN,okC,Bool.and_eq_true,decide_eq_true_eq,Bool.not_eq_true',beq_eq_false_iff_ne];constructor
 ·rintro ⟨⟨⟨⟨⟨⟨a1,a2⟩,a3,a4⟩,a5⟩,a6⟩,a7⟩,a8,a9⟩;exact ⟨⟨a1,by omega⟩,⟨a3,by omega⟩,a5,a6,a7,a8,by omega⟩
 ·rintro ⟨⟨a1,a2⟩,⟨a3,a4⟩,a5,a6,a7,a8,a9⟩;exact ⟨⟨⟨⟨⟨⟨a1,by omega⟩,a3,by omega⟩,a5⟩,a6⟩,a7⟩,a8,by omega⟩
theorem netOkB_iff (n : Int) (l : List Arc) : netOkB n l = true ↔ NetGood n l:=by
 simp only [netOkB,Bool.and_eq_true,decide_eq_true_eq,List.all_eq_true];constructor
 ·rintro ⟨⟨⟨h1,h2⟩,h3⟩,h4⟩;exact ⟨h1,h2,by omega,fun i hi => (okArc_iff n _).1 (h4 _ (arc_mem hi))⟩
 ·rintro ⟨h1,h2,h3,h4⟩;refine ⟨⟨⟨h1,h2⟩,by omega⟩,fun a ha => ?_⟩;obtain ⟨i,hi,rfl⟩:=List.getElem_of_mem ha;rw [← arc_get hi];exact (okArc_iff n _).2 (h4 i hi)
end Go.Proofs.Ytlhmljngjdfbpaa.Pure
end
section
set_option linter.unusedSimpArgs false
set_option linter.unusedVariables false
set_option linter.unusedSectionVars false
namespace Go.Proofs.Ytlhmljngjdfbpaa.Pure
open Go.RowKit Go.Proofs.Ytlhmljngjdfbpaa.Pr Go.Proofs.YtlhmljngjdfbpaaW.PrintWords Go.Proofs.YtlhmljngjdfbpaaW.PrintLast Go.Proofs.YtlhmljngjdfbpaaW.PrintMore
def frm (l : List Arc) (x : List Int) (j : Nat) : Nat:=(arc l (nth x j).toNat).f0.toNat
def too (l : List Arc) (x : List Int) (j : Nat) : Nat:=(arc l (nth x j).toNat).f1.toNat
def TE (l : List Arc) (x : List Int) (j : Nat) (a b : Nat) : Prop:=∃ i,i < j ∧ a = frm l x i ∧ b = too l x i
structure Parts (n : Nat) (E : Nat → Nat → Prop) (F : Nat → Int) : Prop where
 same : ∀ a b,E a b → F a = F b
 low : ∀ v,v < n → F v ≤ v
 conn : ∀ v,v < n → ∃ u : Nat,F v = u ∧ u < n ∧ Conn E u v
theorem Parts.all {n : Nat} {E : Nat → Nat → Prop} {F : Nat → Int} (h : Parts n E F) {u v : Nat} (c : Conn E u v) : F u = F v:=by
 induction c with
 | refl => rfl
 | tail _ e ih => exact ih.trans (e.elim (h.same _ _) (fun e => (h.same _ _ e).symm))
theorem Parts.uniq {n : Nat} {E : Nat → Nat → Prop} {F G : Nat → Int} (hF : Parts n E F) (hG : Parts n E G) : ∀ v,v < n → F v = G v:=by
 intro v hv;obtain ⟨u,e1,h1,c1⟩:=hF.conn v hv;obtain ⟨w,e2,h2,c2⟩:=hG.conn v hv;have a1:=hG.low u h1;have a2:=hF.low w h2;rw [hG.all c1] at a1;rw [hF.all c2] at a2;omega
section
variable {n : Int} {l : List Arc} (hg : NetGood n l) {x : List Int} (hx : ∀ j,j < x.length → 0 ≤ nth x j ∧ nth x j < l.length)
include hg hx
theorem frm_lt {j : Nat} (h : j < x.length) : ((frm l x j : Nat) : Int) = (arc l (nth x j).toNat).f0 ∧ frm l x j < n.toNat:=by
 have h1:=hx j h;have h2:=(hg.ok (nth x j).toNat (by omega)).1;have:=hg.n1
 unfold frm
 omega
theorem too_lt {j : Nat} (h : j < x.length) : ((too l x j : Nat) : Int) = (arc l (nth x j).toNat).f1 ∧ too l x j < n.toNat:=by
 have h1:=hx j h;have h2:=(hg.ok (nth x j).toNat (by omega)).2.1;have:=hg.n1
 unfold too
 omega
end
def stepS (F : Nat → Int) (a b : Nat) : Nat → Int:=if F a < F b then upd F b (F a) else upd F a (F b)
def sweepS (l : List Arc) (x : List Int) (F : Nat → Int) : Nat → (Nat → Int)
 | 0 => F
 | i + 1 => stepS (sweepS l x F i) (frm l x i) (too l x i)
def roundS (l : List Arc) (x : List Int) : Nat → (Nat → Int)
 | 0 => fun v => v
 | r + 1 => sweepS l x (roundS l x r) x.length
theorem stepS_at {F : Nat → Int} {a b : Nat} : stepS F a b a ≤ F a ∧ stepS F a b a ≤ F b ∧ stepS F a b b ≤ F a ∧ stepS F a b b ≤ F b ∧ ∀ v,stepS F a b v ≤ F v:=by
 unfold stepS
 by_cases h : F a < F b
 case pos =>
  rw [if_pos h];refine ⟨?_,?_,?_,?_,fun v => ?_⟩
  ·by_cases e : a = b
   case pos => subst e; omega
   rw [upd_far _ _ e]; omega
  ·by_cases e : a = b
   case pos => subst e; omega
   rw [upd_far _ _ e]; omega
  ·rw [upd_same]; omega
  ·rw [upd_same]; omega
  ·by_cases e : v = b
   case neg => rw [upd_far _ _ e]; omega
   subst e; rw [upd_same]; omega
 rw [if_neg h];refine ⟨?_,?_,?_,?_,fun v => ?_⟩
 ·rw [upd_same]; omega
 ·rw [upd_same]; omega
 ·by_cases e : b = a
  case neg => rw [upd_far _ _ e]; omega
  subst e; rw [upd_same]; omega
 ·by_cases e : b = a
  case neg => rw [upd_far _ _ e]; omega
  subst e; rw [upd_same]; omega
 ·by_cases e : v = a
  case neg => rw [upd_far _ _ e]; omega
  subst e; rw [upd_same]; omega
theorem stepS_from {F : Nat → Int} {a b v : Nat} : stepS F a b v = F v ∨ (v = b ∧ stepS F a b v = F a) ∨ (v = a ∧ stepS F a b v = F b):=by
 unfold stepS
 by_cases h : F a < F b
 case neg =>
  rw [if_neg h]
  by_cases e : v = a
  case neg => exact .inl (upd_far _ _ e)
  exact .inr (.inr ⟨e,by rw [e,upd_same]⟩)
 rw [if_pos h]
 by_cases e : v = b
 case neg => exact .inl (upd_far _ _ e)
 exact .inr (.inl ⟨e,by rw [e,upd_same]⟩)
theorem sweepS_le (l : List Arc) (x : List Int) (F : Nat → Int) : ∀ i v,sweepS l x F i v ≤ F v:=by
 intro i
 induction i with
 | zero => intro v; exact Int.le_refl _
 | succ i ih => intro v; exact Int.le_trans (stepS_at.2.2.2.2 v) (ih v)
theorem sweepS_anti (l : List Arc) (x : List Int) (F : Nat → Int) (i : Nat) : ∀ s v,sweepS l x F (i + s) v ≤ sweepS l x F i v:=by
 intro s
 induction s with
 | zero => intro v; exact Int.le_refl _
 | succ s ih => intro v; exact Int.le_trans (stepS_at.2.2.2.2 v) (ih v)
theorem sweepS_arc (l : List Arc) (x : List Int) (F : Nat → Int) {i : Nat} (hi : i < x.length) : sweepS l x F x.length (frm l x i) ≤ F (too l x i) ∧ sweepS l x F x.length (too l x i) ≤ F (frm l x i):=by
 have e : x.length = (i + 1) + (x.length - (i + 1)):=by omega
 have h1:=sweepS_anti l x F (i + 1) (x.length - (i + 1));rw [← e] at h1;have h2:=sweepS_le l x F i;have h3:=@stepS_at (sweepS l x F i) (frm l x i) (too l x i);constructor
 ·exact Int.le_trans (h1 _) (Int.le_trans h3.2.1 (h2 _))
 ·exact Int.le_trans (h1 _) (Int.le_trans h3.2.2.1 (h2 _))
def Near (l : List Arc) (x : List Int) (n u : Nat) : Nat → Nat → Prop
 | 0,v => v = u ∧ v < n
 | r + 1,v => v < n ∧ (Near l x n u r v ∨ ∃ w,Near l x n u r w ∧ (TE l x x.length w v ∨ TE l x x.length v w))
theorem near_lt {l : List Arc} {x : List Int} {n u : Nat} : ∀ r v,Near l x n u r v → v < n
 | 0,v,h => h.2
 | r + 1,v,h => h.1
theorem near_round {l : List Arc} {x : List Int} {n u : Nat} : ∀ r v,Near l x n u r v → roundS l x r v ≤ u:=by
 intro r
 induction r with
 | zero =>
  intro v h;rw [h.1];exact Int.le_refl _
 | succ r ih =>
  intro v h
  rcases h.2 with h | ⟨w,hw,⟨i,hi,e1,e2⟩ | ⟨i,hi,e1,e2⟩⟩
  ·exact Int.le_trans (sweepS_le l x _ _ v) (ih v h)
  ·have:=(sweepS_arc l x (roundS l x r) hi).2;rw [← e1,← e2] at this;exact Int.le_trans this (ih w hw)
  ·have:=(sweepS_arc l x (roundS l x r) hi).1;rw [← e1,← e2] at this;exact Int.le_trans this (ih w hw)
section
variable {n : Int} {l : List Arc} (hg : NetGood n l) {x : List Int} (hx : ∀ j,j < x.length → 0 ≤ nth x j ∧ nth x j < l.length)
include hg hx
theorem near_conn {u v : Nat} (hu : u < n.toNat) (c : Conn (TE l x x.length) u v) : Near l x n.toNat u (n.toNat - 1) v:=by
 have hr : ∃ r,Near l x n.toNat u r v:=by
  induction c with
  | refl => exact ⟨0,rfl,hu⟩
  | tail c e ih =>
   obtain ⟨r,hr⟩:=ih;refine ⟨r + 1,?_,.inr ⟨_,hr,e⟩⟩
   rcases e with ⟨i,hi,e1,e2⟩ | ⟨i,hi,e1,e2⟩
   ·rw [e2]; exact (too_lt hg hx hi).2
   ·rw [e1]; exact (frm_lt hg hx hi).2
 obtain ⟨r,hr⟩:=hr;refine spread n.toNat (Near l x n.toNat u) (fun r v h => ⟨near_lt r v h,.inl h⟩) near_lt (fun r h v hv => ?_) ⟨u,rfl,hu⟩ r v hr;refine ⟨hv.1,?_⟩
 rcases hv.2 with hv | ⟨w,hw,e⟩
 ·exact .inl (h v hv)
 ·exact .inr ⟨w,h w hw,e⟩
theorem sweepS_conn (F : Nat → Int) (hF : ∀ v,v < n.toNat → ∃ u : Nat,F v = u ∧ u < n.toNat ∧ Conn (TE l x x.length) u v) : ∀ i,i ≤ x.length → ∀ v,v < n.toNat → ∃ u : Nat,sweepS l x F i v = u ∧ u < n.toNat ∧ Conn (TE l x x.length) u v:=by
 intro i
 induction i with
 | zero => exact fun _ => hF
 | succ i ih =>
  intro hi v hv;have ih:=ih (by omega);have he : TE l x x.length (frm l x i) (too l x i):=⟨i,by omega,rfl,rfl⟩
  simp only [sweepS]
  rcases @stepS_from (sweepS l x F i) (frm l x i) (too l x i) v with h | ⟨e,h⟩ | ⟨e,h⟩
  ·rw [h]; exact ih v hv
  ·rw [h];obtain ⟨u,h1,h2,h3⟩:=ih _ (frm_lt hg hx (j:=i) (by omega)).2;exact ⟨u,h1,h2,e ▸ .tail h3 (.inl he)⟩
  ·rw [h];obtain ⟨u,h1,h2,h3⟩:=ih _ (too_lt hg hx (j:=i) (by omega)).2;exact ⟨u,h1,h2,e ▸ .tail h3 (.inr he)⟩
theorem roundS_conn : ∀ r v,v < n.toNat → ∃ u : Nat,roundS l x r v = u ∧ u < n.toNat ∧ Conn (TE l x x.length) u v:=by
 intro r
 induction r with
 | zero => exact fun v hv => ⟨v,rfl,hv,.refl v⟩
 | succ r ih => exact sweepS_conn hg hx _ ih _ (Nat.le_refl _)
theorem roundS_le : ∀ r v,roundS l x r v ≤ v:=by
 intro r
 induction r with
 | zero => exact fun v => Int.le_refl _
 | succ r ih => exact fun v => Int.le_trans (sweepS_le l x _ _ v) (ih v)
theorem roundS_anti (r : Nat) : ∀ s v,roundS l x (r + s) v ≤ roundS l x r v:=by
 intro s
 induction s with
 | zero => exact fun v => Int.le_refl _
 | succ s ih => exact fun v => Int.le_trans (sweepS_le l x _ _ v) (ih v)
theorem specParts : Parts n.toNat (TE l x x.length) (roundS l x n.toNat):=by
 have h1:=hg.n1;have least : ∀ u v,u < n.toNat → Conn (TE l x x.length) u v → roundS l x n.toNat v ≤ u:=by
  intro u v hu c;have a:=near_round _ _ (near_conn hg hx hu c);have b:=roundS_anti hg hx (n.toNat - 1) 1 v;rw [show n.toNat - 1 + 1 = n.toNat by omega] at b;exact Int.le_trans b a
 refine ⟨fun a b e => ?_,fun v hv => roundS_le hg hx _ v,roundS_conn hg hx _⟩;have ha : a < n.toNat:=by obtain ⟨i,hi,e1,e2⟩:=e; rw [e1]; exact (frm_lt hg hx hi).2
 have hb : b < n.toNat:=by obtain ⟨i,hi,e1,e2⟩:=e; rw [e2]; exact (too_lt hg hx hi).2
 obtain ⟨u,e1,h1,c1⟩:=roundS_conn hg hx n.toNat a ha;obtain ⟨w,e2,h2,c2⟩:=roundS_conn hg hx n.toNat b hb;have b1:=least u b h1 (.tail c1 (.inl e));have b2:=least w a h2 (.tail c2 (.inr e));omega
end
def stepI (F : Nat → Int) (a b : Nat) : Nat → Int:=fun v => if F v = mx (F a) (F b) then mn (F a) (F b) else F v
def sweepI (l : List Arc) (x : List Int) : Nat → (Nat → Int)
 | 0 => fun v => v
 | i + 1 => stepI (sweepI l x i) (frm l x i) (too l x i)
theorem stepI_ends (F : Nat → Int) (a b : Nat) : stepI F a b a = stepI F a b b:=by
 have e1 : mx (F a) (F b) = max (F a) (F b):=by unfold mx; omega
 have e2 : mn (F a) (F b) = min (F a) (F b):=by unfold mn; omega
 unfold stepI
 rw [e1,e2]
 split <;> split <;> omega
section
variable {n : Int} {l : List Arc} (hg : NetGood n l) {x : List Int} (hx : ∀ j,j < x.length → 0 ≤ nth x j ∧ nth x j < l.length)
include hg hx
theorem implParts_to : ∀ i,i ≤ x.length → Parts n.toNat (TE l x i) (sweepI l x i):=by
 intro i
 induction i with
 | zero =>
  intro _;exact ⟨fun a b ⟨j,hj,_⟩ => absurd hj (by omega),fun v _ => Int.le_refl _,fun v hv => ⟨v,rfl,hv,.refl v⟩⟩
 | succ i ih =>
  intro hi;have ih:=ih (by omega);have ha:=(frm_lt hg hx (j:=i) (by omega)).2;have hb:=(too_lt hg hx (j:=i) (by omega)).2;have up : ∀ a b,TE l x i a b → TE l x (i + 1) a b:=fun a b ⟨j,hj,e⟩ => ⟨j,by omega,e⟩
  have he : TE l x (i + 1) (frm l x i) (too l x i):=⟨i,by omega,rfl,rfl⟩
  refine ⟨fun a b ⟨j,hj,e1,e2⟩ => ?_,fun v hv => ?_,fun v hv => ?_⟩
  ·by_cases e : j = i
   case pos =>
    subst e;rw [e1,e2];exact stepI_ends _ _ _
   have:=ih.same a b ⟨j,by omega,e1,e2⟩;simp only [sweepI,stepI,this]
  ·have h1:=ih.low v hv;simp only [sweepI,stepI]
   split
   ·rename_i c;have : mn (sweepI l x i (frm l x i)) (sweepI l x i (too l x i)) ≤ mx (sweepI l x i (frm l x i)) (sweepI l x i (too l x i)):=by unfold mn mx; omega
    omega
   ·exact h1
  ·obtain ⟨u,e1,h1,c1⟩:=ih.conn v hv;obtain ⟨p,ep,hp,cp⟩:=ih.conn _ ha;obtain ⟨q,eq,hq,cq⟩:=ih.conn _ hb;have c1:=c1.mono up;have cp:=cp.mono up;have cq:=cq.mono up;have link : Conn (TE l x (i + 1)) p q:=(Conn.tail cp (.inl he)).trans cq.symm;simp only [sweepI,stepI]
   by_cases c : sweepI l x i v = mx (sweepI l x i (frm l x i)) (sweepI l x i (too l x i))
   case neg =>
    rw [if_neg c];exact ⟨u,e1,h1,c1⟩
   rw [if_pos c];rw [ep,eq] at c ⊢
   by_cases hpq : p < q
   case pos =>
    refine ⟨p,by unfold mn; omega,hp,?_⟩;have : u = q:=by unfold mx at c; omega
    subst this;exact link.trans c1
   refine ⟨q,by unfold mn; omega,hq,?_⟩;have : u = p:=by unfold mx at c; omega
   subst this;exact link.symm.trans c1
end
section
variable {n : Int} {l : List Arc} (hg : NetGood n l) {x : List Int} (hx : ∀ j,j < x.length → 0 ≤ nth x j ∧ nth x j < l.length) (hm : x.length ≤ 35184372088832)
include hg hx hm
theorem rdx {j : Nat} (h : j < x.length) : rd x (j : Int) = (((nth x j).toNat : Nat) : Int) ∧ (nth x j).toNat < l.length:=by
 have:=hx j h;rw [rdg];omega
theorem implParts_l2 (i : Nat) (hi : i < x.length) {res : List Int} (next : Ev (fun k => impl_Net_joined.l1 k (lst n.toNat (sweepI l x (i + 1))) x (x.length : Int) ((i + 1 : Nat) : Int) n l) res) : ∀ (m v : Nat),n.toNat - v = m → v ≤ n.toNat → Ev (fun k => impl_Net_joined.l2 k (lst n.toNat (fun u => if u < v then sweepI l x (i + 1) u else sweepI l x i u)) (sweepI l x i (frm l x i)) (sweepI l x i (too l x i)) x (x.length : Int) (i : Int) (n.toNat : Int) (v : Int) n l) res:=by
 intro m;have h1:=hg.n1;have h8:=hg.n8
 induction m with
 | zero =>
  intro v hd hv;have e : v = n.toNat:=by omega
  subst e;refine Ev.go ?_ (fun k => by rw [impl_Net_joined.l2]);rw [up1 hi (by simp only [maxLen]; omega),lst_congr (G:=sweepI l x (i + 1)) (fun u hu => if_pos hu)];exact Ev.neg (by omega) next
 | succ m ih =>
  intro v hd hv;have hlt : v < n.toNat:=by omega
  have hn:=ih (v + 1) (by omega) (by omega);rw [← up1 (i:=v) (n:=n.toNat) hlt (by simp only [maxLen]; omega)] at hn;refine Ev.go ?_ (fun k => by rw [impl_Net_joined.l2]);rw [lst_len,lst_rd _ hlt,if_neg (Nat.lt_irrefl v)];refine Ev.pos (by omega) (Ev.pos (by omega) (Ev.pos (by omega) ?_));simp only [Int.toNat_natCast,lst_set]
  by_cases c : sweepI l x i v = mx (sweepI l x i (frm l x i)) (sweepI l x i (too l x i))
  case neg =>
   refine Ev.neg c ?_;rw [lst_congr (n:=n.toNat) (G:=fun u => if u < v + 1 then sweepI l x (i + 1) u else sweepI l x i u) ?_]
   ·exact hn
   ·intro u hu
    by_cases e : u = v
    case neg =>
     by_cases h : u < v
     case neg => rw [if_neg h,if_neg (by omega)]
     rw [if_pos h,if_pos (by omega)]
    subst e;rw [if_neg (Nat.lt_irrefl u),if_pos (Nat.lt_succ_self _)];simp only [sweepI,stepI];rw [if_neg c]
  refine Ev.pos c ?_;rw [lst_congr (n:=n.toNat) (F:=upd _ v _) (G:=fun u => if u < v + 1 then sweepI l x (i + 1) u else sweepI l x i u) ?_]
  ·exact hn
  ·intro u hu
   by_cases e : u = v
   case pos =>
    subst e;rw [upd_same,if_pos (Nat.lt_succ_self _)];simp only [sweepI,stepI];rw [if_pos c]
   rw [upd_far _ _ e]
   by_cases h : u < v
   case neg => rw [if_neg h,if_neg (by omega)]
   rw [if_pos h,if_pos (by omega)]
theorem implParts_l1 : ∀ (m i : Nat),x.length - i = m → i ≤ x.length → Ev (fun k => impl_Net_joined.l1 k (lst n.toNat (sweepI l x i)) x (x.length : Int) (i : Int) n l) (lst n.toNat (sweepI l x x.length)):=by
 intro m;have h1:=hg.n1;have h8:=hg.n8
 induction m with
 | zero =>
  intro i hd hi;have e : i = x.length:=by omega
  subst e;refine Ev.go ?_ (fun k => by rw [impl_Net_joined.l1]);exact Ev.neg (by omega) (Ev.now _)
 | succ m ih =>
  intro i hd hi;have hlt : i < x.length:=by omega
  have hn:=ih (i + 1) (by omega) (by omega);obtain ⟨e0,hj⟩:=rdx hg hx hm hlt;obtain ⟨ef,hf⟩:=frm_lt hg hx hlt;obtain ⟨et,ht⟩:=too_lt hg hx hlt;refine Ev.go ?_ (fun k => by rw [impl_Net_joined.l1]);rw [e0,rda,← ef,← et,lst_len,lst_rd _ hf,lst_rd _ ht];refine Ev.pos (by omega) (Ev.pos (by omega) (Ev.pos (by omega) (Ev.pos (by omega) (Ev.pos (by omega) (Ev.pos (by omega) (Ev.pos (by omega) (Ev.pos (by omega) (Ev.pos (by omega) ?_))))))));have:=implParts_l2 hg hx hm i hlt hn _ 0 rfl (Nat.zero_le _);rw [lst_congr (G:=sweepI l x i) (fun u hu => if_neg (Nat.not_lt_zero u))] at this;exact this
theorem implParts_l0 : ∀ (m i : Nat),n.toNat - i = m → i ≤ n.toNat → Ev (fun k => impl_Net_joined.l0 k x (lst i (fun v => v)) n (i : Int) n l) (lst n.toNat (sweepI l x x.length)):=by
 have h1:=hg.n1;have h8:=hg.n8;intro m
 induction m with
 | zero =>
  intro i hd hi;have e : i = n.toNat:=by omega
  subst e;refine Ev.go ?_ (fun k => by rw [impl_Net_joined.l0]);exact Ev.neg (by omega) (implParts_l1 hg hx hm _ 0 rfl (Nat.zero_le _))
 | succ m ih =>
  intro i hd hi;have hlt : i < n.toNat:=by omega
  refine Ev.go ?_ (fun k => by rw [impl_Net_joined.l0]);rw [up1 hlt (by simp only [maxLen]; omega),lst_snoc i (fun v => (v : Int))];exact Ev.pos (by omega) (Ev.pos (by rw [lst_len]; omega) (ih (i + 1) (by omega) (by omega)))
theorem implParts_ev : Ev (fun k => impl_Net_joined.f k n l x) (lst n.toNat (roundS l x n.toNat)):=by
 have h1:=hg.n1;have h8:=hg.n8
 unfold impl_Net_joined.f
 refine Ev.pos (by omega) (Ev.pos (by omega) ((implParts_l0 hg hx hm _ 0 rfl (Nat.zero_le _)).cast ?_));exact lst_congr (fun v hv => (implParts_to hg hx _ (Nat.le_refl _)).uniq (specParts hg hx) v hv)
end
end Go.Proofs.Ytlhmljngjdfbpaa.Pure
end
section
set_option linter.unusedSimpArgs false
set_option linter.unusedVariables false
namespace Go.Proofs.Ytlhmljngjdfbpaa.Pure
open Go.RowKit Go.Proofs.Ytlhmljngjdfbpaa.Pr Go.Proofs.YtlhmljngjdfbpaaW.PrintWords Go.Proofs.YtlhmljngjdfbpaaW.PrintLast Go.Proofs.YtlhmljngjdfbpaaW.PrintMore
def arcsB (n : Int) (l : List Arc) (x : List Int) : Bool:=netOkB n l && decide ((x.length : Int) ≤ 16) && x.all (okN (l.length : Int))
theorem arcsB_iff (n : Int) (l : List Arc) (x : List Int) : arcsB n l x = true ↔ NetGood n l ∧ x.length ≤ 16 ∧ ∀ j,j < x.length → 0 ≤ nth x j ∧ nth x j < l.length:=by
 simp only [arcsB,Bool.and_eq_true,netOkB_iff,decide_eq_true_eq,List.all_eq_true,okN];constructor
 ·rintro ⟨⟨h1,h2⟩,h3⟩;refine ⟨h1,by omega,fun j hj => ?_⟩;have:=h3 _ (getD_mem hj);omega
 ·rintro ⟨h1,h2,h3⟩;refine ⟨⟨h1,by omega⟩,fun c hc => ?_⟩;obtain ⟨j,hj,rfl⟩:=mem_getD hc;have:=h3 j hj;omega
def treeV (n : Int) (l : List Arc) (x : List Int) : List Int:=if arcsB n l x = true then lst n.toNat (roundS l x n.toNat) else []
theorem implTree_ev (n : Int) (l : List Arc) (x : List Int) : Ev (fun k => impl_TreeParts.f k n l x) (treeV n l x):=by
 unfold impl_TreeParts.f
 refine Ev.bind0 (show impl_arcsOk.f n l x = some (arcsB n l x) from rfl) ?_
 unfold treeV
 cases h : arcsB n l x with
 | false => exact Ev.neg (by simp) (Ev.is (by simp))
 | true =>
  obtain ⟨hg,h16,hx⟩:=(arcsB_iff n l x).1 h;rw [if_pos rfl];exact Ev.pos rfl (Ev.bind (implParts_ev hg hx (by omega)) (Ev.now _))
end Go.Proofs.Ytlhmljngjdfbpaa.Pure
end
section
set_option linter.unusedSimpArgs false
set_option linter.unusedVariables false
namespace Go.Proofs.Ytlhmljngjdfbpaa.Ins
section
variable {α : Type} {L : α → α → Prop}
theorem pw_uniq (irr : ∀ x,¬ L x x) (asy : ∀ x y,L x y → ¬ L y x) : ∀ (a b : List α),a.Pairwise L → b.Pairwise L → (∀ x,x ∈ a ↔ x ∈ b) → a = b
 | [],[],_,_,_ => rfl
 | [],y :: b,_,_,h => absurd ((h y).2 (List.mem_cons_self ..)) (by simp)
 | x :: a,[],_,_,h => absurd ((h x).1 (List.mem_cons_self ..)) (by simp)
 | x :: a,y :: b,ha,hb,h => by
  obtain ⟨ha1,ha2⟩:=List.pairwise_cons.1 ha;obtain ⟨hb1,hb2⟩:=List.pairwise_cons.1 hb;have e : x = y:=by
   rcases List.mem_cons.1 ((h x).1 (List.mem_cons_self ..)) with e | h1
   ·exact e
   ·rcases List.mem_cons.1 ((h y).2 (List.mem_cons_self ..)) with e | h2
    ·exact e.symm
    ·exact absurd (hb1 x h1) (asy _ _ (ha1 y h2))
  subst e
  congr 1
  refine pw_uniq irr asy a b ha2 hb2 (fun z => ⟨fun hz => ?_,fun hz => ?_⟩)
  ·rcases List.mem_cons.1 ((h z).1 (List.mem_cons_of_mem _ hz)) with e | h1
   ·subst e; exact absurd (ha1 z hz) (irr z)
   ·exact h1
  ·rcases List.mem_cons.1 ((h z).2 (List.mem_cons_of_mem _ hz)) with e | h1
   ·subst e; exact absurd (hb1 z hz) (irr z)
   ·exact h1
end
section
variable {α : Type} [Inhabited α] {lt : α → α → Bool}
theorem swp_list (d : Array α) (P R : List α) (x y : α) (h : d.toList = P ++ y :: x :: R) : (Go.Sort.swp d (P.length + 1) P.length).toList = P ++ x :: y :: R:=by
 have hs : d.size = P.length + (R.length + 2):=by rw [← Array.length_toList,h]; simp
 have e1 : d[P.length + 1]! = x:=by
  rw [getElem!_pos d (P.length + 1) (by omega),← Array.getElem_toList];simp [h]
 have e0 : d[P.length]! = y:=by
  rw [getElem!_pos d P.length (by omega),← Array.getElem_toList];simp [h]
 unfold Go.Sort.swp
 rw [e0,e1,Array.toList_setIfInBounds,Array.toList_setIfInBounds,h];rw [List.set_append_right _ _ (by omega),List.set_append_right _ _ (by omega)];simp
theorem insInner_list : ∀ (j : Nat) (d : Array α) (P R : List α) (x : α),P.length = j → d.toList = P ++ x :: R → ∃ A B,P = A ++ B ∧ (Go.Sort.insInner lt 0 j d).toList = A ++ x :: (B ++ R) ∧ (∀ b ∈ B,lt x b = true) ∧ (∀ A' a,A = A' ++ [a] → lt x a = false)
 | 0,d,P,R,x,hP,hd => by
  have : P = []:=List.length_eq_zero_iff.1 hP;subst this;exact ⟨[],[],rfl,by simpa [Go.Sort.insInner] using hd,by simp,by simp⟩
 | j + 1,d,P,R,x,hP,hd => by
  obtain ⟨P',y,rfl⟩ : ∃ P' y,P = P' ++ [y]:=by
   have hne : P ≠ []:=fun e => by rw [e] at hP; simp at hP
   exact ⟨P.dropLast,P.getLast hne,(List.dropLast_concat_getLast hne).symm⟩
  have hl : P'.length = j:=by simpa using hP
  have hd' : d.toList = P' ++ y :: x :: R:=by rw [hd]; simp
  have hs : d.size = P'.length + (R.length + 2):=by rw [← Array.length_toList,hd']; simp
  have e1 : d[j + 1]! = x:=by
   rw [getElem!_pos d (j + 1) (by omega),← Array.getElem_toList];simp [hd',← hl]
  have e0 : d[j]! = y:=by
   rw [getElem!_pos d j (by omega),← Array.getElem_toList];simp [hd',← hl]
  unfold Go.Sort.insInner
  rw [e0,e1];cases hlt : lt x y with
  | true =>
   rw [if_pos (by simp)];have hsw:=swp_list d P' R x y hd';rw [hl] at hsw;obtain ⟨A,B,h1,h2,h3,h4⟩:=insInner_list j (Go.Sort.swp d (j + 1) j) P' (y :: R) x hl hsw;refine ⟨A,B ++ [y],by rw [h1]; simp,by rw [h2]; simp,fun b hb => ?_,h4⟩
   rcases List.mem_append.1 hb with h | h
   ·exact h3 b h
   ·rw [List.mem_singleton.1 h]; exact hlt
  | false =>
   rw [if_neg (by simp)];refine ⟨P' ++ [y],[],by simp,by rw [hd]; simp,by simp,fun A' a e => ?_⟩;obtain ⟨_,e⟩:=List.append_inj' e rfl;injection e with e _
   rw [← e]; exact hlt
end
section
variable {key : Nat → Nat}
def Lk (key : Nat → Nat) (x y : Nat) : Prop:=key x < key y ∨ (key x = key y ∧ x < y)
theorem Lk.irr (x : Nat) : ¬ Lk key x x:=by unfold Lk; omega
theorem Lk.asy (x y : Nat) (h : Lk key x y) : ¬ Lk key y x:=by unfold Lk at h ⊢; omega
theorem put_in {A B : List Nat} {i : Nat} (hp : (A ++ B).Pairwise (Lk key)) (hi : ∀ x ∈ A ++ B,x < i) (hB : ∀ b ∈ B,key i < key b) (hA : ∀ A' a,A = A' ++ [a] → key a ≤ key i) : (A ++ i :: B).Pairwise (Lk key):=by
 have hA2 : ∀ a ∈ A,key a ≤ key i:=by
  intro a ha
  by_cases hne : A = []
  case pos => rw [hne] at ha; simp at ha
  have e:=List.dropLast_concat_getLast hne;have h1:=hA _ _ e.symm;rw [← e] at ha
  rcases List.mem_append.1 ha with h | h
  ·have hpa:=(List.pairwise_append.1 hp).1;rw [← e] at hpa;have:=(List.pairwise_append.1 hpa).2.2 a h _ (List.mem_singleton.2 rfl)
   unfold Lk at this
   omega
  ·rw [List.mem_singleton.1 h]; exact h1
 obtain ⟨h1,h2,h3⟩:=List.pairwise_append.1 hp;rw [List.pairwise_append];refine ⟨h1,List.pairwise_cons.2 ⟨fun b hb => .inl (hB b hb),h2⟩,fun a ha b hb => ?_⟩
 rcases List.mem_cons.1 hb with rfl | hb
 ·have:=hA2 a ha;have:=hi a (List.mem_append_left _ ha)
  unfold Lk
  omega
 ·exact h3 a ha b hb
end
section
variable {m : Nat} {lt : Fin (m + 1) → Fin (m + 1) → Bool} {key : Nat → Nat} (hlt : ∀ x y,lt x y = decide (key x.1 < key y.1))
include hlt
theorem outer_list : ∀ (s i : Nat) (d : Array (Fin (m + 1))) (S R : List (Fin (m + 1))),(m + 1) - i = s → i ≤ m + 1 → 0 < i → d.toList = S ++ R → S.length = i → (S.map fun x => x.1).Pairwise (Lk key) → (∀ x : Nat,x ∈ S.map (fun x => x.1) ↔ x < i) → R.map (fun x => x.1) = (List.range' i s) → ((Go.Sort.insOuter lt 0 (m + 1) i d).toList.map fun x => x.1).Pairwise (Lk key) ∧ ∀ x : Nat,x ∈ (Go.Sort.insOuter lt 0 (m + 1) i d).toList.map (fun x => x.1) ↔ x < m + 1:=by
 intro s
 induction s with
 | zero =>
  intro i d S R hs hi h0 hd hS hp hm hR;have : R = []:=by simpa using hR
  subst this;rw [Go.Sort.insOuter,if_neg (by omega),hd,List.append_nil];have : i = m + 1:=by omega
  subst this;exact ⟨hp,hm⟩
 | succ s ih =>
  intro i d S R hs hi h0 hd hS hp hm hR;rw [List.range'_succ] at hR;obtain ⟨x,R',rfl,hx,hR'⟩ : ∃ x R',R = x :: R' ∧ x.1 = i ∧ R'.map (fun x => x.1) = List.range' (i + 1) s:=by
   cases R with
   | nil => simp at hR
   | cons x R' => exact ⟨x,R',rfl,by simpa using (List.cons.inj hR).1,by simpa using (List.cons.inj hR).2⟩
  rw [Go.Sort.insOuter,if_pos (by omega)];obtain ⟨A,B,h1,h2,h3,h4⟩:=insInner_list (lt:=lt) i d S R' x hS hd;subst h1;refine ih (i + 1) _ (A ++ x :: B) R' (by omega) (by omega) (by omega) (by rw [h2]; simp) (by simp at hS ⊢; omega) ?_ ?_ hR'
  ·rw [List.map_append,List.map_cons,hx];rw [List.map_append] at hp hm;refine put_in hp (fun y hy => (hm y).1 hy) (fun b hb => ?_) (fun A' a e => ?_)
   ·obtain ⟨z,hz,rfl⟩:=List.mem_map.1 hb;have:=h3 z hz;rw [hlt,decide_eq_true_eq,hx] at this;exact this
   ·by_cases hne : A = []
    case pos => rw [hne] at e; simp at e
    have e2:=List.dropLast_concat_getLast hne;have h5:=h4 _ _ e2.symm;rw [hlt,decide_eq_false_iff_not,hx] at h5;rw [← e2,List.map_append] at e;obtain ⟨_,e⟩:=List.append_inj' e rfl;have e : (A.getLast hne).1 = a:=by simpa using e
    rw [← e];omega
  ·intro y;rw [List.map_append,List.map_cons,List.mem_append,List.mem_cons,hx];have:=hm y;rw [List.map_append,List.mem_append] at this;constructor
   ·rintro (h | h | h)
    ·have:=this.1 (.inl h); omega
    ·omega
    ·have:=this.1 (.inr h); omega
   ·intro h
    by_cases e : y = i
    case pos => exact .inr (.inl e)
    rcases this.2 (by omega) with h | h
    ·exact .inl h
    ·exact .inr (.inr h)
theorem sort_list : ((Go.Sort.insertionSort lt (Array.ofFn fun x : Fin (m + 1) => x) 0 (m + 1)).toList.map fun x => x.1).Pairwise (Lk key) ∧ ∀ x : Nat,x ∈ (Go.Sort.insertionSort lt (Array.ofFn fun x : Fin (m + 1) => x) 0 (m + 1)).toList.map (fun x => x.1) ↔ x < m + 1:=by
 have hd : (Array.ofFn fun x : Fin (m + 1) => x).toList = [⟨0,by omega⟩] ++ (List.ofFn fun x : Fin m => (⟨x.1 + 1,by omega⟩ : Fin (m + 1))):=by
  rw [Array.toList_ofFn,List.ofFn_succ];rfl
 refine outer_list hlt m 1 _ [⟨0,by omega⟩] (List.ofFn fun x : Fin m => (⟨x.1 + 1,by omega⟩ : Fin (m + 1))) (by omega) (by omega) (by omega) hd rfl (by simp) (fun x => by simp) ?_
 apply List.ext_getElem (by simp)
 intro i h1 h2;simp [List.getElem_range'];omega
end
end Go.Proofs.Ytlhmljngjdfbpaa.Ins
end
section
set_option linter.unusedSectionVars false
namespace Go.Proofs.Ytlhmljngjdfbpaa.Sp
structure G where
 n : Nat
 m : Nat
 fr : Nat → Nat
 tw : Nat → Nat
 w : Nat → Int
 use : Nat → Bool
structure G.Ok (g : G) : Prop where
 fl : ∀ i,i < g.m → g.fr i < g.n
 tl : ∀ i,i < g.m → g.tw i < g.n
 w0 : ∀ i,i < g.m → 0 ≤ g.w i
inductive Wk (g : G) : Nat → Nat → Nat → Int → Prop
 | nil (v : Nat) : Wk g v v 0 0
 | cons {i v k : Nat} {c : Int} : i < g.m → g.use i = true → Wk g (g.tw i) v k c → Wk g (g.fr i) v (k + 1) (g.w i + c)
theorem nodup_len : ∀ (n : Nat) (l : List Nat),l.Nodup → (∀ x ∈ l,x < n) → l.length ≤ n:=by
 intro n
 induction n with
 | zero =>
  intro l _ h;cases l with
  | nil => simp
  | cons a l => exact absurd (h a (by simp)) (by omega)
 | succ n ih =>
  intro l hn h;have h1:=ih (l.erase n) (hn.erase n) (fun x hx => by
   have h2:=h x (List.mem_of_mem_erase hx);have h3 : x ≠ n:=by
    rintro rfl;exact (List.Nodup.not_mem_erase hn) hx
   omega)
  have:=List.length_erase_le (a:=n) (l:=l);have h4 : l.length ≤ (l.erase n).length + 1:=by
   rw [List.length_erase]
   split <;> omega
  omega
inductive Sm (g : G) (t : Nat) : Nat → List Nat → Nat → Int → Prop
 | nil : Sm g t t [t] 0 0
 | cons {i k : Nat} {L : List Nat} {c : Int} : i < g.m → g.use i = true → Sm g t (g.tw i) L k c → g.fr i ∉ L → Sm g t (g.fr i) (g.fr i :: L) (k + 1) (g.w i + c)
def Opt (g : G) (t : Nat) (L : Nat → Option Int) : Prop:=∀ v,v < g.n → (∀ x,L v = some x → ∃ k,Wk g v t k x) ∧ (∀ k c,Wk g v t k c → ∃ x,L v = some x ∧ x ≤ c)
def lts (a : Int) : Option Int → Bool
 | none => true
 | some y => decide (a < y)
def put (L : Nat → Option Int) (a : Nat) (x : Int) : Nat → Option Int:=fun v => if v = a then some x else L v
def relax (g : G) (L : Nat → Option Int) (i : Nat) : Nat → Option Int :=
 if g.use i = true then
  match L (g.tw i) with
  | none => L
  | some x => if lts (x + g.w i) (L (g.fr i)) = true then put L (g.fr i) (x + g.w i) else L
 else L
def sweep (g : G) (L : Nat → Option Int) : Nat → (Nat → Option Int)
 | 0 => L
 | i + 1 => relax g (sweep g L i) i
def start (t : Nat) : Nat → Option Int:=fun v => if v = t then some 0 else none
def rounds (g : G) (t : Nat) : Nat → (Nat → Option Int)
 | 0 => start t
 | r + 1 => sweep g (rounds g t r) g.m
end Go.Proofs.Ytlhmljngjdfbpaa.Sp
namespace Go.Proofs.Ytlhmljngjdfbpaa.Sp
structure Dbl (g e s : G) (D : Nat → Option Int) : Prop where
 en : e.n = g.n
 em : e.m = g.m
 ef : e.fr = g.fr
 et : e.tw = g.tw
 eu : e.use = g.use
 ew : ∀ i,i < g.m → e.w i = 1000 * g.w i + 1
 sn : s.n = g.n
 sm : s.m = g.m
 sf : s.fr = g.fr
 st : s.tw = g.tw
 sw : ∀ i,i < g.m → s.w i = 1
 su : ∀ i,i < g.m → (s.use i = true ↔ g.use i = true ∧ ∃ x,D (g.tw i) = some x ∧ D (g.fr i) = some (g.w i + x))
section
variable {g e s : G} {t : Nat} {D S : Nat → Option Int} (h : Dbl g e s D) (ok : g.Ok) (hD : Opt g t D) (hS : Opt s t S) (ht : t < g.n)
include h
end
end Go.Proofs.Ytlhmljngjdfbpaa.Sp
end
section
set_option linter.unusedSimpArgs false
set_option linter.unusedVariables false
set_option linter.unusedSectionVars false
namespace Go.Proofs.Ytlhmljngjdfbpaa.Pure
open Go.RowKit Go.Proofs.Ytlhmljngjdfbpaa.Pr Go.Proofs.YtlhmljngjdfbpaaW.PrintWords Go.Proofs.YtlhmljngjdfbpaaW.PrintLast Go.Proofs.YtlhmljngjdfbpaaW.PrintMore
open Go.Proofs.Ytlhmljngjdfbpaa.Ins (Lk pw_uniq sort_list)
def cst (l : List Arc) (i : Nat) : Nat:=(arc l i).f2.toNat
def frA (l : List Arc) (i : Nat) : Nat:=(arc l i).f0.toNat
def twA (l : List Arc) (i : Nat) : Nat:=(arc l i).f1.toNat
def ofC (l : List Arc) (c : Nat) : List Nat:=(List.range l.length).filter fun i => decide (cst l i = c)
def ks (l : List Arc) : List Nat:=(List.range 100).flatMap (ofC l)
def ints (x : List Nat) : List Int:=x.map fun i => ((i : Nat) : Int)
theorem ints_len (x : List Nat) : (ints x).length = x.length:=by simp [ints]
theorem ks_pw (l : List Arc) : (ks l).Pairwise (Lk (cst l)):=by
 unfold ks
 rw [List.pairwise_flatMap];refine ⟨fun c _ => ?_,List.Pairwise.imp (fun {a b} hab x hx y hy => ?_) List.pairwise_lt_range⟩
 ·unfold ofC
  rw [List.pairwise_filter];refine List.Pairwise.imp (fun {a b} hab ha hb => .inr ⟨?_,hab⟩) List.pairwise_lt_range;rw [decide_eq_true_eq] at ha hb;omega
 ·unfold ofC at hx hy
  rw [List.mem_filter,decide_eq_true_eq] at hx hy;exact .inl (by omega)
theorem ks_mem {n : Int} {l : List Arc} (hg : NetGood n l) (x : Nat) : x ∈ ks l ↔ x < l.length:=by
 unfold ks
 rw [List.mem_flatMap];constructor
 ·rintro ⟨c,_,h⟩
  unfold ofC at h
  rw [List.mem_filter] at h;exact List.mem_range.1 h.1
 ·intro h;have:=(hg.ok x h).2.2.2.1;refine ⟨cst l x,List.mem_range.2 (by unfold cst; omega),?_⟩
  unfold ofC
  rw [List.mem_filter];exact ⟨List.mem_range.2 h,decide_eq_true rfl⟩
theorem ks_nodup (l : List Arc) : (ks l).Nodup:=List.Pairwise.imp (fun {a b} h e => by subst e; exact Lk.irr a h) (ks_pw l)
theorem ks_len {n : Int} {l : List Arc} (hg : NetGood n l) : (ks l).length ≤ 16:=by
 have:=Sp.nodup_len l.length (ks l) (ks_nodup l) (fun x hx => (ks_mem hg x).1 hx);have:=hg.len;omega
theorem cmp_neg (x y : Int) : decide (Go.Lib.compareInt x y < 0) = decide (x < y):=by
 unfold Go.Lib.compareInt
 by_cases h : x < y
 case pos => rw [if_pos h]; simp [h]
 rw [if_neg h]
 by_cases h2 : x > y
 case neg => rw [if_neg h2]; simp [h]
 rw [if_pos h2]; simp [h]
theorem ordOf_eq {n : Int} {l : List Arc} (hg : NetGood n l) : ordOf l l.length = ints (ks l):=by
 cases hm : l.length with
 | zero =>
  have : ks l = []:=List.eq_nil_iff_forall_not_mem.2 (fun x hx => by have:=(ks_mem hg x).1 hx; omega);rw [this]; rfl
 | succ m =>
  have hs:=sort_list (m:=m) (lt:=Go.Proofs.ltOf fun x y : Fin (m + 1) => Go.Lib.compareInt (rd_T58 l ((x.1 : Nat) : Int)).f2 (rd_T58 l ((y.1 : Nat) : Int)).f2) (key:=cst l) (fun x y => by
   have h1:=(hg.ok x.1 (by have:=x.2; omega)).2.2.2.1;have h2:=(hg.ok y.1 (by have:=y.2; omega)).2.2.2.1
   unfold Go.Proofs.ltOf
   rw [cmp_neg,rda,rda]
   unfold cst
   exact decide_eq_decide.2 (by omega))
  have he:=pw_uniq Lk.irr Lk.asy _ _ hs.1 (ks_pw l) (fun x => by rw [hs.2,ks_mem hg]; omega)
  unfold ordOf ints
  rw [← he,List.map_map];rfl
theorem kru_ex {fr tw : Nat → Nat} : ∀ (ks o : List Nat),∃ r,Kru fr tw ks o r
 | [],o => ⟨o,.nil o⟩
 | k :: ks,o => by
  by_cases h : Con fr tw o (fr k) (tw k)
  case pos =>
   obtain ⟨r,hr⟩:=kru_ex ks o;exact ⟨r,.skip h hr⟩
  obtain ⟨r,hr⟩:=kru_ex ks (o ++ [k]);exact ⟨r,.take h hr⟩
section
variable {n : Int} {l : List Arc} (hg : NetGood n l)
include hg
theorem te_con (o : List Nat) (u v : Nat) : Conn (TE l (ints o) (ints o).length) u v ↔ Con (frA l) (twA l) o u v:=by
 constructor
 ·refine fun h => h.mono (fun a b ⟨i,hi,ha,hb⟩ => ?_)
  rw [ints_len] at hi;have e : nth (ints o) i = ((o[i] : Nat) : Int):=by rw [nth_get (by rw [ints_len]; exact hi)]; simp [ints]
  refine ⟨o[i],List.getElem_mem hi,?_,?_⟩
  ·rw [ha]; unfold frm frA; rw [e,Int.toNat_natCast]
  ·rw [hb]; unfold too twA; rw [e,Int.toNat_natCast]
 ·refine fun h => h.mono (fun a b ⟨i,hi,ha,hb⟩ => ?_)
  obtain ⟨j,hj,e⟩:=List.getElem_of_mem hi;have e2 : nth (ints o) j = ((i : Nat) : Int):=by rw [nth_get (by rw [ints_len]; exact hj)]; simp [ints,e]
  refine ⟨j,by rw [ints_len]; exact hj,?_,?_⟩
  ·rw [ha]; unfold frm frA; rw [e2,Int.toNat_natCast]
  ·rw [hb]; unfold too twA; rw [e2,Int.toNat_natCast]
theorem ints_in {o : List Nat} (ho : ∀ i ∈ o,i < l.length) : ∀ j,j < (ints o).length → 0 ≤ nth (ints o) j ∧ nth (ints o) j < l.length:=by
 intro j hj;rw [ints_len] at hj;have e : nth (ints o) j = ((o[j] : Nat) : Int):=by rw [nth_get (by rw [ints_len]; exact hj)]; simp [ints]
 have:=ho o[j] (List.getElem_mem hj);omega
theorem parts_con {o : List Nat} (ho : ∀ i ∈ o,i < l.length) {u v : Nat} (hu : u < n.toNat) (hv : v < n.toNat) : roundS l (ints o) n.toNat u = roundS l (ints o) n.toNat v ↔ Con (frA l) (twA l) o u v:=by
 have hp:=specParts hg (ints_in hg ho);rw [← te_con hg];constructor
 ·intro e;obtain ⟨a,e1,_,c1⟩:=hp.conn u hu;obtain ⟨b,e2,_,c2⟩:=hp.conn v hv;have : a = b:=by omega
  subst this;exact c1.symm.trans c2
 ·exact fun c => hp.all c
theorem arc_in {i : Nat} (h : i < l.length) : (((frA l i : Nat) : Int) = (arc l i).f0 ∧ frA l i < n.toNat) ∧ (((twA l i : Nat) : Int) = (arc l i).f1 ∧ twA l i < n.toNat):=by
 have:=hg.ok i h
 unfold frA twA
 omega
theorem treeL_ev : ∀ {ks o r : List Nat},Kru (frA l) (twA l) ks o r → (∀ i ∈ ks,i < l.length) → (∀ i ∈ o,i < l.length) → o.length + ks.length ≤ 1000 → Ev (fun k => treeL k n l (ints ks) (ints o)) (ints r):=by
 intro ks o r h
 induction h with
 | nil o => intro _ _ _; exact Ev.now _
 | @skip i ks o r c _ ih =>
  intro h1 h2 h3;have hi:=h1 i (List.mem_cons_self ..);have ha:=arc_in hg hi;have hj:=implParts_ev hg (ints_in hg h2) (by rw [ints_len]; simp at h3; omega);have ih:=ih (fun j hj => h1 j (List.mem_cons_of_mem _ hj)) h2 (by simp at h3; omega)
  show Ev (fun k => treeL k n l (((i : Nat) : Int) :: ints ks) (ints o)) (ints r)
  simp only [treeL];refine Ev.bind hj (Ev.pos ?_ (Ev.pos ?_ ih))
  ·rw [rda,lst_len]; omega
  ·rw [rda,← ha.1.1,← ha.2.1,lst_rd _ ha.1.2,lst_rd _ ha.2.2];exact (parts_con hg h2 ha.1.2 ha.2.2).2 c
 | @take i ks o r c _ ih =>
  intro h1 h2 h3;have hi:=h1 i (List.mem_cons_self ..);have ha:=arc_in hg hi;have hj:=implParts_ev hg (ints_in hg h2) (by rw [ints_len]; simp at h3; omega);have ih:=ih (fun j hj => h1 j (List.mem_cons_of_mem _ hj)) (fun j hj => by
   rcases List.mem_append.1 hj with h | h
   ·exact h2 j h
   ·rw [List.mem_singleton.1 h]; exact hi) (by simp at h3 ⊢; omega)
  have e : ints o ++ [((i : Nat) : Int)] = ints (o ++ [i]):=by simp [ints]
  show Ev (fun k => treeL k n l (((i : Nat) : Int) :: ints ks) (ints o)) (ints r)
  simp only [treeL];rw [e];refine Ev.bind hj (Ev.pos ?_ (Ev.neg ?_ ih))
  ·rw [rda,lst_len]; omega
  ·rw [rda,← ha.1.1,← ha.2.1,lst_rd _ ha.1.2,lst_rd _ ha.2.2];exact fun e => c ((parts_con hg h2 ha.1.2 ha.2.2).1 e)
end
inductive Rt (F : Nat → Nat) : Nat → Nat → Prop
 | stop {v : Nat} : F v = v → Rt F v v
 | step {v a : Nat} : F v ≠ v → Rt F (F v) a → Rt F v a
theorem Rt.ex {F : Nat → Nat} (hF : ∀ v,F v ≤ v) : ∀ s v,v ≤ s → ∃ a,Rt F v a
 | 0,v,h => ⟨v,.stop (by have:=hF v; omega)⟩
 | s + 1,v,h => by
  by_cases e : F v = v
  case pos => exact ⟨v,.stop e⟩
  obtain ⟨a,ha⟩:=Rt.ex hF s (F v) (by have:=hF v; omega);exact ⟨a,.step e ha⟩
theorem Rt.uniq {F : Nat → Nat} {v a b : Nat} (h : Rt F v a) (k : Rt F v b) : a = b:=by
 induction h with
 | stop e => cases k with
  | stop => rfl
  | step e' _ => exact absurd e e'
 | step e _ ih => cases k with
  | stop e' => exact absurd e' e
  | step _ k => exact ih k
theorem Rt.fix {F : Nat → Nat} {v a : Nat} (h : Rt F v a) : F a = a:=by
 induction h with
 | stop e => exact e
 | step _ _ ih => exact ih
theorem Rt.le {F : Nat → Nat} (hF : ∀ v,F v ≤ v) {v a : Nat} (h : Rt F v a) : a ≤ v:=by
 induction h with
 | stop => exact Nat.le_refl _
 | @step v a _ _ ih => exact Nat.le_trans ih (hF v)
def updN (F : Nat → Nat) (b a : Nat) : Nat → Nat:=fun v => if v = b then a else F v
theorem Rt.link {F : Nat → Nat} {a b v r : Nat} (ha : F a = a) (hb : F b = b) (hne : a ≠ b) (h : Rt F v r) : Rt (updN F b a) v (if r = b then a else r):=by
 have hG : updN F b a a = a:=by unfold updN; rw [if_neg hne,ha]
 induction h with
 | @stop v e =>
  by_cases c : v = b
  case neg =>
   rw [if_neg c];exact .stop (by unfold updN; rw [if_neg c]; exact e)
  subst c;rw [if_pos rfl];refine .step (by unfold updN; rw [if_pos rfl]; exact hne) ?_;have : updN F v a v = a:=by unfold updN; rw [if_pos rfl]
  rw [this];exact .stop hG
 | @step v r e _ ih =>
  have c : v ≠ b:=fun c => e (by rw [c]; exact hb)
  have hv : updN F b a v = F v:=by unfold updN; rw [if_neg c]
  exact .step (by rw [hv]; exact e) (by rw [hv]; exact ih)
structure Forg (fr tw : Nat → Nat) (o : List Nat) (F : Nat → Nat) : Prop where
 le : ∀ v,F v ≤ v
 con : ∀ u v a b,Rt F u a → Rt F v b → (a = b ↔ Con fr tw o u v)
theorem Forg.start {fr tw : Nat → Nat} : Forg fr tw [] (fun v => v):=by
 refine ⟨fun v => Nat.le_refl _,fun u v a b ha hb => ?_⟩;have h1:=ha.uniq (.stop rfl);have h2:=hb.uniq (.stop rfl);subst h1 h2;exact ⟨fun e => by rw [e]; exact .refl _,fun c => con_nil c⟩
theorem Forg.add {fr tw : Nat → Nat} {o : List Nat} {F : Nat → Nat} (h : Forg fr tw o F) {k x y : Nat} (hx : Rt F (fr k) x) (hy : Rt F (tw k) y) {a b : Nat} (hab : a < b) (he : (a = x ∧ b = y) ∨ (a = y ∧ b = x)) : Forg fr tw (o ++ [k]) (updN F b a):=by
 have hfa : F a = a:=by rcases he with ⟨rfl,_⟩ | ⟨rfl,_⟩ <;> first | exact hx.fix | exact hy.fix
 have hfb : F b = b:=by rcases he with ⟨_,rfl⟩ | ⟨_,rfl⟩ <;> first | exact hy.fix | exact hx.fix
 refine ⟨fun v => ?_,fun u v p q hp hq => ?_⟩
 ·unfold updN
  by_cases c : v = b
  case pos => rw [if_pos c]; omega
  rw [if_neg c]; exact h.le v
 ·obtain ⟨p0,hp0⟩:=Rt.ex h.le u u (Nat.le_refl _);obtain ⟨q0,hq0⟩:=Rt.ex h.le v v (Nat.le_refl _);have ep:=hp.uniq (hp0.link hfa hfb (by omega));have eq:=hq.uniq (hq0.link hfa hfb (by omega));have hsub : ∀ i,i ∈ o → i ∈ o ++ [k]:=fun i hi => List.mem_append_left _ hi
  have hk : Con fr tw (o ++ [k]) (fr k) (tw k):=Con.arc (List.mem_append_right _ (List.mem_singleton.2 rfl));have cu : ∀ {w z : Nat},Rt F w z → ∀ {w' z' : Nat},Rt F w' z' → z = z' → Con fr tw (o ++ [k]) w w':=fun h1 _ _ h2 e => ((h.con _ _ _ _ h1 h2).1 e).sub hsub
  constructor
  ·intro e
   by_cases c1 : p0 = b
   case pos =>
    by_cases c2 : q0 = b
    case pos => exact cu hp0 hq0 (by omega)
    rw [if_pos c1] at ep;rw [if_neg c2] at eq
    rcases he with ⟨e1,e2⟩ | ⟨e1,e2⟩
    ·exact (cu hp0 hy (by omega)).trans (hk.symm.trans (cu hx hq0 (by omega)))
    ·exact (cu hp0 hx (by omega)).trans (hk.trans (cu hy hq0 (by omega)))
   rw [if_neg c1] at ep
   by_cases c2 : q0 = b
   case neg =>
    rw [if_neg c2] at eq;exact cu hp0 hq0 (by omega)
   rw [if_pos c2] at eq
   rcases he with ⟨e1,e2⟩ | ⟨e1,e2⟩
   ·exact (cu hp0 hx (by omega)).trans (hk.trans (cu hy hq0 (by omega)))
   ·exact (cu hp0 hy (by omega)).trans (hk.symm.trans (cu hx hq0 (by omega)))
  ·intro c;have key : p0 = q0 ∨ (p0 = x ∧ q0 = y) ∨ (p0 = y ∧ q0 = x):=by
    rcases con_add (l:=o) (e:=k) (fun i hi => by
     rcases List.mem_append.1 hi with h1 | h1
     ·exact .inl h1
     ·exact .inr (List.mem_singleton.1 h1)) c with c1 | ⟨c1,c2⟩ | ⟨c1,c2⟩
    ·exact .inl ((h.con _ _ _ _ hp0 hq0).2 c1)
    ·exact .inr (.inl ⟨(h.con _ _ _ _ hp0 hx).2 c1,((h.con _ _ _ _ hy hq0).2 c2).symm⟩)
    ·exact .inr (.inr ⟨(h.con _ _ _ _ hp0 hy).2 c1,((h.con _ _ _ _ hx hq0).2 c2).symm⟩)
   rw [ep,eq]
   by_cases c1 : p0 = b
   case pos =>
    by_cases c2 : q0 = b
    case pos => rw [if_pos c1,if_pos c2]
    rw [if_pos c1,if_neg c2]; omega
   by_cases c2 : q0 = b
   case neg => rw [if_neg c1,if_neg c2]; omega
   rw [if_neg c1,if_pos c2]; omega
section
variable {n : Int} {l : List Arc} (hg : NetGood n l)
include hg
omit hg
def cells (N : Nat) (F : Nat → Nat) : List Int:=lst N fun v => ((F v : Nat) : Int)
theorem cells_len (N : Nat) (F : Nat → Nat) : (cells N F).length = N:=lst_len _ _
theorem cells_rd {N v : Nat} (F : Nat → Nat) (h : v < N) : rd (cells N F) (v : Int) = (F v : Int):=lst_rd _ h
theorem cells_snoc (i : Nat) : cells i (fun v => v) ++ [(i : Int)] = cells (i + 1) fun v => v:=lst_snoc i (fun v => ((v : Nat) : Int))
theorem cells_set {N b : Nat} (F : Nat → Nat) (a : Nat) : (cells N F).set b (a : Int) = cells N (updN F b a):=by
 unfold cells
 rw [lst_set];refine lst_congr (fun v _ => ?_)
 unfold upd updN
 by_cases c : v = b
 case neg => rw [if_neg c,if_neg c]
 rw [if_pos c,if_pos c]
theorem cells_nil : cells 0 (fun v => v) = []:=rfl
attribute [irreducible] cells
include hg
theorem root_ev {F : Nat → Nat} (hF : ∀ v,F v ≤ v) {v a : Nat} (h : Rt F v a) : v < n.toNat → Ev (fun k => spec_l23Root.f k (cells n.toNat F) (v : Int)) (a : Int):=by
 induction h with
 | @stop v e =>
  intro hv
  unfold spec_l23Root.f
  refine Ev.go ?_ (fun k => by rw [spec_l23Root.l0]);have : rd (cells n.toNat F) (v : Int) = (F v : Int):=cells_rd F hv;rw [this];refine Ev.pos (by omega) (Ev.pos (by rw [cells_len]; omega) (Ev.pos (by omega) (Ev.now _)))
 | @step v a e _ ih =>
  intro hv;have ih:=ih (by have:=hF v; omega)
  unfold spec_l23Root.f at ih ⊢
  refine Ev.go ?_ (fun k => by rw [spec_l23Root.l0]);have : rd (cells n.toNat F) (v : Int) = (F v : Int):=cells_rd F hv;rw [this];exact Ev.pos (by omega) (Ev.pos (by rw [cells_len]; omega) (Ev.neg (by omega) ih))
def rem1 (l : List Arc) (c : Nat) : List Nat:=(List.range' c (100 - c)).flatMap (ofC l)
def rem2 (l : List Arc) (c i : Nat) : List Nat:=((List.range' i (l.length - i)).filter fun i => decide (cst l i = c)) ++ rem1 l (c + 1)
omit hg in
theorem rem1_step {c : Nat} (h : c < 100) : rem1 l c = rem2 l c 0:=by
 unfold rem2 rem1
 obtain ⟨s,hs⟩ : ∃ s,100 - c = s + 1:=⟨100 - c - 1,by omega⟩
 rw [hs,List.range'_succ,List.flatMap_cons,show 100 - (c + 1) = s by omega,Nat.sub_zero]
 unfold ofC
 rw [List.range_eq_range']
omit hg in
theorem rem2_step {c i : Nat} (h : i < l.length) : rem2 l c i = if cst l i = c then i :: rem2 l c (i + 1) else rem2 l c (i + 1):=by
 unfold rem2
 obtain ⟨s,hs⟩ : ∃ s,l.length - i = s + 1:=⟨l.length - i - 1,by omega⟩
 rw [hs,List.range'_succ,show l.length - (i + 1) = s by omega]
 by_cases e : cst l i = c
 case neg =>
  rw [if_neg e];simp [List.filter_cons,e]
 rw [if_pos e];simp only [List.filter_cons,e,decide_true,if_true,List.cons_append]
omit hg in
theorem rem2_end {c i : Nat} (h : l.length ≤ i) : rem2 l c i = rem1 l (c + 1):=by
 unfold rem2
 rw [show l.length - i = 0 by omega];rfl
omit hg in
theorem rem1_end (l : List Arc) : rem1 l 100 = []:=rfl
omit hg in
theorem rem1_all (l : List Arc) : rem1 l 0 = ks l:=by unfold rem1 ks; rw [List.range_eq_range']
attribute [irreducible] rem1 rem2
theorem specTB_l : ∀ (s c : Nat),100 - c = s → c ≤ 100 → (∀ {o r : List Nat} {F : Nat → Nat},Kru (frA l) (twA l) (rem1 l c) o r → Forg (frA l) (twA l) o F → o.length + (rem1 l c).length ≤ 1000 → Ev (fun k => spec_l23Tree.l1 k (cells n.toNat F) (ints o) (c : Int) n l) (ints r)):=by
 intro s
 induction s with
 | zero =>
  intro c hs hc o r F hk hF hl;have : c = 100:=by omega
  subst this;rw [rem1_end] at hk;cases hk;refine Ev.go ?_ (fun k => by rw [spec_l23Tree.l1]);exact Ev.neg (by omega) (Ev.now _)
 | succ s ih =>
  intro c hs hc;have hc2 : c < 100:=by omega
  have h16:=hg.len;have inner : ∀ (d i : Nat),l.length - i = d → i ≤ l.length → (∀ {o r : List Nat} {F : Nat → Nat},Kru (frA l) (twA l) (rem2 l c i) o r → Forg (frA l) (twA l) o F → o.length + (rem2 l c i).length ≤ 1000 → Ev (fun k => spec_l23Tree.l2 k (cells n.toNat F) (ints o) (c : Int) (i : Int) n l) (ints r)):=by
   intro d
   induction d with
   | zero =>
    intro i hd hi o r F hk hF hl;rw [rem2_end (by omega)] at hk hl;refine Ev.go ?_ (fun k => by rw [spec_l23Tree.l2]);have e : wrap64 ((c : Int) + 1) = ((c + 1 : Nat) : Int):=by rw [w64 (by omega) (by omega)]; omega
    rw [e];exact Ev.neg (by omega) (ih (c + 1) (by omega) (by omega) hk hF hl)
   | succ d ihd =>
    intro i hd hi o r F hk hF hl;have hlt : i < l.length:=by omega
    have a1 : l.length - (i + 1) = d:=by omega
    have ha:=arc_in hg hlt;have hcost:=(hg.ok i hlt).2.2.2.1;obtain ⟨x,hx⟩:=Rt.ex hF.le (frA l i) _ (Nat.le_refl _);obtain ⟨y,hy⟩:=Rt.ex hF.le (twA l i) _ (Nat.le_refl _);have hxn : ((x : Nat) : Int) < ((n.toNat : Nat) : Int):=Int.ofNat_lt.2 (Nat.lt_of_le_of_lt (hx.le hF.le) ha.1.2);have hyn : ((y : Nat) : Int) < ((n.toNat : Nat) : Int):=Int.ofNat_lt.2 (Nat.lt_of_le_of_lt (hy.le hF.le) ha.2.2);have ex:=root_ev hg hF.le hx ha.1.2;have ey:=root_ev hg hF.le hy ha.2.2;rw [ha.1.1] at ex;rw [ha.2.1] at ey;have hup:=up1 hlt (by simp only [maxLen]; omega);have hlen : (cells n.toNat F).length = n.toNat:=cells_len _ _;refine Ev.go ?_ (fun k => by rw [spec_l23Tree.l2]);rw [rda];refine Ev.pos (Int.ofNat_lt.2 hlt) (Ev.pos (Int.natCast_nonneg i) ?_);refine Ev.bind (a:=(x : Int)) ?_ ?_
    ·exact ex
    refine Ev.bind (a:=(y : Int)) ?_ ?_
    ·exact ey
    rw [rem2_step hlt] at hk hl
    by_cases e : cst l i = c
    case neg =>
     have e2 : (arc l i).f2 ≠ (c : Int):=by unfold cst at e; omega
     rw [if_neg e] at hk hl;refine Ev.neg e2 (Ev.go ?_ (fun k => by rw [spec_l23Tree.j3]));rw [hup];have hn:=ihd (i + 1) a1 hlt hk hF hl;exact Ev.pos rfl hn
    have e2 : (arc l i).f2 = (c : Int):=by unfold cst at e; omega
    rw [if_pos e] at hk hl;refine Ev.pos e2 (Ev.go ?_ (fun k => by rw [spec_l23Tree.j3]));rw [hup];cases hk with
    | skip hcon hk =>
     have hxy:=(hF.con _ _ _ _ hx hy).2 hcon;rw [List.length_cons] at hl;have hn:=ihd (i + 1) a1 hlt hk hF (Nat.le_of_succ_le hl);refine Ev.pos ?_ hn;rw [hxy];exact beq_self_eq_true _
    | take hcon hk =>
     have hxy : x ≠ y:=fun e => hcon ((hF.con _ _ _ _ hx hy).1 e)
     have eo : ints o ++ [((i : Nat) : Int)] = ints (o ++ [i]):=by simp [ints]
     rw [List.length_cons] at hl;have hl2 : (o ++ [i]).length + (rem2 l c (i + 1)).length ≤ 1000:=by
      rw [List.length_append,List.length_singleton,Nat.add_assoc,Nat.add_comm 1];exact hl
     have hol : (ints o).length < 17592186044416:=by
      rw [ints_len];exact Nat.lt_of_le_of_lt (Nat.le_trans (Nat.le_add_right _ _) hl) (by decide)
     refine Ev.neg ?_ ?_
     ·intro e;exact hxy (Int.ofNat_inj.1 (beq_iff_eq.1 e))
     rw [eo]
     by_cases hlt2 : x < y
     case pos =>
      have hn:=ihd (i + 1) a1 hlt hk (hF.add hx hy hlt2 (.inl ⟨rfl,rfl⟩)) hl2;refine Ev.pos (Int.ofNat_lt.2 hlt2) (Ev.pos (Int.natCast_nonneg y) (Ev.pos ?_ (Ev.pos hol ?_)))
      ·rw [hlen]; exact hyn
      ·rw [show ((y : Nat) : Int).toNat = y from rfl,cells_set];exact hn
     have hyx : y < x:=Nat.lt_of_le_of_ne (Nat.le_of_not_lt hlt2) (Ne.symm hxy);have hn:=ihd (i + 1) a1 hlt hk (hF.add hx hy hyx (.inr ⟨rfl,rfl⟩)) hl2;refine Ev.neg (fun e => hlt2 (Int.ofNat_lt.1 e)) (Ev.pos (Int.natCast_nonneg x) (Ev.pos ?_ (Ev.pos hol ?_)))
     ·rw [hlen]; exact hxn
     ·rw [show ((x : Nat) : Int).toNat = x from rfl,cells_set];exact hn
  intro o r F hk hF hl;rw [rem1_step hc2] at hk hl;refine Ev.go ?_ (fun k => by rw [spec_l23Tree.l1]);exact Ev.pos (by omega) (inner _ 0 rfl (Nat.zero_le _) hk hF hl)
theorem specTB_start : ∀ (s i : Nat),n.toNat - i = s → i ≤ n.toNat → ∀ {r : List Int},Ev (fun k => spec_l23Tree.l1 k (cells n.toNat fun v => v) [] 0 n l) r → Ev (fun k => spec_l23Tree.l0 k (cells i fun v => v) (i : Int) n l) r:=by
 have h1:=hg.n1;have h8:=hg.n8;intro s
 induction s with
 | zero =>
  intro i hs hi r h;have : i = n.toNat:=by omega
  subst this;refine Ev.go ?_ (fun k => by rw [spec_l23Tree.l0]);exact Ev.neg (by omega) h
 | succ s ih =>
  intro i hs hi r h;have hlt : i < n.toNat:=by omega
  refine Ev.go ?_ (fun k => by rw [spec_l23Tree.l0]);have e:=cells_snoc i;rw [up1 hlt (by simp only [maxLen]; omega),e];exact Ev.pos (by omega) (Ev.pos (by rw [cells_len]; omega) (ih (i + 1) (by omega) (by omega) h))
end
noncomputable def bestT (l : List Arc) : List Nat:=Classical.choose (kru_ex (fr:=frA l) (tw:=twA l) (ks l) [])
theorem bestT_kru (l : List Arc) : Kru (frA l) (twA l) (ks l) [] (bestT l):=Classical.choose_spec (kru_ex (fr:=frA l) (tw:=twA l) (ks l) [])
noncomputable def treeB (n : Int) (l : List Arc) : List Int:=if netOkB n l = true then ints (bestT l) else []
theorem bestT_len {n : Int} {l : List Arc} (hg : NetGood n l) : (bestT l).length ≤ 16 ∧ (∀ i ∈ bestT l,i < l.length) ∧ (bestT l).Nodup:=by
 have hk:=bestT_kru l;obtain ⟨s,h1,h2⟩:=hk.ext;have hm : ∀ i ∈ bestT l,i < l.length:=fun i hi => by
  rw [h1,List.nil_append] at hi;exact (ks_mem hg i).1 (h2 i hi)
 have hn:=hk.nodup (ks_nodup l) List.nodup_nil (fun x _ => by simp);have:=Sp.nodup_len l.length _ hn hm;have:=hg.len;exact ⟨by omega,hm,hn⟩
theorem treeB_len (n : Int) (l : List Arc) : (treeB n l).length ≤ 16:=by
 unfold treeB
 cases h : netOkB n l with
 | false => simp
 | true => rw [if_pos rfl,ints_len]; exact (bestT_len ((netOkB_iff n l).1 h)).1
theorem implTreeB_ev (n : Int) (l : List Arc) : Ev (fun k => impl_TreeBest.f k n l) (treeB n l):=by
 unfold impl_TreeBest.f treeB
 refine Ev.bind0 (show impl_NetOk.f n l = some (netOkB n l) from rfl) ?_;cases h : netOkB n l with
 | false => exact Ev.neg (by simp) (Ev.is (by simp))
 | true =>
  have hg:=(netOkB_iff n l).1 h;have h1:=hg.n1;have h8:=hg.n8;have h16:=hg.len;have hk:=ks_len hg;refine Ev.pos rfl (Ev.pos ⟨by omega,by omega,by omega⟩ ?_);rw [ordOf_eq hg,if_pos rfl];exact treeL_ev hg (bestT_kru l) (fun i hi => (ks_mem hg i).1 hi) (fun i hi => by simp at hi) (by simp; omega)
theorem specTreeB_ev (n : Int) (l : List Arc) (hl : l.length ≤ maxLen) : Ev (fun k => spec_TreeBest.f k n l) (treeB n l):=by
 unfold spec_TreeBest.f treeB
 refine Ev.bind (l1Ok_ev n l hl) ?_;cases h : netOkB n l with
 | false => exact Ev.neg (by simp) (Ev.is (by simp))
 | true =>
  have hg:=(netOkB_iff n l).1 h;have hk:=ks_len hg;rw [if_pos rfl];refine Ev.pos rfl (Ev.bind ?_ (Ev.now _))
  unfold spec_l23Tree.f
  have e:=rem1_all l;have hb:=bestT_kru l;rw [← e] at hb hk;have h0:=specTB_start hg _ 0 rfl (Nat.zero_le _) (specTB_l hg _ 0 rfl (by omega) hb Forg.start (by simp; omega));rw [cells_nil] at h0;exact h0
end Go.Proofs.Ytlhmljngjdfbpaa.Pure
end
section
set_option linter.unusedSimpArgs false
set_option linter.unusedVariables false
set_option linter.unusedSectionVars false
namespace Go.Proofs.Ytlhmljngjdfbpaa.Pure
open Go.RowKit Go.Proofs.Ytlhmljngjdfbpaa.Pr Go.Proofs.YtlhmljngjdfbpaaW.PrintWords Go.Proofs.YtlhmljngjdfbpaaW.PrintLast Go.Proofs.YtlhmljngjdfbpaaW.PrintMore
theorem Parts.turn {n : Nat} {E E' : Nat → Nat → Prop} {F : Nat → Int} (h : Parts n E F) (hE : ∀ u v,Conn E u v ↔ Conn E' u v) : Parts n E' F :=
 ⟨fun a b e => h.all ((hE a b).2 (Conn.one (.inl e))),h.low,fun v hv => by
  obtain ⟨u,e,hu,c⟩:=h.conn v hv;exact ⟨u,e,hu,(hE _ _).1 c⟩⟩
section
variable {n : Int} {l : List Arc} (hg : NetGood n l)
include hg
theorem all_con (u v : Nat) : Con (frA l) (twA l) (List.range l.length) u v ↔ Con (frA l) (twA l) (bestT l) u v:=by
 have hk:=bestT_kru l;constructor
 ·exact fun h => h.via (fun i hi => hk.spans i ((ks_mem hg i).2 (List.mem_range.1 hi)))
 ·exact fun h => h.sub (fun i hi => List.mem_range.2 ((bestT_len hg).2.1 i hi))
theorem parts_all {v : Nat} (hv : v < n.toNat) : roundS l (ints (bestT l)) n.toNat v = roundS l (ints (List.range l.length)) n.toNat v:=by
 have h1:=specParts hg (ints_in hg (bestT_len hg).2.1);have h2:=specParts hg (ints_in hg (o:=List.range l.length) (fun i hi => List.mem_range.1 hi));refine h1.uniq (h2.turn (fun u w => ?_)) v hv;rw [te_con hg,te_con hg,all_con hg]
theorem parts_few {i : Nat} (hi : i < (bestT l).length) : ∃ v,v < n.toNat ∧ roundS l (ints ((bestT l).take i ++ (bestT l).drop (i + 1))) n.toNat v ≠ roundS l (ints (List.range l.length)) n.toNat v:=by
 have hk:=bestT_kru l;obtain ⟨_,hin,_⟩:=bestT_len hg;have hf : Forest (frA l) (twA l) (bestT l):=hk.forest (fun p k q e => by simp at e);have he : bestT l = (bestT l).take i ++ (bestT l)[i] :: (bestT l).drop (i + 1):=by
  rw [← List.drop_eq_getElem_cons hi,List.take_append_drop]
 have hc:=hf _ _ _ he;have hki:=hin _ (List.getElem_mem hi);have ha:=arc_in hg hki;have hfew : ∀ j ∈ (bestT l).take i ++ (bestT l).drop (i + 1),j < l.length:=fun j hj => by
  rcases List.mem_append.1 hj with h | h
  ·exact hin j (List.mem_of_mem_take h)
  ·exact hin j (List.mem_of_mem_drop h)
 have hall : roundS l (ints (List.range l.length)) n.toNat (frA l (bestT l)[i]) = roundS l (ints (List.range l.length)) n.toNat (twA l (bestT l)[i]) :=
  (parts_con hg (o:=List.range l.length) (fun j hj => List.mem_range.1 hj) ha.1.2 ha.2.2).2 (Con.arc (List.mem_range.2 hki))
 have hne : ¬ roundS l (ints ((bestT l).take i ++ (bestT l).drop (i + 1))) n.toNat (frA l (bestT l)[i]) = roundS l (ints ((bestT l).take i ++ (bestT l).drop (i + 1))) n.toNat (twA l (bestT l)[i]) :=
  fun e => hc ((parts_con hg hfew ha.1.2 ha.2.2).1 e)
 by_cases e1 : roundS l (ints ((bestT l).take i ++ (bestT l).drop (i + 1))) n.toNat (frA l (bestT l)[i]) = roundS l (ints (List.range l.length)) n.toNat (frA l (bestT l)[i])
 case neg => exact ⟨_,ha.1.2,e1⟩
 refine ⟨_,ha.2.2,fun e2 => hne ?_⟩;rw [e1,e2,hall]
theorem treeP_ev {o : List Nat} (ho : ∀ i ∈ o,i < l.length) (h16 : o.length ≤ 16) : Ev (fun k => impl_TreeParts.f k n l (ints o)) (lst n.toNat (roundS l (ints o) n.toNat)):=by
 refine (implTree_ev n l (ints o)).cast ?_
 unfold treeV
 rw [if_pos ((arcsB_iff n l (ints o)).2 ⟨hg,by rw [ints_len]; exact h16,ints_in hg ho⟩)]
theorem kinds_all : cnt (fun v => roundS l (ints (List.range l.length)) n.toNat v = (v : Int)) n.toNat + (bestT l).length = n.toNat:=by
 have hk:=bestT_kru l;have h1:=hk.kinds (n:=n.toNat) (fun k h => by
  have:=arc_in hg ((ks_mem hg k).1 h);exact ⟨this.1.2,this.2.2⟩)
 have h2 : cnt (Least (frA l) (twA l) []) n.toNat = n.toNat:=cnt_true (fun v _ u c => by rw [con_nil c]; exact Nat.le_refl _);have h3 : cnt (fun v => roundS l (ints (List.range l.length)) n.toNat v = (v : Int)) n.toNat = cnt (Least (frA l) (twA l) (bestT l)) n.toNat:=by
  have hp:=specParts hg (ints_in hg (o:=List.range l.length) (fun i hi => List.mem_range.1 hi));have key : ∀ v,v < n.toNat → (roundS l (ints (List.range l.length)) n.toNat v = (v : Int) ↔ Least (frA l) (twA l) (bestT l) v):=by
   intro v hv;constructor
   ·intro e u c
    by_cases hu : u < n.toNat
    case neg => omega
    have:=hp.all ((te_con hg _ _ _).2 ((all_con hg _ _).2 c));have:=hp.low v hv;have:=hp.low u hu;have : roundS l (ints (List.range l.length)) n.toNat u = (v : Int):=by
     have h4:=hp.all ((te_con hg _ _ _).2 ((all_con hg _ _).2 c));omega
    omega
   ·intro h;obtain ⟨u,e,hu,c⟩:=hp.conn v hv;have c':=(all_con hg _ _).1 ((te_con hg _ _ _).1 c);have h5:=hp.low v hv;have h6 : v ≤ u:=by
     first
      | exact h u c'
      | exact h u c'.symm
    omega
  have gen : ∀ m,m ≤ n.toNat → cnt (fun v => roundS l (ints (List.range l.length)) n.toNat v = (v : Int)) m = cnt (Least (frA l) (twA l) (bestT l)) m:=by
   intro m
   induction m with
   | zero => intro _; rfl
   | succ m ih =>
    intro hm;simp only [cnt];rw [ih (by omega),Bp_congr (key m (by omega))]
  exact gen _ (Nat.le_refl _)
 rw [h3];rw [h2] at h1
 simpa using h1
end
end Go.Proofs.Ytlhmljngjdfbpaa.Pure
end
section
set_option linter.unusedSimpArgs false
set_option linter.unusedVariables false
namespace Go.Proofs.Ytlhmljngjdfbpaa.Pure
open Go.RowKit Go.Proofs.Ytlhmljngjdfbpaa.Pr Go.Proofs.YtlhmljngjdfbpaaW.PrintWords Go.Proofs.YtlhmljngjdfbpaaW.PrintLast Go.Proofs.YtlhmljngjdfbpaaW.PrintMore
structure Rdr (b : List Int) : Prop where
 len : b.length ≤ 2000
 rng : ∀ i,i < b.length → 0 ≤ nth b i ∧ nth b i ≤ 255
theorem Rdr.rd {b : List Int} (h : Rdr b) (i : Int) : 0 ≤ Go.Proofs.YtlhmljngjdfbpaaW.PrintWords.rd b i ∧ Go.Proofs.YtlhmljngjdfbpaaW.PrintWords.rd b i ≤ 255:=by
 have e : Go.Proofs.YtlhmljngjdfbpaaW.PrintWords.rd b i = nth b i.toNat:=rfl;rw [e]
 by_cases c : i.toNat < b.length
 case pos => exact h.rng _ c
 have c2 : b.length ≤ i.toNat:=by omega
 simp [nth,List.getElem?_eq_none c2]
theorem tm {x a : Int} (hx : 0 ≤ x) (ha : 0 < a) : 0 ≤ Int.tmod x a ∧ Int.tmod x a < a:=by
 rw [Int.tmod_eq_emod_of_nonneg hx];exact ⟨Int.emod_nonneg _ (by omega),Int.emod_lt_of_pos _ ha⟩
theorem td {x a : Int} (hx : 0 ≤ x) (ha : 0 < a) : 0 ≤ Int.tdiv x a ∧ Int.tdiv x a ≤ x:=by
 rw [Int.tdiv_eq_ediv_of_nonneg hx];exact ⟨Int.ediv_nonneg hx (by omega),Int.ediv_le_self _ hx⟩
theorem xor_nn {x y : Int} (hx : 0 ≤ x) (hx' : x < 4294967296) (hy : 0 ≤ y) (hy' : y < 4294967296) : 0 ≤ Go.bits .xor .i64 x y:=by
 obtain ⟨x,rfl⟩:=Int.eq_ofNat_of_zero_le hx;obtain ⟨y,rfl⟩:=Int.eq_ofNat_of_zero_le hy;have h1 : x ^^^ y < 2 ^ 32:=Nat.xor_lt_two_pow (by omega) (by omega);have e : Go.bits .xor .i64 ((x : Nat) : Int) ((y : Nat) : Int) = wrap64 (((BitVec.ofInt 64 ((x : Nat) : Int) ^^^ BitVec.ofInt 64 ((y : Nat) : Int)).toNat : Nat) : Int):=by
  unfold Go.bits
  simp only [i64_w];rfl
 rw [e,BitVec.toNat_xor,BitVec.ofInt_natCast,BitVec.ofInt_natCast,BitVec.toNat_ofNat,BitVec.toNat_ofNat,Nat.mod_eq_of_lt (by omega),Nat.mod_eq_of_lt (by omega),w64 (by omega) (by omega)];omega
theorem pick_pv {b : List Int} (h : Rdr b) {p a : Int} (hp : 0 ≤ p) (hp' : p ≤ 1000000) : Pv (fun k => spec_l30Rd_pick.f k b p a) (fun r => (0 ≤ r.1 ∧ (a < 1 → r.1 = 0) ∧ (1 ≤ a → r.1 < a)) ∧ r.2 = p + 1):=by
 have w1 : wrap64 (p + 1) = p + 1:=w64 (by omega) (by omega);have w2 : wrap64 (p + 1 - 1) = p:=by rw [w64 (by omega) (by omega)]; omega
 unfold spec_l30Rd_pick.f
 refine Pv.ite (fun c => ?_) (fun c => ?_)
 ·refine Pv.go ?_ (fun k => by rw [spec_l30Rd_pick.j0]);exact Pv.pos rfl (Pv.now ⟨⟨Int.le_refl _,fun _ => rfl,fun c2 => by omega⟩,w1⟩)
 ·refine Pv.go ?_ (fun k => by rw [spec_l30Rd_pick.j0]);refine Pv.ite (fun _ => Pv.now ⟨⟨Int.le_refl _,fun _ => rfl,fun c2 => by dsimp only; omega⟩,w1⟩) (fun c0 => ?_);have hb : 0 < (b.length : Int):=by
   have : (b.length : Int) ≠ 0:=by simpa using c0
   omega
  have hb2:=h.len;rw [w1,w2];have fin : ∀ X : Int,0 ≤ X → Pv (fun _ => some (Int.tmod X a,p + 1)) (fun r => (0 ≤ r.1 ∧ (a < 1 → r.1 = 0) ∧ (1 ≤ a → r.1 < a)) ∧ r.2 = p + 1):=by
   intro X hX;have:=tm hX (show 0 < a by omega);exact Pv.now ⟨⟨this.1,fun c2 => absurd c2 c,fun _ => this.2⟩,rfl⟩
  refine Pv.ite (fun c1 => Pv.pos hp (Pv.neg (by omega) ?_)) (fun c1 => ?_)
  ·have:=h.rd p;rw [w64 (n:=Go.Proofs.YtlhmljngjdfbpaaW.PrintWords.rd b p) (by omega) (by omega)];exact fin _ (by omega)
  ·have t1:=tm hp hb;have e1 : wrap64 (p * 7) = p * 7:=w64 (by omega) (by omega);have e2 : wrap64 (p * 7 + 3) = p * 7 + 3:=w64 (by omega) (by omega);rw [e1,e2];have t2:=tm (show 0 ≤ p * 7 + 3 by omega) hb;have r1:=h.rd (Int.tmod p b.length);have r2:=h.rd (Int.tmod (p * 7 + 3) b.length);have d1:=td hp hb;refine Pv.neg (by omega) (Pv.pos t1.1 (Pv.pos t1.2 (Pv.pos t2.1 (Pv.pos t2.2 (Pv.neg (by omega) ?_)))));generalize Go.Proofs.YtlhmljngjdfbpaaW.PrintWords.rd b (Int.tmod p b.length) = u at r1;generalize Go.Proofs.YtlhmljngjdfbpaaW.PrintWords.rd b (Int.tmod (p * 7 + 3) b.length) = v at r2;generalize Int.tdiv p b.length = q at d1;rw [w64 (n:=u) (by omega) (by omega),w64 (n:=v) (by omega) (by omega),w64 (n:=q) (by omega) (by omega),w64 (n:=u * 131) (by omega) (by omega),w64 (n:=v * 1117) (by omega) (by omega),w64 (n:=p * 29) (by omega) (by omega),w64 (n:=q * 53) (by omega) (by omega),w64 (n:=u * 131 + v * 1117) (by omega) (by omega),w64 (n:=u * 131 + v * 1117 + p * 29) (by omega) (by omega),w64 (n:=u * 131 + v * 1117 + p * 29 + q * 53) (by omega) (by omega)];have d2:=td (show 0 ≤ u * 131 + v * 1117 + p * 29 + q * 53 by omega) (show (0 : Int) < 64 by omega);generalize Int.tdiv (u * 131 + v * 1117 + p * 29 + q * 53) 64 = z at d2;rw [w64 (n:=z) (by omega) (by omega)];exact fin _ (xor_nn (by omega) (by omega) (by omega) (by omega))
theorem one_pv {b : List Int} (h : Rdr b) {p : Int} (hp : 0 ≤ p) (hp' : p ≤ 1000000) {l : List Int} (hl : 0 < l.length) : Pv (fun k => spec_l30Rd_one.f k b p l) (fun r => r.1 ∈ l ∧ r.2 = p + 1):=by
 unfold spec_l30Rd_one.f
 refine Pv.bind (pick_pv h hp hp') (fun r ⟨⟨h1,_,h2⟩,h3⟩ => ?_);have h2:=h2 (by omega);refine Pv.pos h1 (Pv.pos h2 (Pv.now ⟨?_,h3⟩));have e : Go.Proofs.YtlhmljngjdfbpaaW.PrintWords.rd l r.1 = nth l r.1.toNat:=rfl;dsimp only;rw [e];exact getD_mem (by omega)
theorem u8_range {x : Int} (h : (Lit.int .u8 x).wf = true) : 0 ≤ x ∧ x ≤ 255:=by
 simp only [Lit.wf] at h;have h2 : IntKind.u8.min ≤ x ∧ x ≤ IntKind.u8.max:=by simpa using h
 have e1 : IntKind.u8.min = 0:=by decide
 have e2 : IntKind.u8.max = 255:=by decide
 omega
theorem open_pv {l : List Int} (hl : ∀ x ∈ l,(Lit.int .u8 x).wf = true) : ∃ b,spec_l30Open.f l = some (b,0) ∧ Rdr b:=by
 have key : ∀ m : List Int,m.length ≤ 2000 → (∀ x ∈ m,x ∈ l) → Rdr m:=fun m h1 h2 => ⟨h1,fun i hi => u8_range (hl _ (h2 _ (getD_mem hi)))⟩
 unfold spec_l30Open.f
 by_cases c : (l.length : Int) > 2000
 case neg =>
  rw [if_neg c];exact ⟨_,rfl,key _ (by omega) (fun x hx => hx)⟩
 rw [if_pos c,if_pos (by omega)];exact ⟨_,rfl,key _ (by simp; omega) (fun x hx => List.mem_of_mem_take hx)⟩
def NetSz (p : Int) (r : Int × List Arc × Int) : Prop:=(0 ≤ r.1 ∧ r.1 ≤ 9) ∧ r.2.1.length ≤ 13 ∧ (p ≤ r.2.2 ∧ r.2.2 ≤ p + 100)
theorem net_l {b : List Int} (h : Rdr b) (n : Int) (hn : 1 ≤ n ∧ n ≤ 9) : ∀ (m : Nat) (p : Int) (l : List Arc),0 ≤ p → p + 6 * m ≤ 100000 → m ≤ 13 → l.length ≤ 13 - m → Pv (fun k => spec_l30Net.l0 k (m : Int) b p n l) (fun r => r.1 = n ∧ r.2.1.length ≤ 13 ∧ (p ≤ r.2.2 ∧ r.2.2 ≤ p + 6 * m)):=by
 intro m
 induction m with
 | zero =>
  intro p l hp hp' hm hl;refine Pv.go ?_ (fun k => by rw [spec_l30Net.l0]);exact Pv.neg (by omega) (Pv.now ⟨rfl,by dsimp only; omega,by dsimp only; omega⟩)
 | succ m ih =>
  intro p l hp hp' hm hl;have hw : wrap64 (((m + 1 : Nat) : Int) - 1) = (m : Int):=by rw [w64 (by omega) (by omega)]; omega
  refine Pv.go ?_ (fun k => by rw [spec_l30Net.l0]);rw [hw];refine Pv.pos (by omega) (Pv.bind (pick_pv h hp (by omega)) (fun r1 ⟨a1,e1⟩ => Pv.bind (pick_pv h (p:=r1.2) (by omega) (by omega)) (fun r2 ⟨a2,e2⟩ => Pv.bind (pick_pv h (p:=r2.2) (by omega) (by omega)) (fun r3 ⟨a3,e3⟩ => Pv.bind (one_pv h (p:=r3.2) (by omega) (by omega) (by simp)) (fun r4 ⟨a4,e4⟩ => Pv.bind (one_pv h (p:=r4.2) (by omega) (by omega) (by simp)) (fun r5 ⟨a5,e5⟩ => Pv.bind (pick_pv h (p:=r5.2) (by omega) (by omega)) (fun r6 ⟨a6,e6⟩ => ?_)))))));have step : ∀ x : Arc,Pv (fun k => spec_l30Net.l0 k (m : Int) b r6.2 n (l ++ [x])) (fun r => r.1 = n ∧ r.2.1.length ≤ 13 ∧ (p ≤ r.2.2 ∧ r.2.2 ≤ p + 6 * ((m + 1 : Nat) : Int))):=fun x => (ih r6.2 (l ++ [x]) (by omega) (by omega) (by omega) (by simp; omega)).mono (fun r hr => ⟨hr.1,hr.2.1,by omega,by omega⟩)
  refine Pv.ite (fun _ => Pv.neg (by omega) (Pv.pos (by omega) (step _))) (fun _ => Pv.pos (by omega) (step _))
theorem net_pv {b : List Int} (h : Rdr b) {p : Int} (hp : 0 ≤ p) (hp' : p ≤ 10000) : Pv (fun k => spec_l30Net.f k b p) (fun r => (2 ≤ r.1 ∧ r.1 ≤ 6) ∧ r.2.1.length ≤ 13 ∧ (p ≤ r.2.2 ∧ r.2.2 ≤ p + 90)):=by
 unfold spec_l30Net.f
 refine Pv.bind (pick_pv h hp (by omega)) (fun r1 ⟨a1,e1⟩ => Pv.bind (pick_pv h (p:=r1.2) (by omega) (by omega)) (fun r2 ⟨a2,e2⟩ => ?_));have b1:=a1.2.2 (by omega);have b2:=a2.2.2 (by omega);have hw : wrap64 (2 + r1.1) = 2 + r1.1:=w64 (by omega) (by omega);rw [hw];have:=net_l h (2 + r1.1) (by omega) r2.1.toNat r2.2 [] (by omega) (by omega) (by omega) (by simp);rw [Int.toNat_of_nonneg a2.1] at this;exact this.mono (fun r hr => ⟨⟨by omega,by omega⟩,hr.2.1,by omega,by omega⟩)
theorem anyNet_pv {b : List Int} (h : Rdr b) {p : Int} (hp : 0 ≤ p) (hp' : p ≤ 10000) : Pv (fun k => spec_l30AnyNet.f k b p) (NetSz p):=by
 unfold spec_l30AnyNet.f
 refine Pv.bind (net_pv h hp hp') (fun r0 ⟨a0,l0,e0⟩ => ?_);refine Pv.ite (fun c => ?_) (fun c => Pv.now ⟨by dsimp only; omega,l0,by dsimp only; omega⟩);refine Pv.bind (pick_pv h (p:=r0.2.2) (by omega) (by omega)) (fun r1 ⟨a1,e1⟩ => Pv.bind (pick_pv h (p:=r1.2) (by omega) (by omega)) (fun r2 ⟨a2,e2⟩ => ?_));have b1:=a1.2.2 (by omega);refine Pv.ite (fun c1 => Pv.pos a1.1 (Pv.pos b1 (Pv.bind (one_pv h (p:=r2.2) (by omega) (by omega) (by simp)) (fun r3 ⟨a3,e3⟩ => Pv.now ⟨by dsimp only; omega,by simpa using l0,by dsimp only; omega⟩)))) (fun c1 => ?_);refine Pv.ite (fun c2 => Pv.bind (one_pv h (p:=r2.2) (by omega) (by omega) (by simp)) (fun r3 ⟨a3,e3⟩ => Pv.pos a1.1 (Pv.pos b1 (Pv.now ⟨by dsimp only; omega,by simpa using l0,by dsimp only; omega⟩)))) (fun c2 => ?_);refine Pv.ite (fun c3 => Pv.bind (one_pv h (p:=r2.2) (by omega) (by omega) (by simp)) (fun r3 ⟨a3,e3⟩ => Pv.now ⟨?_,l0,by dsimp only; omega⟩)) (fun c3 => Pv.now ⟨by dsimp only; omega,l0,by dsimp only; omega⟩);simp only [List.mem_cons,List.not_mem_nil,or_false] at a3;dsimp only;omega
theorem wkInts_l (a b : List Int) (hm : a.length ≤ maxLen) (hl : a.length = b.length) : ∀ (m i : Nat),a.length - i = m → i ≤ a.length → Ev (fun k => laws_wkInts.l0 k a b (i : Int)) (decide (a.drop i = b.drop i)):=by
 intro m
 induction m with
 | zero =>
  intro i hd hi;refine Ev.go ?_ (fun k => by rw [laws_wkInts.l0]);refine Ev.neg (by omega) (Ev.is ?_);rw [List.drop_of_length_le (by omega),List.drop_of_length_le (by omega)];rfl
 | succ m ih =>
  intro i hd hi;have hlt : i < a.length:=by omega
  have hlt2 : i < b.length:=by omega
  refine Ev.go ?_ (fun k => by rw [laws_wkInts.l0]);refine Ev.pos (by omega) (Ev.pos (by omega) (Ev.pos (by omega) ?_));rw [rdn hlt,rdn hlt2,up1 hlt hm,drop_cons hlt,drop_cons hlt2]
  by_cases c : a[i] = b[i]
  case neg => exact Ev.neg c (Ev.is (by simp only [List.cons.injEq,c,false_and]; rfl))
  exact Ev.pos c ((ih (i + 1) (by omega) (by omega)).cast (by rw [c]; simp only [List.cons.injEq,true_and]))
theorem wkInts_ev (a b : List Int) (hm : a.length ≤ maxLen) : Ev (fun k => laws_wkInts.f k a b) (decide (a = b)):=by
 unfold laws_wkInts.f
 by_cases c : a.length = b.length
 case pos => exact Ev.pos (by omega) (by simpa using wkInts_l a b hm c _ 0 rfl (Nat.zero_le _))
 exact Ev.neg (by omega) (Ev.is (by rw [eq_comm]; exact decide_eq_false (fun e => c (by rw [e]))))
theorem wkInts_same (a : List Int) (hm : a.length ≤ maxLen) : Ev (fun k => laws_wkInts.f k a a) true:=(wkInts_ev a a hm).cast (by simp)
theorem wkIn_l (a : List Int) (v : Int) (hm : a.length ≤ maxLen) : ∀ (m i : Nat),a.length - i = m → i ≤ a.length → Ev (fun k => laws_wkIn.l0 k a v (i : Int)) (decide (v ∈ a.drop i)):=by
 intro m
 induction m with
 | zero =>
  intro i hd hi;refine Ev.go ?_ (fun k => by rw [laws_wkIn.l0]);refine Ev.neg (by omega) (Ev.is ?_);rw [List.drop_of_length_le (by omega)];simp
 | succ m ih =>
  intro i hd hi;have hlt : i < a.length:=by omega
  refine Ev.go ?_ (fun k => by rw [laws_wkIn.l0]);refine Ev.pos (by omega) (Ev.pos (by omega) ?_);rw [rdn hlt,up1 hlt hm,drop_cons hlt]
  by_cases c : a[i] = v
  case pos => exact Ev.pos c (Ev.is (decide_eq_true (List.mem_cons.2 (.inl c.symm))).symm)
  exact Ev.neg c ((ih (i + 1) (by omega) (by omega)).cast (by rw [decide_eq_decide]; simp only [List.mem_cons]; exact ⟨.inr,fun h => h.resolve_left (fun e => c e.symm)⟩))
theorem wkIn_ev (a : List Int) (v : Int) (hm : a.length ≤ maxLen) : Ev (fun k => laws_wkIn.f k a v) (decide (v ∈ a)):=by
 unfold laws_wkIn.f
 simpa using wkIn_l a v hm _ 0 rfl (Nat.zero_le _)
end Go.Proofs.Ytlhmljngjdfbpaa.Pure
end
section
set_option linter.unusedSimpArgs false
set_option linter.unusedVariables false
set_option linter.unusedSectionVars false
namespace Go.Proofs.Ytlhmljngjdfbpaa.Pure
open Go.RowKit Go.Proofs.Ytlhmljngjdfbpaa.Pr Go.Proofs.YtlhmljngjdfbpaaW.PrintWords Go.Proofs.YtlhmljngjdfbpaaW.PrintLast Go.Proofs.YtlhmljngjdfbpaaW.PrintMore
section
variable {n : Int} {l : List Arc} (hg : NetGood n l)
include hg
theorem tree_l2 (P : List Int) (hP : P = lst n.toNat (roundS l (ints (List.range l.length)) n.toNat)) : ∀ (s i : Nat),(bestT l).length - i = s → i ≤ (bestT l).length → Ev (fun k => laws_FnTreeBest.l2 k (ints (bestT l)) P ((cnt (fun v => roundS l (ints (List.range l.length)) n.toNat v = (v : Int)) n.toNat : Nat) : Int) (i : Int) l n) true:=by
 obtain ⟨h16,hin,hnd⟩:=bestT_len hg;have h1:=hg.n1;have h8:=hg.n8;have hPl : P.length = n.toNat:=by rw [hP,lst_len]
 intro s
 induction s with
 | zero =>
  intro i hs hi;have hk:=kinds_all hg;have hle:=cnt_le (fun v => roundS l (ints (List.range l.length)) n.toNat v = (v : Int)) n.toNat;generalize cnt (fun v => roundS l (ints (List.range l.length)) n.toNat v = (v : Int)) n.toNat = c at hk hle ⊢;refine Ev.go ?_ (fun k => by rw [laws_FnTreeBest.l2]);have e : lst n.toNat (roundS l (ints (bestT l)) n.toNat) = P:=by rw [hP]; exact lst_congr (fun v hv => parts_all hg hv)
  refine Ev.neg (by rw [ints_len]; omega) (Ev.bind ((treeP_ev hg hin h16).cast e) (Ev.bind (wkInts_same P (by simp only [maxLen]; omega)) (Ev.pos rfl (Ev.is ?_))));rw [ints_len,w64 (by omega) (by omega)];exact beq_iff_eq.2 (by omega)
 | succ s ih =>
  intro i hs hi;have hlt : i < (bestT l).length:=by omega
  have a1 : (bestT l).length - (i + 1) = s:=by omega
  have h16m : (ints (bestT l)).length ≤ maxLen:=by rw [ints_len]; simp only [maxLen]; omega
  have hfew : ∀ j ∈ (bestT l).take i ++ (bestT l).drop (i + 1),j < l.length:=fun j hj => by
   rcases List.mem_append.1 hj with h | h
   ·exact hin j (List.mem_of_mem_take h)
   ·exact hin j (List.mem_of_mem_drop h)
  have hfl : ((bestT l).take i ++ (bestT l).drop (i + 1)).length ≤ 16:=by
   rw [List.length_append,List.length_take,List.length_drop]; omega
  have htp:=treeP_ev hg hfew hfl;have ei : ints ((bestT l).take i ++ (bestT l).drop (i + 1)) = (ints (bestT l)).take i ++ (ints (bestT l)).drop (i + 1):=by
   unfold ints
   rw [List.map_append,List.map_take,List.map_drop]
  rw [ei] at htp;have hne : lst n.toNat (roundS l ((ints (bestT l)).take i ++ (ints (bestT l)).drop (i + 1)) n.toNat) ≠ P:=by
   intro e;obtain ⟨v,hv,hd⟩:=parts_few hg hlt;rw [ei] at hd
   apply hd
   rw [← lst_nth (roundS l ((ints (bestT l)).take i ++ (ints (bestT l)).drop (i + 1)) n.toNat) hv,e,hP,lst_nth _ hv]
  have hwk:=wkInts_ev (lst n.toNat (roundS l ((ints (bestT l)).take i ++ (ints (bestT l)).drop (i + 1)) n.toNat)) P (by rw [lst_len]; simp only [maxLen]; omega);rw [decide_eq_false hne] at hwk;have hrd : rd (ints (bestT l)) (i : Int) = (((bestT l)[i] : Nat) : Int):=by
   rw [rdg,nth_get (by rw [ints_len]; exact hlt)]; simp [ints]
  have hni : ¬ (((bestT l)[i] : Nat) : Int) ∈ (ints (bestT l)).take i:=by
   intro h
   unfold ints at h
   rw [← List.map_take] at h;obtain ⟨q,hq,e⟩:=List.mem_map.1 h;have e : q = (bestT l)[i]:=by omega
   subst e;have he : bestT l = (bestT l).take i ++ (bestT l)[i] :: (bestT l).drop (i + 1):=by
    rw [← List.drop_eq_getElem_cons hlt,List.take_append_drop]
   rw [he] at hnd;exact (List.nodup_append.1 hnd).2.2 _ hq _ (List.mem_cons_self ..) rfl
  have hwi:=wkIn_ev ((ints (bestT l)).take i) (((bestT l)[i] : Nat) : Int) (by rw [List.length_take,ints_len]; simp only [maxLen]; omega);rw [decide_eq_false hni] at hwi;have hup:=up1 (i:=i) (n:=(ints (bestT l)).length) (by rw [ints_len]; exact hlt) h16m;have ih:=ih (i + 1) a1 hlt;have hL : (ints (bestT l)).length = (bestT l).length:=ints_len _;have hl1 : ((ints (bestT l)).take i).length = i:=by rw [List.length_take,hL]; exact Nat.min_eq_left (Nat.le_of_lt hlt)
  have hl2 : ((ints (bestT l)).drop (i + 1)).length ≤ 16:=by rw [List.length_drop,hL]; exact Nat.le_trans (Nat.sub_le _ _) h16
  have f1 : (i : Int) < ((ints (bestT l)).length : Int):=by rw [hL]; exact Int.ofNat_lt.2 hlt
  have f2 : (i : Int) ≤ ((ints (bestT l)).length : Int):=Int.le_of_lt f1;have f3 : ((ints (bestT l)).take i).length < 17592186044416:=by rw [hl1]; exact Nat.lt_of_lt_of_le hlt (Nat.le_trans h16 (by decide))
  have f5 : ((i + 1 : Nat) : Int) ≤ ((ints (bestT l)).length : Int):=by rw [hL]; exact Int.ofNat_le.2 hlt
  have f6 : ((ints (bestT l)).take i).length + ((ints (bestT l)).drop (i + 1)).length < 17592186044416:=by
   rw [hl1];exact Nat.lt_of_le_of_lt (Nat.add_le_add (Nat.le_trans (Nat.le_of_lt hlt) h16) hl2) (by decide)
  refine Ev.go ?_ (fun k => by rw [laws_FnTreeBest.l2]);rw [hup,hrd];refine Ev.pos f1 ?_;refine Ev.bind0 rfl ?_;refine Ev.pos (Int.natCast_nonneg i) (Ev.pos f2 ?_);rw [Int.toNat_natCast];refine Ev.bind0 rfl ?_;refine Ev.pos (by rw [List.length_nil,Nat.zero_add]; exact f3) ?_;refine Ev.bind0 rfl ?_;refine Ev.pos (Int.natCast_nonneg (i + 1)) (Ev.pos f5 ?_);rw [Int.toNat_natCast];refine Ev.bind0 rfl ?_;rw [List.nil_append];refine Ev.pos f6 ?_;refine Ev.bind htp ?_;refine Ev.bind hwk ?_;refine Ev.neg (by simp) ?_;refine Ev.bind hwi ?_;exact Ev.neg (by simp) ih
theorem tree_l1 (P : List Int) (hP : P = lst n.toNat (roundS l (ints (List.range l.length)) n.toNat)) : ∀ (s i : Nat),n.toNat - i = s → i ≤ n.toNat → Ev (fun k => laws_FnTreeBest.l1 k (ints (bestT l)) P ((cnt (fun v => roundS l (ints (List.range l.length)) n.toNat v = (v : Int)) i : Nat) : Int) (i : Int) l n) true:=by
 have h1:=hg.n1;have h8:=hg.n8;intro s
 induction s with
 | zero =>
  intro i hs hi;have : i = n.toNat:=by omega
  subst this;refine Ev.go ?_ (fun k => by rw [laws_FnTreeBest.l1]);exact Ev.neg (by omega) (tree_l2 hg P hP _ 0 rfl (Nat.zero_le _))
 | succ s ih =>
  intro i hs hi;have hlt : i < n.toNat:=by omega
  have hle:=cnt_le (fun v => roundS l (ints (List.range l.length)) n.toNat v = (v : Int)) i;have ih:=ih (i + 1) (by omega) (by omega);have hrd : rd P (i : Int) = roundS l (ints (List.range l.length)) n.toNat i:=by rw [hP]; exact lst_rd _ hlt
  have hPl : P.length = n.toNat:=by rw [hP,lst_len]
  simp only [cnt] at ih;refine Ev.go ?_ (fun k => by rw [laws_FnTreeBest.l1]);rw [hrd,up1 hlt (by simp only [maxLen]; omega)];refine Ev.pos (by omega) (Ev.pos (by omega) (Ev.pos (by omega) ?_))
  by_cases c : roundS l (ints (List.range l.length)) n.toNat i = (i : Int)
  case neg =>
   rw [Bp_false c,if_neg (by simp),Nat.add_zero] at ih;exact Ev.neg c ih
  rw [Bp_true c,if_pos rfl] at ih;rw [w64 (by omega) (by omega)];exact Ev.pos c (ih.cast rfl)
theorem tree_l0 : ∀ (s i : Nat),l.length - i = s → i ≤ l.length → Ev (fun k => laws_FnTreeBest.l0 k (ints (bestT l)) (ints (List.range i)) (i : Int) n l) true:=by
 have h16:=hg.len;intro s
 induction s with
 | zero =>
  intro i hs hi;have : i = l.length:=by omega
  subst this;refine Ev.go ?_ (fun k => by rw [laws_FnTreeBest.l0]);exact Ev.neg (by omega) (Ev.bind (treeP_ev hg (fun j hj => List.mem_range.1 hj) (by simpa using h16)) (tree_l1 hg _ rfl _ 0 rfl (Nat.zero_le _)))
 | succ s ih =>
  intro i hs hi;have hlt : i < l.length:=by omega
  refine Ev.go ?_ (fun k => by rw [laws_FnTreeBest.l0]);have e : ints (List.range i) ++ [((i : Nat) : Int)] = ints (List.range (i + 1)):=by simp [ints,List.range_succ]
  rw [up1 hlt (by simp only [maxLen]; omega),e];exact Ev.pos (by omega) (Ev.pos (by rw [ints_len,List.length_range]; omega) (ih (i + 1) (by omega) (by omega)))
end
theorem FnTreeBest : laws_FnTreeBest.Asked:=by
 intro b hc;refine Pv.rounds ?_
 unfold laws_FnTreeBest.f
 by_cases hs : (b.length : Int) > 1048576
 ·exact Pv.pos hs (Pv.now rfl)
 refine Pv.neg hs ?_
 unfold spec_DrawTreeBest.f
 obtain ⟨bb,e,hb⟩:=open_pv hc.2;refine Pv.bind (R:=fun r => r.2.length ≤ 13) (Pv.bind0 e (Pv.bind (anyNet_pv hb (p:=0) (by omega) (by omega)) (fun r1 h1 => Pv.now h1.2.1))) (fun r h2 => ?_);obtain ⟨n,l⟩:=r;dsimp only at h2 ⊢;have hm : l.length ≤ maxLen:=by simp only [maxLen]; omega
 have hv:=treeB_len n l;have hw:=wkInts_same (treeB n l) (by simp only [maxLen]; omega);refine Pv.of (Ev.bind (implTreeB_ev n l) (Ev.bind (specTreeB_ev n l hm) (Ev.bind hw (Ev.pos rfl (Ev.bind0 (show impl_NetOk.f n l = some (netOkB n l) from rfl) (Ev.go (r:=true) ?_ (fun k => by rw [laws_FnTreeBest.j0]))))))) rfl;cases hk : netOkB n l with
 | false => exact Ev.pos rfl (Ev.bind (specTreeB_ev n l hm) (Ev.bind hw (Ev.now _)))
 | true =>
  have hg:=(netOkB_iff n l).1 hk;have e2 : treeB n l = ints (bestT l):=by unfold treeB; rw [hk,if_pos rfl]
  rw [e2];exact Ev.neg (by simp) (tree_l0 hg _ 0 rfl (Nat.zero_le _))
end Go.Proofs.Ytlhmljngjdfbpaa.Pure
end
section
namespace Go.Proofs.Ytlhmljngjdfbpaa.fnTreeBest
open Go.ChangeShapes Go.WideShapes Go.ChangeAt Go.RowKit Go.Proofs.YtlhmljngjdfbpaaW.PrintWords Go.Proofs.Ytlhmljngjdfbpaa.Pr
open Go.ChangeMaps (open_string shut_string)
set_option linter.unusedVariables false
set_option linter.unusedSimpArgs false
theorem own : ownKnob Try.prog.godebug = none:=by kernel_rfl
theorem laidOut : laidOutB Try.prog = true:=by kernel_rfl
theorem opens0 : Opens Try.prog (Kd.slice 5 (Kd.int .u8)) 22 (fun l => l.length ≤ maxLen ∧ ∀ x ∈ l,(fun n => (Lit.int .u8 n).wf = true) x):=(opens_slice (P:=Try.prog) Try.underlying22 (by kernel_rfl) (opens_int (P:=Try.prog) (k:=.u8) Try.underlying5))
set_option maxRecDepth 100000 in
set_option maxHeartbeats 2000000 in
theorem lifted (os : Os) (started : os.Started) (H : Type) (enc : TypeId × Value → H) :
  ReturnsInHanded {} Try.checked os 10 .any (Rows.fnTreeBestSpec.pre6 enc Try.prog Try.f10 Rows.fnTreeBestRow.domain false) (Rows.fnTreeBestSpec.post enc Try.prog Try.f10 false true false false):=by
 refine returnsInHanded_of_change_sized (C:=Try.checked) own started (by kernel_rfl) Try.func10
  (ChangeSpec.witness6 (enc:=enc) (C:=Try.checked) false ⟨#[],#[(.slice none 0 0)],[]⟩ 8 (by kernel_rfl) (by kernel_rfl) (by kernel_rfl) (by kernel_rfl)) ?_
 intro W base args ds gs before hval0 hW hcnd hsz0 _;have hval : ∀ (j : Nat) t v,Try.f10.params[j]? = some t → args[j]? = some v → Value.okWide Try.prog W .any base t v:=hval0
 have hW':=hW;obtain ⟨p,q,hA0,hV,rfl,hfz,hnd⟩:=hW;have hA : DataW.TrodAll enc Try.prog W 0 (fun _ => true) true Try.f10.params.toList args.toList ds p:=hA0;rw [Try.params10] at hA hval;obtain ⟨v0,vs0,d0,ds0,p0,q0,hargs,rfl,rfl,h0,r0⟩:=trodAll_cons hA;obtain ⟨rfl,rfl,rfl⟩:=trodAll_nil r0;obtain rfl : args = #[v0]:=by cases args; simp_all
 obtain ⟨rfl,rfl⟩:=trodVars_none hV;have k0:=h0;have lt0 : ∀ x ∈ p0,x.block < W.heap.size:=by obtain ⟨m,hm⟩:=k0; exact DataW.trod_lt m _ _ _ hm
 obtain ⟨a0,len0,cap0,rfl⟩:=okWide_slice Try.underlying22 (hval 0 22 v0 rfl rfl);obtain ⟨fuel0,hf0⟩:=h0;obtain ⟨l0,⟨A0,c0,e0,hc0,hr0⟩,w0⟩:=opens0 hf0;have e0' : (Value.slice a0 len0 cap0) = .slice A0 l0.length c0:=(List.cons.inj e0).1;injection e0' with e0a e0b e0c
 subst e0a e0b e0c;obtain ⟨k,hh⟩:=Pure.FnTreeBest l0 w0;refine (laws_FnTreeBest.calls k _ _ l0 true W hr0 hc0 hh).mono fun e W' ⟨he,bel0⟩ => ?_
 have bel : Below W.heap.size W W':=bel0;subst he;exact ⟨_,rfl,_,_,_,[],_,[],hW',trodAll_mk1 (shut_bool Try.underlying4 _),(trodAll_cons_mk (Below.trod laidOut (by kernel_rfl) (of_decide_eq_true (by kernel_rfl)) k0 bel lt0) trodAll_mk0),rfl,bel.frame _,fun h => by cases h⟩
theorem over : Rows.fnTreeBestRow.holds Try.pinned (OpenSpec.ofChange Rows.fnTreeBestSpec) :=
 OpenClaim.holds_of_wide 10 Try.f10 rfl rfl rfl rfl rfl rfl rfl ⟨rfl,rfl,rfl,rfl,rfl⟩ rfl rfl rfl rfl rfl (by kernel_rfl) Try.func10 (by kernel_rfl)
  (of_decide_eq_true (by kernel_rfl)) (by unfold Func.isWrapper; first | (rw [if_pos (by decide +kernel)]; kernel_rfl) | (rw [if_neg (by decide +kernel)]; exact ⟨rfl,rfl⟩))
  (fun os started H enc _ => lifted os started H enc)
theorem proved : Rows.FnTreeBestSaid:=over
#print axioms proved
end Go.Proofs.Ytlhmljngjdfbpaa.fnTreeBest
namespace Go.Proofs.Ytlhmljngjdfbpaa
theorem fnTreeBest_holds : Rows.FnTreeBestSaid:=fnTreeBest.proved
end Go.Proofs.Ytlhmljngjdfbpaa
end
