/- For the statement FnJobCost of this seat: it is proved here, with no further conditions (part 8 of its texts: words, walks of the functions, the plain law, the row). -/
import Derived.ChangeArms
import Derived.ChangeSlices
import Derived.Deep.Slices
import Derived.WideShapes
import Derived.DataReads
import Derived.Lib.SlicesCompact
import Derived.Test.YtmioaahiflfcdaaRows
import Derived.WalkKit
import Derived.ProofKit
import Derived.OpenShut
import Derived.ShutString
import Derived.ChangeOld
import Derived.Below
import Derived.SizedLaws
import Derived.Test.YtmioaahiflfcdaaKFnJobCost6
section
namespace Go.Proofs.Ytmioaahiflfcdaa.Pr
open Go.RowKit Go.Proofs.YtmioaahiflfcdaaW.PrintWords Go.Proofs.YtmioaahiflfcdaaW.PrintLast Go.Proofs.YtmioaahiflfcdaaW.PrintMore
attribute [local go_sem] max2_int min2_int max_two min_two max_three min_three max_four min_four
set_option linter.unusedVariables false
set_option linter.unusedSimpArgs false
open List renaming setIfInBounds_toArray → V,set_cons_zero → Z,set_cons_succ → zx
open Go.Proofs.YtmioaahiflfcdaaW.PrintWords.Aside0 renaming mk → zy
mutual
def laws_FnJobCost.j0 : Nat → List Int → List Int → List Int → Int → Bool → Int → List (S80) → Option (Bool)
 | 0,_,_,_,_,_,_,_ => none
 | k + 1,x4,x5,x6,x7,x38,p4,p5 => if x38 = true then ((spec_JobCost.f k p4 p5 x4 x5 x6).bind fun t696 => (some (x7 == t696))) else (laws_FnJobCost.l0 k x4 x5 x6 x7 0 0 p4 p5)
def laws_FnJobCost.l0 : Nat → List Int → List Int → List Int → Int → Int → Int → Int → List (S80) → Option (Bool)
 | 0,_,_,_,_,_,_,_,_ => none
 | k + 1,x4,x5,x6,x7,x8,x9,p4,p5 => if x9 < (x6.length : Int) then (if 0 ≤ x9 then (if x9 < (x4.length : Int) then ((impl_NearAll.f k p4 p5 (rd x4 x9)).bind fun t698 => (if 0 ≤ (rd x6 x9) then (if (rd x6 x9) < (x5.length : Int) then (if 0 ≤ (rd x5 (rd x6 x9)) then (if (rd x5 (rd x6 x9)) < (t698.length : Int) then (if (rd t698 (rd x5 (rd x6 x9))) = 99999 then (laws_FnJobCost.l0 k x4 x5 x6 x7 99999 (wrap64 (x9 + 1)) p4 p5) else (if x8 = 99999 then (laws_FnJobCost.l0 k x4 x5 x6 x7 99999 (wrap64 (x9 + 1)) p4 p5) else (laws_FnJobCost.l0 k x4 x5 x6 x7 (wrap64 (x8 + (rd t698 (rd x5 (rd x6 x9))))) (wrap64 (x9 + 1)) p4 p5))) else (none)) else (none)) else (none)) else (none))) else (none)) else (none)) else ((impl_JobBest.f k p4 p5 x4 x5).bind fun bt704 => (if x7 = x8 then (some (decide (bt704.2 ≤ x7))) else (some false)))
end
def laws_FnJobCost.f (k : Nat) (l0 : List Int) : Option (Bool):=if (l0.length : Int) > 1048576 then (some true) else ((spec_DrawJobCost.f k l0).bind fun bt680 => ((impl_JobCost.f k bt680.1 bt680.2.1 bt680.2.2.1 bt680.2.2.2.1 bt680.2.2.2.2).bind fun t694 => ((spec_JobCost.f k bt680.1 bt680.2.1 bt680.2.2.1 bt680.2.2.2.1 bt680.2.2.2.2).bind fun t695 => (if t694 = t695 then (laws_FnJobCost.j0 k bt680.2.2.1 bt680.2.2.2.1 bt680.2.2.2.2 t694 (decide (t694 < 0)) bt680.1 bt680.2.1) else (laws_FnJobCost.j0 k bt680.2.2.1 bt680.2.2.2.1 bt680.2.2.2.2 t694 true bt680.1 bt680.2.1)))))
def laws_FnJobCost.T11 : Bool × List (List Nat × List Nat):=(true,[([],[]),([],[]),([],[]),([1,2],[1,2]),([3],[3]),([0,4],[0,4]),([],[]),([],[]),([],[]),([7,8],[7,8]),([9],[9]),([6,10],[6,10]),([11],[11]),([5,12],[5,12]),([13],[13]),([14,5,0,1,2,3,4,5,6,7,8,9,10,11,12,13,14],[14])])
def laws_FnJobCost.B11 : List Nat:=[0,0,0,6,14,31,0,0,0,384,896,1984,4032,8191,16383,32767]
theorem laws_FnJobCost.tab11 : rtab .any (opsOf Try.f6 11) = laws_FnJobCost.T11:=by kernel_rfl
theorem laws_FnJobCost.bits11 : waitsOk laws_FnJobCost.T11.2 laws_FnJobCost.B11 = true:=by kernel_rfl
set_option maxHeartbeats 8000000 in
set_option maxRecDepth 100000 in
theorem laws_FnJobCost.calls (k : Nat) (A0 : Option Addr) (c0 : Nat) (l0 : List Int) (r : Bool) (w : World) (hr0 : Kd.C (Kd.int .u8) w A0 l0.length l0) (hc0 : l0.length ≤ c0) (h : laws_FnJobCost.f k l0 = some r) :
  Calls Try.prog 6 #[.slice A0 l0.length c0] w fun e w' => e = .returned (.bool r) ∧ Below w.heap.size w w':=by
 have hu25:=Try.underlying25;have HR0:=zy hr0;have HC0:=zy hc0;clear hr0 hc0;have HB:=zy (Below.refl w.heap.size w);have H : (if (l0.length : Int) > 1048576 then (some true) else ((spec_DrawJobCost.f k l0).bind fun bt680 => ((impl_JobCost.f k bt680.1 bt680.2.1 bt680.2.2.1 bt680.2.2.2.1 bt680.2.2.2.2).bind fun t694 => ((spec_JobCost.f k bt680.1 bt680.2.1 bt680.2.2.1 bt680.2.2.2.1 bt680.2.2.2.2).bind fun t695 => (if t694 = t695 then (laws_FnJobCost.j0 k bt680.2.2.1 bt680.2.2.2.1 bt680.2.2.2.2 t694 (decide (t694 < 0)) bt680.1 bt680.2.1) else (laws_FnJobCost.j0 k bt680.2.2.1 bt680.2.2.2.1 bt680.2.2.2.2 t694 true bt680.1 bt680.2.1)))))) = some r:=h;clear h
 by_cases c2 : (l0.length : Int) > 1048576
 case pos =>
  rw [if_pos c2] at H;have c2b0 : decide (1048576 < (l0.length : Int)) = true:=decide_eq_true c2;have c2b1 : decide (1048576 < l0.length) = true:=decide_eq_true (by omega);clear c2;obtain rfl:=Option.some.inj H
  go_enter Try.func6,Try.ntmps6
  go_wp2
  go_ret;exact ⟨by first | rfl | (simp [errW_none,errW_some] <;> rfl) | (simp [*,errW_none,errW_some] <;> rfl),by repeat (first | (with_reducible first | exact HB.out | apply below_alloc | apply pw_below_drewN | apply below_drew1) | exact HB.out)⟩
 rw [if_neg c2] at H;have c2b0 : decide (1048576 < (l0.length : Int)) = false:=decide_eq_false c2;have c2b1 : decide (1048576 < l0.length) = false:=decide_eq_false (by omega);clear c2;replace H:=Option.bind_eq_some_iff.mp H;obtain ⟨⟨t680,t681,t684,t687,t690⟩,A30,H⟩:=H;replace H : ((impl_JobCost.f k t680 t681 t684 t687 t690).bind fun t694 => ((spec_JobCost.f k t680 t681 t684 t687 t690).bind fun t695 => (if t694 = t695 then (laws_FnJobCost.j0 k t684 t687 t690 t694 (decide (t694 < 0)) t680 t681) else (laws_FnJobCost.j0 k t684 t687 t690 t694 true t680 t681)))) = some r:=H;have A3:=zy A30;clear A30;replace H:=Option.bind_eq_some_iff.mp H;obtain ⟨t694,A40,H⟩:=H;replace H : ((spec_JobCost.f k t680 t681 t684 t687 t690).bind fun t695 => (if t694 = t695 then (laws_FnJobCost.j0 k t684 t687 t690 t694 (decide (t694 < 0)) t680 t681) else (laws_FnJobCost.j0 k t684 t687 t690 t694 true t680 t681))) = some r:=H;have A4:=zy A40;clear A40;have HC5:=zy H;clear H
 go_enter Try.func6,Try.ntmps6
 go_upto_region 5 with (first | ((with_reducible refine gate_callee (f:=23) rfl ?_); refine goesL_ (some 18) rfl rfl Try.func23 (by kernel_rfl) rfl #[.slice A0 l0.length c0] rfl (by (try simp only [List.map_toArray,List.map_cons,List.map_nil]); first | done | rfl | (simp only [List.length_drop,List.length_take]; rfl)) ?_; (with_reducible refine (spec_DrawJobCost.calls k _ _ l0 t680 t681 t684 t687 t690 _ ?side1 ?side2 A3.out).mono ?_); (case side1 => repeat (first | exact HR0.out | (with_reducible refine Kd.C_alloc ?_ _) | (with_reducible refine Kd.C_drewN ?_ _) | (with_reducible refine Kd.C_drew ?_))); (case side2 => exact HC0.out); rintro e w6 ⟨v682,v685,v688,v691,rfl,ho0,ho1,ho2,ho3,hb⟩; refine ⟨_,rfl,?_⟩; have n0_:=zy (Kd.R_lower ho0 (below_size HB.out)); have n1_:=zy (Kd.R_lower ho1 (below_size HB.out)); have n2_:=zy (Kd.R_lower ho2 (below_size HB.out)); have n3_:=zy (Kd.R_lower ho3 (below_size HB.out)); have n4_:=zy (below_step HB.out hb); clear HB; have HO683:=n0_; have HO686:=n1_; have HO689:=n2_; have HO692:=n3_; have HB:=n4_; clear n0_ n1_ n2_ n3_ n4_; (try clear hb); (try clear hb2); (try clear hk); (try clear hi); (try clear ho0); (try clear ho1); (try clear ho2); (try clear ho3)) | ((with_reducible refine gate_dst (N:=3) rfl ?_); refine box_event ?hg (N:=3) ?hd (cs:=#[.int .i64 0,.slice none 0 0]) (t:=25) ?hr ?_; (case hd => rfl); (case hg => rfl); (case hr => first | (go_simp; done) | (go_simp; rfl)); intro p3 hg w7 hbox hb; have n0_:=zy (Kd.R_below HO683.out hb); have n1_:=zy (Kd.R_below HO686.out hb); have n2_:=zy (Kd.R_below HO689.out hb); have n3_:=zy (Kd.R_below HO692.out hb); have n4_:=zy (below_step HB.out hb); have n5_:=zy (hbox); have n6_:=zy ((by rw [hg]; exact (below_size HB.out) : w.heap.size ≤ p3)); have n7_:=zy ((by rw [hg]; exact (below_size HB.out) : w.heap.size ≤ p3)); clear HO683; clear HO686; clear HO689; clear HO692; clear HB; have HO683:=n0_; have HO686:=n1_; have HO689:=n2_; have HO692:=n3_; have HB:=n4_; have p1:=n5_; have GW693:=n6_; have p6:=n7_; clear n0_ n1_ n2_ n3_ n4_ n5_ n6_ n7_; clear hb hbox hg; have q9 : w7.cell? ⟨p3,0,none⟩ = some (.int .i64 0):=(blk_cell p1.out 0).trans rfl; have r0 : w7.cell? ⟨p3,1,none⟩ = some (.slice none 0 0):=(blk_cell p1.out 1).trans rfl; have r1:=blk_frozen p1.out 0; have r2:=blk_frozen p1.out 1; obtain ⟨Ao9,co9,eo9⟩:=Kd.R_slice HO683.out; subst eo9; obtain ⟨Ao10,co10,eo10⟩:=Kd.R_slice HO686.out; subst eo10; obtain ⟨Ao11,co11,eo11⟩:=Kd.R_slice HO689.out; subst eo11; obtain ⟨Ao12,co12,eo12⟩:=Kd.R_slice HO692.out; subst eo12) | ((with_reducible refine gate_callee (f:=22) rfl ?_); refine goesL_ (some 27) rfl rfl Try.func22 (by kernel_rfl) rfl #[.agg #[.int .i64 t680,.slice Ao9 t681.length co9],.slice Ao10 t684.length co10,.slice Ao11 t687.length co11,.slice Ao12 t690.length co12] rfl (by (try simp only [List.map_toArray,List.map_cons,List.map_nil]); first | done | rfl | (simp only [List.length_drop,List.length_take]; rfl)) ?_; (with_reducible refine (impl_JobCost.calls k t680 _ _ t681 _ _ t684 _ _ t687 _ _ t690 t694 _ ?side1 ?side2 ?side3 ?side4 ?side5 ?side6 ?side7 ?side8 A4.out).mono ?_); (case side1 => refine (Kd.R_reads' (e:=80) (base:=w.heap.size) (ok:=fun k_ => True) (n:=t681.length) (c:=co9) ?_).2.2; exact (Kd.R_mono (Kd.R_far (p:=⟨p3,1,none⟩) (Kd.R_far (p:=⟨p3,0,none⟩) (Kd.R_types HO683.out p1.out (by decide)) (fun _ hk => hk.2) (.int .i64 t680)) (fun _ hk => hk.2) (.slice Ao9 t681.length co9)) (fun _ h_ => h_.1))); (case side2 => exact (Kd.R_reads' HO683.out).2.1); (case side3 => refine (Kd.R_reads' (e:=3) (base:=w.heap.size) (ok:=fun k_ => (some k_ ≠ (.slice Ao11 t687.length co11 : Value).ownBlock ∧ some k_ ≠ (.slice Ao12 t690.length co12 : Value).ownBlock)) (n:=t684.length) (c:=co10) ?_).2.2; exact (Kd.R_mono (Kd.R_far (p:=⟨p3,1,none⟩) (Kd.R_far (p:=⟨p3,0,none⟩) (Kd.R_types HO686.out p1.out (by decide)) (fun _ hk => hk.2) (.int .i64 t680)) (fun _ hk => hk.2) (.slice Ao9 t681.length co9)) (fun _ h_ => h_.1))); (case side4 => exact (Kd.R_reads' HO686.out).2.1); (case side5 => refine (Kd.R_reads' (e:=3) (base:=w.heap.size) (ok:=fun k_ => (some k_ ≠ (.slice Ao10 t684.length co10 : Value).ownBlock ∧ some k_ ≠ (.slice Ao12 t690.length co12 : Value).ownBlock)) (n:=t687.length) (c:=co11) ?_).2.2; exact (Kd.R_mono (Kd.R_far (p:=⟨p3,1,none⟩) (Kd.R_far (p:=⟨p3,0,none⟩) (Kd.R_types HO689.out p1.out (by decide)) (fun _ hk => hk.2) (.int .i64 t680)) (fun _ hk => hk.2) (.slice Ao9 t681.length co9)) (fun _ h_ => h_.1))); (case side6 => exact (Kd.R_reads' HO689.out).2.1); (case side7 => refine (Kd.R_reads' (e:=3) (base:=w.heap.size) (ok:=fun k_ => (some k_ ≠ (.slice Ao10 t684.length co10 : Value).ownBlock ∧ some k_ ≠ (.slice Ao11 t687.length co11 : Value).ownBlock)) (n:=t690.length) (c:=co12) ?_).2.2; exact (Kd.R_mono (Kd.R_far (p:=⟨p3,1,none⟩) (Kd.R_far (p:=⟨p3,0,none⟩) (Kd.R_types HO692.out p1.out (by decide)) (fun _ hk => hk.2) (.int .i64 t680)) (fun _ hk => hk.2) (.slice Ao9 t681.length co9)) (fun _ h_ => h_.1))); (case side8 => exact (Kd.R_reads' HO692.out).2.1); rintro e w13 ⟨rfl,hb⟩; refine ⟨_,rfl,?_⟩; have n0_:=zy (Kd.R_below (Kd.R_mono (Kd.R_far (p:=⟨p3,1,none⟩) (Kd.R_far (p:=⟨p3,0,none⟩) (Kd.R_types HO683.out p1.out (by decide)) (fun _ hk => hk.2) (.int .i64 t680)) (fun _ hk => hk.2) (.slice Ao9 t681.length co9)) (fun _ h_ => h_.1)) hb); have n1_:=zy (Kd.R_below (Kd.R_mono (Kd.R_far (p:=⟨p3,1,none⟩) (Kd.R_far (p:=⟨p3,0,none⟩) (Kd.R_types HO686.out p1.out (by decide)) (fun _ hk => hk.2) (.int .i64 t680)) (fun _ hk => hk.2) (.slice Ao9 t681.length co9)) (fun _ h_ => h_.1)) hb); have n2_:=zy (Kd.R_below (Kd.R_mono (Kd.R_far (p:=⟨p3,1,none⟩) (Kd.R_far (p:=⟨p3,0,none⟩) (Kd.R_types HO689.out p1.out (by decide)) (fun _ hk => hk.2) (.int .i64 t680)) (fun _ hk => hk.2) (.slice Ao9 t681.length co9)) (fun _ h_ => h_.1)) hb); have n3_:=zy (Kd.R_below (Kd.R_mono (Kd.R_far (p:=⟨p3,1,none⟩) (Kd.R_far (p:=⟨p3,0,none⟩) (Kd.R_types HO692.out p1.out (by decide)) (fun _ hk => hk.2) (.int .i64 t680)) (fun _ hk => hk.2) (.slice Ao9 t681.length co9)) (fun _ h_ => h_.1)) hb); have n4_:=zy (blk_below (g:=p3) (o:=.cells #[.int .i64 t680,.slice Ao9 t681.length co9] 25 (0,0)) (by (with_reducible repeat (first | refine blk_drewN ?_ _ | refine blk_drew ?_ | refine blk_alloc ?_ _)); refine blk_put (cs:=#[.int .i64 t680,.slice none 0 0]) ?_ 1 _ rfl; (with_reducible repeat (first | refine blk_drewN ?_ _ | refine blk_drew ?_ | refine blk_alloc ?_ _)); refine blk_put (cs:=#[.int .i64 0,.slice none 0 0]) ?_ 0 _ rfl; (with_reducible repeat (first | refine blk_drewN ?_ _ | refine blk_drew ?_ | refine blk_alloc ?_ _)); exact p1.out) hb); have n5_:=zy (below_step (by repeat (first | (with_reducible first | exact HB.out | apply below_alloc | apply pw_below_drewN | apply below_drew1 | refine below_set ?_ p6.out) | exact HB.out)) hb); clear HO683; clear HO686; clear HO689; clear HO692; clear p1; clear HB; have HO683:=n0_; have HO686:=n1_; have HO689:=n2_; have HO692:=n3_; have p1:=n4_; have HB:=n5_; clear n0_ n1_ n2_ n3_ n4_ n5_; (try clear hb); (try clear hb2); (try clear hk); (try clear hi)))
 (try simp only [Act.put,V,Z,zx])
 go_cut [38] (fun v38 wc => ∃ (kq : Nat) (q0 : Bool),v38 = .bool q0 ∧ Aside0 (laws_FnJobCost.j0 kq t684 t687 t690 t694 q0 t680 t681 = some r) ∧ Aside0 (kq ≤ k) ∧ Aside0 (Kd.R (Kd.int .i64) 3 wc w.heap.size (fun k_ => some k_ ≠ ((.slice Ao11 t687.length co11) : Value).ownBlock ∧ some k_ ≠ ((.slice Ao12 t690.length co12) : Value).ownBlock) (.slice Ao10 t684.length co10) t684) ∧ Aside0 (Kd.R (Kd.int .i64) 3 wc w.heap.size (fun k_ => some k_ ≠ ((.slice Ao10 t684.length co10) : Value).ownBlock ∧ some k_ ≠ ((.slice Ao12 t690.length co12) : Value).ownBlock) (.slice Ao11 t687.length co11) t687) ∧ Aside0 (Kd.R (Kd.int .i64) 3 wc w.heap.size (fun k_ => some k_ ≠ ((.slice Ao10 t684.length co10) : Value).ownBlock ∧ some k_ ≠ ((.slice Ao11 t687.length co11) : Value).ownBlock) (.slice Ao12 t690.length co12) t690) ∧ Aside0 (Kd.R k80 80 wc w.heap.size (fun _ => True) (.slice Ao9 t681.length co9) t681) ∧ Aside0 (wc.heap[p3]? = some (.cells #[.int .i64 t680,(.slice Ao9 t681.length co9)] 25 (0,0))) ∧ Aside0 (Below w.heap.size w wc))
 case first =>
  have H:=HC5.out;clear HC5;replace H:=Option.bind_eq_some_iff.mp H;obtain ⟨t695,A140,H⟩:=H;replace H : (if t694 = t695 then (laws_FnJobCost.j0 k t684 t687 t690 t694 (decide (t694 < 0)) t680 t681) else (laws_FnJobCost.j0 k t684 t687 t690 t694 true t680 t681)) = some r:=H;have A14:=zy A140;clear A140
  by_cases c15 : t694 = t695
  case neg =>
   rw [if_neg c15] at H;have c15b0 : (t694 == t695) = false:=beq_eq_false_iff_ne.mpr c15;have c15b1 : (t694 != t695) = true:=bne_iff_ne.mpr c15
   (first | rw [c15b0] | (simp only [i64_w,i32_w]; rw [c15b0]) | skip)
   have H':=zy H;clear H;have q5 : w13.cell? ⟨p3,0,none⟩ = some (.int .i64 t680):=(blk_cell p1.out 0).trans rfl;have q6 : w13.cell? ⟨p3,1,none⟩ = some (.slice Ao9 t681.length co9):=(blk_cell p1.out 1).trans rfl;have q7:=blk_frozen p1.out 0;have q8:=blk_frozen p1.out 1
   go_wp2_with (first | ((with_reducible refine gate_callee (f:=21) rfl ?_); refine goesL_ (some 33) rfl rfl Try.func21 (by kernel_rfl) rfl #[.agg #[.int .i64 t680,.slice Ao9 t681.length co9],.slice Ao10 t684.length co10,.slice Ao11 t687.length co11,.slice Ao12 t690.length co12] rfl (by (try simp only [List.map_toArray,List.map_cons,List.map_nil]); first | done | rfl | (simp only [List.length_drop,List.length_take]; rfl)) ?_; (with_reducible refine (spec_JobCost.calls k t680 _ _ t681 _ _ t684 _ _ t687 _ _ t690 t695 _ ?side1 ?side2 ?side3 ?side4 ?side5 ?side6 ?side7 ?side8 A14.out).mono ?_); (case side1 => repeat (first | exact (Kd.R_reads' HO683.out).2.2 | (with_reducible refine Kd.C_alloc ?_ _) | (with_reducible refine Kd.C_drewN ?_ _) | (with_reducible refine Kd.C_drew ?_))); (case side2 => exact (Kd.R_reads' HO683.out).2.1); (case side3 => repeat (first | exact (Kd.R_reads' HO686.out).2.2 | (with_reducible refine Kd.C_alloc ?_ _) | (with_reducible refine Kd.C_drewN ?_ _) | (with_reducible refine Kd.C_drew ?_))); (case side4 => exact (Kd.R_reads' HO686.out).2.1); (case side5 => repeat (first | exact (Kd.R_reads' HO689.out).2.2 | (with_reducible refine Kd.C_alloc ?_ _) | (with_reducible refine Kd.C_drewN ?_ _) | (with_reducible refine Kd.C_drew ?_))); (case side6 => exact (Kd.R_reads' HO689.out).2.1); (case side7 => repeat (first | exact (Kd.R_reads' HO692.out).2.2 | (with_reducible refine Kd.C_alloc ?_ _) | (with_reducible refine Kd.C_drewN ?_ _) | (with_reducible refine Kd.C_drew ?_))); (case side8 => exact (Kd.R_reads' HO692.out).2.1); rintro e w19 ⟨rfl,hb⟩; refine ⟨_,rfl,?_⟩; have n0_:=zy (Kd.R_below HO683.out hb); have n1_:=zy (Kd.R_below HO686.out hb); have n2_:=zy (Kd.R_below HO689.out hb); have n3_:=zy (Kd.R_below HO692.out hb); have n4_:=zy (blk_below (g:=p3) (o:=.cells #[.int .i64 t680,.slice Ao9 t681.length co9] 25 (0,0)) p1.out hb); have n5_:=zy (below_step HB.out hb); clear HO683; clear HO686; clear HO689; clear HO692; clear p1; clear HB; have HO683:=n0_; have HO686:=n1_; have HO689:=n2_; have HO692:=n3_; have p1:=n4_; have HB:=n5_; clear n0_ n1_ n2_ n3_ n4_ n5_; (try clear hb); (try clear hb2); (try clear hk); (try clear hi)))
   go_meet
   case rel => exact ⟨_,(true),(by first | rfl | (simp; done) | (simp [*]; done)),H',⟨by first | omega | exact Nat.le_refl _⟩,⟨by (with_reducible repeat (first | apply Kd.R_alloc | apply Kd.R_drewN | apply Kd.R_drew)); exact HO686.out⟩,⟨by (with_reducible repeat (first | apply Kd.R_alloc | apply Kd.R_drewN | apply Kd.R_drew)); exact HO689.out⟩,⟨by (with_reducible repeat (first | apply Kd.R_alloc | apply Kd.R_drewN | apply Kd.R_drew)); exact HO692.out⟩,⟨by (with_reducible repeat (first | apply Kd.R_alloc | apply Kd.R_drewN | apply Kd.R_drew)); exact HO683.out⟩,⟨by (with_reducible repeat (first | refine blk_drewN ?_ _ | refine blk_drew ?_ | refine blk_alloc ?_ _)); exact p1.out⟩,⟨by repeat (first | (with_reducible first | exact HB.out | apply below_alloc | apply pw_below_drewN | apply below_drew1 | refine below_set ?_ p6.out) | exact HB.out)⟩⟩
  rw [if_pos c15] at H;have c15b0 : (t694 == t695) = true:=beq_iff_eq.mpr c15;have c15b1 : (t694 != t695) = false:=bne_eq_false_iff_eq.mpr c15;clear c15
  (first | rw [c15b0] | (simp only [i64_w,i32_w]; rw [c15b0]) | skip)
  have H':=zy H;clear H;have q1 : w13.cell? ⟨p3,0,none⟩ = some (.int .i64 t680):=(blk_cell p1.out 0).trans rfl;have q2 : w13.cell? ⟨p3,1,none⟩ = some (.slice Ao9 t681.length co9):=(blk_cell p1.out 1).trans rfl;have q3:=blk_frozen p1.out 0;have q4:=blk_frozen p1.out 1
  go_wp2_with (first | ((with_reducible refine gate_callee (f:=21) rfl ?_); refine goesL_ (some 33) rfl rfl Try.func21 (by kernel_rfl) rfl #[.agg #[.int .i64 t680,.slice Ao9 t681.length co9],.slice Ao10 t684.length co10,.slice Ao11 t687.length co11,.slice Ao12 t690.length co12] rfl (by (try simp only [List.map_toArray,List.map_cons,List.map_nil]); first | done | rfl | (simp only [List.length_drop,List.length_take]; rfl)) ?_; (with_reducible refine (spec_JobCost.calls k t680 _ _ t681 _ _ t684 _ _ t687 _ _ t690 t695 _ ?side1 ?side2 ?side3 ?side4 ?side5 ?side6 ?side7 ?side8 A14.out).mono ?_); (case side1 => repeat (first | exact (Kd.R_reads' HO683.out).2.2 | (with_reducible refine Kd.C_alloc ?_ _) | (with_reducible refine Kd.C_drewN ?_ _) | (with_reducible refine Kd.C_drew ?_))); (case side2 => exact (Kd.R_reads' HO683.out).2.1); (case side3 => repeat (first | exact (Kd.R_reads' HO686.out).2.2 | (with_reducible refine Kd.C_alloc ?_ _) | (with_reducible refine Kd.C_drewN ?_ _) | (with_reducible refine Kd.C_drew ?_))); (case side4 => exact (Kd.R_reads' HO686.out).2.1); (case side5 => repeat (first | exact (Kd.R_reads' HO689.out).2.2 | (with_reducible refine Kd.C_alloc ?_ _) | (with_reducible refine Kd.C_drewN ?_ _) | (with_reducible refine Kd.C_drew ?_))); (case side6 => exact (Kd.R_reads' HO689.out).2.1); (case side7 => repeat (first | exact (Kd.R_reads' HO692.out).2.2 | (with_reducible refine Kd.C_alloc ?_ _) | (with_reducible refine Kd.C_drewN ?_ _) | (with_reducible refine Kd.C_drew ?_))); (case side8 => exact (Kd.R_reads' HO692.out).2.1); rintro e w17 ⟨rfl,hb⟩; refine ⟨_,rfl,?_⟩; have n0_:=zy (Kd.R_below HO683.out hb); have n1_:=zy (Kd.R_below HO686.out hb); have n2_:=zy (Kd.R_below HO689.out hb); have n3_:=zy (Kd.R_below HO692.out hb); have n4_:=zy (blk_below (g:=p3) (o:=.cells #[.int .i64 t680,.slice Ao9 t681.length co9] 25 (0,0)) p1.out hb); have n5_:=zy (below_step HB.out hb); clear HO683; clear HO686; clear HO689; clear HO692; clear p1; clear HB; have HO683:=n0_; have HO686:=n1_; have HO689:=n2_; have HO692:=n3_; have p1:=n4_; have HB:=n5_; clear n0_ n1_ n2_ n3_ n4_ n5_; (try clear hb); (try clear hb2); (try clear hk); (try clear hi)))
  go_meet
  case rel => exact ⟨_,(decide (t694 < 0)),(by first | rfl | (simp; done) | (simp [*]; done)),H',⟨by first | omega | exact Nat.le_refl _⟩,⟨by (with_reducible repeat (first | apply Kd.R_alloc | apply Kd.R_drewN | apply Kd.R_drew)); exact HO686.out⟩,⟨by (with_reducible repeat (first | apply Kd.R_alloc | apply Kd.R_drewN | apply Kd.R_drew)); exact HO689.out⟩,⟨by (with_reducible repeat (first | apply Kd.R_alloc | apply Kd.R_drewN | apply Kd.R_drew)); exact HO692.out⟩,⟨by (with_reducible repeat (first | apply Kd.R_alloc | apply Kd.R_drewN | apply Kd.R_drew)); exact HO683.out⟩,⟨by (with_reducible repeat (first | refine blk_drewN ?_ _ | refine blk_drew ?_ | refine blk_alloc ?_ _)); exact p1.out⟩,⟨by repeat (first | (with_reducible first | exact HB.out | apply below_alloc | apply pw_below_drewN | apply below_drew1 | refine below_set ?_ p6.out) | exact HB.out)⟩⟩
 case rest =>
  clear HC5
  try clear c1
  try clear c2
  try clear c2b0
  try clear c2b1
  try clear p2
  try clear c6
  try clear c15
  try clear c15b0
  try clear c15b1
  try clear q1
  try clear q2
  try clear q5
  try clear q6
  try clear q9
  try clear r0
  try clear q3
  try clear q4
  try clear q7
  try clear q8
  try clear r1
  try clear r2
  obtain ⟨kq,q0,rfl,HA,HJ4,HO_4,HO_5,HO_6,p0,p1,HB⟩:=hcut;cases kq with
  | zero => exact absurd HA.out (by simp [laws_FnJobCost.j0])
  | succ kj4 =>
   have H:=HA.out;clear HA;simp only [laws_FnJobCost.j0] at H
   by_cases c20 : q0 = true
   case pos =>
    subst c20;have H1 : ((spec_JobCost.f kj4 t680 t681 t684 t687 t690).bind fun t696 => (some (t694 == t696))) = some r:=by rw [if_pos rfl] at H; exact H
    clear H;have H:=H1;clear H1;replace H:=Option.bind_eq_some_iff.mp H;obtain ⟨t696,A210,H⟩:=H;replace H : (some (t694 == t696)) = some r:=H;have A21:=zy A210;clear A210;obtain rfl:=Option.some.inj H;have r6 : wc.cell? ⟨p3,0,none⟩ = some (.int .i64 t680):=(blk_cell p1.out 0).trans rfl;have r7 : wc.cell? ⟨p3,1,none⟩ = some (.slice Ao9 t681.length co9):=(blk_cell p1.out 1).trans rfl;have r8:=blk_frozen p1.out 0;have r9:=blk_frozen p1.out 1
    go_wp2_with (first | ((with_reducible refine gate_callee (f:=21) rfl ?_); refine goesL_ (some 44) rfl rfl Try.func21 (by kernel_rfl) rfl #[.agg #[.int .i64 t680,.slice Ao9 t681.length co9],.slice Ao10 t684.length co10,.slice Ao11 t687.length co11,.slice Ao12 t690.length co12] rfl (by (try simp only [List.map_toArray,List.map_cons,List.map_nil]); first | done | rfl | (simp only [List.length_drop,List.length_take]; rfl)) ?_; (with_reducible refine (spec_JobCost.calls kj4 t680 _ _ t681 _ _ t684 _ _ t687 _ _ t690 t696 _ ?side1 ?side2 ?side3 ?side4 ?side5 ?side6 ?side7 ?side8 A21.out).mono ?_); (case side1 => repeat (first | exact (Kd.R_reads' p0.out).2.2 | (with_reducible refine Kd.C_alloc ?_ _) | (with_reducible refine Kd.C_drewN ?_ _) | (with_reducible refine Kd.C_drew ?_))); (case side2 => exact (Kd.R_reads' p0.out).2.1); (case side3 => repeat (first | exact (Kd.R_reads' HO_4.out).2.2 | (with_reducible refine Kd.C_alloc ?_ _) | (with_reducible refine Kd.C_drewN ?_ _) | (with_reducible refine Kd.C_drew ?_))); (case side4 => exact (Kd.R_reads' HO_4.out).2.1); (case side5 => repeat (first | exact (Kd.R_reads' HO_5.out).2.2 | (with_reducible refine Kd.C_alloc ?_ _) | (with_reducible refine Kd.C_drewN ?_ _) | (with_reducible refine Kd.C_drew ?_))); (case side6 => exact (Kd.R_reads' HO_5.out).2.1); (case side7 => repeat (first | exact (Kd.R_reads' HO_6.out).2.2 | (with_reducible refine Kd.C_alloc ?_ _) | (with_reducible refine Kd.C_drewN ?_ _) | (with_reducible refine Kd.C_drew ?_))); (case side8 => exact (Kd.R_reads' HO_6.out).2.1); rintro e w23 ⟨rfl,hb⟩; refine ⟨_,rfl,?_⟩; have n0_:=zy (Kd.R_below HO_4.out hb); have n1_:=zy (Kd.R_below HO_5.out hb); have n2_:=zy (Kd.R_below HO_6.out hb); have n3_:=zy (Kd.R_below p0.out hb); have n4_:=zy (blk_below (g:=p3) (o:=.cells #[.int .i64 t680,.slice Ao9 t681.length co9] 25 (0,0)) p1.out hb); have n5_:=zy (below_step HB.out hb); clear HO_4; clear HO_5; clear HO_6; clear p0; clear p1; clear HB; have HO_4:=n0_; have HO_5:=n1_; have HO_6:=n2_; have p0:=n3_; have p1:=n4_; have HB:=n5_; clear n0_ n1_ n2_ n3_ n4_ n5_; (try clear hb); (try clear hb2); (try clear hk); (try clear hi)))
    go_ret;exact ⟨by first | rfl | (simp [errW_none,errW_some] <;> rfl) | (simp [*,errW_none,errW_some] <;> rfl),by repeat (first | (with_reducible first | exact HB.out | apply below_alloc | apply pw_below_drewN | apply below_drew1 | refine below_set ?_ p6.out) | exact HB.out)⟩
   replace c20:=Bool.eq_false_iff.mpr c20;subst c20;have H1 : (laws_FnJobCost.l0 kj4 t684 t687 t690 t694 0 0 t680 t681) = some r:=by rw [if_neg (show ¬ (false = true) by decide)] at H; exact H
   clear H;have H:=H1;clear H1;have H':=zy H;clear H
   go_wp2
   go_loopg [8,9] kj4 (fun kq v8 v9 w' => ∃ (x8_2 : Int) (x9_2 : Int),v8 = .int .i64 x8_2 ∧ v9 = .int .i64 x9_2 ∧ Aside0 (laws_FnJobCost.l0 kq t684 t687 t690 t694 x8_2 x9_2 t680 t681 = some r) ∧ Aside0 (kq ≤ kj4) ∧ Aside0 (Kd.R (Kd.int .i64) 3 w' w.heap.size (fun k_ => some k_ ≠ ((.slice Ao11 t687.length co11) : Value).ownBlock ∧ some k_ ≠ ((.slice Ao12 t690.length co12) : Value).ownBlock) (.slice Ao10 t684.length co10) t684) ∧ Aside0 (Kd.R (Kd.int .i64) 3 w' w.heap.size (fun k_ => some k_ ≠ ((.slice Ao10 t684.length co10) : Value).ownBlock ∧ some k_ ≠ ((.slice Ao12 t690.length co12) : Value).ownBlock) (.slice Ao11 t687.length co11) t687) ∧ Aside0 (Kd.R (Kd.int .i64) 3 w' w.heap.size (fun k_ => some k_ ≠ ((.slice Ao10 t684.length co10) : Value).ownBlock ∧ some k_ ≠ ((.slice Ao11 t687.length co11) : Value).ownBlock) (.slice Ao12 t690.length co12) t690) ∧ Aside0 (Kd.R k80 80 w' w.heap.size (fun _ => True) (.slice Ao9 t681.length co9) t681) ∧ Aside0 (w'.heap[p3]? = some (.cells #[.int .i64 t680,(.slice Ao9 t681.length co9)] 25 (0,0))) ∧ Aside0 (Below w.heap.size w w'))
   case atStart => exact ⟨(0),(0),(by first | rfl | (simp; done) | (simp [*]; done)),(by first | rfl | (simp; done) | (simp [*]; done)),H',⟨Nat.le_refl _⟩,⟨by (with_reducible repeat (first | apply Kd.R_alloc | apply Kd.R_drewN | apply Kd.R_drew)); exact HO_4.out⟩,⟨by (with_reducible repeat (first | apply Kd.R_alloc | apply Kd.R_drewN | apply Kd.R_drew)); exact HO_5.out⟩,⟨by (with_reducible repeat (first | apply Kd.R_alloc | apply Kd.R_drewN | apply Kd.R_drew)); exact HO_6.out⟩,⟨by (with_reducible repeat (first | apply Kd.R_alloc | apply Kd.R_drewN | apply Kd.R_drew)); exact p0.out⟩,⟨by (with_reducible repeat (first | refine blk_drewN ?_ _ | refine blk_drew ?_ | refine blk_alloc ?_ _)); exact p1.out⟩,⟨by repeat (first | (with_reducible first | exact HB.out | apply below_alloc | apply pw_below_drewN | apply below_drew1 | refine below_set ?_ p6.out) | exact HB.out)⟩⟩
   case round =>
    clear H'
    try clear c1
    try clear c2
    try clear c2b0
    try clear c2b1
    try clear p2
    try clear c6
    try clear c15
    try clear c15b0
    try clear c15b1
    try clear c20
    try clear c21
    try clear c22
    try clear c23
    try clear q1
    try clear q2
    try clear q5
    try clear q6
    try clear r6
    try clear r7
    try clear q9
    try clear r0
    try clear q3
    try clear q4
    try clear q7
    try clear q8
    try clear r8
    try clear r9
    try clear r1
    try clear r2
    try clear p2
    obtain ⟨x8_2,x9_2,rfl,rfl,HA,HK2,HO_4,HO_5,HO_6,p0,p1,HB⟩:=hrel;cases gk with
    | zero => exact absurd HA.out (by simp [laws_FnJobCost.l0])
    | succ k2 =>
     have H:=HA.out;clear HA;simp only [laws_FnJobCost.l0] at H
     by_cases c24 : x9_2 < (t690.length : Int)
     case neg =>
      rw [if_neg c24] at H;have c24b0 : decide (x9_2 < (t690.length : Int)) = false:=decide_eq_false c24;clear c24;replace H:=Option.bind_eq_some_iff.mp H;obtain ⟨⟨t704,t707⟩,A430,H⟩:=H;replace H : (if t694 = x8_2 then (some (decide (t707 ≤ t694))) else (some false)) = some r:=H;have A43:=zy A430;clear A430
      by_cases c44 : t694 = x8_2
      case neg =>
       rw [if_neg c44] at H;have c44b0 : (t694 == x8_2) = false:=beq_eq_false_iff_ne.mpr c44;have c44b1 : (t694 != x8_2) = true:=bne_iff_ne.mpr c44;obtain rfl:=Option.some.inj H;have hcz47_0 : wr.cell? ⟨p3,0,none⟩ = some (.int .i64 t680):=(blk_cell p1.out 0).trans rfl;have hcz47_1 : wr.cell? ⟨p3,1,none⟩ = some (.slice Ao9 t681.length co9):=(blk_cell p1.out 1).trans rfl;have hfz47_0:=blk_frozen p1.out 0;have hfz47_1:=blk_frozen p1.out 1
       go_wp2_with (first | ((with_reducible refine gate_callee (f:=9) rfl ?_); refine goesL_ (some 80) rfl rfl Try.func9 (by kernel_rfl) rfl #[.agg #[.int .i64 t680,.slice Ao9 t681.length co9],.slice Ao10 t684.length co10,.slice Ao11 t687.length co11] rfl (by (try simp only [List.map_toArray,List.map_cons,List.map_nil]); first | done | rfl | (simp only [List.length_drop,List.length_take]; rfl)) ?_; (with_reducible refine (impl_JobBest.calls k2 t680 _ _ t681 _ _ t684 _ _ t687 t704 t707 _ ?side1 ?side2 ?side3 ?side4 ?side5 ?side6 A43.out).mono ?_); (case side1 => repeat (first | exact (Kd.R_reads' p0.out).2.2 | (with_reducible refine Kd.C_alloc ?_ _) | (with_reducible refine Kd.C_drewN ?_ _) | (with_reducible refine Kd.C_drew ?_))); (case side2 => exact (Kd.R_reads' p0.out).2.1); (case side3 => repeat (first | exact (Kd.R_reads' HO_4.out).2.2 | (with_reducible refine Kd.C_alloc ?_ _) | (with_reducible refine Kd.C_drewN ?_ _) | (with_reducible refine Kd.C_drew ?_))); (case side4 => exact (Kd.R_reads' HO_4.out).2.1); (case side5 => repeat (first | exact (Kd.R_reads' HO_5.out).2.2 | (with_reducible refine Kd.C_alloc ?_ _) | (with_reducible refine Kd.C_drewN ?_ _) | (with_reducible refine Kd.C_drew ?_))); (case side6 => exact (Kd.R_reads' HO_5.out).2.1); rintro e w48 ⟨v705,rfl,ho0,hb⟩; refine ⟨_,rfl,?_⟩; have n0_:=zy (Kd.R_elder' HO_4.out (Kd.R_base ho0) hb); have n1_:=zy (Kd.R_elder' HO_5.out (Kd.R_base ho0) hb); have n2_:=zy (Kd.R_elder' HO_6.out (Kd.R_base ho0) hb); have n3_:=zy (Kd.R_below p0.out hb); have n4_:=zy (Kd.R_lower (Kd.R_new' (Kd.R_new' (Kd.R_new' ho0 (Kd.R_lt HO_4.out)) (Kd.R_lt HO_5.out)) (Kd.R_lt HO_6.out)) (below_size HB.out)); have n5_:=zy (blk_below (g:=p3) (o:=.cells #[.int .i64 t680,.slice Ao9 t681.length co9] 25 (0,0)) p1.out hb); have n6_:=zy (below_step HB.out hb); clear HO_4; clear HO_5; clear HO_6; clear p0; clear p1; clear HB; have HO_4:=n0_; have HO_5:=n1_; have HO_6:=n2_; have p0:=n3_; have HO706:=n4_; have p1:=n5_; have HB:=n6_; clear n0_ n1_ n2_ n3_ n4_ n5_ n6_; (try clear hb); (try clear hb2); (try clear hk); (try clear hi); (try clear ho0)))
       go_ret;exact ⟨by first | rfl | (simp [errW_none,errW_some] <;> rfl) | (simp [*,errW_none,errW_some] <;> rfl),by repeat (first | (with_reducible first | exact HB.out | apply below_alloc | apply pw_below_drewN | apply below_drew1 | refine below_set ?_ p6.out) | exact HB.out)⟩
      rw [if_pos c44] at H;have c44b0 : (t694 == x8_2) = true:=beq_iff_eq.mpr c44;have c44b1 : (t694 != x8_2) = false:=bne_eq_false_iff_eq.mpr c44;clear c44;obtain rfl:=Option.some.inj H;have hcz45_0 : wr.cell? ⟨p3,0,none⟩ = some (.int .i64 t680):=(blk_cell p1.out 0).trans rfl;have hcz45_1 : wr.cell? ⟨p3,1,none⟩ = some (.slice Ao9 t681.length co9):=(blk_cell p1.out 1).trans rfl;have hfz45_0:=blk_frozen p1.out 0;have hfz45_1:=blk_frozen p1.out 1
      go_wp2_with (first | ((with_reducible refine gate_callee (f:=9) rfl ?_); refine goesL_ (some 80) rfl rfl Try.func9 (by kernel_rfl) rfl #[.agg #[.int .i64 t680,.slice Ao9 t681.length co9],.slice Ao10 t684.length co10,.slice Ao11 t687.length co11] rfl (by (try simp only [List.map_toArray,List.map_cons,List.map_nil]); first | done | rfl | (simp only [List.length_drop,List.length_take]; rfl)) ?_; (with_reducible refine (impl_JobBest.calls k2 t680 _ _ t681 _ _ t684 _ _ t687 t704 t707 _ ?side1 ?side2 ?side3 ?side4 ?side5 ?side6 A43.out).mono ?_); (case side1 => repeat (first | exact (Kd.R_reads' p0.out).2.2 | (with_reducible refine Kd.C_alloc ?_ _) | (with_reducible refine Kd.C_drewN ?_ _) | (with_reducible refine Kd.C_drew ?_))); (case side2 => exact (Kd.R_reads' p0.out).2.1); (case side3 => repeat (first | exact (Kd.R_reads' HO_4.out).2.2 | (with_reducible refine Kd.C_alloc ?_ _) | (with_reducible refine Kd.C_drewN ?_ _) | (with_reducible refine Kd.C_drew ?_))); (case side4 => exact (Kd.R_reads' HO_4.out).2.1); (case side5 => repeat (first | exact (Kd.R_reads' HO_5.out).2.2 | (with_reducible refine Kd.C_alloc ?_ _) | (with_reducible refine Kd.C_drewN ?_ _) | (with_reducible refine Kd.C_drew ?_))); (case side6 => exact (Kd.R_reads' HO_5.out).2.1); rintro e w46 ⟨v705,rfl,ho0,hb⟩; refine ⟨_,rfl,?_⟩; have n0_:=zy (Kd.R_elder' HO_4.out (Kd.R_base ho0) hb); have n1_:=zy (Kd.R_elder' HO_5.out (Kd.R_base ho0) hb); have n2_:=zy (Kd.R_elder' HO_6.out (Kd.R_base ho0) hb); have n3_:=zy (Kd.R_below p0.out hb); have n4_:=zy (Kd.R_lower (Kd.R_new' (Kd.R_new' (Kd.R_new' ho0 (Kd.R_lt HO_4.out)) (Kd.R_lt HO_5.out)) (Kd.R_lt HO_6.out)) (below_size HB.out)); have n5_:=zy (blk_below (g:=p3) (o:=.cells #[.int .i64 t680,.slice Ao9 t681.length co9] 25 (0,0)) p1.out hb); have n6_:=zy (below_step HB.out hb); clear HO_4; clear HO_5; clear HO_6; clear p0; clear p1; clear HB; have HO_4:=n0_; have HO_5:=n1_; have HO_6:=n2_; have p0:=n3_; have HO706:=n4_; have p1:=n5_; have HB:=n6_; clear n0_ n1_ n2_ n3_ n4_ n5_ n6_; (try clear hb); (try clear hb2); (try clear hk); (try clear hi); (try clear ho0)))
      go_ret;exact ⟨by first | rfl | (simp [errW_none,errW_some] <;> rfl) | (simp [*,errW_none,errW_some] <;> rfl),by repeat (first | (with_reducible first | exact HB.out | apply below_alloc | apply pw_below_drewN | apply below_drew1 | refine below_set ?_ p6.out) | exact HB.out)⟩
     rw [if_pos c24] at H;have c24b0 : decide (x9_2 < (t690.length : Int)) = true:=decide_eq_true c24;clear c24
     by_cases c25 : 0 ≤ x9_2
     case neg =>
      rw [if_neg c25] at H;exact absurd H (by simp)
     rw [if_pos c25] at H;have c25b0 : decide (0 ≤ x9_2) = true:=decide_eq_true c25;clear c25
     by_cases c26 : x9_2 < (t684.length : Int)
     case neg =>
      rw [if_neg c26] at H;exact absurd H (by simp)
     rw [if_pos c26] at H;have c26b0 : decide (x9_2 < (t684.length : Int)) = true:=decide_eq_true c26;clear c26;replace H:=Option.bind_eq_some_iff.mp H;obtain ⟨t698,A270,H⟩:=H;replace H : (if 0 ≤ (rd t690 x9_2) then (if (rd t690 x9_2) < (t687.length : Int) then (if 0 ≤ (rd t687 (rd t690 x9_2)) then (if (rd t687 (rd t690 x9_2)) < (t698.length : Int) then (if (rd t698 (rd t687 (rd t690 x9_2))) = 99999 then (laws_FnJobCost.l0 k2 t684 t687 t690 t694 99999 (wrap64 (x9_2 + 1)) t680 t681) else (if x8_2 = 99999 then (laws_FnJobCost.l0 k2 t684 t687 t690 t694 99999 (wrap64 (x9_2 + 1)) t680 t681) else (laws_FnJobCost.l0 k2 t684 t687 t690 t694 (wrap64 (x8_2 + (rd t698 (rd t687 (rd t690 x9_2))))) (wrap64 (x9_2 + 1)) t680 t681))) else (none)) else (none)) else (none)) else (none)) = some r:=H;have A27:=zy A270;clear A270
     by_cases c28 : 0 ≤ (rd t690 x9_2)
     case neg =>
      rw [if_neg c28] at H;exact absurd H (by simp)
     rw [if_pos c28] at H;have c28b0 : decide (0 ≤ (rd t690 x9_2)) = true:=decide_eq_true c28;clear c28
     by_cases c29 : (rd t690 x9_2) < (t687.length : Int)
     case neg =>
      rw [if_neg c29] at H;exact absurd H (by simp)
     rw [if_pos c29] at H;have c29b0 : decide ((rd t690 x9_2) < (t687.length : Int)) = true:=decide_eq_true c29;clear c29
     by_cases c30 : 0 ≤ (rd t687 (rd t690 x9_2))
     case neg =>
      rw [if_neg c30] at H;exact absurd H (by simp)
     rw [if_pos c30] at H;have c30b0 : decide (0 ≤ (rd t687 (rd t690 x9_2))) = true:=decide_eq_true c30;clear c30
     by_cases c31 : (rd t687 (rd t690 x9_2)) < (t698.length : Int)
     case neg =>
      rw [if_neg c31] at H;exact absurd H (by simp)
     rw [if_pos c31] at H;have c31b0 : decide ((rd t687 (rd t690 x9_2)) < (t698.length : Int)) = true:=decide_eq_true c31;clear c31
     by_cases c32 : (rd t698 (rd t687 (rd t690 x9_2))) = 99999
     case pos =>
      rw [if_pos c32] at H;have c32b0 : ((rd t698 (rd t687 (rd t690 x9_2))) == 99999) = true:=beq_iff_eq.mpr c32;have c32b1 : ((rd t698 (rd t687 (rd t690 x9_2))) != 99999) = false:=bne_eq_false_iff_eq.mpr c32;clear c32;have H':=zy H;clear H
      try go_wp2
      have n0_:=zy (Kd.R_drew HO_4.out);have n1_:=zy (Kd.R_drew HO_5.out);have n2_:=zy (Kd.R_drew HO_6.out);have n3_:=zy (Kd.R_drew p0.out);have n4_:=zy (blk_drew p1.out);have n5_:=zy (below_drew1 HB.out);clear HO_4;clear HO_5;clear HO_6;clear p0;clear p1;clear HB;have HO_4:=n0_;have HO_5:=n1_;have HO_6:=n2_;have p0:=n3_;have p1:=n4_;have HB:=n5_;clear n0_ n1_ n2_ n3_ n4_ n5_;have p697 : 0 ≤ (x9_2 : Int):=of_decide_eq_true (by first | (with_reducible assumption) | assumption);have q697 : x9_2 < (t684.length : Int):=of_decide_eq_true (by first | (with_reducible assumption) | assumption);obtain ⟨r3,e697,p7⟩:=Kd.at_int (Kd.R_reads' HO_4.out).2.2 x9_2 p697 q697;cases e697;replace p697:=eq_true p697;replace q697:=eq_true q697;have p701 : 0 ≤ (x9_2 : Int):=of_decide_eq_true (by first | (with_reducible assumption) | assumption);have q701 : x9_2 < (t690.length : Int):=of_decide_eq_true (by first | (with_reducible assumption) | assumption);obtain ⟨r4,e701,p8⟩:=Kd.at_int (Kd.R_reads' HO_6.out).2.2 x9_2 p701 q701;cases e701;replace p701:=eq_true p701;replace q701:=eq_true q701;have p702 : 0 ≤ ((rd t690 x9_2) : Int):=of_decide_eq_true (by first | (with_reducible assumption) | assumption);have q702 : (rd t690 x9_2) < (t687.length : Int):=of_decide_eq_true (by first | (with_reducible assumption) | assumption);obtain ⟨r5,e702,p9⟩:=Kd.at_int (Kd.R_reads' HO_5.out).2.2 (rd t690 x9_2) p702 q702;cases e702;replace p702:=eq_true p702;replace q702:=eq_true q702;refine start_ (n:=16) (S:=fun w' => w'.cell? ⟨p3,0,none⟩ = some (.int .i64 t680) ∧ w'.cell? ⟨p3,1,none⟩ = some (.slice Ao9 t681.length co9) ∧ w'.cell? (r3.add (x9_2).toNat) = some (.int .i64 (rd t684 x9_2)) ∧ w'.cell? (r4.add (x9_2).toNat) = some (.int .i64 (rd t690 x9_2)) ∧ w'.cell? (r5.add ((rd t690 x9_2)).toNat) = some (.int .i64 (rd t687 (rd t690 x9_2)))) (ds:=[]) #[U,U,U,U,U,U,U,U,U,U,U,U,U,U,U,U] (by kernel_rfl) rfl rfl ⟨(blk_cell p1.out 0).trans rfl,(blk_cell p1.out 1).trans rfl,p7,p8,p9⟩ (fun hHeld => ?_); refine with_tabW laws_FnJobCost.tab11 laws_FnJobCost.bits11 (fun HT_ HW_ => ?_);generalize wr.drew = w33 at HO_4 HO_5 HO_6 p0 p1 HB p7 p8 p9 hHeld ⊢;refine pure_ (i:=1) (N:=some 53) (v:=?_) (a':=?_) #[U,Y,U,U,U,U,U,U,U,U,U,U,U,U,U,U] rfl rfl (any_of HT_.out (by kernel_rfl)) (fun _ _ _ h => h) (Or.inl ⟨by rfl,?_⟩) ?_ ?_;rotate_left
      ·intro w';go_simp;with_reducible rfl
      rotate_left
      ·simp only [Act.put,V,Z,zx,i64_w,i32_w];rfl
      refine pure_ (i:=2) (N:=some 54) (v:=?_) (a':=?_) #[U,Y,Y,U,U,U,U,U,U,U,U,U,U,U,U,U] rfl rfl (any_of HT_.out (by kernel_rfl)) (fun _ _ _ h => h) (Or.inl ⟨by rfl,?_⟩) ?_ ?_;rotate_left
      ·intro w';go_simp;with_reducible rfl
      rotate_left
      ·simp only [Act.put,V,Z,zx,i64_w,i32_w];rfl
      refine pure_ (i:=3) (N:=some 55) (v:=?_) (a':=?_) #[U,Y,Y,Y,U,U,U,U,U,U,U,U,U,U,U,U] rfl rfl (any_of HT_.out (by kernel_rfl)) (fun _ _ _ h => h) (Or.inl ⟨by rfl,?_⟩) ?_ ?_;rotate_left
      ·intro w';go_simp;with_reducible rfl
      rotate_left
      ·simp only [Act.put,V,Z,zx,i64_w,i32_w];rfl
      refine pure_ (i:=6) (N:=some 58) (v:=?_) (a':=?_) #[U,Y,Y,Y,U,U,Y,U,U,U,U,U,U,U,U,U] rfl rfl (any_of HT_.out (by kernel_rfl)) (fun _ _ _ h => h) (Or.inl ⟨by rfl,?_⟩) ?_ ?_;rotate_left
      ·intro w';go_simp;with_reducible rfl
      rotate_left
      ·simp only [Act.put,V,Z,zx,i64_w,i32_w];rfl
      refine pure_ (i:=7) (N:=some 59) (v:=?_) (a':=?_) #[U,Y,Y,Y,U,U,Y,Y,U,U,U,U,U,U,U,U] rfl rfl (any_of HT_.out (by kernel_rfl)) (fun _ _ _ h => h) (Or.inl ⟨by rfl,?_⟩) ?_ ?_;rotate_left
      ·intro w';go_simp;with_reducible rfl
      rotate_left
      ·simp only [Act.put,V,Z,zx,i64_w,i32_w];rfl
      refine pure_ (i:=8) (N:=some 60) (v:=?_) (a':=?_) #[U,Y,Y,Y,U,U,Y,Y,Y,U,U,U,U,U,U,U] rfl rfl (any_of HT_.out (by kernel_rfl)) (fun _ _ _ h => h) (Or.inl ⟨by rfl,?_⟩) ?_ ?_;rotate_left
      ·intro w';go_simp;with_reducible rfl
      rotate_left
      ·simp only [Act.put,V,Z,zx,i64_w,i32_w];rfl
      refine pure_ (i:=9) (N:=some 61) (v:=?_) (a':=?_) #[U,Y,Y,Y,U,U,Y,Y,Y,Y,U,U,U,U,U,U] rfl rfl (any_of HT_.out (by kernel_rfl)) (fun _ _ _ h => h) (Or.inl ⟨by rfl,?_⟩) ?_ ?_;rotate_left
      ·intro w';go_simp;with_reducible rfl
      rotate_left
      ·simp only [Act.put,V,Z,zx,i64_w,i32_w];rfl
      refine take_ (i:=0) (N:=some 52) (v:=?_) (a':=?_) #[Y,Y,Y,Y,U,U,Y,Y,Y,Y,U,U,U,U,U,U] rfl rfl (take_ofW HT_.out HW_.out (by kernel_rfl)) (fun _ _ _ h => h) (Or.inl ⟨by rfl,?_⟩) hHeld ?_ ?_;rotate_left
      ·rintro w' ⟨s0,s1,s2,s3,s4⟩;go_simp;with_reducible rfl
      rotate_left
      ·simp only [Act.put,V,Z,zx,i64_w,i32_w];rfl
      refine take_ (i:=4) (N:=some 56) (v:=?_) (a':=?_) #[Y,Y,Y,Y,Y,U,Y,Y,Y,Y,U,U,U,U,U,U] rfl rfl (take_ofW HT_.out HW_.out (by kernel_rfl)) (fun _ _ _ h => h) (Or.inl ⟨by rfl,?_⟩) hHeld ?_ ?_;rotate_left
      ·rintro w' ⟨s0,s1,s2,s3,s4⟩;go_simp;with_reducible rfl
      rotate_left
      ·simp only [Act.put,V,Z,zx,i64_w,i32_w];rfl
      refine take_ (i:=10) (N:=some 62) (v:=?_) (a':=?_) #[Y,Y,Y,Y,Y,U,Y,Y,Y,Y,Y,U,U,U,U,U] rfl rfl (take_ofW HT_.out HW_.out (by kernel_rfl)) (fun _ _ _ h => h) (Or.inl ⟨by rfl,?_⟩) hHeld ?_ ?_;rotate_left
      ·rintro w' ⟨s0,s1,s2,s3,s4⟩;go_simp;with_reducible rfl
      rotate_left
      ·simp only [Act.put,V,Z,zx,i64_w,i32_w];rfl
      refine pure_ (i:=11) (N:=some 63) (v:=?_) (a':=?_) #[Y,Y,Y,Y,Y,U,Y,Y,Y,Y,Y,Y,U,U,U,U] rfl rfl (any_of HT_.out (by kernel_rfl)) (fun _ _ _ h => h) (Or.inl ⟨by rfl,?_⟩) ?_ ?_;rotate_left
      ·intro w';go_simp;with_reducible rfl
      rotate_left
      ·simp only [Act.put,V,Z,zx,i64_w,i32_w];rfl
      refine take_ (i:=12) (N:=some 64) (v:=?_) (a':=?_) #[Y,Y,Y,Y,Y,U,Y,Y,Y,Y,Y,Y,Y,U,U,U] rfl rfl (take_ofW HT_.out HW_.out (by kernel_rfl)) (fun _ _ _ h => h) (Or.inl ⟨by rfl,?_⟩) hHeld ?_ ?_;rotate_left
      ·rintro w' ⟨s0,s1,s2,s3,s4⟩;go_simp;with_reducible rfl
      rotate_left
      ·simp only [Act.put,V,Z,zx,i64_w,i32_w];rfl
      refine one_ (i:=5) (N:=some 57) #[Y,Y,Y,Y,Y,Y,Y,Y,Y,Y,Y,Y,Y,U,U,U] rfl rfl (one_of HT_.out (by kernel_rfl)) (by decide) (fun K hK => ?_);refine goes_ Try.func24 (by kernel_rfl) rfl #[.agg #[.int .i64 t680,.slice Ao9 t681.length co9],.int .i64 (rd t684 x9_2)] (by rfl) rfl rfl (by (try simp only [List.map_toArray,List.map_cons,List.map_nil]); first | done | rfl | (simp only [List.length_drop,List.length_take]; rfl)) ?_;with_reducible refine (impl_NearAll.calls k2 t680 _ _ t681 (rd t684 x9_2) t698 _ ?side1 ?side2 A27.out).mono ?_
      (case side1 => repeat (first | exact (Kd.R_reads' p0.out).2.2 | (with_reducible refine Kd.C_alloc ?_ _) | (with_reducible refine Kd.C_drewN ?_ _) | (with_reducible refine Kd.C_drew ?_)))
      (case side2 => exact (Kd.R_reads' p0.out).2.1)
      rintro e w34 ⟨v699,rfl,ho0,hb⟩;have HS2_:=(hb.cell (World.block_lt_of_cell? _ _ (hHeld.2.2.1))).trans (hHeld.2.2.1);have HS3_:=(hb.cell (World.block_lt_of_cell? _ _ (hHeld.2.2.2.1))).trans (hHeld.2.2.2.1);have HS4_:=(hb.cell (World.block_lt_of_cell? _ _ (hHeld.2.2.2.2))).trans (hHeld.2.2.2.2);refine ⟨_,rfl,?_⟩;have n0_:=zy (Kd.R_elder' HO_4.out (Kd.R_base ho0) hb);have n1_:=zy (Kd.R_elder' HO_5.out (Kd.R_base ho0) hb);have n2_:=zy (Kd.R_elder' HO_6.out (Kd.R_base ho0) hb);have n3_:=zy (Kd.R_below p0.out hb);have n4_:=zy (Kd.R_lower (Kd.R_new' (Kd.R_new' (Kd.R_new' ho0 (Kd.R_lt HO_4.out)) (Kd.R_lt HO_5.out)) (Kd.R_lt HO_6.out)) (below_size HB.out));have n5_:=zy (blk_below (g:=p3) (o:=.cells #[.int .i64 t680,.slice Ao9 t681.length co9] 25 (0,0)) p1.out hb);have n6_:=zy (below_step HB.out hb);clear HO_4;clear HO_5;clear HO_6;clear p0;clear p1;clear HB;have HO_4:=n0_;have HO_5:=n1_;have HO_6:=n2_;have p0:=n3_;have HO700:=n4_;have p1:=n5_;have HB:=n6_;clear n0_ n1_ n2_ n3_ n4_ n5_ n6_
      (try clear hb)
      (try clear hb2)
      (try clear hk)
      (try clear hi)
      (try clear ho0)
      obtain ⟨Ao35,co35,eo35⟩:=Kd.R_slice HO700.out
      (first | subst eo35 | (injection eo35 with f1_ f2_ f3_; have f4_:=f1_.symm; have f5_:=f3_.symm; clear f1_ f2_ f3_; subst f4_; subst f5_))
      have p703 : 0 ≤ ((rd t687 (rd t690 x9_2)) : Int):=of_decide_eq_true (by first | (with_reducible assumption) | assumption);have q703 : (rd t687 (rd t690 x9_2)) < (t698.length : Int):=of_decide_eq_true (by first | (with_reducible assumption) | assumption);obtain ⟨ad703,e703,s5⟩:=Kd.at_int (Kd.R_reads' HO700.out).2.2 (rd t687 (rd t690 x9_2)) p703 q703;cases e703;replace p703:=eq_true p703;replace q703:=eq_true q703;refine hK.out _ _ ⟨(blk_cell p1.out 0).trans rfl,(blk_cell p1.out 1).trans rfl,HS2_,HS3_,HS4_⟩ (fun hHeld => ?_);clear hK K;refine norm_ (a':=?_) ?_ ?_;rotate_left
      ·show Act.put _ (some 57) _ = _
       simp only [Act.put,V,Z,zx,i64_w,i32_w];rfl
      refine pure_ (i:=13) (N:=some 65) (v:=?_) (a':=?_) #[Y,Y,Y,Y,Y,Y,Y,Y,Y,Y,Y,Y,Y,Y,U,U] rfl rfl (any_of HT_.out (by kernel_rfl)) (fun _ _ _ h => h) (Or.inl ⟨by rfl,?_⟩) ?_ ?_;rotate_left
      ·intro w';go_simp;with_reducible rfl
      rotate_left
      ·simp only [Act.put,V,Z,zx,i64_w,i32_w];rfl
      refine one_ (i:=14) (N:=some 66) #[Y,Y,Y,Y,Y,Y,Y,Y,Y,Y,Y,Y,Y,Y,Y,U] rfl rfl (one_of HT_.out (by kernel_rfl)) (by decide) (fun K hK => ?_);refine value_ (w1:=w34) (v:=.int .i64 (rd t698 (rd t687 (rd t690 x9_2)))) (by rfl) rfl ?_ ?_
      ·go_simp
       (try simp only [i64_w])
       try rfl
      refine hK.out _ _ ⟨(blk_cell p1.out 0).trans rfl,(blk_cell p1.out 1).trans rfl,HS2_,HS3_,HS4_⟩ (fun hHeld => ?_);clear hK K;refine norm_ (a':=?_) ?_ ?_;rotate_left
      ·show Act.put _ (some 66) _ = _
       simp only [Act.put,V,Z,zx,i64_w,i32_w];rfl
      refine pure_ (i:=15) (N:=some 10) (v:=?_) (a':=?_) #[Y,Y,Y,Y,Y,Y,Y,Y,Y,Y,Y,Y,Y,Y,Y,Y] rfl rfl (any_of HT_.out (by kernel_rfl)) (fun _ _ _ h => h) (Or.inl ⟨by rfl,?_⟩) ?_ ?_;rotate_left
      ·intro w';go_simp;with_reducible rfl
      rotate_left
      ·simp only [Act.put,V,Z,zx,i64_w,i32_w];rfl
      refine done_ (done_of HT_.out (by kernel_rfl)) ?_
      try go_wp2
      go_roundg k2
      case measure => have:=HJ4.out; have:=HK2.out; omega
      case rel => exact ⟨(99999),(wrap64 (x9_2 + 1)),(by first | rfl | (simp; done) | (simp [*]; done)),(by first | rfl | (simp; done) | (simp [*]; done)),H',⟨by have:=HJ4.out; have:=HK2.out; omega⟩,⟨by (with_reducible repeat (first | apply Kd.R_alloc | apply Kd.R_drewN | apply Kd.R_drew)); exact Kd.R_mono HO_4.out (fun _ hk => ⟨hk.1.1,hk.1.2⟩)⟩,⟨by (with_reducible repeat (first | apply Kd.R_alloc | apply Kd.R_drewN | apply Kd.R_drew)); exact Kd.R_mono HO_5.out (fun _ hk => ⟨hk.1.1,hk.1.2⟩)⟩,⟨by (with_reducible repeat (first | apply Kd.R_alloc | apply Kd.R_drewN | apply Kd.R_drew)); exact Kd.R_mono HO_6.out (fun _ hk => ⟨hk.1.1,hk.1.2⟩)⟩,⟨by (with_reducible repeat (first | apply Kd.R_alloc | apply Kd.R_drewN | apply Kd.R_drew)); exact p0.out⟩,⟨by (with_reducible repeat (first | refine blk_drewN ?_ _ | refine blk_drew ?_ | refine blk_alloc ?_ _)); exact p1.out⟩,⟨by repeat (first | (with_reducible first | exact HB.out | apply below_alloc | apply pw_below_drewN | apply below_drew1 | refine below_set ?_ p6.out) | exact HB.out)⟩⟩
     rw [if_neg c32] at H;have c32b0 : ((rd t698 (rd t687 (rd t690 x9_2))) == 99999) = false:=beq_eq_false_iff_ne.mpr c32;have c32b1 : ((rd t698 (rd t687 (rd t690 x9_2))) != 99999) = true:=bne_iff_ne.mpr c32;have HH_:=zy H;clear H
     try go_wp2
     have n0_:=zy (Kd.R_drew HO_4.out);have n1_:=zy (Kd.R_drew HO_5.out);have n2_:=zy (Kd.R_drew HO_6.out);have n3_:=zy (Kd.R_drew p0.out);have n4_:=zy (blk_drew p1.out);have n5_:=zy (below_drew1 HB.out);clear HO_4;clear HO_5;clear HO_6;clear p0;clear p1;clear HB;have HO_4:=n0_;have HO_5:=n1_;have HO_6:=n2_;have p0:=n3_;have p1:=n4_;have HB:=n5_;clear n0_ n1_ n2_ n3_ n4_ n5_;have p697 : 0 ≤ (x9_2 : Int):=of_decide_eq_true (by first | (with_reducible assumption) | assumption);have q697 : x9_2 < (t684.length : Int):=of_decide_eq_true (by first | (with_reducible assumption) | assumption);obtain ⟨r3,e697,p7⟩:=Kd.at_int (Kd.R_reads' HO_4.out).2.2 x9_2 p697 q697;cases e697;replace p697:=eq_true p697;replace q697:=eq_true q697;have p701 : 0 ≤ (x9_2 : Int):=of_decide_eq_true (by first | (with_reducible assumption) | assumption);have q701 : x9_2 < (t690.length : Int):=of_decide_eq_true (by first | (with_reducible assumption) | assumption);obtain ⟨r4,e701,p8⟩:=Kd.at_int (Kd.R_reads' HO_6.out).2.2 x9_2 p701 q701;cases e701;replace p701:=eq_true p701;replace q701:=eq_true q701;have p702 : 0 ≤ ((rd t690 x9_2) : Int):=of_decide_eq_true (by first | (with_reducible assumption) | assumption);have q702 : (rd t690 x9_2) < (t687.length : Int):=of_decide_eq_true (by first | (with_reducible assumption) | assumption);obtain ⟨r5,e702,p9⟩:=Kd.at_int (Kd.R_reads' HO_5.out).2.2 (rd t690 x9_2) p702 q702;cases e702;replace p702:=eq_true p702;replace q702:=eq_true q702;refine start_ (n:=16) (S:=fun w' => w'.cell? ⟨p3,0,none⟩ = some (.int .i64 t680) ∧ w'.cell? ⟨p3,1,none⟩ = some (.slice Ao9 t681.length co9) ∧ w'.cell? (r3.add (x9_2).toNat) = some (.int .i64 (rd t684 x9_2)) ∧ w'.cell? (r4.add (x9_2).toNat) = some (.int .i64 (rd t690 x9_2)) ∧ w'.cell? (r5.add ((rd t690 x9_2)).toNat) = some (.int .i64 (rd t687 (rd t690 x9_2)))) (ds:=[]) #[U,U,U,U,U,U,U,U,U,U,U,U,U,U,U,U] (by kernel_rfl) rfl rfl ⟨(blk_cell p1.out 0).trans rfl,(blk_cell p1.out 1).trans rfl,p7,p8,p9⟩ (fun hHeld => ?_); refine with_tabW laws_FnJobCost.tab11 laws_FnJobCost.bits11 (fun HT_ HW_ => ?_);generalize wr.drew = w37 at HO_4 HO_5 HO_6 p0 p1 HB p7 p8 p9 hHeld ⊢;refine pure_ (i:=1) (N:=some 53) (v:=?_) (a':=?_) #[U,Y,U,U,U,U,U,U,U,U,U,U,U,U,U,U] rfl rfl (any_of HT_.out (by kernel_rfl)) (fun _ _ _ h => h) (Or.inl ⟨by rfl,?_⟩) ?_ ?_;rotate_left
     ·intro w';go_simp;with_reducible rfl
     rotate_left
     ·simp only [Act.put,V,Z,zx,i64_w,i32_w];rfl
     refine pure_ (i:=2) (N:=some 54) (v:=?_) (a':=?_) #[U,Y,Y,U,U,U,U,U,U,U,U,U,U,U,U,U] rfl rfl (any_of HT_.out (by kernel_rfl)) (fun _ _ _ h => h) (Or.inl ⟨by rfl,?_⟩) ?_ ?_;rotate_left
     ·intro w';go_simp;with_reducible rfl
     rotate_left
     ·simp only [Act.put,V,Z,zx,i64_w,i32_w];rfl
     refine pure_ (i:=3) (N:=some 55) (v:=?_) (a':=?_) #[U,Y,Y,Y,U,U,U,U,U,U,U,U,U,U,U,U] rfl rfl (any_of HT_.out (by kernel_rfl)) (fun _ _ _ h => h) (Or.inl ⟨by rfl,?_⟩) ?_ ?_;rotate_left
     ·intro w';go_simp;with_reducible rfl
     rotate_left
     ·simp only [Act.put,V,Z,zx,i64_w,i32_w];rfl
     refine pure_ (i:=6) (N:=some 58) (v:=?_) (a':=?_) #[U,Y,Y,Y,U,U,Y,U,U,U,U,U,U,U,U,U] rfl rfl (any_of HT_.out (by kernel_rfl)) (fun _ _ _ h => h) (Or.inl ⟨by rfl,?_⟩) ?_ ?_;rotate_left
     ·intro w';go_simp;with_reducible rfl
     rotate_left
     ·simp only [Act.put,V,Z,zx,i64_w,i32_w];rfl
     refine pure_ (i:=7) (N:=some 59) (v:=?_) (a':=?_) #[U,Y,Y,Y,U,U,Y,Y,U,U,U,U,U,U,U,U] rfl rfl (any_of HT_.out (by kernel_rfl)) (fun _ _ _ h => h) (Or.inl ⟨by rfl,?_⟩) ?_ ?_;rotate_left
     ·intro w';go_simp;with_reducible rfl
     rotate_left
     ·simp only [Act.put,V,Z,zx,i64_w,i32_w];rfl
     refine pure_ (i:=8) (N:=some 60) (v:=?_) (a':=?_) #[U,Y,Y,Y,U,U,Y,Y,Y,U,U,U,U,U,U,U] rfl rfl (any_of HT_.out (by kernel_rfl)) (fun _ _ _ h => h) (Or.inl ⟨by rfl,?_⟩) ?_ ?_;rotate_left
     ·intro w';go_simp;with_reducible rfl
     rotate_left
     ·simp only [Act.put,V,Z,zx,i64_w,i32_w];rfl
     refine pure_ (i:=9) (N:=some 61) (v:=?_) (a':=?_) #[U,Y,Y,Y,U,U,Y,Y,Y,Y,U,U,U,U,U,U] rfl rfl (any_of HT_.out (by kernel_rfl)) (fun _ _ _ h => h) (Or.inl ⟨by rfl,?_⟩) ?_ ?_;rotate_left
     ·intro w';go_simp;with_reducible rfl
     rotate_left
     ·simp only [Act.put,V,Z,zx,i64_w,i32_w];rfl
     refine take_ (i:=0) (N:=some 52) (v:=?_) (a':=?_) #[Y,Y,Y,Y,U,U,Y,Y,Y,Y,U,U,U,U,U,U] rfl rfl (take_ofW HT_.out HW_.out (by kernel_rfl)) (fun _ _ _ h => h) (Or.inl ⟨by rfl,?_⟩) hHeld ?_ ?_;rotate_left
     ·rintro w' ⟨s0,s1,s2,s3,s4⟩;go_simp;with_reducible rfl
     rotate_left
     ·simp only [Act.put,V,Z,zx,i64_w,i32_w];rfl
     refine take_ (i:=4) (N:=some 56) (v:=?_) (a':=?_) #[Y,Y,Y,Y,Y,U,Y,Y,Y,Y,U,U,U,U,U,U] rfl rfl (take_ofW HT_.out HW_.out (by kernel_rfl)) (fun _ _ _ h => h) (Or.inl ⟨by rfl,?_⟩) hHeld ?_ ?_;rotate_left
     ·rintro w' ⟨s0,s1,s2,s3,s4⟩;go_simp;with_reducible rfl
     rotate_left
     ·simp only [Act.put,V,Z,zx,i64_w,i32_w];rfl
     refine take_ (i:=10) (N:=some 62) (v:=?_) (a':=?_) #[Y,Y,Y,Y,Y,U,Y,Y,Y,Y,Y,U,U,U,U,U] rfl rfl (take_ofW HT_.out HW_.out (by kernel_rfl)) (fun _ _ _ h => h) (Or.inl ⟨by rfl,?_⟩) hHeld ?_ ?_;rotate_left
     ·rintro w' ⟨s0,s1,s2,s3,s4⟩;go_simp;with_reducible rfl
     rotate_left
     ·simp only [Act.put,V,Z,zx,i64_w,i32_w];rfl
     refine pure_ (i:=11) (N:=some 63) (v:=?_) (a':=?_) #[Y,Y,Y,Y,Y,U,Y,Y,Y,Y,Y,Y,U,U,U,U] rfl rfl (any_of HT_.out (by kernel_rfl)) (fun _ _ _ h => h) (Or.inl ⟨by rfl,?_⟩) ?_ ?_;rotate_left
     ·intro w';go_simp;with_reducible rfl
     rotate_left
     ·simp only [Act.put,V,Z,zx,i64_w,i32_w];rfl
     refine take_ (i:=12) (N:=some 64) (v:=?_) (a':=?_) #[Y,Y,Y,Y,Y,U,Y,Y,Y,Y,Y,Y,Y,U,U,U] rfl rfl (take_ofW HT_.out HW_.out (by kernel_rfl)) (fun _ _ _ h => h) (Or.inl ⟨by rfl,?_⟩) hHeld ?_ ?_;rotate_left
     ·rintro w' ⟨s0,s1,s2,s3,s4⟩;go_simp;with_reducible rfl
     rotate_left
     ·simp only [Act.put,V,Z,zx,i64_w,i32_w];rfl
     refine one_ (i:=5) (N:=some 57) #[Y,Y,Y,Y,Y,Y,Y,Y,Y,Y,Y,Y,Y,U,U,U] rfl rfl (one_of HT_.out (by kernel_rfl)) (by decide) (fun K hK => ?_);refine goes_ Try.func24 (by kernel_rfl) rfl #[.agg #[.int .i64 t680,.slice Ao9 t681.length co9],.int .i64 (rd t684 x9_2)] (by rfl) rfl rfl (by (try simp only [List.map_toArray,List.map_cons,List.map_nil]); first | done | rfl | (simp only [List.length_drop,List.length_take]; rfl)) ?_;with_reducible refine (impl_NearAll.calls k2 t680 _ _ t681 (rd t684 x9_2) t698 _ ?side1 ?side2 A27.out).mono ?_
     (case side1 => repeat (first | exact (Kd.R_reads' p0.out).2.2 | (with_reducible refine Kd.C_alloc ?_ _) | (with_reducible refine Kd.C_drewN ?_ _) | (with_reducible refine Kd.C_drew ?_)))
     (case side2 => exact (Kd.R_reads' p0.out).2.1)
     rintro e w38 ⟨v699,rfl,ho0,hb⟩;have HS2_:=(hb.cell (World.block_lt_of_cell? _ _ (hHeld.2.2.1))).trans (hHeld.2.2.1);have HS3_:=(hb.cell (World.block_lt_of_cell? _ _ (hHeld.2.2.2.1))).trans (hHeld.2.2.2.1);have HS4_:=(hb.cell (World.block_lt_of_cell? _ _ (hHeld.2.2.2.2))).trans (hHeld.2.2.2.2);refine ⟨_,rfl,?_⟩;have n0_:=zy (Kd.R_elder' HO_4.out (Kd.R_base ho0) hb);have n1_:=zy (Kd.R_elder' HO_5.out (Kd.R_base ho0) hb);have n2_:=zy (Kd.R_elder' HO_6.out (Kd.R_base ho0) hb);have n3_:=zy (Kd.R_below p0.out hb);have n4_:=zy (Kd.R_lower (Kd.R_new' (Kd.R_new' (Kd.R_new' ho0 (Kd.R_lt HO_4.out)) (Kd.R_lt HO_5.out)) (Kd.R_lt HO_6.out)) (below_size HB.out));have n5_:=zy (blk_below (g:=p3) (o:=.cells #[.int .i64 t680,.slice Ao9 t681.length co9] 25 (0,0)) p1.out hb);have n6_:=zy (below_step HB.out hb);clear HO_4;clear HO_5;clear HO_6;clear p0;clear p1;clear HB;have HO_4:=n0_;have HO_5:=n1_;have HO_6:=n2_;have p0:=n3_;have HO700:=n4_;have p1:=n5_;have HB:=n6_;clear n0_ n1_ n2_ n3_ n4_ n5_ n6_
     (try clear hb)
     (try clear hb2)
     (try clear hk)
     (try clear hi)
     (try clear ho0)
     obtain ⟨Ao39,co39,eo39⟩:=Kd.R_slice HO700.out
     (first | subst eo39 | (injection eo39 with f1_ f2_ f3_; have f4_:=f1_.symm; have f5_:=f3_.symm; clear f1_ f2_ f3_; subst f4_; subst f5_))
     have p703 : 0 ≤ ((rd t687 (rd t690 x9_2)) : Int):=of_decide_eq_true (by first | (with_reducible assumption) | assumption);have q703 : (rd t687 (rd t690 x9_2)) < (t698.length : Int):=of_decide_eq_true (by first | (with_reducible assumption) | assumption);obtain ⟨ad703,e703,s5⟩:=Kd.at_int (Kd.R_reads' HO700.out).2.2 (rd t687 (rd t690 x9_2)) p703 q703;cases e703;replace p703:=eq_true p703;replace q703:=eq_true q703;refine hK.out _ _ ⟨(blk_cell p1.out 0).trans rfl,(blk_cell p1.out 1).trans rfl,HS2_,HS3_,HS4_⟩ (fun hHeld => ?_);clear hK K;refine norm_ (a':=?_) ?_ ?_;rotate_left
     ·show Act.put _ (some 57) _ = _
      simp only [Act.put,V,Z,zx,i64_w,i32_w];rfl
     refine pure_ (i:=13) (N:=some 65) (v:=?_) (a':=?_) #[Y,Y,Y,Y,Y,Y,Y,Y,Y,Y,Y,Y,Y,Y,U,U] rfl rfl (any_of HT_.out (by kernel_rfl)) (fun _ _ _ h => h) (Or.inl ⟨by rfl,?_⟩) ?_ ?_;rotate_left
     ·intro w';go_simp;with_reducible rfl
     rotate_left
     ·simp only [Act.put,V,Z,zx,i64_w,i32_w];rfl
     refine one_ (i:=14) (N:=some 66) #[Y,Y,Y,Y,Y,Y,Y,Y,Y,Y,Y,Y,Y,Y,Y,U] rfl rfl (one_of HT_.out (by kernel_rfl)) (by decide) (fun K hK => ?_);refine value_ (w1:=w38) (v:=.int .i64 (rd t698 (rd t687 (rd t690 x9_2)))) (by rfl) rfl ?_ ?_
     ·go_simp
      (try simp only [i64_w])
      try rfl
     refine hK.out _ _ ⟨(blk_cell p1.out 0).trans rfl,(blk_cell p1.out 1).trans rfl,HS2_,HS3_,HS4_⟩ (fun hHeld => ?_);clear hK K;refine norm_ (a':=?_) ?_ ?_;rotate_left
     ·show Act.put _ (some 66) _ = _
      simp only [Act.put,V,Z,zx,i64_w,i32_w];rfl
     refine pure_ (i:=15) (N:=some 10) (v:=?_) (a':=?_) #[Y,Y,Y,Y,Y,Y,Y,Y,Y,Y,Y,Y,Y,Y,Y,Y] rfl rfl (any_of HT_.out (by kernel_rfl)) (fun _ _ _ h => h) (Or.inl ⟨by rfl,?_⟩) ?_ ?_;rotate_left
     ·intro w';go_simp;with_reducible rfl
     rotate_left
     ·simp only [Act.put,V,Z,zx,i64_w,i32_w];rfl
     refine done_ (done_of HT_.out (by kernel_rfl)) ?_;have H:=HH_.out;clear HH_
     by_cases c36 : x8_2 = 99999
     case pos =>
      rw [if_pos c36] at H;have c36b0 : (x8_2 == 99999) = true:=beq_iff_eq.mpr c36;have c36b1 : (x8_2 != 99999) = false:=bne_eq_false_iff_eq.mpr c36;clear c36;have H':=zy H;clear H
      try go_wp2
      go_roundg k2
      case measure => have:=HJ4.out; have:=HK2.out; omega
      case rel => exact ⟨(99999),(wrap64 (x9_2 + 1)),(by first | rfl | (simp; done) | (simp [*]; done)),(by first | rfl | (simp; done) | (simp [*]; done)),H',⟨by have:=HJ4.out; have:=HK2.out; omega⟩,⟨by (with_reducible repeat (first | apply Kd.R_alloc | apply Kd.R_drewN | apply Kd.R_drew)); exact Kd.R_mono HO_4.out (fun _ hk => ⟨hk.1.1,hk.1.2⟩)⟩,⟨by (with_reducible repeat (first | apply Kd.R_alloc | apply Kd.R_drewN | apply Kd.R_drew)); exact Kd.R_mono HO_5.out (fun _ hk => ⟨hk.1.1,hk.1.2⟩)⟩,⟨by (with_reducible repeat (first | apply Kd.R_alloc | apply Kd.R_drewN | apply Kd.R_drew)); exact Kd.R_mono HO_6.out (fun _ hk => ⟨hk.1.1,hk.1.2⟩)⟩,⟨by (with_reducible repeat (first | apply Kd.R_alloc | apply Kd.R_drewN | apply Kd.R_drew)); exact p0.out⟩,⟨by (with_reducible repeat (first | refine blk_drewN ?_ _ | refine blk_drew ?_ | refine blk_alloc ?_ _)); exact p1.out⟩,⟨by repeat (first | (with_reducible first | exact HB.out | apply below_alloc | apply pw_below_drewN | apply below_drew1 | refine below_set ?_ p6.out) | exact HB.out)⟩⟩
     rw [if_neg c36] at H;have c36b0 : (x8_2 == 99999) = false:=beq_eq_false_iff_ne.mpr c36;have c36b1 : (x8_2 != 99999) = true:=bne_iff_ne.mpr c36;have H':=zy H;clear H
     try go_wp2
     go_roundg k2
     case measure => have:=HJ4.out; have:=HK2.out; omega
     case rel => exact ⟨(wrap64 (x8_2 + (rd t698 (rd t687 (rd t690 x9_2))))),(wrap64 (x9_2 + 1)),(by first | rfl | (simp; done) | (simp [*]; done)),(by first | rfl | (simp; done) | (simp [*]; done)),H',⟨by have:=HJ4.out; have:=HK2.out; omega⟩,⟨by (with_reducible repeat (first | apply Kd.R_alloc | apply Kd.R_drewN | apply Kd.R_drew)); exact Kd.R_mono HO_4.out (fun _ hk => ⟨hk.1.1,hk.1.2⟩)⟩,⟨by (with_reducible repeat (first | apply Kd.R_alloc | apply Kd.R_drewN | apply Kd.R_drew)); exact Kd.R_mono HO_5.out (fun _ hk => ⟨hk.1.1,hk.1.2⟩)⟩,⟨by (with_reducible repeat (first | apply Kd.R_alloc | apply Kd.R_drewN | apply Kd.R_drew)); exact Kd.R_mono HO_6.out (fun _ hk => ⟨hk.1.1,hk.1.2⟩)⟩,⟨by (with_reducible repeat (first | apply Kd.R_alloc | apply Kd.R_drewN | apply Kd.R_drew)); exact p0.out⟩,⟨by (with_reducible repeat (first | refine blk_drewN ?_ _ | refine blk_drew ?_ | refine blk_alloc ?_ _)); exact p1.out⟩,⟨by repeat (first | (with_reducible first | exact HB.out | apply below_alloc | apply pw_below_drewN | apply below_drew1 | refine below_set ?_ p6.out) | exact HB.out)⟩⟩
end Go.Proofs.Ytmioaahiflfcdaa.Pr
end
section
set_option linter.unusedVariables false
namespace Go.Proofs.YtmioaahiflfcdaaW.PrintWords
open Go.RowKit Go.ChangeShapes Go.WideShapes
def Opens (P : Program) {α : Type} (d : Kd α) (t : TypeId) (wf : α → Prop) : Prop :=
 ∀ {H : Type} {enc : TypeId × Value → H} {w : World} {sp : Nat → Bool} {held : Bool} {fuel : Nat} {cs : List Value} {x : DataW H × List MemPlace},DataW.trod enc P w 0 sp held fuel t cs = some x → ∃ a,d.K w a cs ∧ wf a
section
variable {P : Program} {α β : Type}
theorem opens_int {t : TypeId} {k : IntKind} (ht : P.underlying t = some (.int k)) : Opens P (Kd.int k) t (fun n => (Lit.int k n).wf = true):=by
 intro H enc w sp held fuel cs x h;obtain ⟨n,rfl,_,hw⟩:=DataW.trod_int ht h;exact ⟨n,rfl,hw⟩
theorem addr_add_add (a : Addr) (i j : Nat) : (a.add i).add j = a.add (i + j):=by
 unfold Addr.add
 by_cases hi : i = 0 <;> by_cases hj : j = 0 <;> simp [hi,hj,Nat.add_assoc]
theorem opens_slice [Inhabited α] {d : Kd α} {t e : TypeId} {wf : α → Prop} (ht : P.underlying t = some (.slice e)) (hc : P.cellsOf e = d.sz) (he : Opens P d e wf) : Opens P (Kd.slice e d) t (fun l => l.length ≤ maxLen ∧ ∀ x ∈ l,wf x):=by
 intro H enc w sp held fuel cs x h
 rcases Deep.open_slice ht h with ⟨rfl,_⟩ | ⟨a,len,cap,m,n,D,Pl,rfl,_,hl,hm,hmm,_,hel⟩
 ·exact ⟨[],⟨none,0,rfl,Nat.le_refl _,Kd.C_nil d w⟩,by simp,by simp⟩
 ·have hlm : len ≤ m:=by rw [hmm]; split <;> omega
  have hx : ∀ i,i < len → ∃ y : α,(∃ c,c.length = d.sz ∧ d.K w y c ∧ ∀ j u,c[j]? = some u → w.cell? (a.add (i * d.sz + j)) = some u) ∧ wf y:=by
   intro i hi;obtain ⟨cs',hcs,htr⟩:=hel i (by omega);obtain ⟨y,hk,hw⟩:=he htr;obtain ⟨_,hlen,hcell⟩:=World.cells?_some hcs;refine ⟨y,⟨cs',d.K_len hk,hk,fun j u hu => ?_⟩,hw⟩;have hj : j < P.cellsOf e:=by
    have:=(List.getElem?_eq_some_iff.1 hu).1;omega
   have:=hcell j hj;rw [addr_add_add,hc,hu] at this;exact this
  obtain ⟨f,hf⟩:=Deep.choose_lt hx;refine ⟨(List.range len).map f,⟨some a,cap,by simp,by simpa using hl,by simp,by simp only [maxLen] at hm; simp; omega,fun _ => ⟨a,rfl,fun j p hj => ?_⟩⟩,by simp; omega,fun y hy => ?_⟩
  ·obtain ⟨hj1,hj2⟩:=List.getElem?_eq_some_iff.1 hj;simp at hj1 hj2;subst hj2;exact (hf j hj1).1
  ·simp only [List.mem_map,List.mem_range] at hy;obtain ⟨i,hi,rfl⟩:=hy;exact (hf i hi).2
end
end Go.Proofs.YtmioaahiflfcdaaW.PrintWords
end
section
namespace Go.Proofs.Ytmioaahiflfcdaa.Pr
open Go.RowKit Go.Proofs.YtmioaahiflfcdaaW.PrintWords Go.Proofs.YtmioaahiflfcdaaW.PrintLast Go.Proofs.YtmioaahiflfcdaaW.PrintMore
open List renaming setIfInBounds_toArray → V,set_cons_zero → Z,set_cons_succ → zx
open Go.Proofs.YtmioaahiflfcdaaW.PrintWords.Aside0 renaming mk → zy
def laws_FnJobCost.Asked : Prop:=∀ (l0 : List Int),(l0.length ≤ maxLen ∧ ∀ x_ ∈ l0,(Lit.int .u8 x_).wf = true) → ∃ k,laws_FnJobCost.f k l0 = some true
end Go.Proofs.Ytmioaahiflfcdaa.Pr
end
section
set_option linter.unusedSectionVars false
namespace Go.Proofs.Ytmioaahiflfcdaa.Fl
def sm (F : Nat → Int) : Nat → Int
 | 0 => 0
 | n + 1 => sm F n + F n
section
variable {n m : Nat} {fr tw : Nat → Nat} {f : Nat → Int} (hf : ∀ i,i < m → fr i < n) (ht : ∀ i,i < m → tw i < n)
def net (m : Nat) (fr tw : Nat → Nat) (f : Nat → Int) (v : Nat) : Int:=sm (fun i => (if fr i = v then f i else 0) - (if tw i = v then f i else 0)) m
include hf ht
end
section
variable {n m : Nat} {fr tw : Nat → Nat} {f cap : Nat → Int} (hf : ∀ i,i < m → fr i < n) (ht : ∀ i,i < m → tw i < n) (h0 : ∀ i,i < m → 0 ≤ f i ∧ f i ≤ cap i) {s t : Nat} (hs : s < n) (hz : ∀ v,v < n → v ≠ s → v ≠ t → net m fr tw f v = 0)
include hf ht h0 hs hz
end
end Go.Proofs.Ytmioaahiflfcdaa.Fl
end
section
set_option linter.unusedSectionVars false
namespace Go.Proofs.Ytmioaahiflfcdaa.Pm
def perms (n : Nat) : Nat → List Nat → List (List Nat)
 | 0,b => [b]
 | f + 1,b => ((List.range n).filter fun i => !b.contains i).flatMap fun i => perms n f (b ++ [i])
theorem perms_len {n f : Nat} {b p : List Nat} (h : p ∈ perms n f b) : p.length = b.length + f:=by
 induction f generalizing b with
 | zero => simp [perms] at h; simp [h]
 | succ f ih =>
  simp only [perms,List.mem_flatMap] at h;obtain ⟨i,_,h2⟩:=h;have:=ih h2;simp at this;omega
theorem perms_ok {n f : Nat} {b p : List Nat} (hb : b.Nodup) (hl : ∀ x ∈ b,x < n) (h : p ∈ perms n f b) : p.Nodup ∧ ∀ x ∈ p,x < n:=by
 induction f generalizing b with
 | zero => simp [perms] at h; subst h; exact ⟨hb,hl⟩
 | succ f ih =>
  simp only [perms,List.mem_flatMap,List.mem_filter,List.mem_range] at h;obtain ⟨i,⟨h1,h3⟩,h2⟩:=h;refine ih ?_ ?_ h2
  ·rw [List.nodup_append];refine ⟨hb,by simp,fun a ha c hc => ?_⟩;rintro rfl;obtain rfl : a = i:=by simpa using hc
   simp [ha] at h3
  ·intro x hx
   rcases List.mem_append.1 hx with h | h
   ·exact hl x h
   ·obtain rfl : x = i:=by simpa using h
    exact h1
theorem perms_all {n f : Nat} {b q : List Nat} (hn : (b ++ q).Nodup) (hl : ∀ x ∈ q,x < n) (hf : q.length = f) : b ++ q ∈ perms n f b:=by
 induction f generalizing b q with
 | zero =>
  obtain rfl : q = []:=List.length_eq_zero_iff.1 hf;simp [perms]
 | succ f ih =>
  cases q with
  | nil => simp at hf
  | cons i q =>
   simp only [perms,List.mem_flatMap,List.mem_filter,List.mem_range];refine ⟨i,⟨hl i (by simp),?_⟩,?_⟩
   ·have : i ∉ b:=fun hb => (List.nodup_append.1 hn).2.2 i hb i (by simp) rfl
    simp [this]
   ·have:=ih (b:=b ++ [i]) (q:=q) (by simpa using hn) (fun x hx => hl x (by simp [hx])) (by simpa using hf)
    simpa using this
def pick (cost : List Nat → Int) : List (List Nat) → List Nat × Int → List Nat × Int
 | [],s => s
 | p :: l,s => pick cost l (if cost p < s.2 then (p,cost p) else s)
theorem pick_append (cost : List Nat → Int) (l l' : List (List Nat)) : ∀ s,pick cost (l ++ l') s = pick cost l' (pick cost l s):=by
 induction l with
 | nil => intro s; rfl
 | cons p l ih => intro s; exact ih _
theorem pick_le (cost : List Nat → Int) : ∀ (l : List (List Nat)) (s : List Nat × Int),(pick cost l s).2 ≤ s.2 ∧ ∀ p ∈ l,(pick cost l s).2 ≤ cost p:=by
 intro l
 induction l with
 | nil => intro s; exact ⟨Int.le_refl _,by simp⟩
 | cons q l ih =>
  intro s;obtain ⟨h1,h2⟩:=ih (if cost q < s.2 then (q,cost q) else s);have h3 : (if cost q < s.2 then (q,cost q) else s).2 ≤ s.2 ∧ (if cost q < s.2 then (q,cost q) else s).2 ≤ cost q:=by
   split
   ·exact ⟨by dsimp only; omega,by dsimp only; omega⟩
   ·exact ⟨by omega,by omega⟩
  simp only [pick];refine ⟨by omega,fun p hp => ?_⟩
  rcases List.mem_cons.1 hp with rfl | hp
  ·omega
  ·exact h2 p hp
end Go.Proofs.Ytmioaahiflfcdaa.Pm
namespace Go.Proofs.Ytmioaahiflfcdaa.Pm
open Go.Proofs.Ytmioaahiflfcdaa.Fl
def at_ (p : List Nat) (i : Nat) : Nat:=p.getD i 0
structure IsPerm (n : Nat) (p : List Nat) : Prop where
 len : p.length = n
 nd : p.Nodup
 lt : ∀ x ∈ p,x < n
theorem perm_mem_all {n : Nat} {p : List Nat} (h : IsPerm n p) : ∀ k,k < n → k ∈ p:=by
 intro k hk
 apply Classical.byContradiction
 intro hc;have : ∀ (n : Nat) (l : List Nat),l.Nodup → (∀ x ∈ l,x < n) → l.length ≤ n:=by
  intro n
  induction n with
  | zero =>
   intro l _ h;cases l with
   | nil => simp
   | cons a l => exact absurd (h a (by simp)) (by omega)
  | succ n ih =>
   intro l hn h;have h1:=ih (l.erase n) (hn.erase n) (fun x hx => by
    have h2:=h x (List.mem_of_mem_erase hx);have h3 : x ≠ n:=by
     rintro rfl;exact (List.Nodup.not_mem_erase hn) hx
    omega)
   have h4 : l.length ≤ (l.erase n).length + 1:=by
    rw [List.length_erase]
    split <;> omega
   omega
 have h1:=this n (k :: p) (List.nodup_cons.2 ⟨hc,h.nd⟩) (fun x hx => by
  rcases List.mem_cons.1 hx with rfl | hx
  ·exact hk
  ·exact h.lt x hx)
 have:=h.len;simp at h1;omega
def inv (n : Nat) (p : List Nat) : List Nat:=(List.range n).map fun k => p.idxOf k
theorem inv_at {n : Nat} {p : List Nat} (h : IsPerm n p) {k : Nat} (hk : k < n) : at_ (inv n p) k < n ∧ at_ p (at_ (inv n p) k) = k:=by
 have hm:=perm_mem_all h k hk;have h1:=List.idxOf_lt_length_of_mem hm;have e : at_ (inv n p) k = p.idxOf k:=by simp [at_,inv,hk]
 rw [e];refine ⟨by rw [← h.len]; exact h1,?_⟩;simp only [at_,List.getD_eq_getElem?_getD,List.getElem?_eq_getElem h1,Option.getD_some];exact List.getElem_idxOf h1
noncomputable def costOf (n : Nat) (D : Nat → Nat → Int) (p : List Nat) : Int:=@ite _ (∃ i,i < n ∧ D i (at_ p i) = 99999) (Classical.propDecidable _) 99999 (sm (fun i => D i (at_ p i)) n)
end Go.Proofs.Ytmioaahiflfcdaa.Pm
end
section
set_option linter.unusedVariables false
namespace Go.Proofs.YtmioaahiflfcdaaW.PrintWords
open Go.RowKit
section
variable {α β : Type}
theorem Ev.pos {c : Prop} [Decidable c] {t e : Nat → Option α} {r : α} (h : c) (k : Ev t r) : Ev (fun n => if c then t n else e n) r:=by
 simp only [if_pos h]; exact k
theorem Ev.neg {c : Prop} [Decidable c] {t e : Nat → Option α} {r : α} (h : ¬ c) (k : Ev e r) : Ev (fun n => if c then t n else e n) r:=by
 simp only [if_neg h]; exact k
theorem Ev.bind0 {g : Option α} {f : Nat → α → Option β} {a : α} {r : β} (h : g = some a) (k : Ev (fun n => f n a) r) : Ev (fun n => g.bind (f n)) r:=by
 subst h; exact k
theorem Ev.is {a r : α} (h : a = r) : Ev (fun _ => some a) r:=by subst h; exact Ev.now _
theorem Ev.cast {g : Nat → Option α} {a r : α} (k : Ev g a) (h : a = r) : Ev g r:=h ▸ k
theorem Ev.go {g f : Nat → Option α} {r : α} (k : Ev f r) (h : ∀ k,g (k + 1) = f k) : Ev g r:=Ev.step h k
end
theorem w64 {n : Int} (h : -9223372036854775808 ≤ n) (h' : n ≤ 9223372036854775807) : wrap64 n = n:=by unfold wrap64; omega
theorem rd_nat {l : List Int} {i : Nat} (h : i < l.length) : rd l (i : Int) = l[i]:=by simp [rd,h]
end Go.Proofs.YtmioaahiflfcdaaW.PrintWords
end
section
set_option linter.unusedSimpArgs false
set_option linter.unusedVariables false
namespace Go.Proofs.Ytmioaahiflfcdaa.Pure
open Go.RowKit Go.Proofs.Ytmioaahiflfcdaa.Pr Go.Proofs.YtmioaahiflfcdaaW.PrintWords Go.Proofs.YtmioaahiflfcdaaW.PrintLast Go.Proofs.YtmioaahiflfcdaaW.PrintMore
def inB (x a b : Int) : Bool:=decide (a ≤ x) && decide (x ≤ b)
theorem inB_iff {x a b : Int} : inB x a b = true ↔ a ≤ x ∧ x ≤ b:=by simp [inB]
theorem in1 (x a b : Int) : spec_l1In.f x a b = some (inB x a b):=by
 unfold spec_l1In.f inB
 by_cases h : x ≥ a
 case pos => rw [if_pos h]; simp [show a ≤ x from h]
 rw [if_neg h]; simp [show ¬ a ≤ x from h]
theorem within1 (x a b : Int) : impl_within.f x a b = some (inB x a b):=by
 unfold impl_within.f inB
 by_cases h : x ≥ a
 case pos => rw [if_pos h]; simp [show a ≤ x from h]
 rw [if_neg h]; simp [show ¬ a ≤ x from h]
theorem up1 {i n : Nat} (h : i < n) (hn : n ≤ maxLen) : wrap64 ((i : Int) + 1) = ((i + 1 : Nat) : Int):=by
 simp only [maxLen] at hn;rw [w64 (by omega) (by omega)]; omega
theorem rdn {l : List Int} {i : Nat} (h : i < l.length) : rd l (i : Int) = l[i]:=rd_nat h
def nth (l : List Int) (i : Nat) : Int:=l.getD i 0
theorem rdg {l : List Int} (i : Nat) : rd l (i : Int) = nth l i:=by simp [rd,nth]
theorem nth_get {l : List Int} {i : Nat} (h : i < l.length) : nth l i = l[i]:=by simp [nth,h]
theorem getD_mem {l : List Int} {i : Nat} (h : i < l.length) : nth l i ∈ l:=by
 rw [nth_get h];exact List.getElem_mem h
theorem mem_getD {l : List Int} {x : Int} (h : x ∈ l) : ∃ i,i < l.length ∧ nth l i = x:=by
 obtain ⟨i,hi,rfl⟩:=List.getElem_of_mem h;exact ⟨i,hi,nth_get hi⟩
theorem drop_cons {α : Type} {l : List α} {i : Nat} (h : i < l.length) : l.drop i = l[i] :: l.drop (i + 1):=List.drop_eq_getElem_cons h
def Pv {α : Type} (g : Nat → Option α) (P : α → Prop) : Prop:=∃ r,Ev g r ∧ P r
section
variable {α β : Type} {P : α → Prop}
theorem Pv.of {g : Nat → Option α} {r : α} (h : Ev g r) (hp : P r) : Pv g P:=⟨r,h,hp⟩
theorem Pv.now {a : α} (h : P a) : Pv (fun _ => some a) P:=⟨a,Ev.now a,h⟩
theorem Pv.pos {c : Prop} [Decidable c] {t e : Nat → Option α} (h : c) (k : Pv t P) : Pv (fun n => if c then t n else e n) P:=by
 obtain ⟨r,k,hp⟩:=k;exact ⟨r,Ev.pos h k,hp⟩
theorem Pv.neg {c : Prop} [Decidable c] {t e : Nat → Option α} (h : ¬ c) (k : Pv e P) : Pv (fun n => if c then t n else e n) P:=by
 obtain ⟨r,k,hp⟩:=k;exact ⟨r,Ev.neg h k,hp⟩
theorem Pv.ite {c : Prop} [Decidable c] {t e : Nat → Option α} (h : c → Pv t P) (k : ¬ c → Pv e P) : Pv (fun n => if c then t n else e n) P:=by
 by_cases hc : c
 case neg => exact Pv.neg hc (k hc)
 exact Pv.pos hc (h hc)
theorem Pv.bind {g : Nat → Option β} {f : Nat → β → Option α} {R : β → Prop} (h : Pv g R) (k : ∀ b,R b → Pv (fun n => f n b) P) : Pv (fun n => (g n).bind (f n)) P:=by
 obtain ⟨b,h,hb⟩:=h;obtain ⟨r,k,hp⟩:=k b hb;exact ⟨r,Ev.bind h k,hp⟩
theorem Pv.bind0 {g : Option β} {f : Nat → β → Option α} {b : β} (h : g = some b) (k : Pv (fun n => f n b) P) : Pv (fun n => g.bind (f n)) P:=by
 obtain ⟨r,k,hp⟩:=k;exact ⟨r,Ev.bind0 h k,hp⟩
theorem Pv.go {g f : Nat → Option α} (k : Pv f P) (h : ∀ k,g (k + 1) = f k) : Pv g P:=by
 obtain ⟨r,k,hp⟩:=k;exact ⟨r,Ev.go k h,hp⟩
theorem Pv.mono {g : Nat → Option α} {R : α → Prop} (h : Pv g R) (k : ∀ a,R a → P a) : Pv g P:=by
 obtain ⟨r,h,hr⟩:=h;exact ⟨r,h,k r hr⟩
end
theorem Pv.rounds {g : Nat → Option Bool} (h : Pv g (· = true)) : ∃ k,g k = some true:=by
 obtain ⟨r,h,rfl⟩:=h;exact Ev.rounds h
end Go.Proofs.Ytmioaahiflfcdaa.Pure
end
section
set_option linter.unusedSimpArgs false
set_option linter.unusedVariables false
namespace Go.Proofs.Ytmioaahiflfcdaa.Pure
open Go.RowKit Go.Proofs.Ytmioaahiflfcdaa.Pr Go.Proofs.YtmioaahiflfcdaaW.PrintWords Go.Proofs.YtmioaahiflfcdaaW.PrintLast Go.Proofs.YtmioaahiflfcdaaW.PrintMore
section
variable {t e : Nat → Option Bool} {r : Bool}
theorem Ev.and {b : Bool} (k : Ev t r) : Ev (fun n => if b = true then t n else some false) (b && r):=by
 cases b with
 | false => exact Ev.neg (by simp) (Ev.now _)
 | true => exact Ev.pos rfl k
theorem Ev.nand {c : Prop} [Decidable c] (k : Ev t r) : Ev (fun n => if c then some false else t n) (!decide c && r):=by
 by_cases h : c
 case pos => exact Ev.pos h (Ev.is (by simp [h]))
 exact Ev.neg h (k.cast (by simp [h]))
end
abbrev Arc:=S80
def arc (l : List Arc) (i : Nat) : Arc:=rd_T80 l (i : Int)
theorem rda (l : List Arc) (i : Nat) : rd_T80 l (i : Int) = arc l i:=rfl
theorem arc_get {l : List Arc} {i : Nat} (h : i < l.length) : arc l i = l[i]:=by simp [arc,rd_T80,h]
theorem arc_mem {l : List Arc} {i : Nat} (h : i < l.length) : arc l i ∈ l:=by
 rw [arc_get h];exact List.getElem_mem h
attribute [irreducible] arc
def okArcW (n : Int) (a : Arc) : Bool:=inB a.f0 0 (wrap64 (n - 1)) && (inB a.f1 0 (wrap64 (n - 1)) && (!decide (a.f0 = a.f1) && (inB a.f2 0 99 && (inB a.f3 0 99 && inB a.f4 0 9))))
theorem l1Ok_l (n : Int) (l : List Arc) (hm : l.length ≤ maxLen) : ∀ (m i : Nat),l.length - i = m → i ≤ l.length → Ev (fun k => spec_l1Ok.l0 k (i : Int) n l) ((l.drop i).all (okArcW n) && (inB n 1 8 && decide ((l.length : Int) ≤ 16))):=by
 intro m
 induction m with
 | zero =>
  intro i hd hi;refine Ev.go ?_ (fun k => by rw [spec_l1Ok.l0]);refine Ev.neg (by omega) (Ev.bind0 (in1 _ _ _) ?_);rw [List.drop_of_length_le (by omega)];exact (Ev.and (Ev.now _)).cast (by simp)
 | succ m ih =>
  intro i hd hi;have hlt : i < l.length:=by omega
  refine Ev.go ?_ (fun k => by rw [spec_l1Ok.l0]);rw [drop_cons hlt,← arc_get hlt,List.all_cons,rda,up1 hlt hm];refine Ev.pos (by omega) (Ev.pos (by omega) ?_);refine Ev.cast (Ev.bind0 (in1 _ _ _) (Ev.and (Ev.bind0 (in1 _ _ _) (Ev.and (Ev.nand (Ev.bind0 (in1 _ _ _) (Ev.and (Ev.bind0 (in1 _ _ _) (Ev.and (Ev.bind0 (in1 _ _ _) (Ev.and (ih (i + 1) (by omega) (by omega))))))))))))) ?_;simp only [okArcW,Bool.and_assoc]
theorem okArcW_okArc {n : Int} (h : 1 ≤ n) (h8 : n ≤ 8) (a : Arc) : okArcW n a = okArc n a:=by
 unfold okArcW okArc inB okN okC
 rw [w64 (by omega) (by omega)];have e : (a.f4 ≤ 9) ↔ (a.f4 ≤ 10 - 1):=by omega
 have e2 : (a.f0 == a.f1) = decide (a.f0 = a.f1):=by
  by_cases c : a.f0 = a.f1 <;> simp [c]
 rw [e2];simp only [Bool.and_assoc,e]
theorem l1Ok_ev (n : Int) (l : List Arc) (hm : l.length ≤ maxLen) : Ev (fun k => spec_l1Ok.f k n l) (netOkB n l):=by
 unfold spec_l1Ok.f
 refine (l1Ok_l n l hm _ 0 rfl (by omega)).cast ?_
 unfold netOkB
 rw [List.drop_zero]
 by_cases h : 1 ≤ n ∧ n ≤ 8
 case pos =>
  have e : l.all (okArcW n) = l.all (okArc n):=by
   congr 1
   funext a
   exact okArcW_okArc h.1 h.2 a
  rw [e,show inB n 1 8 = true from inB_iff.2 h];simp [h.1,h.2,Bool.and_comm]
 have e : inB n 1 8 = false:=by
  cases c : inB n 1 8 with
  | false => rfl
  | true => exact absurd (inB_iff.1 c) h
 rw [e];have e2 : (decide (1 ≤ n) && decide (n ≤ 8)) = false:=e;simp only [e2,Bool.false_and,Bool.and_false]
structure NetGood (n : Int) (l : List Arc) : Prop where
 n1 : 1 ≤ n
 n8 : n ≤ 8
 len : l.length ≤ 16
 ok : ∀ i,i < l.length → (0 ≤ (arc l i).f0 ∧ (arc l i).f0 < n) ∧ (0 ≤ (arc l i).f1 ∧ (arc l i).f1 < n) ∧ (arc l i).f0 ≠ (arc l i).f1 ∧ (0 ≤ (arc l i).f2 ∧ (arc l i).f2 ≤ 99) ∧ (0 ≤ (arc l i).f3 ∧ (arc l i).f3 ≤ 99) ∧ (0 ≤ (arc l i).f4 ∧ (arc l i).f4 ≤ 9)
theorem okArc_iff (n : Int) (a : Arc) : okArc n a = true ↔ (0 ≤ a.f0 ∧ a.f0 < n) ∧ (0 ≤ a.f1 ∧ a.f1 < n) ∧ a.f0 ≠ a.f1 ∧ (0 ≤ a.f2 ∧ a.f2 ≤ 99) ∧ (0 ≤ a.f3 ∧ a.f3 ≤ 99) ∧ (0 ≤ a.f4 ∧ a.f4 ≤ 9):=by
 simp only [okArc,okN,okC,Bool.and_eq_true,decide_eq_true_eq,Bool.not_eq_true',beq_eq_false_iff_ne];constructor
 ·rintro ⟨⟨⟨⟨⟨⟨a1,a2⟩,a3,a4⟩,a5⟩,a6⟩,a7⟩,a8,a9⟩;exact ⟨⟨a1,by omega⟩,⟨a3,by omega⟩,a5,a6,a7,a8,by omega⟩
 ·rintro ⟨⟨a1,a2⟩,⟨a3,a4⟩,a5,a6,a7,a8,a9⟩;exact ⟨⟨⟨⟨⟨⟨a1,by omega⟩,a3,by omega⟩,a5⟩,a6⟩,a7⟩,a8,by omega⟩
theorem netOkB_iff (n : Int) (l : List Arc) : netOkB n l = true ↔ NetGood n l:=by
 simp only [netOkB,Bool.and_eq_true,decide_eq_true_eq,List.all_eq_true];constructor
 ·rintro ⟨⟨⟨h1,h2⟩,h3⟩,h4⟩;exact ⟨h1,h2,by omega,fun i hi => (okArc_iff n _).1 (h4 _ (arc_mem hi))⟩
 ·rintro ⟨h1,h2,h3,h4⟩;refine ⟨⟨⟨h1,h2⟩,by omega⟩,fun a ha => ?_⟩;obtain ⟨i,hi,rfl⟩:=List.getElem_of_mem ha;rw [← arc_get hi];exact (okArc_iff n _).2 (h4 i hi)
theorem hasOf {n : Int} {l : List Arc} (h : NetGood n l) (v : List Int) : impl_Net_has.f n l v = some (v.all (okN n)):=by
 have:=h.n1;have:=h.n8
 unfold impl_Net_has.f
 rw [if_pos (by omega),if_pos (by omega)]
theorem nodesIn_eq (n : Int) (l : List Arc) (v : List Int) : impl_nodesIn.f n l v = some (netOkB n l && v.all (okN n)):=by
 unfold impl_nodesIn.f
 rw [show impl_NetOk.f n l = some (netOkB n l) from rfl,Option.bind_some];cases h : netOkB n l with
 | false => rfl
 | true => rw [if_pos rfl,hasOf ((netOkB_iff n l).1 h),Option.bind_some,Bool.true_and]
end Go.Proofs.Ytmioaahiflfcdaa.Pure
end
section
set_option linter.unusedSimpArgs false
set_option linter.unusedVariables false
namespace Go.Proofs.Ytmioaahiflfcdaa.Pure
open Go.RowKit Go.Proofs.Ytmioaahiflfcdaa.Pr Go.Proofs.YtmioaahiflfcdaaW.PrintWords Go.Proofs.YtmioaahiflfcdaaW.PrintLast Go.Proofs.YtmioaahiflfcdaaW.PrintMore
def flip (a : Arc) : Arc:=⟨a.f1,a.f0,a.f2,a.f3,a.f4⟩
def back (l : List Arc) : List Arc:=l.map flip
theorem back_len (l : List Arc) : (back l).length = l.length:=by simp [back]
theorem back_arc {l : List Arc} {i : Nat} (h : i < l.length) : arc (back l) i = flip (arc l i):=by
 rw [arc_get (by rw [back_len]; exact h),arc_get h];simp [back]
theorem back_good {n : Int} {l : List Arc} (h : NetGood n l) : NetGood n (back l):=by
 refine ⟨h.n1,h.n8,by rw [back_len]; exact h.len,fun i hi => ?_⟩;rw [back_len] at hi;obtain ⟨a1,a2,a3,a4⟩:=h.ok i hi;rw [back_arc hi];exact ⟨a2,a1,fun e => a3 e.symm,a4⟩
theorem implBack_l (n : Int) (l : List Arc) (hm : l.length ≤ 1000) : ∀ (m i : Nat),l.length - i = m → i ≤ l.length → Ev (fun k => impl_Net_back.l0 k l (l.length : Int) (i : Int) n ((back l).take i)) (n,back l):=by
 intro m
 induction m with
 | zero =>
  intro i hd hi;refine Ev.go ?_ (fun k => by rw [impl_Net_back.l0]);refine Ev.neg (by omega) (Ev.is ?_);rw [List.take_of_length_le (by rw [back_len]; omega)]
 | succ m ih =>
  intro i hd hi;have hlt : i < l.length:=by omega
  refine Ev.go ?_ (fun k => by rw [impl_Net_back.l0]);have ih:=ih (i + 1) (by omega) (by omega);have hlt2 : i < (back l).length:=by rw [back_len]; exact hlt
  rw [List.take_succ_eq_append_getElem hlt2,← arc_get hlt2,back_arc hlt] at ih;rw [up1 hlt (by simp only [maxLen]; omega),rda];exact Ev.pos (by omega) (Ev.pos (by omega) (Ev.pos (by omega) (Ev.pos (by simp; omega) ih)))
theorem implBack_ev (n : Int) (l : List Arc) (hm : l.length ≤ 1000) : Ev (fun k => impl_Net_back.f k n l) (n,back l):=by
 unfold impl_Net_back.f
 exact Ev.pos (by omega) (Ev.pos (by omega) (by simpa using implBack_l n l hm _ 0 rfl (Nat.zero_le _)))
def lst (n : Nat) (F : Nat → Int) : List Int:=(List.range n).map F
theorem lst_len (n : Nat) (F : Nat → Int) : (lst n F).length = n:=by simp [lst]
theorem lst_nth {n v : Nat} (F : Nat → Int) (h : v < n) : nth (lst n F) v = F v:=by
 simp [nth,lst,h]
theorem lst_rd {n v : Nat} (F : Nat → Int) (h : v < n) : rd (lst n F) (v : Int) = F v:=by rw [rdg,lst_nth F h]
theorem lst_congr {n : Nat} {F G : Nat → Int} (h : ∀ v,v < n → F v = G v) : lst n F = lst n G:=by
 unfold lst
 exact List.map_congr_left (fun v hv => h v (List.mem_range.1 hv))
theorem lst_snoc (n : Nat) (F : Nat → Int) : lst n F ++ [F n] = lst (n + 1) F:=by
 simp [lst,List.range_succ]
def upd (F : Nat → Int) (a : Nat) (x : Int) : Nat → Int:=fun v => if v = a then x else F v
theorem lst_set {n a : Nat} (F : Nat → Int) (x : Int) : (lst n F).set a x = lst n (upd F a x):=by
 apply List.ext_getElem (by simp [lst])
 intro i h1 h2;have hi : i < n:=by simpa [lst] using h2
 simp only [List.getElem_set]
 by_cases e : a = i
 case pos => subst e; simp [lst,upd]
 simp [lst,upd,e,show ¬ i = a from fun h => e h.symm]
inductive Conn (E : Nat → Nat → Prop) : Nat → Nat → Prop
 | refl (v : Nat) : Conn E v v
 | tail {u v w : Nat} : Conn E u v → (E v w ∨ E w v) → Conn E u w
end Go.Proofs.Ytmioaahiflfcdaa.Pure
end
section
set_option linter.unusedSectionVars false
namespace Go.Proofs.Ytmioaahiflfcdaa.Sp
structure G where
 n : Nat
 m : Nat
 fr : Nat → Nat
 tw : Nat → Nat
 w : Nat → Int
 use : Nat → Bool
structure G.Ok (g : G) : Prop where
 fl : ∀ i,i < g.m → g.fr i < g.n
 tl : ∀ i,i < g.m → g.tw i < g.n
 w0 : ∀ i,i < g.m → 0 ≤ g.w i
inductive Wk (g : G) : Nat → Nat → Nat → Int → Prop
 | nil (v : Nat) : Wk g v v 0 0
 | cons {i v k : Nat} {c : Int} : i < g.m → g.use i = true → Wk g (g.tw i) v k c → Wk g (g.fr i) v (k + 1) (g.w i + c)
theorem Wk.cast {g : G} {u v k k' : Nat} {c c' : Int} (h : Wk g u v k c) (hk : k = k') (hc : c = c') : Wk g u v k' c':=by
 subst hk; subst hc; exact h
theorem Wk.nonneg {g : G} (ok : g.Ok) {u v k : Nat} {c : Int} (h : Wk g u v k c) : 0 ≤ c:=by
 induction h with
 | nil => omega
 | cons hi _ _ ih => have:=ok.w0 _ hi; omega
theorem nodup_len : ∀ (n : Nat) (l : List Nat),l.Nodup → (∀ x ∈ l,x < n) → l.length ≤ n:=by
 intro n
 induction n with
 | zero =>
  intro l _ h;cases l with
  | nil => simp
  | cons a l => exact absurd (h a (by simp)) (by omega)
 | succ n ih =>
  intro l hn h;have h1:=ih (l.erase n) (hn.erase n) (fun x hx => by
   have h2:=h x (List.mem_of_mem_erase hx);have h3 : x ≠ n:=by
    rintro rfl;exact (List.Nodup.not_mem_erase hn) hx
   omega)
  have:=List.length_erase_le (a:=n) (l:=l);have h4 : l.length ≤ (l.erase n).length + 1:=by
   rw [List.length_erase]
   split <;> omega
  omega
inductive Sm (g : G) (t : Nat) : Nat → List Nat → Nat → Int → Prop
 | nil : Sm g t t [t] 0 0
 | cons {i k : Nat} {L : List Nat} {c : Int} : i < g.m → g.use i = true → Sm g t (g.tw i) L k c → g.fr i ∉ L → Sm g t (g.fr i) (g.fr i :: L) (k + 1) (g.w i + c)
theorem Sm.wk {g : G} {t u k : Nat} {L : List Nat} {c : Int} (h : Sm g t u L k c) : Wk g u t k c:=by
 induction h with
 | nil => exact .nil _
 | cons hi hu _ _ ih => exact .cons hi hu ih
theorem Sm.facts {g : G} (ok : g.Ok) {t u k : Nat} (ht : t < g.n) {L : List Nat} {c : Int} (h : Sm g t u L k c) : L.Nodup ∧ (∀ x ∈ L,x < g.n) ∧ L.length = k + 1:=by
 induction h with
 | nil => simp [ht]
 | cons hi _ _ hn ih =>
  refine ⟨List.nodup_cons.2 ⟨hn,ih.1⟩,?_,by simp [ih.2.2]⟩;intro x hx
  rcases List.mem_cons.1 hx with rfl | hx
  ·exact ok.fl _ hi
  ·exact ih.2.1 x hx
theorem Sm.tail {g : G} (ok : g.Ok) {t u k : Nat} {L : List Nat} {c : Int} (h : Sm g t u L k c) {x : Nat} (hx : x ∈ L) : ∃ L' k' c',Sm g t x L' k' c' ∧ k' ≤ k ∧ c' ≤ c:=by
 induction h with
 | nil =>
  obtain rfl : x = t:=by simpa using hx
  exact ⟨_,_,_,.nil,Nat.le_refl _,Int.le_refl _⟩
 | cons hi hu h hn ih =>
  rcases List.mem_cons.1 hx with rfl | hx
  ·exact ⟨_,_,_,.cons hi hu h hn,Nat.le_refl _,Int.le_refl _⟩
  ·obtain ⟨L',k',c',h1,h2,h3⟩:=ih hx;have:=ok.w0 _ hi;exact ⟨L',k',c',h1,by omega,by omega⟩
theorem Wk.simple {g : G} (ok : g.Ok) {u v k : Nat} {c : Int} (h : Wk g u v k c) : ∃ L k' c',Sm g v u L k' c' ∧ k' ≤ k ∧ c' ≤ c:=by
 induction h with
 | nil v => exact ⟨_,_,_,.nil,Nat.le_refl _,Int.le_refl _⟩
 | @cons i v k c hi hu h ih =>
  obtain ⟨L,k',c',h1,h2,h3⟩:=ih
  by_cases hm : g.fr i ∈ L
  case neg => exact ⟨_,_,_,.cons hi hu h1 hm,by omega,by omega⟩
  obtain ⟨L'',k'',c'',h4,h5,h6⟩:=h1.tail ok hm;have:=ok.w0 _ hi;exact ⟨L'',k'',c'',h4,by omega,by omega⟩
theorem Wk.short {g : G} (ok : g.Ok) {u v k : Nat} (hv : v < g.n) {c : Int} (h : Wk g u v k c) : ∃ k' c',Wk g u v k' c' ∧ k' < g.n ∧ k' ≤ k ∧ c' ≤ c:=by
 obtain ⟨L,k',c',h1,h2,h3⟩:=h.simple ok;obtain ⟨f1,f2,f3⟩:=h1.facts ok hv;have:=nodup_len _ _ f1 f2;exact ⟨k',c',h1.wk,by omega,h2,h3⟩
def Opt (g : G) (t : Nat) (L : Nat → Option Int) : Prop:=∀ v,v < g.n → (∀ x,L v = some x → ∃ k,Wk g v t k x) ∧ (∀ k c,Wk g v t k c → ∃ x,L v = some x ∧ x ≤ c)
theorem Opt.uniq {g : G} {t : Nat} {L L' : Nat → Option Int} (h : Opt g t L) (h' : Opt g t L') : ∀ v,v < g.n → L v = L' v:=by
 intro v hv;obtain ⟨a,b⟩:=h v hv;obtain ⟨a',b'⟩:=h' v hv;cases e : L v with
 | none =>
  cases e' : L' v with
  | none => rfl
  | some y =>
   obtain ⟨k,hk⟩:=a' y e';obtain ⟨x,hx,_⟩:=b k y hk;rw [e] at hx; cases hx
 | some x =>
  obtain ⟨k,hk⟩:=a x e;obtain ⟨y,hy,h1⟩:=b' k x hk;obtain ⟨k',hk'⟩:=a' y hy;obtain ⟨x',hx',h2⟩:=b k' y hk';rw [e] at hx';obtain rfl:=Option.some.inj hx';rw [hy]
  congr 1
  omega
def lts (a : Int) : Option Int → Bool
 | none => true
 | some y => decide (a < y)
def put (L : Nat → Option Int) (a : Nat) (x : Int) : Nat → Option Int:=fun v => if v = a then some x else L v
def relax (g : G) (L : Nat → Option Int) (i : Nat) : Nat → Option Int :=
 if g.use i = true then
  match L (g.tw i) with
  | none => L
  | some x => if lts (x + g.w i) (L (g.fr i)) = true then put L (g.fr i) (x + g.w i) else L
 else L
theorem relax_cases (g : G) (L : Nat → Option Int) (i : Nat) : (relax g L i = L ∧ (g.use i = true → ∀ x,L (g.tw i) = some x → lts (x + g.w i) (L (g.fr i)) = false)) ∨ (g.use i = true ∧ ∃ x,L (g.tw i) = some x ∧ lts (x + g.w i) (L (g.fr i)) = true ∧ relax g L i = put L (g.fr i) (x + g.w i)):=by
 unfold relax
 by_cases hu : g.use i = true
 case neg =>
  rw [if_neg hu];exact .inl ⟨rfl,fun h => absurd h hu⟩
 rw [if_pos hu];cases e : L (g.tw i) with
 | none => exact .inl ⟨rfl,fun _ x hx => by cases hx⟩
 | some x =>
  dsimp only
  by_cases hl : lts (x + g.w i) (L (g.fr i)) = true
  case pos =>
   rw [if_pos hl];exact .inr ⟨hu,x,rfl,hl,rfl⟩
  rw [if_neg hl];refine .inl ⟨rfl,fun _ y hy => ?_⟩;obtain rfl:=Option.some.inj hy
  simpa using hl
def sweep (g : G) (L : Nat → Option Int) : Nat → (Nat → Option Int)
 | 0 => L
 | i + 1 => relax g (sweep g L i) i
def Le (a b : Option Int) : Prop:=∀ y,b = some y → ∃ x,a = some x ∧ x ≤ y
theorem Le.refl (a : Option Int) : Le a a:=fun y h => ⟨y,h,Int.le_refl _⟩
theorem Le.trans {a b c : Option Int} (h : Le a b) (k : Le b c) : Le a c:=by
 intro y hy;obtain ⟨x,hx,h1⟩:=k y hy;obtain ⟨z,hz,h2⟩:=h x hx;exact ⟨z,hz,by omega⟩
theorem put_same (L : Nat → Option Int) (a : Nat) (x : Int) : put L a x a = some x:=by simp [put]
theorem put_far (L : Nat → Option Int) {a v : Nat} (x : Int) (h : v ≠ a) : put L a x v = L v:=by simp [put,h]
theorem relax_le (g : G) (L : Nat → Option Int) (i v : Nat) : Le (relax g L i v) (L v):=by
 rcases relax_cases g L i with ⟨e,_⟩ | ⟨_,x,hx,hl,e⟩
 ·rw [e]; exact Le.refl _
 ·rw [e]
  by_cases hv : v = g.fr i
  case neg => rw [put_far _ _ hv]; exact Le.refl _
  subst hv;rw [put_same];intro y hy;rw [hy] at hl;exact ⟨_,rfl,by simp [lts] at hl; omega⟩
theorem relax_arc (g : G) (L : Nat → Option Int) (i : Nat) (hu : g.use i = true) {x : Int} (hx : L (g.tw i) = some x) : Le (relax g L i (g.fr i)) (some (x + g.w i)):=by
 intro y hy;obtain rfl:=Option.some.inj hy
 unfold relax
 rw [if_pos hu,hx];dsimp only
 split
 ·exact ⟨_,by simp [put],Int.le_refl _⟩
 ·rename_i hl;cases e : L (g.fr i) with
  | none => rw [e] at hl; simp [lts] at hl
  | some z => rw [e] at hl; exact ⟨z,rfl,by simp [lts] at hl; omega⟩
theorem sweep_le (g : G) (L : Nat → Option Int) (i s v : Nat) : Le (sweep g L (i + s) v) (sweep g L i v):=by
 induction s with
 | zero => exact Le.refl _
 | succ s ih => exact (relax_le g _ _ v).trans ih
theorem sweep_arc (g : G) (L : Nat → Option Int) {i : Nat} (hi : i < g.m) (hu : g.use i = true) {x : Int} (hx : L (g.tw i) = some x) : ∃ y,sweep g L g.m (g.fr i) = some y ∧ y ≤ x + g.w i:=by
 have h0:=sweep_le g L 0 i (g.tw i);rw [Nat.zero_add] at h0;obtain ⟨x',hx',h1⟩:=h0 x hx;have h2:=relax_arc g (sweep g L i) i hu hx';have h3:=sweep_le g L (i + 1) (g.m - (i + 1)) (g.fr i);rw [show i + 1 + (g.m - (i + 1)) = g.m by omega] at h3;obtain ⟨y,hy,h4⟩:=(h3.trans h2) _ rfl;exact ⟨y,hy,by omega⟩
def Real (g : G) (t : Nat) (L : Nat → Option Int) : Prop:=∀ v x,L v = some x → ∃ k,Wk g v t k x
theorem relax_real {g : G} {t : Nat} {L : Nat → Option Int} (h : Real g t L) {i : Nat} (hi : i < g.m) : Real g t (relax g L i):=by
 intro v x hx
 rcases relax_cases g L i with ⟨e,_⟩ | ⟨hu,y,hy,hl,e⟩
 ·rw [e] at hx; exact h v x hx
 ·rw [e] at hx
  by_cases hv : v = g.fr i
  case neg => rw [put_far _ _ hv] at hx; exact h v x hx
  subst hv;rw [put_same] at hx;obtain rfl:=Option.some.inj hx;obtain ⟨k,hk⟩:=h _ _ hy;exact ⟨k + 1,(Wk.cons hi hu hk).cast rfl (by omega)⟩
theorem sweep_real {g : G} {t : Nat} {L : Nat → Option Int} (h : Real g t L) : ∀ i,i ≤ g.m → Real g t (sweep g L i):=by
 intro i
 induction i with
 | zero => exact fun _ => h
 | succ i ih => exact fun hi => relax_real (ih (by omega)) (by omega)
theorem opt_of_fix {g : G} {t : Nat} {L : Nat → Option Int} (h : Real g t L) (ht : Le (L t) (some 0)) (hf : ∀ v,sweep g L g.m v = L v) : Opt g t L:=by
 intro v hv0;clear hv0;refine ⟨fun x hx => h v x hx,fun k c hw => ?_⟩;clear h
 induction hw with
 | nil =>
  obtain ⟨x,hx,h1⟩:=ht 0 rfl;exact ⟨x,hx,h1⟩
 | cons hi hu _ ih =>
  obtain ⟨x,hx,h1⟩:=ih ht;obtain ⟨y,hy,h2⟩:=sweep_arc g L hi hu hx;rw [hf] at hy;exact ⟨y,hy,by omega⟩
def start (t : Nat) : Nat → Option Int:=fun v => if v = t then some 0 else none
def rounds (g : G) (t : Nat) : Nat → (Nat → Option Int)
 | 0 => start t
 | r + 1 => sweep g (rounds g t r) g.m
theorem start_real (g : G) (t : Nat) : Real g t (start t):=by
 intro v x hx
 unfold start at hx
 split at hx
 ·rename_i e;obtain rfl:=Option.some.inj hx;subst e;exact ⟨0,.nil _⟩
 ·cases hx
theorem rounds_real (g : G) (t : Nat) : ∀ r,Real g t (rounds g t r):=by
 intro r
 induction r with
 | zero => exact start_real g t
 | succ r ih => exact sweep_real ih _ (Nat.le_refl _)
theorem rounds_le (g : G) (t r s v : Nat) : Le (rounds g t (r + s) v) (rounds g t r v):=by
 induction s with
 | zero => exact Le.refl _
 | succ s ih =>
  have:=sweep_le g (rounds g t (r + s)) 0 g.m v;rw [Nat.zero_add] at this;exact this.trans ih
theorem rounds_t (g : G) (t r : Nat) : Le (rounds g t r t) (some 0):=by
 have:=rounds_le g t 0 r t;rw [Nat.zero_add] at this;exact this.trans (by simp [rounds,start]; exact Le.refl _)
theorem rounds_walk {g : G} {t r u k : Nat} {c : Int} (h : Wk g u t k c) (hk : k ≤ r) : ∃ x,rounds g t r u = some x ∧ x ≤ c:=by
 induction h generalizing r with
 | nil => exact rounds_t g _ r 0 rfl
 | cons hi hu _ ih =>
  obtain ⟨r,rfl⟩ : ∃ q,r = q + 1:=⟨r - 1,by omega⟩
  obtain ⟨x,hx,h1⟩:=ih (r:=r) (by omega);obtain ⟨y,hy,h2⟩:=sweep_arc g _ hi hu hx;exact ⟨y,hy,by omega⟩
theorem rounds_opt {g : G} (ok : g.Ok) {t r : Nat} (ht : t < g.n) (hr : g.n ≤ r + 1) : Opt g t (rounds g t r):=by
 intro v _;refine ⟨fun x hx => rounds_real g t r v x hx,fun k c hw => ?_⟩;obtain ⟨k',c',h1,h2,h3,h4⟩:=hw.short ok ht;obtain ⟨x,hx,h5⟩:=rounds_walk (r:=r) h1 (by omega);exact ⟨x,hx,by omega⟩
theorem relax_none {g : G} {L : Nat → Option Int} (hn : ∀ v,g.n ≤ v → L v = none) (ok : g.Ok) {i : Nat} (hi : i < g.m) : ∀ v,g.n ≤ v → relax g L i v = none:=by
 intro v hv
 rcases relax_cases g L i with ⟨e,_⟩ | ⟨_,x,hx,hl,e⟩
 ·rw [e]; exact hn v hv
 ·rw [e,put_far _ _ (by have:=ok.fl i hi; omega)]; exact hn v hv
theorem sweep_none {g : G} {L : Nat → Option Int} (ok : g.Ok) (hn : ∀ v,g.n ≤ v → L v = none) : ∀ i,i ≤ g.m → ∀ v,g.n ≤ v → sweep g L i v = none:=by
 intro i
 induction i with
 | zero => exact fun _ => hn
 | succ i ih => exact fun hi => relax_none (ih (by omega)) ok (by omega)
theorem rounds_none {g : G} (ok : g.Ok) {t : Nat} (ht : t < g.n) : ∀ r v,g.n ≤ v → rounds g t r v = none:=by
 intro r
 induction r with
 | zero => intro v hv; simp [rounds,start]; omega
 | succ r ih => exact sweep_none ok ih _ (Nat.le_refl _)
theorem rounds_fix {g : G} (ok : g.Ok) {t r : Nat} (ht : t < g.n) (hr : g.n ≤ r + 1) : ∀ v,rounds g t (r + 1) v = rounds g t r v:=by
 intro v
 by_cases hv : v < g.n
 case pos => exact (rounds_opt ok ht (by omega)).uniq (rounds_opt ok ht hr) v hv
 rw [rounds_none ok ht _ v (by omega),rounds_none ok ht _ v (by omega)]
theorem sweep_same {g : G} {L : Nat → Option Int} (h : ∀ v,sweep g L g.m v = L v) {i : Nat} (hi : i ≤ g.m) : ∀ v,sweep g L i v = L v:=by
 intro v;have h1:=sweep_le g L 0 i v;have h2:=sweep_le g L i (g.m - i) v;rw [Nat.zero_add] at h1;rw [show i + (g.m - i) = g.m by omega,h v] at h2;cases e : L v with
 | none =>
  cases e' : sweep g L i v with
  | none => rfl
  | some y =>
   obtain ⟨x,hx,_⟩:=h2 y e';rw [e] at hx; cases hx
 | some x =>
  obtain ⟨y,hy,a1⟩:=h1 x (by simpa [sweep] using e);obtain ⟨x',hx',a2⟩:=h2 y hy;rw [e] at hx';obtain rfl:=Option.some.inj hx';rw [hy]; congr 1; omega
theorem relax_bd {g : G} {L : Nat → Option Int} {B : Int} (h : ∀ v x,L v = some x → 0 ≤ x ∧ x ≤ B) {i : Nat} {w1 : Int} (hw0 : 0 ≤ g.w i) (hw : g.w i ≤ w1) : ∀ v x,relax g L i v = some x → 0 ≤ x ∧ x ≤ B + w1:=by
 intro v x hx
 rcases relax_cases g L i with ⟨e,_⟩ | ⟨_,y,hy,hl,e⟩
 ·rw [e] at hx; have:=h v x hx; omega
 ·rw [e] at hx
  by_cases hv : v = g.fr i
  case neg => rw [put_far _ _ hv] at hx; have:=h v x hx; omega
  subst hv;rw [put_same] at hx;obtain rfl:=Option.some.inj hx;have:=h _ _ hy; omega
end Go.Proofs.Ytmioaahiflfcdaa.Sp
namespace Go.Proofs.Ytmioaahiflfcdaa.Sp
structure Dbl (g e s : G) (D : Nat → Option Int) : Prop where
 en : e.n = g.n
 em : e.m = g.m
 ef : e.fr = g.fr
 et : e.tw = g.tw
 eu : e.use = g.use
 ew : ∀ i,i < g.m → e.w i = 1000 * g.w i + 1
 sn : s.n = g.n
 sm : s.m = g.m
 sf : s.fr = g.fr
 st : s.tw = g.tw
 sw : ∀ i,i < g.m → s.w i = 1
 su : ∀ i,i < g.m → (s.use i = true ↔ g.use i = true ∧ ∃ x,D (g.tw i) = some x ∧ D (g.fr i) = some (g.w i + x))
def both (D S : Nat → Option Int) : Nat → Option Int:=fun v =>
 match D v with
 | none => none
 | some d => match S v with
  | none => none
  | some k => some (1000 * d + k)
section
variable {g e s : G} {t : Nat} {D S : Nat → Option Int} (h : Dbl g e s D) (ok : g.Ok) (hD : Opt g t D) (hS : Opt s t S) (ht : t < g.n)
include h
theorem Dbl.okS (ok : g.Ok) : s.Ok:=by
 refine ⟨?_,?_,?_⟩
 ·rw [h.sf,h.sm,h.sn]; exact ok.fl
 ·rw [h.st,h.sm,h.sn]; exact ok.tl
 ·intro i hi;rw [h.sm] at hi;rw [h.sw i hi]; omega
theorem Dbl.toE {u v k : Nat} {c : Int} (w : Wk g u v k c) : Wk e u v k (1000 * c + k):=by
 induction w with
 | nil => exact (Wk.nil _).cast rfl (by omega)
 | @cons i v k c hi hu _ ih =>
  have h1 : Wk e (e.tw i) v k (1000 * c + k):=by rw [h.et]; exact ih
  have h2:=Wk.cons (i:=i) (by rw [h.em]; exact hi) (by rw [h.eu]; exact hu) h1;rw [h.ef,h.ew i hi] at h2;exact h2.cast rfl (by omega)
theorem Dbl.ofE {u v k : Nat} {c : Int} (w : Wk e u v k c) : ∃ c',Wk g u v k c' ∧ c = 1000 * c' + k:=by
 induction w with
 | nil => exact ⟨0,.nil _,by omega⟩
 | @cons i v k c hi hu _ ih =>
  obtain ⟨c',h1,h2⟩:=ih;rw [h.em] at hi;rw [h.eu] at hu;rw [h.et] at h1;refine ⟨g.w i + c',?_,by rw [h.ew i hi]; omega⟩;rw [h.ef];exact .cons hi hu h1
theorem Dbl.ofS (hD : Opt g t D) (ht : t < g.n) (ok : g.Ok) {u k : Nat} {c : Int} (w : Wk s u t k c) : ∃ d,D u = some d ∧ Wk g u t k d ∧ c = k:=by
 generalize ev : t = v at w
 induction w with
 | nil v =>
  subst ev;obtain ⟨x,hx,h1⟩:=(hD t ht).2 0 0 (.nil _);obtain ⟨k,hk⟩:=(hD t ht).1 x hx;have:=hk.nonneg ok;have e0 : x = 0:=by omega
  subst e0;exact ⟨0,hx,.nil _,rfl⟩
 | @cons i v k c hi hu _ ih =>
  obtain ⟨d,h1,h2,h3⟩:=ih ev;rw [h.sm] at hi;obtain ⟨g1,x,g2,g3⟩:=(h.su i hi).1 hu;rw [h.st] at h1 h2;rw [g2] at h1;obtain rfl:=Option.some.inj h1;rw [h.sf];exact ⟨_,g3,.cons hi g1 h2,by rw [h.sw i hi,h3]; omega⟩
theorem Dbl.toS (hD : Opt g t D) (ok : g.Ok) {u k : Nat} {c : Int} (w : Wk g u t k c) (hc : D u = some c) : Wk s u t k k:=by
 generalize ev : t = v at w
 induction w with
 | nil => exact .nil _
 | @cons i v k c hi hu w ih =>
  subst ev;obtain ⟨x,hx,h1⟩:=(hD _ (ok.tl i hi)).2 k c w;obtain ⟨j,hj⟩:=(hD _ (ok.tl i hi)).1 x hx;obtain ⟨y,hy,h2⟩:=(hD _ (ok.fl i hi)).2 _ _ (Wk.cons hi hu hj);rw [hc] at hy;obtain rfl:=Option.some.inj hy;have ex : x = c:=by omega
  subst ex;have h3:=ih hx rfl;rw [← h.st] at h3;have h4:=Wk.cons (i:=i) (by rw [h.sm]; exact hi) ((h.su i hi).2 ⟨hu,x,hx,hc⟩) h3;rw [h.sf,h.sw i hi] at h4;exact h4.cast rfl (by omega)
theorem Dbl.some (hD : Opt g t D) (hS : Opt s t S) (ht : t < g.n) (ok : g.Ok) {v : Nat} (hv : v < g.n) {d : Int} (hd : D v = .some d) : ∃ k : Nat,S v = .some (k : Int) ∧ k < g.n ∧ Wk s v t k k:=by
 obtain ⟨k,hk⟩:=(hD v hv).1 d hd;have w:=h.toS hD ok hk hd;obtain ⟨x,hx,h1⟩:=(hS v (by rw [h.sn]; exact hv)).2 _ _ w;obtain ⟨j,hj⟩:=(hS v (by rw [h.sn]; exact hv)).1 x hx;obtain ⟨d',e1,e2,e3⟩:=h.ofS hD ht ok hj;obtain ⟨j',c',w1,w2,w3,w4⟩:=hj.short (h.okS ok) (by rw [h.sn]; exact ht);obtain ⟨y,hy,h5⟩:=(hS v (by rw [h.sn]; exact hv)).2 _ _ w1;rw [hx] at hy;obtain rfl:=Option.some.inj hy;obtain ⟨_,_,_,e5⟩:=h.ofS hD ht ok w1;rw [h.sn] at w2;exact ⟨j,by rw [hx,e3],by omega,e3 ▸ hj⟩
theorem Dbl.opt (hD : Opt g t D) (hS : Opt s t S) (ht : t < g.n) (ok : g.Ok) (h8 : g.n ≤ 1000) : Opt e t (both D S):=by
 intro v hv;rw [h.en] at hv;constructor
 ·intro x hx
  unfold both at hx
  cases ed : D v with
  | none => rw [ed] at hx; cases hx
  | some d =>
   obtain ⟨k,hk,h1,h2⟩:=h.some hD hS ht ok hv ed;rw [ed,hk] at hx;obtain rfl:=Option.some.inj hx;obtain ⟨d',g1,g2,g3⟩:=h.ofS hD ht ok h2;rw [ed] at g1;obtain rfl:=Option.some.inj g1;exact ⟨k,h.toE g2⟩
 ·intro k c w;obtain ⟨c',w1,rfl⟩:=h.ofE w;obtain ⟨d,hd,h1⟩:=(hD v hv).2 _ _ w1;obtain ⟨j,hj,h2,h3⟩:=h.some hD hS ht ok hv hd;refine ⟨1000 * d + j,by simp [both,hd,hj],?_⟩
  by_cases e0 : d = c'
  case neg => omega
  subst e0;have w2:=h.toS hD ok w1 hd;obtain ⟨x,hx,h4⟩:=(hS v (by rw [h.sn]; exact hv)).2 _ _ w2;rw [hj] at hx;obtain rfl:=Option.some.inj hx;omega
end
end Go.Proofs.Ytmioaahiflfcdaa.Sp
end
section
set_option linter.unusedSimpArgs false
set_option linter.unusedVariables false
set_option linter.unusedSectionVars false
namespace Go.Proofs.Ytmioaahiflfcdaa.Pure
open Go.RowKit Go.Proofs.Ytmioaahiflfcdaa.Pr Go.Proofs.YtmioaahiflfcdaaW.PrintWords Go.Proofs.YtmioaahiflfcdaaW.PrintLast Go.Proofs.YtmioaahiflfcdaaW.PrintMore
open Go.Proofs.Ytmioaahiflfcdaa.Sp (G Wk Opt lts put relax sweep rounds start Dbl)
def gr (N : Nat) (l : List Arc) : G:=⟨N,l.length,fun i => (arc l i).f0.toNat,fun i => (arc l i).f1.toNat,fun i => (arc l i).f2,fun _ => true⟩
def grE (N : Nat) (l : List Arc) : G:={ gr N l with w:=fun i => 1000 * (arc l i).f2 + 1 }
def grS (N : Nat) (l : List Arc) (D : Nat → Option Int) : G:={ gr N l with w:=fun _ => 1,use:=fun i => match D (arc l i).f1.toNat with | none => false | some x => decide (D (arc l i).f0.toNat = some ((arc l i).f2 + x)) }
section
variable {N : Nat} {l : List Arc} (hg : NetGood N l)
include hg
theorem gr_ok : (gr N l).Ok:=⟨fun i hi => by have:=hg.ok i hi; show (arc l i).f0.toNat < N; omega,fun i hi => by have:=hg.ok i hi; show (arc l i).f1.toNat < N; omega,fun i hi => by have:=hg.ok i hi; show 0 ≤ (arc l i).f2; omega⟩
theorem grE_ok : (grE N l).Ok:=⟨fun i hi => by have:=hg.ok i hi; show (arc l i).f0.toNat < N; omega,fun i hi => by have:=hg.ok i hi; show (arc l i).f1.toNat < N; omega,fun i hi => by have:=hg.ok i hi; show 0 ≤ 1000 * (arc l i).f2 + 1; omega⟩
theorem grS_ok (D : Nat → Option Int) : (grS N l D).Ok:=⟨fun i hi => by have:=hg.ok i hi; show (arc l i).f0.toNat < N; omega,fun i hi => by have:=hg.ok i hi; show (arc l i).f1.toNat < N; omega,fun i hi => by show (0 : Int) ≤ 1; omega⟩
end
theorem dbl (N : Nat) (l : List Arc) (D : Nat → Option Int) : Dbl (gr N l) (grE N l) (grS N l D) D:=by
 refine ⟨rfl,rfl,rfl,rfl,rfl,fun i _ => rfl,rfl,rfl,rfl,rfl,fun i _ => rfl,fun i _ => ?_⟩
 show (match D (arc l i).f1.toNat with | none => false | some x => decide (D (arc l i).f0.toNat = some ((arc l i).f2 + x))) = true ↔ _
 cases e : D (arc l i).f1.toNat with
 | none =>
  refine ⟨fun h => (by cases h),fun ⟨_,x,h,_⟩ => ?_⟩;have h : D (arc l i).f1.toNat = some x:=h;rw [e] at h; cases h
 | some x =>
  dsimp only;rw [decide_eq_true_iff];refine ⟨fun h => ⟨rfl,x,e,h⟩,fun ⟨_,y,h,h2⟩ => ?_⟩;have h : D (arc l i).f1.toNat = some y:=h;rw [e] at h;obtain rfl:=Option.some.inj h;exact h2
def dst (N : Nat) (l : List Arc) (t : Nat) : Nat → Option Int:=rounds (gr N l) t N
def stp (N : Nat) (l : List Arc) (t : Nat) : Nat → Option Int:=rounds (grS N l (dst N l t)) t N
section
variable {N : Nat} {l : List Arc} (hg : NetGood N l) {t : Nat} (ht : t < N)
include hg ht
theorem dst_opt : Opt (gr N l) t (dst N l t):=Sp.rounds_opt (gr_ok hg) ht (by show N ≤ N + 1; omega)
theorem stp_opt : Opt (grS N l (dst N l t)) t (stp N l t):=Sp.rounds_opt (grS_ok hg _) ht (by show N ≤ N + 1; omega)
theorem stp_some {v : Nat} (hv : v < N) {d : Int} (hd : dst N l t v = some d) : ∃ k : Nat,stp N l t v = some (k : Int) ∧ k < N:=by
 obtain ⟨k,h1,h2,_⟩:=(dbl N l (dst N l t)).some (dst_opt hg ht) (stp_opt hg ht) ht (gr_ok hg) hv hd;exact ⟨k,h1,h2⟩
theorem tow_both {v : Nat} (hv : v < N) : rounds (grE N l) t N v = Sp.both (dst N l t) (stp N l t) v:=by
 have h8:=hg.n8;have h1:=Sp.rounds_opt (g:=grE N l) (t:=t) (r:=N) (grE_ok hg) ht (by show N ≤ N + 1; omega);have h2:=(dbl N l (dst N l t)).opt (dst_opt hg ht) (stp_opt hg ht) ht (gr_ok hg) (by show N ≤ 1000; omega);exact h1.uniq h2 v hv
end
abbrev Msr:=S101
def ent : Option Int → Msr
 | none => ⟨99999,0⟩
 | some x => ⟨x / 1000,x % 1000⟩
def far : Option Int → Int
 | none => 99999
 | some x => x
def lstM (N : Nat) (F : Nat → Msr) : List Msr:=(List.range N).map F
theorem lstM_len (N : Nat) (F : Nat → Msr) : (lstM N F).length = N:=by simp [lstM]
theorem lstM_rd {N v : Nat} (F : Nat → Msr) (h : v < N) : rd_T101 (lstM N F) (v : Int) = F v:=by
 simp [rd_T101,lstM,h]
theorem lstM_congr {N : Nat} {F H : Nat → Msr} (h : ∀ v,v < N → F v = H v) : lstM N F = lstM N H:=by
 unfold lstM
 exact List.map_congr_left (fun v hv => h v (List.mem_range.1 hv))
theorem lstM_set {N a : Nat} (L : Nat → Option Int) (x : Int) : (lstM N (fun v => ent (L v))).set a (ent (some x)) = lstM N (fun v => ent (put L a x v)):=by
 apply List.ext_getElem (by simp [lstM])
 intro i h1 h2;simp only [List.getElem_set]
 by_cases e : a = i
 case pos => subst e; simp [lstM,put]
 simp [lstM,put,e,show ¬ i = a from fun h => e h.symm]
theorem less_eq (a b c d : Int) : impl_measure_less.f a b c d = some (decide (a < c ∨ a = c ∧ b < d)):=by
 unfold impl_measure_less.f
 by_cases h : a < c
 case pos => rw [if_pos h,decide_eq_true (.inl h)]
 rw [if_neg h]
 by_cases h2 : a = c
 case neg => rw [if_neg h2,decide_eq_false (fun h3 => h3.elim h (fun h4 => h2 h4.1))]
 rw [if_pos h2]
 congr 1
 simp only [decide_eq_decide];exact ⟨fun h3 => .inr ⟨h2,h3⟩,fun h3 => h3.elim (fun h4 => absurd h4 h) (fun h4 => h4.2)⟩
def Bd (s : Nat) (L : Nat → Option Int) : Prop:=∀ v x,L v = some x → 0 ≤ x ∧ x / 1000 ≤ 99 * (s : Int) ∧ x % 1000 ≤ (s : Int)
theorem Bd.relax {N : Nat} {l : List Arc} (hg : NetGood N l) {s : Nat} {L : Nat → Option Int} (h : Bd s L) (hs : s < 900) {i : Nat} (hi : i < l.length) : Bd (s + 1) (relax (grE N l) L i):=by
 obtain ⟨_,_,_,⟨a1,a2⟩,_⟩:=hg.ok i hi;intro v x hx
 rcases Sp.relax_cases (grE N l) L i with ⟨e,_⟩ | ⟨_,y,hy,hl,e⟩
 ·rw [e] at hx; have:=h v x hx; omega
 ·rw [e] at hx
  by_cases hv : v = (grE N l).fr i
  case neg => rw [Sp.put_far _ _ hv] at hx; have:=h v x hx; omega
  subst hv;rw [Sp.put_same] at hx;have hx : some (y + (1000 * (arc l i).f2 + 1)) = some x:=hx;obtain rfl:=Option.some.inj hx;have:=h _ _ hy;omega
theorem Bd.sweep {N : Nat} {l : List Arc} (hg : NetGood N l) {s : Nat} {L : Nat → Option Int} (h : Bd s L) : ∀ i,i ≤ l.length → s + i ≤ 900 → Bd (s + i) (sweep (grE N l) L i):=by
 intro i
 induction i with
 | zero => exact fun _ _ => h
 | succ i ih => exact fun hi hs => (ih (by omega) (by omega)).relax hg (by omega) (by omega)
theorem Bd.mono {s r : Nat} {L : Nat → Option Int} (h : Bd s L) (hs : s ≤ r) : Bd r L:=fun v x hx => by have:=h v x hx; omega
theorem Bd.rounds {N : Nat} {l : List Arc} (hg : NetGood N l) (t : Nat) : ∀ r,r ≤ 9 → Bd (16 * r) (rounds (grE N l) t r):=by
 intro r
 induction r with
 | zero =>
  intro _ v x hx
  unfold Sp.rounds Sp.start at hx
  split at hx
  ·obtain rfl:=Option.some.inj hx; omega
  ·cases hx
 | succ r ih =>
  intro hr;have:=hg.len;exact ((ih (by omega)).sweep hg l.length (Nat.le_refl _) (by omega)).mono (by omega)
def hit (g : G) (L : Nat → Option Int) (i : Nat) : Bool:=match L (g.tw i) with
 | none => false
 | some x => lts (x + g.w i) (L (g.fr i))
def fl (g : G) (L : Nat → Option Int) : Nat → Bool
 | 0 => false
 | i + 1 => fl g L i || hit g (sweep g L i) i
theorem relax_hit {g : G} {L : Nat → Option Int} {i : Nat} (h : hit g L i = false) : relax g L i = L:=by
 unfold hit at h
 unfold Sp.relax
 split
 ·cases e : L (g.tw i) with
  | none => rfl
  | some x => rw [e] at h; dsimp only at h ⊢; rw [h]; rfl
 ·rfl
theorem fl_none {g : G} {L : Nat → Option Int} : ∀ i,fl g L i = false → sweep g L i = L
 | 0,_ => rfl
 | i + 1,h => by
  have h : (fl g L i || hit g (sweep g L i) i) = false:=h;rw [Bool.or_eq_false_iff] at h
  show relax g (sweep g L i) i = L
  rw [relax_hit h.2,fl_none i h.1]
theorem fl_same {g : G} (hu : ∀ i,g.use i = true) {L : Nat → Option Int} (h : ∀ v,sweep g L g.m v = L v) : ∀ i,i ≤ g.m → fl g L i = false
 | 0,_ => rfl
 | i + 1,hi => by
  show (fl g L i || hit g (sweep g L i) i) = false
  rw [fl_same hu h i (by omega),Bool.false_or];have e1 : sweep g L i = L:=funext (Sp.sweep_same h (by omega));have e2 : relax g L i = L:=by
   have : sweep g L (i + 1) = L:=funext (Sp.sweep_same h hi);have e3 : sweep g L (i + 1) = relax g (sweep g L i) i:=rfl;rw [e3,e1] at this;exact this
  rw [e1]
  unfold hit
  unfold Sp.relax at e2
  rw [if_pos (hu i)] at e2;cases e : L (g.tw i) with
  | none => rfl
  | some x =>
   rw [e] at e2;dsimp only at e2 ⊢;cases hl : lts (x + g.w i) (L (g.fr i)) with
   | false => rfl
   | true =>
    rw [if_pos hl] at e2;have:=congrFun e2 (g.fr i);rw [Sp.put_same] at this;rw [← this] at hl;simp [Sp.lts] at hl
section
variable {N : Nat} {l : List Arc} (hg : NetGood N l)
include hg
theorem tow_l1 (L : Nat → Option Int) {s : Nat} (hs : s ≤ 700) (hL : Bd s L) {R : List Msr} : ∀ (m i : Nat),l.length - i = m → i ≤ l.length →
  Ev (fun k => impl_Net_toward.l0 k (lstM N (fun v => ent (sweep (grE N l) L l.length v))) (fl (grE N l) L l.length) N l) R →
  Ev (fun k => impl_Net_toward.l1 k (lstM N (fun v => ent (sweep (grE N l) L i v))) (fl (grE N l) L i) l (l.length : Int) (i : Int) N l) R:=by
 have h16:=hg.len;intro m
 induction m with
 | zero =>
  intro i hd hi h;have e : i = l.length:=by omega
  subst e;refine Ev.go ?_ (fun k => by rw [impl_Net_toward.l1]);exact Ev.neg (by omega) h
 | succ m ih =>
  intro i hd hi h;have hlt : i < l.length:=by omega
  have hn:=ih (i + 1) (by omega) (by omega) h;clear ih h;have hb:=hL.sweep hg i hi (by omega);obtain ⟨⟨a1,a2⟩,⟨a3,a4⟩,a5,⟨a6,a7⟩,_⟩:=hg.ok i hlt;have ef : (grE N l).fr i = (arc l i).f0.toNat:=rfl;have et : (grE N l).tw i = (arc l i).f1.toNat:=rfl;have ew : (grE N l).w i = 1000 * (arc l i).f2 + 1:=rfl;obtain ⟨f,hf⟩:=Int.eq_ofNat_of_zero_le a1;obtain ⟨t,ht⟩:=Int.eq_ofNat_of_zero_le a3;rw [hf,Int.toNat_natCast] at ef;rw [ht,Int.toNat_natCast] at et;have hfN : f < N:=by omega
  have htN : t < N:=by omega
  have hsw : sweep (grE N l) L (i + 1) = relax (grE N l) (sweep (grE N l) L i) i:=rfl;have hfl : fl (grE N l) L (i + 1) = (fl (grE N l) L i || hit (grE N l) (sweep (grE N l) L i) i):=rfl;rw [hsw,hfl] at hn;clear hsw hfl;generalize sweep (grE N l) L i = M at hn hb;generalize fl (grE N l) L i = b at hn;refine Ev.go ?_ (fun k => by rw [impl_Net_toward.l1]);rw [rda,up1 hlt (by simp only [maxLen]; omega),hf,ht,lstM_rd _ htN,lstM_rd _ hfN,lstM_len];refine Ev.pos (by omega) (Ev.pos (by omega) (Ev.pos (by omega) (Ev.pos (by omega) (Ev.pos (by omega) ?_))));cases et2 : M t with
  | none =>
   have hh : hit (grE N l) M i = false:=by unfold hit; rw [et,et2]
   rw [hh,relax_hit hh,Bool.or_false] at hn;exact Ev.pos rfl hn
  | some x =>
   have hx:=hb t x et2;have hq : 0 ≤ x / 1000:=by omega
   have hr : 0 ≤ x % 1000:=by omega
   have w1 : wrap64 (x / 1000 + (arc l i).f2) = x / 1000 + (arc l i).f2:=w64 (by omega) (by omega);have w2 : wrap64 (x % 1000 + 1) = x % 1000 + 1:=w64 (by omega) (by omega);have e1 : (x + (1000 * (arc l i).f2 + 1)) / 1000 = x / 1000 + (arc l i).f2:=by omega
   have e2 : (x + (1000 * (arc l i).f2 + 1)) % 1000 = x % 1000 + 1:=by omega
   have eent : (⟨x / 1000 + (arc l i).f2,x % 1000 + 1⟩ : Msr) = ent (some (x + (1000 * (arc l i).f2 + 1))):=by simp only [ent,e1,e2]
   have hne : ¬ ((ent (some x)).f0 = 99999):=by show ¬ (x / 1000 = 99999); omega
   have elts : decide ((x / 1000 + (arc l i).f2) < (ent (M f)).f0 ∨ (x / 1000 + (arc l i).f2) = (ent (M f)).f0 ∧ (x % 1000 + 1) < (ent (M f)).f1) = lts (x + (1000 * (arc l i).f2 + 1)) (M f):=by
    cases ef2 : M f with
    | none => exact decide_eq_true (.inl (by show x / 1000 + (arc l i).f2 < 99999; omega))
    | some y =>
     have hy:=hb f y ef2
     show decide (_ < y / 1000 ∨ _ = y / 1000 ∧ _ < y % 1000) = decide (_ < y)
     rw [decide_eq_decide];omega
   have hh : hit (grE N l) M i = lts (x + (1000 * (arc l i).f2 + 1)) (M f):=by unfold hit; rw [et,et2,ef,ew]
   have hre : relax (grE N l) M i = if lts (x + (1000 * (arc l i).f2 + 1)) (M f) = true then put M f (x + (1000 * (arc l i).f2 + 1)) else M:=by
    unfold Sp.relax
    rw [if_pos (show (grE N l).use i = true from rfl),et,et2,ef,ew]
   rw [hh,hre] at hn;clear hh hre;refine Ev.neg hne ?_
   show Ev (fun k => if 0 ≤ ((f : Nat) : Int) then _ else _) R
   rw [show (ent (some x)).f0 = x / 1000 from rfl,show (ent (some x)).f1 = x % 1000 from rfl,w1,w2,Int.toNat_natCast,eent,lstM_set];clear w1 w2 hne;refine Ev.pos (by omega) (Ev.pos (by omega) (Ev.bind0 (less_eq _ _ _ _) ?_));rw [elts];cases c : lts (x + (1000 * (arc l i).f2 + 1)) (M f) with
   | true =>
    rw [c,if_pos rfl,Bool.or_true] at hn;exact Ev.pos rfl hn
   | false =>
    rw [c,if_neg (by simp),Bool.or_false] at hn;exact Ev.neg (by simp) hn
theorem tow_l0 {t : Nat} (ht : t < N) : ∀ d r,r + d = N → Ev (fun k => impl_Net_toward.l0 k (lstM N (fun v => ent (rounds (grE N l) t r v))) true N l) (lstM N (fun v => ent (rounds (grE N l) t N v))):=by
 have h8:=hg.n8;have stop : ∀ r,r ≤ N → fl (grE N l) (rounds (grE N l) t r) l.length = false → lstM N (fun v => ent (rounds (grE N l) t (r + 1) v)) = lstM N (fun v => ent (rounds (grE N l) t N v)):=by
  intro r hr hf;have e:=fl_none l.length hf;have o1 : Opt (grE N l) t (rounds (grE N l) t r):=Sp.opt_of_fix (Sp.rounds_real _ _ _) (Sp.rounds_t _ _ _) (fun v => congrFun e v);have o2:=Sp.rounds_opt (g:=grE N l) (t:=t) (r:=N) (grE_ok hg) ht (by show N ≤ N + 1; omega);refine lstM_congr (fun v hv => ?_);have e2 : rounds (grE N l) t (r + 1) = rounds (grE N l) t r:=e;rw [e2,o1.uniq o2 v hv]
 intro d
 induction d with
 | zero =>
  intro r hr;obtain rfl : r = N:=by omega
  refine Ev.go ?_ (fun k => by rw [impl_Net_toward.l0]);refine Ev.pos rfl (tow_l1 hg (rounds (grE r l) t r) (s:=16 * r) (by omega) (Bd.rounds hg t r (by omega)) _ 0 rfl (Nat.zero_le _) ?_);have hf:=fl_same (g:=grE r l) (fun _ => rfl) (L:=rounds (grE r l) t r) (Sp.rounds_fix (grE_ok hg) ht (by show r ≤ r + 1; omega)) l.length (Nat.le_refl _);rw [hf];refine Ev.go ?_ (fun k => by rw [impl_Net_toward.l0]);exact Ev.neg (by simp) (Ev.is (stop r (Nat.le_refl _) hf))
 | succ d ih =>
  intro r hr;refine Ev.go ?_ (fun k => by rw [impl_Net_toward.l0]);refine Ev.pos rfl (tow_l1 hg (rounds (grE N l) t r) (s:=16 * r) (by omega) (Bd.rounds hg t r (by omega)) _ 0 rfl (Nat.zero_le _) ?_);cases hf : fl (grE N l) (rounds (grE N l) t r) l.length with
  | true => exact ih (r + 1) (by omega)
  | false =>
   refine Ev.go ?_ (fun k => by rw [impl_Net_toward.l0]);exact Ev.neg (by simp) (Ev.is (stop r (by omega) hf))
theorem tow_ev {t : Nat} (ht : t < N) : Ev (fun k => impl_Net_toward.f k N l (t : Int)) (lstM N (fun v => ent (rounds (grE N l) t N v))):=by
 have h8:=hg.n8
 unfold impl_Net_toward.f
 refine Ev.bind0 (rep_measure _ N (by omega)) ?_;refine Ev.pos (by omega) (Ev.pos (by simp; omega) ?_);have e : (List.replicate N (⟨99999,0⟩ : Msr)).set (t : Int).toNat ⟨0,0⟩ = lstM N (fun v => ent (rounds (grE N l) t 0 v)):=by
  apply List.ext_getElem (by simp [lstM])
  intro i h1 h2;simp only [Int.toNat_natCast,List.getElem_set]
  by_cases c : t = i
  case pos => subst c; simp [lstM,Sp.rounds,Sp.start,ent]
  simp [lstM,Sp.rounds,Sp.start,ent,c,show ¬ i = t from fun h => c h.symm]
 rw [e];exact tow_l0 hg ht N 0 (by omega)
theorem ent_far {t : Nat} (ht : t < N) {v : Nat} (hv : v < N) : (ent (rounds (grE N l) t N v)).f0 = far (dst N l t v):=by
 have h8:=hg.n8;rw [tow_both hg ht hv]
 unfold Sp.both
 cases e : dst N l t v with
 | none => rfl
 | some d =>
  obtain ⟨k,h1,h2⟩:=stp_some hg ht hv e;rw [h1]
  show (1000 * d + (k : Int)) / 1000 = d
  omega
end
theorem costs_l (N : Nat) (hN : N ≤ 64) (F : Nat → Msr) : ∀ (m i : Nat),N - i = m → i ≤ N → Ev (fun k => impl_costs.l0 k (lst i (fun v => (F v).f0)) (lstM N F) (N : Int) (i : Int)) (lst N (fun v => (F v).f0)):=by
 intro m
 induction m with
 | zero =>
  intro i hd hi;refine Ev.go ?_ (fun k => by rw [impl_costs.l0]);obtain rfl : i = N:=by omega
  exact Ev.neg (by omega) (Ev.now _)
 | succ m ih =>
  intro i hd hi;refine Ev.go ?_ (fun k => by rw [impl_costs.l0]);rw [up1 (show i < N by omega) (by simp only [maxLen]; omega),lstM_rd F (show i < N by omega),lst_snoc i (fun v => (F v).f0),lst_len,lstM_len];exact Ev.pos (by omega) (Ev.pos (by omega) (Ev.pos (by omega) (Ev.pos (by omega) (ih (i + 1) (by omega) (by omega)))))
theorem costs_ev (N : Nat) (hN : N ≤ 64) (F : Nat → Msr) : Ev (fun k => impl_costs.f k (lstM N F)) (lst N (fun v => (F v).f0)):=by
 unfold impl_costs.f
 rw [lstM_len];exact Ev.pos (by omega) (Ev.pos (by omega) (costs_l N hN F _ 0 rfl (Nat.zero_le _)))
theorem from_ev {N : Nat} {l : List Arc} (hg : NetGood N l) {s : Nat} (hs : s < N) : Ev (fun k => impl_Net_from.f k N l (s : Int)) (lst N (fun v => far (dst N (back l) s v))):=by
 have h8:=hg.n8;have h16:=hg.len
 unfold impl_Net_from.f
 refine Ev.bind (implBack_ev _ l (by omega)) (Ev.bind (tow_ev (back_good hg) hs) (Ev.bind (costs_ev N (by omega) _) (Ev.is ?_)));exact lst_congr (fun v hv => ent_far (back_good hg) hs hv)
end Go.Proofs.Ytmioaahiflfcdaa.Pure
end
section
set_option linter.unusedSimpArgs false
set_option linter.unusedVariables false
set_option linter.unusedSectionVars false
namespace Go.Proofs.Ytmioaahiflfcdaa.Pure
open Go.RowKit Go.Proofs.Ytmioaahiflfcdaa.Pr Go.Proofs.YtmioaahiflfcdaaW.PrintWords Go.Proofs.YtmioaahiflfcdaaW.PrintLast Go.Proofs.YtmioaahiflfcdaaW.PrintMore
open Go.Proofs.Ytmioaahiflfcdaa.Sp (G Wk Opt)
def tab (N : Nat) (l : List Arc) (s : Nat) : List Int:=lst N (fun v => far (dst N (back l) s v))
theorem table_l {N : Nat} {l : List Arc} (hg : NetGood N l) : ∀ (m i : Nat),N - i = m → i ≤ N → Ev (fun k => impl_Net_table.l0 k ((List.range i).map (tab N l)) (N : Int) (i : Int) N l) ((List.range N).map (tab N l)):=by
 have h8:=hg.n8;intro m
 induction m with
 | zero =>
  intro i hd hi;obtain rfl : i = N:=by omega
  refine Ev.go ?_ (fun k => by rw [impl_Net_table.l0]);exact Ev.neg (by omega) (Ev.now _)
 | succ m ih =>
  intro i hd hi;refine Ev.go ?_ (fun k => by rw [impl_Net_table.l0]);have ih:=ih (i + 1) (by omega) (by omega);rw [List.range_succ,List.map_append] at ih;rw [up1 (show i < N by omega) (by simp only [maxLen]; omega)];exact Ev.pos (by omega) (Ev.bind (from_ev hg (show i < N by omega)) (Ev.pos (by simp; omega) ih))
theorem table_ev {N : Nat} {l : List Arc} (hg : NetGood N l) : Ev (fun k => impl_Net_table.f k N l) ((List.range N).map (tab N l)):=by
 have h8:=hg.n8
 unfold impl_Net_table.f
 exact Ev.pos (by omega) (Ev.pos (by omega) (by simpa using table_l hg _ 0 rfl (Nat.zero_le _)))
theorem back_arc' (l : List Arc) (i : Nat) : arc (back l) i = flip (arc l i):=by
 by_cases h : i < l.length
 case pos => exact back_arc h
 have e1 : arc (back l) i = z80:=by unfold arc; simp [rd_T80,back_len,List.getElem?_eq_none (show l.length ≤ i by omega),List.getElem?_eq_none (show (back l).length ≤ i by rw [back_len]; omega)]
 have e2 : arc l i = z80:=by unfold arc; simp [rd_T80,List.getElem?_eq_none (show l.length ≤ i by omega)]
 rw [e1,e2]; rfl
theorem wk_cost {N : Nat} {l : List Arc} (hg : NetGood N l) {u v k : Nat} {c : Int} (w : Wk (gr N l) u v k c) : c ≤ 99 * (k : Int):=by
 induction w with
 | nil => omega
 | @cons i _ _ c hi _ _ ih =>
  have h : (gr N l).w i ≤ 99:=(hg.ok i hi).2.2.2.1.2;omega
section
variable {N : Nat} {l : List Arc} (hg : NetGood N l) {t : Nat} (ht : t < N)
include hg ht
theorem dst_bd {v : Nat} (hv : v < N) {d : Int} (h : dst N l t v = some d) : 0 ≤ d ∧ d ≤ 693:=by
 have h8:=hg.n8;obtain ⟨k,w⟩:=(dst_opt hg ht v hv).1 d h;obtain ⟨k',c',w',h1,h2,h3⟩:=w.short (gr_ok hg) ht;obtain ⟨x,h4,h5⟩:=(dst_opt hg ht v hv).2 _ _ w';rw [h] at h4;obtain rfl:=Option.some.inj h4;have h6:=wk_cost hg w';have h7 : k' < N:=h1;exact ⟨w.nonneg (gr_ok hg),by omega⟩
end
end Go.Proofs.Ytmioaahiflfcdaa.Pure
end
section
set_option linter.unusedSimpArgs false
set_option linter.unusedVariables false
set_option linter.unusedSectionVars false
namespace Go.Proofs.Ytmioaahiflfcdaa.Pure
open Go.RowKit Go.Proofs.Ytmioaahiflfcdaa.Pr Go.Proofs.YtmioaahiflfcdaaW.PrintWords Go.Proofs.YtmioaahiflfcdaaW.PrintLast Go.Proofs.YtmioaahiflfcdaaW.PrintMore
open Go.Proofs.Ytmioaahiflfcdaa.Sp (G Wk Opt lts put relax sweep rounds start)
theorem lst_put {N a : Nat} (L : Nat → Option Int) (x : Int) : (lst N (fun v => far (L v))).set a x = lst N (fun v => far (put L a x v)):=by
 rw [lst_set]
 apply lst_congr
 intro v _
 unfold upd Sp.put
 split <;> rfl
theorem lst_fill (N i : Nat) (c : Int) (F : Nat → Int) (h : i < N) : (lst N (fun v => if v < i then c else F v)).set i c = lst N (fun v => if v < i + 1 then c else F v):=by
 rw [lst_set]
 apply lst_congr
 intro v _
 unfold upd
 by_cases e : v = i
 case pos => subst e; simp
 rw [if_neg e]
 show (if v < i then c else F v) = _
 by_cases e2 : v < i
 case neg => rw [if_neg e2,if_neg (by omega)]
 rw [if_pos e2,if_pos (by omega)]
theorem start_lst {N s : Nat} (hs : s < N) : (lst N (fun _ => (99999 : Int))).set s 0 = lst N (fun v => far (Sp.start s v)):=by
 rw [lst_set]
 apply lst_congr
 intro v _
 unfold upd Sp.start
 split <;> rfl
def Bw (w : Int) (s : Nat) (L : Nat → Option Int) : Prop:=∀ v x,L v = some x → 0 ≤ x ∧ x ≤ w * (s : Int)
theorem Bw.relax {g : G} {w : Int} {s : Nat} {L : Nat → Option Int} (h : Bw w s L) {i : Nat} (h0 : 0 ≤ g.w i) (h1 : g.w i ≤ w) : Bw w (s + 1) (relax g L i):=by
 intro v x hx;have:=Sp.relax_bd h h0 h1 v x hx;refine ⟨this.1,?_⟩;have e : w * ((s + 1 : Nat) : Int) = w * (s : Int) + w:=by rw [Int.natCast_add,Int.mul_add]; simp
 omega
theorem Bw.sweep {g : G} {w : Int} {s : Nat} {L : Nat → Option Int} (h : Bw w s L) (hw : ∀ i,i < g.m → 0 ≤ g.w i ∧ g.w i ≤ w) : ∀ i,i ≤ g.m → Bw w (s + i) (sweep g L i)
 | 0,_ => h
 | i + 1,hi => (Bw.sweep h hw i (by omega)).relax (hw i (by omega)).1 (hw i (by omega)).2
theorem Bw.rounds {g : G} {w : Int} (hw : ∀ i,i < g.m → 0 ≤ g.w i ∧ g.w i ≤ w) (t : Nat) : ∀ r,Bw w (g.m * r) (rounds g t r)
 | 0 => by
  intro v x hx
  unfold Sp.rounds Sp.start at hx
  split at hx
  ·obtain rfl:=Option.some.inj hx; simp
  ·cases hx
 | r + 1 => by
  have:=(Bw.rounds hw t r).sweep hw g.m (Nat.le_refl _);rw [Nat.mul_succ];exact this
section
variable {N : Nat} {l : List Arc} (hg : NetGood N l)
include hg
theorem back_gr_fr (i : Nat) : (gr N (back l)).fr i = (arc l i).f1.toNat:=by show (arc (back l) i).f0.toNat = _; rw [back_arc']; rfl
theorem back_gr_tw (i : Nat) : (gr N (back l)).tw i = (arc l i).f0.toNat:=by show (arc (back l) i).f1.toNat = _; rw [back_arc']; rfl
theorem back_gr_w (i : Nat) : (gr N (back l)).w i = (arc l i).f2:=by show (arc (back l) i).f2 = _; rw [back_arc']; rfl
theorem back_gr_m : (gr N (back l)).m = l.length:=back_len l
theorem back_bw : ∀ i,i < (gr N (back l)).m → 0 ≤ (gr N (back l)).w i ∧ (gr N (back l)).w i ≤ 99:=by
 intro i hi;rw [back_gr_m hg] at hi;rw [back_gr_w hg];exact (hg.ok i hi).2.2.2.1
theorem l3All_arcs (r : Nat) {M : Nat → Option Int} {s : Nat} (hM : Bw 99 s M) (hs : s ≤ 500) (hr : r < N) {R : List Int} : ∀ (m i : Nat),l.length - i = m → i ≤ l.length →
  Ev (fun k => spec_l3All.l1 k (lst N (fun v => far (sweep (gr N (back l)) M l.length v))) ((r + 1 : Nat) : Int) N l) R →
  Ev (fun k => spec_l3All.l2 k (lst N (fun v => far (sweep (gr N (back l)) M i v))) (r : Int) (i : Int) N l) R:=by
 have h8:=hg.n8;have h16:=hg.len;intro m
 induction m with
 | zero =>
  intro i hd hi h;obtain rfl : i = l.length:=by omega
  refine Ev.go ?_ (fun k => by rw [spec_l3All.l2]);rw [up1 hr (by simp only [maxLen]; omega)];exact Ev.neg (by omega) h
 | succ m ih =>
  intro i hd hi h;have hlt : i < l.length:=by omega
  have hn:=ih (i + 1) (by omega) (by omega) h;clear ih h;have hb:=hM.sweep (back_bw hg) i (by rw [back_gr_m hg]; omega);have hsw : sweep (gr N (back l)) M (i + 1) = relax (gr N (back l)) (sweep (gr N (back l)) M i) i:=rfl;rw [hsw] at hn;generalize sweep (gr N (back l)) M i = L at hn hb;obtain ⟨⟨a1,a2⟩,⟨a3,a4⟩,a5,⟨a6,a7⟩,_⟩:=hg.ok i hlt;have ef:=back_gr_fr hg i;have et:=back_gr_tw hg i;have ew:=back_gr_w hg i;obtain ⟨f,hf⟩:=Int.eq_ofNat_of_zero_le a1;obtain ⟨t,ht⟩:=Int.eq_ofNat_of_zero_le a3;rw [hf,Int.toNat_natCast] at et;rw [ht,Int.toNat_natCast] at ef;have hfN : f < N:=by omega
  have htN : t < N:=by omega
  refine Ev.go ?_ (fun k => by rw [spec_l3All.l2]);rw [rda,up1 hlt (by simp only [maxLen]; omega),hf,ht,lst_rd _ htN,lst_rd _ hfN,lst_len];refine Ev.pos (by omega) (Ev.pos (by omega) (Ev.pos (by omega) (Ev.pos (by omega) ?_)));cases e2 : L f with
  | none =>
   have hre : relax (gr N (back l)) L i = L:=by unfold Sp.relax; rw [if_pos (show (gr N (back l)).use i = true from rfl),et,e2]
   rw [hre] at hn;exact Ev.neg (by show ¬ ((99999 : Int) < 99999); omega) hn
  | some x =>
   have hx:=hb f x e2;have w1 : wrap64 (x + (arc l i).f2) = x + (arc l i).f2:=w64 (by omega) (by omega);have hre : relax (gr N (back l)) L i = if lts (x + (arc l i).f2) (L t) = true then put L t (x + (arc l i).f2) else L:=by
    unfold Sp.relax
    rw [if_pos (show (gr N (back l)).use i = true from rfl),et,e2,ef,ew]
   have elt : (x + (arc l i).f2 < far (L t)) ↔ lts (x + (arc l i).f2) (L t) = true:=by
    cases e3 : L t with
    | none => exact ⟨fun _ => rfl,fun _ => by show x + _ < 99999; omega⟩
    | some y => exact ⟨fun h => decide_eq_true h,fun h => of_decide_eq_true h⟩
   rw [hre] at hn
   show Ev (fun k => if x < 99999 then _ else _) R
   rw [show far (some x) = x from rfl,w1,Int.toNat_natCast,lst_put];clear w1 hre;refine Ev.pos (by omega) (Ev.pos (by omega) (Ev.pos (by omega) ?_));cases c : lts (x + (arc l i).f2) (L t) with
   | true =>
    rw [c,if_pos rfl] at hn;exact Ev.pos (elt.2 c) hn
   | false =>
    rw [c,if_neg (by simp)] at hn;exact Ev.neg (fun h => by rw [elt.1 h] at c; cases c) hn
theorem l3All_rounds {s : Nat} (hs : s < N) : ∀ (m r : Nat),N - r = m → r ≤ N → Ev (fun k => spec_l3All.l1 k (lst N (fun v => far (rounds (gr N (back l)) s r v))) (r : Int) N l) (lst N (fun v => far (dst N (back l) s v))):=by
 have h8:=hg.n8;have h16:=hg.len;intro m
 induction m with
 | zero =>
  intro r hd hr;obtain rfl : r = N:=by omega
  refine Ev.go ?_ (fun k => by rw [spec_l3All.l1]);exact Ev.neg (by omega) (Ev.now _)
 | succ m ih =>
  intro r hd hr;have hlt : r < N:=by omega
  refine Ev.go ?_ (fun k => by rw [spec_l3All.l1]);refine Ev.pos (by omega) ?_;have hb:=Bw.rounds (back_bw hg) s r;rw [back_gr_m hg] at hb;have h16r : l.length * r ≤ 16 * 8:=Nat.mul_le_mul h16 (by omega);refine l3All_arcs hg r hb (by omega) hlt _ 0 rfl (Nat.zero_le _) ?_;have e : sweep (gr N (back l)) (rounds (gr N (back l)) s r) l.length = rounds (gr N (back l)) s (r + 1):=by
   show _ = sweep (gr N (back l)) (rounds (gr N (back l)) s r) (gr N (back l)).m
   rw [back_gr_m hg]
  rw [e];exact ih (r + 1) (by omega) (by omega)
theorem l3All_fill {s : Nat} (hs : s < N) : ∀ (m i : Nat),N - i = m → i ≤ N → Ev (fun k => spec_l3All.l0 k (s : Int) (lst N (fun v => if v < i then 99999 else 0)) (i : Int) N l) (lst N (fun v => far (dst N (back l) s v))):=by
 have h8:=hg.n8;intro m
 induction m with
 | zero =>
  intro i hd hi;obtain rfl : i = N:=by omega
  refine Ev.go ?_ (fun k => by rw [spec_l3All.l0]);have e : lst i (fun v => if v < i then (99999 : Int) else 0) = lst i (fun _ => 99999):=lst_congr (fun v hv => by rw [if_pos hv]);rw [e,lst_len];refine Ev.neg (by omega) (Ev.pos (by omega) (Ev.pos (by omega) ?_));rw [Int.toNat_natCast,start_lst hs];exact (l3All_rounds hg hs _ 0 rfl (Nat.zero_le _))
 | succ m ih =>
  intro i hd hi;have hlt : i < N:=by omega
  refine Ev.go ?_ (fun k => by rw [spec_l3All.l0]);rw [lst_len,Int.toNat_natCast,lst_fill N i 99999 (fun _ => 0) hlt,up1 hlt (by simp only [maxLen]; omega)];exact Ev.pos (by omega) (Ev.pos (by omega) (Ev.pos (by omega) (ih (i + 1) (by omega) (by omega))))
theorem zeros_lst : List.replicate N (0 : Int) = lst N (fun v => if v < 0 then 99999 else 0):=by
 apply List.ext_getElem (by simp [lst])
 intro i h1 h2;simp [lst]
theorem l3All_ev {s : Nat} (hs : s < N) : Ev (fun k => spec_l3All.f k N l (s : Int)) (lst N (fun v => far (dst N (back l) s v))):=by
 have h8:=hg.n8
 unfold spec_l3All.f
 rw [Int.toNat_natCast,zeros_lst hg];exact Ev.pos (by omega) (Ev.pos (by omega) (l3All_fill hg hs _ 0 rfl (Nat.zero_le _)))
end
end Go.Proofs.Ytmioaahiflfcdaa.Pure
end
section
namespace Go.Proofs.Ytmioaahiflfcdaa.Pr
open Go.RowKit Go.Proofs.YtmioaahiflfcdaaW.PrintWords Go.Proofs.YtmioaahiflfcdaaW.PrintLast Go.Proofs.YtmioaahiflfcdaaW.PrintMore
attribute [local go_sem] max2_int min2_int max_two min_two max_three min_three max_four min_four
set_option linter.unusedVariables false
set_option linter.unusedSimpArgs false
open List renaming setIfInBounds_toArray → V,set_cons_zero → Z,set_cons_succ → zx
open Go.Proofs.YtmioaahiflfcdaaW.PrintWords.Aside0 renaming mk → zy
def spec_l12In.l0 : Nat → List Int → Int → Int → Option (Bool)
 | 0,_,_,_ => none
 | k + 1,x0,x1,x5 => if x5 < (x0.length : Int) then (if 0 ≤ x5 then (if (rd x0 x5) = x1 then (some true) else (spec_l12In.l0 k x0 x1 (wrap64 (x5 + 1)))) else (none)) else (some false)
end Go.Proofs.Ytmioaahiflfcdaa.Pr
end
section
set_option linter.unusedSimpArgs false
set_option linter.unusedVariables false
set_option linter.unusedSectionVars false
namespace Go.Proofs.Ytmioaahiflfcdaa.Pure
open Go.RowKit Go.Proofs.Ytmioaahiflfcdaa.Pr Go.Proofs.YtmioaahiflfcdaaW.PrintWords Go.Proofs.YtmioaahiflfcdaaW.PrintLast Go.Proofs.YtmioaahiflfcdaaW.PrintMore
open Go.Proofs.Ytmioaahiflfcdaa.Pm (perms pick at_ costOf IsPerm)
open Go.Proofs.Ytmioaahiflfcdaa.Fl (sm)
def nts (x : List Nat) : List Int:=x.map fun i => ((i : Nat) : Int)
def nats (x : List Int) : List Nat:=x.map Int.toNat
theorem nts_len (x : List Nat) : (nts x).length = x.length:=by simp [nts]
theorem nats_len (x : List Int) : (nats x).length = x.length:=by simp [nats]
theorem nts_nats {x : List Int} (h : ∀ v ∈ x,0 ≤ v) : nts (nats x) = x:=by
 unfold nts nats
 rw [List.map_map]
 conv => rhs; rw [← List.map_id x]
 exact List.map_congr_left (fun v hv => by show ((v.toNat : Nat) : Int) = v; have:=h v hv; omega)
theorem nats_nts (x : List Nat) : nats (nts x) = x:=by
 unfold nts nats
 rw [List.map_map]
 conv => rhs; rw [← List.map_id x]
 exact List.map_congr_left (fun v hv => by simp)
theorem nts_rd (x : List Nat) (i : Nat) : rd (nts x) (i : Int) = ((at_ x i : Nat) : Int):=by
 rw [rdg]
 unfold nth nts at_
 by_cases h : i < x.length
 case neg => simp [h]
 simp [h]
theorem nts_snoc (x : List Nat) (i : Nat) : nts x ++ [((i : Nat) : Int)] = nts (x ++ [i]):=by simp [nts]
theorem nts_mem (x : List Nat) (i : Nat) : ((i : Nat) : Int) ∈ nts x ↔ i ∈ x:=by
 unfold nts
 rw [List.mem_map];constructor
 ·rintro ⟨j,hj,e⟩;have : j = i:=by omega
  rw [← this]; exact hj
 ·exact fun h => ⟨i,h,rfl⟩
theorem at_mem {x : List Nat} {i : Nat} (h : i < x.length) : at_ x i ∈ x:=by
 have e : at_ x i = x[i]:=by simp [at_,h]
 rw [e]; exact List.getElem_mem h
theorem inL_l (x : List Int) (v : Int) (hm : x.length ≤ maxLen) : ∀ (m i : Nat),x.length - i = m → i ≤ x.length → Ev (fun k => spec_l12In.l0 k x v (i : Int)) (decide (v ∈ x.drop i)):=by
 intro m
 induction m with
 | zero =>
  intro i hd hi;refine Ev.go ?_ (fun k => by rw [spec_l12In.l0]);rw [List.drop_of_length_le (by omega)];exact Ev.neg (by omega) (Ev.is (by simp))
 | succ m ih =>
  intro i hd hi;have hlt : i < x.length:=by omega
  have hn:=ih (i + 1) (by omega) (by omega);rw [← up1 hlt hm] at hn;refine Ev.go ?_ (fun k => by rw [spec_l12In.l0]);refine Ev.pos (by omega) (Ev.pos (by omega) ?_);rw [rdn hlt,drop_cons hlt]
  by_cases c : x[i] = v
  case pos => exact Ev.pos c (Ev.is (decide_eq_true (List.mem_cons.2 (.inl c.symm))).symm)
  exact Ev.neg c (hn.cast (by rw [decide_eq_decide]; simp only [List.mem_cons]; exact ⟨.inr,fun h => h.resolve_left (fun e => c e.symm)⟩))
theorem idx_l (x : List Int) (v : Int) (hm : x.length ≤ maxLen) : ∀ (m i : Nat),x.length - i = m → i ≤ x.length → ∃ r : Int,Ev (fun k => slices_Index_int_int.l0 k x v (x.length : Int) (i : Int)) r ∧ decide (r ≥ 0) = decide (v ∈ x.drop i):=by
 intro m
 induction m with
 | zero =>
  intro i hd hi;refine ⟨-1,?_,?_⟩
  ·refine Ev.go ?_ (fun k => by rw [slices_Index_int_int.l0]);exact Ev.neg (by omega) (Ev.now _)
  ·rw [List.drop_of_length_le (by omega)];simp
 | succ m ih =>
  intro i hd hi;have hlt : i < x.length:=by omega
  by_cases c : v = x[i]
  case pos =>
   refine ⟨(i : Int),?_,?_⟩
   ·refine Ev.go ?_ (fun k => by rw [slices_Index_int_int.l0]);rw [rdn hlt];exact Ev.pos (by omega) (Ev.pos (by omega) (Ev.pos (by omega) (Ev.pos c (Ev.now _))))
   ·rw [drop_cons hlt,decide_eq_decide];exact ⟨fun _ => List.mem_cons.2 (.inl c),fun _ => by omega⟩
  obtain ⟨r,h1,h2⟩:=ih (i + 1) (by omega) (by omega);rw [← up1 hlt hm] at h1;refine ⟨r,?_,?_⟩
  ·refine Ev.go ?_ (fun k => by rw [slices_Index_int_int.l0]);rw [rdn hlt];exact Ev.pos (by omega) (Ev.pos (by omega) (Ev.pos (by omega) (Ev.neg c h1)))
  ·rw [h2,drop_cons hlt,decide_eq_decide];simp only [List.mem_cons];exact ⟨.inr,fun h => h.resolve_left c⟩
theorem contains_ev (x : List Int) (v : Int) (hm : x.length ≤ maxLen) : Ev (fun k => slices_Contains_int_int.f k x v) (decide (v ∈ x)):=by
 obtain ⟨r,h1,h2⟩:=idx_l x v hm _ 0 rfl (Nat.zero_le _);rw [List.drop_zero] at h2;exact Ev.bind h1 (Ev.is h2)
def dis (N : Nat) (l : List Arc) (u v : Nat) : Int:=far (dst N (back l) u v)
section
variable {N : Nat} {l : List Arc} (hg : NetGood N l)
include hg
theorem dis_bd {u v : Nat} (hu : u < N) (hv : v < N) : 0 ≤ dis N l u v ∧ (dis N l u v = 99999 ∨ dis N l u v ≤ 693):=by
 unfold dis
 cases h : dst N (back l) u v with
 | none => exact ⟨by decide,.inl rfl⟩
 | some d =>
  have:=dst_bd (back_good hg) hu hv h;exact ⟨this.1,.inr this.2⟩
end
def DJ (N : Nat) (l : List Arc) (a b : List Nat) (i k : Nat) : Int:=dis N l (at_ a i) (at_ b k)
structure Jobs (N : Nat) (l : List Arc) (a b : List Nat) : Prop where
 net : NetGood N l
 m1 : 1 ≤ a.length
 m5 : a.length ≤ 5
 len : b.length = a.length
 ha : ∀ v ∈ a,v < N
 hb : ∀ v ∈ b,v < N
section
variable {N : Nat} {l : List Arc} {a b : List Nat} (hJ : Jobs N l a b)
include hJ
theorem at_a {i : Nat} (h : i < a.length) : at_ a i < N:=hJ.ha _ (at_mem h)
theorem at_b {i : Nat} (h : i < a.length) : at_ b i < N:=hJ.hb _ (at_mem (by rw [hJ.len]; exact h))
theorem DJ_bd {i k : Nat} (hi : i < a.length) (hk : k < a.length) : 0 ≤ DJ N l a b i k ∧ (DJ N l a b i k = 99999 ∨ DJ N l a b i k ≤ 693):=dis_bd hJ.net (at_a hJ hi) (at_b hJ hk)
theorem sm_bd {p : List Nat} (hp : p.length = a.length) (hl : ∀ v ∈ p,v < a.length) : ∀ i,i ≤ a.length → (∀ j,j < i → DJ N l a b j (at_ p j) ≠ 99999) → 0 ≤ sm (fun j => DJ N l a b j (at_ p j)) i ∧ sm (fun j => DJ N l a b j (at_ p j)) i ≤ 693 * (i : Int)
 | 0,_,_ => by simp [sm]
 | i + 1,hi,hf => by
  have ih:=sm_bd hp hl i (by omega) (fun j hj => hf j (by omega));have h1:=DJ_bd hJ (i:=i) (k:=at_ p i) (by omega) (hl _ (at_mem (by omega)));have h2:=hf i (by omega);simp only [sm];omega
theorem costOf_far {p : List Nat} {i : Nat} (hi : i < a.length) (h : DJ N l a b i (at_ p i) = 99999) : costOf a.length (DJ N l a b) p = 99999:=by
 unfold costOf
 exact if_pos ⟨i,hi,h⟩
theorem costOf_sm {p : List Nat} (hf : ∀ j,j < a.length → DJ N l a b j (at_ p j) ≠ 99999) : costOf a.length (DJ N l a b) p = sm (fun j => DJ N l a b j (at_ p j)) a.length:=by
 unfold costOf
 exact if_neg (fun ⟨j,hj,e⟩ => hf j hj e)
theorem costOf_bd {p : List Nat} (hp : p.length = a.length) (hl : ∀ v ∈ p,v < a.length) : 0 ≤ costOf a.length (DJ N l a b) p ∧ costOf a.length (DJ N l a b) p ≤ 99999:=by
 by_cases h : ∃ i,i < a.length ∧ DJ N l a b i (at_ p i) = 99999
 case pos =>
  obtain ⟨i,hi,e⟩:=h;rw [costOf_far hJ hi e]; omega
 have hf : ∀ j,j < a.length → DJ N l a b j (at_ p j) ≠ 99999:=fun j hj e => h ⟨j,hj,e⟩
 rw [costOf_sm hJ hf];have:=sm_bd hJ hp hl a.length (Nat.le_refl _) hf;have:=hJ.m5;omega
def tabs (N : Nat) (l : List Arc) : List (List Int):=(List.range N).map (tab N l)
omit hJ in
theorem tabs_row {u : Nat} (h : u < N) : rd_L3 (tabs N l) (u : Int) = tab N l u:=by simp [rd_L3,tabs,h]
omit hJ in
theorem tab_len (u : Nat) : (tab N l u).length = N:=by unfold tab; exact lst_len _ _
omit hJ in
theorem tab_rd {u v : Nat} (h : v < N) : rd (tab N l u) (v : Int) = dis N l u v:=by unfold tab dis; exact lst_rd _ h
omit hJ in
theorem tabs_len : (tabs N l).length = N:=by simp [tabs]
theorem assigned_l {p : List Nat} (hp : p.length = a.length) (hl : ∀ v ∈ p,v < a.length) : ∀ (d i : Nat),a.length - i = d → i ≤ a.length → (∀ j,j < i → DJ N l a b j (at_ p j) ≠ 99999) → Ev (fun k => impl_assigned.l0 k (tabs N l) (nts a) (nts b) (sm (fun j => DJ N l a b j (at_ p j)) i) (nts p) (a.length : Int) (i : Int)) (costOf a.length (DJ N l a b) p):=by
 have h8:=hJ.net.n8;have h5:=hJ.m5;intro d
 induction d with
 | zero =>
  intro i hd hi hf;have e : i = a.length:=by omega
  subst e;refine Ev.go ?_ (fun k => by rw [impl_assigned.l0]);exact Ev.neg (by omega) (Ev.is (costOf_sm hJ hf).symm)
 | succ d ih =>
  intro i hd hi hf;have hlt : i < a.length:=by omega
  have hpi:=hl _ (at_mem (show i < p.length by omega));have h1:=at_a hJ hlt;have h2:=at_b hJ hpi;have hbd:=DJ_bd hJ hlt hpi;have hsm:=sm_bd hJ hp hl i hi hf;have e1 : rd (tab N l (at_ a i)) ((at_ b (at_ p i) : Nat) : Int) = DJ N l a b i (at_ p i):=tab_rd h2;refine Ev.go ?_ (fun k => by rw [impl_assigned.l0]);rw [nts_rd,nts_rd,nts_rd,tabs_row h1,e1,up1 hlt (by simp only [maxLen]; omega)];refine Ev.pos (by omega) (Ev.pos (by omega) (Ev.pos (by rw [nts_len]; omega) (Ev.pos (by rw [nts_len]; omega) (Ev.pos (by omega) (Ev.pos (by rw [tabs_len]; omega) (Ev.pos (by omega) (Ev.pos (by rw [nts_len,hJ.len]; omega) (Ev.pos (by omega) (Ev.pos (by rw [tab_len]; omega) ?_)))))))))
  by_cases c : DJ N l a b i (at_ p i) = 99999
  case pos => exact Ev.pos c (Ev.is (costOf_far hJ hlt c).symm)
  refine Ev.neg c ?_;rw [w64 (by omega) (by omega)];exact ih (i + 1) (by omega) (by omega) (fun j hj => by
   by_cases e : j = i
   case pos => subst e; exact c
   exact hf j (by omega))
theorem assigned_ev {p : List Nat} (hp : p.length = a.length) (hl : ∀ v ∈ p,v < a.length) : Ev (fun k => impl_assigned.f k (tabs N l) (nts a) (nts b) (nts p)) (costOf a.length (DJ N l a b) p):=by
 unfold impl_assigned.f
 rw [nts_len,hp];exact assigned_l hJ hp hl _ 0 rfl (Nat.zero_le _) (fun j h => absurd h (by omega))
def gridJ (N : Nat) (l : List Arc) (a b : List Nat) : List (List Int):=(List.range a.length).map fun i => lst b.length (DJ N l a b i)
omit hJ in
theorem gridJ_len : (gridJ N l a b).length = a.length:=by simp [gridJ]
omit hJ in
theorem gridJ_row {i : Nat} (h : i < a.length) : rd_L3 (gridJ N l a b) (i : Int) = lst b.length (DJ N l a b i):=by simp [rd_L3,gridJ,h]
theorem l27Cost_l {p : List Nat} (hp : p.length = a.length) (hl : ∀ v ∈ p,v < a.length) : ∀ (d i : Nat),a.length - i = d → i ≤ a.length → (∀ j,j < i → DJ N l a b j (at_ p j) ≠ 99999) → Ev (fun k => spec_l27Cost.l0 k (gridJ N l a b) (nts p) (sm (fun j => DJ N l a b j (at_ p j)) i) (i : Int)) (costOf a.length (DJ N l a b) p):=by
 have h8:=hJ.net.n8;have h5:=hJ.m5;intro d
 induction d with
 | zero =>
  intro i hd hi hf;have e : i = a.length:=by omega
  subst e;refine Ev.go ?_ (fun k => by rw [spec_l27Cost.l0]);exact Ev.neg (by rw [nts_len]; omega) (Ev.is (costOf_sm hJ hf).symm)
 | succ d ih =>
  intro i hd hi hf;have hlt : i < a.length:=by omega
  have hpi:=hl _ (at_mem (show i < p.length by omega));have hbd:=DJ_bd hJ hlt hpi;have hsm:=sm_bd hJ hp hl i hi hf;have e1 : rd (lst b.length (DJ N l a b i)) ((at_ p i : Nat) : Int) = DJ N l a b i (at_ p i):=lst_rd _ (by rw [hJ.len]; exact hpi);refine Ev.go ?_ (fun k => by rw [spec_l27Cost.l0]);rw [nts_rd,gridJ_row hlt,e1,up1 hlt (by simp only [maxLen]; omega)];refine Ev.pos (by rw [nts_len]; omega) (Ev.pos (by omega) (Ev.pos (by rw [gridJ_len]; omega) (Ev.pos (by omega) (Ev.pos (by rw [lst_len,hJ.len]; omega) ?_))))
  by_cases c : DJ N l a b i (at_ p i) = 99999
  case pos => exact Ev.pos (by omega) (Ev.is (costOf_far hJ hlt c).symm)
  refine Ev.neg (by omega) ?_;rw [w64 (by omega) (by omega)];exact ih (i + 1) (by omega) (by omega) (fun j hj => by
   by_cases e : j = i
   case pos => subst e; exact c
   exact hf j (by omega))
theorem l27Cost_ev {p : List Nat} (hp : p.length = a.length) (hl : ∀ v ∈ p,v < a.length) : Ev (fun k => spec_l27Cost.f k (gridJ N l a b) (nts p)) (costOf a.length (DJ N l a b) p):=by
 unfold spec_l27Cost.f
 exact l27Cost_l hJ hp hl _ 0 rfl (Nat.zero_le _) (fun j h => absurd h (by omega))
def rest (n f : Nat) (b : List Nat) (i d : Nat) : List (List Nat):=((List.range' i d).filter fun j => !b.contains j).flatMap fun j => perms n f (b ++ [j])
omit hJ in
theorem rest_step (n f : Nat) (b : List Nat) (i d : Nat) : rest n f b i (d + 1) = if i ∈ b then rest n f b (i + 1) d else perms n f (b ++ [i]) ++ rest n f b (i + 1) d:=by
 unfold rest
 rw [List.range'_succ]
 by_cases h : i ∈ b
 case neg => rw [if_neg h]; simp [h]
 rw [if_pos h]; simp [h]
omit hJ in
theorem rest_all (n f : Nat) (b : List Nat) : rest n f b 0 n = perms n (f + 1) b:=by
 unfold rest
 rw [← List.range_eq_range'];rfl
def stepP (c : List Nat → Int) (s : List Nat × Int) (p : List Nat) : List Nat × Int:=if c p < s.2 then (p,c p) else s
theorem rangeOf_l (m : Nat) (hm : m ≤ 1000) : ∀ (d i : Nat),m - i = d → i ≤ m → Ev (fun k => impl_rangeOf.l0 k (nts (List.range i)) (m : Int) (i : Int)) (nts (List.range m)):=by
 intro d
 induction d with
 | zero =>
  intro i hd hi;have e : i = m:=by omega
  subst e;refine Ev.go ?_ (fun k => by rw [impl_rangeOf.l0]);exact Ev.neg (by omega) (Ev.now _)
 | succ d ih =>
  intro i hd hi;have hlt : i < m:=by omega
  have hn:=ih (i + 1) (by omega) (by omega);rw [List.range_succ,← nts_snoc] at hn;refine Ev.go ?_ (fun k => by rw [impl_rangeOf.l0]);rw [up1 hlt (by simp only [maxLen]; omega)];exact Ev.pos (by omega) (Ev.pos (by rw [nts_len,List.length_range]; omega) hn)
theorem rangeOf_ev (m : Nat) (hm : m ≤ 1000) : Ev (fun k => impl_rangeOf.f k (m : Int)) (nts (List.range m)):=by
 unfold impl_rangeOf.f
 exact Ev.pos (by omega) (Ev.pos (by omega) (rangeOf_l hJ m hm _ 0 rfl (Nat.zero_le _)))
theorem chosen_l (x : List Int) (hm : x.length ≤ 1000) : ∀ (d i : Nat),x.length - i = d → i ≤ x.length → Ev (fun k => impl_chosen.l0 k x (x.take i) (nts (List.range x.length)) (x.length : Int) (i : Int)) x:=by
 intro d
 induction d with
 | zero =>
  intro i hd hi;refine Ev.go ?_ (fun k => by rw [impl_chosen.l0]);rw [show x.take i = x from List.take_of_length_le (by omega)];exact Ev.neg (by omega) (Ev.now _)
 | succ d ih =>
  intro i hd hi;have hlt : i < x.length:=by omega
  have hn:=ih (i + 1) (by omega) (by omega);have e1 : rd (nts (List.range x.length)) (i : Int) = (i : Int):=by
   rw [nts_rd];have : at_ (List.range x.length) i = i:=by simp [at_,hlt]
   rw [this]
  rw [List.take_succ_eq_append_getElem hlt] at hn;refine Ev.go ?_ (fun k => by rw [impl_chosen.l0]);rw [e1,rdn hlt,up1 hlt (by simp only [maxLen]; omega)];exact Ev.pos (by omega) (Ev.pos (by omega) (Ev.pos (by rw [nts_len,List.length_range]; omega) (Ev.pos (by omega) (Ev.pos (by omega) (Ev.pos (by rw [List.length_take]; omega) hn)))))
theorem chosen_ev (x : List Int) (hm : x.length ≤ 1000) : Ev (fun k => impl_chosen.f k x (nts (List.range x.length))) x:=by
 unfold impl_chosen.f
 rw [nts_len,List.length_range];exact Ev.pos (by omega) (Ev.pos (by omega) (chosen_l hJ x hm _ 0 rfl (Nat.zero_le _)))
theorem stJ_ev {p : List Nat} (s : List Nat × Int) (hp : p.length = a.length) (hl : ∀ v ∈ p,v < a.length) : Ev (fun k => stJ k (tabs N l) (nts a) (nts b) (nts s.1,s.2) (nts p)) (nts (stepP (costOf a.length (DJ N l a b)) s p).1,(stepP (costOf a.length (DJ N l a b)) s p).2):=by
 have h5:=hJ.m5
 unfold stJ
 refine Ev.bind (assigned_ev hJ hp hl) ?_
 by_cases c : costOf a.length (DJ N l a b) p < s.2
 case neg =>
  rw [show stepP (costOf a.length (DJ N l a b)) s p = s from if_neg c];exact Ev.neg c (Ev.now _)
 rw [show stepP (costOf a.length (DJ N l a b)) s p = (p,costOf a.length (DJ N l a b) p) from if_pos c];have hr:=rangeOf_ev hJ (nts p).length (by rw [nts_len]; omega);have hc:=chosen_ev hJ (nts p) (by rw [nts_len]; omega);exact Ev.pos c (Ev.bind hr (Ev.bind hc (Ev.now _)))
theorem ord_ev : ∀ (f : Nat) (q : List Nat) (s : List Nat × Int),q.length + f = a.length → (∀ v ∈ q,v < a.length) → Ev (fun k => ordAll (stJ k (tabs N l) (nts a) (nts b)) k a.length f (nts q) (nts s.1,s.2)) (nts (pick (costOf a.length (DJ N l a b)) (perms a.length f q) s).1,(pick (costOf a.length (DJ N l a b)) (perms a.length f q) s).2):=by
 have h5:=hJ.m5;intro f
 induction f with
 | zero =>
  intro q s hq hl;exact stJ_ev hJ s (by omega) hl
 | succ f ih =>
  intro q s hq hl
  show Ev (fun k => ordRow (ordAll (stJ k (tabs N l) (nts a) (nts b)) k a.length f) k (nts q) a.length a.length (nts s.1,s.2)) _
  rw [← rest_all];have loop : ∀ (d : Nat) (s : List Nat × Int),d ≤ a.length → Ev (fun k => ordRow (ordAll (stJ k (tabs N l) (nts a) (nts b)) k a.length f) k (nts q) a.length d (nts s.1,s.2)) (nts (pick (costOf a.length (DJ N l a b)) (rest a.length f q (a.length - d) d) s).1,(pick (costOf a.length (DJ N l a b)) (rest a.length f q (a.length - d) d) s).2):=by
   intro d
   induction d with
   | zero => intro s hd; exact Ev.now _
   | succ d ihd =>
    intro s hd;have hlt : a.length - (d + 1) < a.length:=by omega
    have e1 : a.length - (d + 1) + 1 = a.length - d:=by omega
    have hin:=contains_ev (nts q) (((a.length - (d + 1) : Nat)) : Int) (by rw [nts_len]; simp only [maxLen]; omega);simp only [ordRow];rw [rest_step,e1];refine Ev.bind hin ?_
    by_cases c : (a.length - (d + 1)) ∈ q
    case pos =>
     rw [decide_eq_true ((nts_mem q _).2 c),if_pos c];exact Ev.pos rfl (ihd s (by omega))
    rw [decide_eq_false (fun h => c ((nts_mem q _).1 h)),if_neg c,Pm.pick_append];have hr:=ih (q ++ [a.length - (d + 1)]) s (by simp; omega) (fun v hv => by
     rcases List.mem_append.1 hv with h | h
     ·exact hl v h
     ·rw [List.mem_singleton.1 h]; exact hlt)
    rw [← nts_snoc] at hr;exact Ev.neg (by simp) (Ev.bind hr (ihd _ (by omega)))
  have:=loop a.length s (Nat.le_refl _)
  rwa [Nat.sub_self] at this
end
end Go.Proofs.Ytmioaahiflfcdaa.Pure
end
section
set_option linter.unusedSimpArgs false
set_option linter.unusedVariables false
set_option linter.unusedVariables false
end
section
set_option linter.unusedSimpArgs false
set_option linter.unusedVariables false
namespace Go.Proofs.Ytmioaahiflfcdaa.Dd
open Go.Lib
theorem sorted_pw (x : List Int) : (x.mergeSort fun x y => decide (x ≤ y)).Pairwise (· ≤ ·):=by
 have:=List.pairwise_mergeSort (le:=fun x y : Int => decide (x ≤ y)) (fun a b c h1 h2 => by rw [decide_eq_true_eq] at *; omega) (fun a b => by
  rw [Bool.or_eq_true,decide_eq_true_eq,decide_eq_true_eq]; omega) x
 exact this.imp (fun h => by simpa using h)
end Go.Proofs.Ytmioaahiflfcdaa.Dd
end
section
set_option linter.unusedSimpArgs false
set_option linter.unusedVariables false
set_option linter.unusedSectionVars false
namespace Go.Proofs.Ytmioaahiflfcdaa.Pure
open Go.RowKit Go.Proofs.Ytmioaahiflfcdaa.Pr Go.Proofs.YtmioaahiflfcdaaW.PrintWords Go.Proofs.YtmioaahiflfcdaaW.PrintLast Go.Proofs.YtmioaahiflfcdaaW.PrintMore
open Go.Proofs.Ytmioaahiflfcdaa.Pm (perms pick at_ costOf IsPerm)
open Go.Proofs.Ytmioaahiflfcdaa.Fl (sm)
section
variable {α : Type} {L : α → α → Prop}
theorem pw_uniq (irr : ∀ x,¬ L x x) (asy : ∀ x y,L x y → ¬ L y x) : ∀ (a b : List α),a.Pairwise L → b.Pairwise L → (∀ x,x ∈ a ↔ x ∈ b) → a = b
 | [],[],_,_,_ => rfl
 | [],y :: b,_,_,h => absurd ((h y).2 (List.mem_cons_self ..)) (by simp)
 | x :: a,[],_,_,h => absurd ((h x).1 (List.mem_cons_self ..)) (by simp)
 | x :: a,y :: b,ha,hb,h => by
  obtain ⟨ha1,ha2⟩:=List.pairwise_cons.1 ha;obtain ⟨hb1,hb2⟩:=List.pairwise_cons.1 hb;have e : x = y:=by
   rcases List.mem_cons.1 ((h x).1 (List.mem_cons_self ..)) with e | h1
   ·exact e
   ·rcases List.mem_cons.1 ((h y).2 (List.mem_cons_self ..)) with e | h2
    ·exact e.symm
    ·exact absurd (hb1 x h1) (asy _ _ (ha1 y h2))
  subst e
  congr 1
  refine pw_uniq irr asy a b ha2 hb2 (fun z => ⟨fun hz => ?_,fun hz => ?_⟩)
  ·rcases List.mem_cons.1 ((h z).1 (List.mem_cons_of_mem _ hz)) with e | h1
   ·subst e; exact absurd (ha1 z hz) (irr z)
   ·exact h1
  ·rcases List.mem_cons.1 ((h z).2 (List.mem_cons_of_mem _ hz)) with e | h1
   ·subst e; exact absurd (hb1 z hz) (irr z)
   ·exact h1
end
def jobsB (n : Int) (l : List Arc) (x y : List Int) : Bool:=decide (1 ≤ x.length) && (decide (x.length ≤ 5) && (decide (y.length = x.length) && (netOkB n l && (x.all (okN n) && y.all (okN n)))))
theorem okN_iff {n v : Int} : okN n v = true ↔ 0 ≤ v ∧ v < n:=by
 simp only [okN,Bool.and_eq_true,decide_eq_true_eq]
 try omega
theorem jobsB_jobs {n : Int} {l : List Arc} {x y : List Int} (h : jobsB n l x y = true) : ∃ (N : Nat) (a b : List Nat),n = (N : Int) ∧ x = nts a ∧ y = nts b ∧ Jobs N l a b:=by
 simp only [jobsB,Bool.and_eq_true,decide_eq_true_eq,netOkB_iff,List.all_eq_true,okN_iff] at h;obtain ⟨h1,h2,h3,h4,h5,h6⟩:=h;obtain ⟨N,rfl⟩ : ∃ N : Nat,n = (N : Int):=⟨n.toNat,by have:=h4.n1; omega⟩
 refine ⟨N,nats x,nats y,rfl,(nts_nats (fun v hv => (h5 v hv).1)).symm,(nts_nats (fun v hv => (h6 v hv).1)).symm,⟨h4,by rw [nats_len]; exact h1,by rw [nats_len]; exact h2,by rw [nats_len,nats_len]; exact h3,fun v hv => ?_,fun v hv => ?_⟩⟩
 ·obtain ⟨i,hi,rfl⟩:=List.mem_map.1 hv;have:=h5 i hi; omega
 ·obtain ⟨i,hi,rfl⟩:=List.mem_map.1 hv;have:=h6 i hi; omega
theorem jobs_jobsB {N : Nat} {l : List Arc} {a b : List Nat} (h : Jobs N l a b) : jobsB (N : Int) l (nts a) (nts b) = true:=by
 simp only [jobsB,Bool.and_eq_true,decide_eq_true_eq,netOkB_iff,List.all_eq_true,okN_iff,nts_len];refine ⟨h.m1,h.m5,h.len,h.net,fun v hv => ?_,fun v hv => ?_⟩
 ·obtain ⟨i,hi,rfl⟩:=List.mem_map.1 hv;have:=h.ha i hi; omega
 ·obtain ⟨i,hi,rfl⟩:=List.mem_map.1 hv;have:=h.hb i hi; omega
theorem jobsOk_eq (n : Int) (l : List Arc) (x y : List Int) : impl_jobsOk.f n l x y = some (jobsB n l x y):=by
 unfold impl_jobsOk.f jobsB
 rw [within1,Option.bind_some]
 by_cases h1 : 1 ≤ x.length ∧ x.length ≤ 5
 case neg =>
  have e : inB (x.length : Int) 1 5 = false:=by
   rw [Bool.eq_false_iff];exact fun h => h1 (by have:=inB_iff.1 h; omega)
  rw [e,if_neg (by simp)]
  by_cases h2 : 1 ≤ x.length
  case neg => rw [decide_eq_false h2]; simp
  rw [decide_eq_false (show ¬ x.length ≤ 5 from fun h => h1 ⟨h2,h⟩)]; simp
 have e : inB (x.length : Int) 1 5 = true:=inB_iff.2 ⟨by omega,by omega⟩;rw [e,if_pos rfl,decide_eq_true h1.1,decide_eq_true h1.2,Bool.true_and,Bool.true_and]
 by_cases h2 : y.length = x.length
 case neg => rw [if_neg (by omega),decide_eq_false h2,Bool.false_and]
 rw [if_pos (by omega),decide_eq_true h2,Bool.true_and,nodesIn_eq,Option.bind_some];cases h3 : netOkB n l with
 | false => simp
 | true =>
  rw [hasOf ((netOkB_iff n l).1 h3),Bool.true_and,Bool.true_and];cases x.all (okN n) with
  | false => simp
  | true => simp
theorem inB_okN {n : Int} {l : List Arc} (h : NetGood n l) (a : Int) : inB a 0 (wrap64 (n - 1)) = okN n a:=by
 have:=h.n1;have:=h.n8;rw [w64 (by omega) (by omega)];rfl
section
variable {n : Int} {l : List Arc} (hg : NetGood n l)
include hg
theorem any_l (x : List Int) (hm : x.length ≤ maxLen) : ∀ (d i : Nat),x.length - i = d → i ≤ x.length → Ev (fun k => spec_l11Any.l0 k x (i : Int) n l) ((x.drop i).all (okN n)):=by
 intro d
 induction d with
 | zero =>
  intro i hd hi;refine Ev.go ?_ (fun k => by rw [spec_l11Any.l0]);rw [List.drop_of_length_le (by omega)];exact Ev.neg (by omega) (Ev.now _)
 | succ d ih =>
  intro i hd hi;have hlt : i < x.length:=by omega
  refine Ev.go ?_ (fun k => by rw [spec_l11Any.l0]);rw [rdn hlt,up1 hlt hm,drop_cons hlt,List.all_cons];refine Ev.pos (by omega) (Ev.pos (by omega) (Ev.bind0 (in1 _ _ _) ?_));rw [inB_okN hg];cases okN n x[i] with
  | false => exact Ev.neg (by simp) (Ev.is (by simp))
  | true => exact Ev.pos rfl ((ih (i + 1) (by omega) (by omega)).cast (by simp))
theorem any_ev (x : List Int) (hm : x.length ≤ maxLen) : Ev (fun k => spec_l11Any.f k n l x) (x.all (okN n)):=any_l hg x hm _ 0 rfl (Nat.zero_le _)
theorem nodes_l (x : List Int) (hm : x.length ≤ maxLen) : ∀ (d i : Nat),x.length - i = d → i ≤ x.length → Ev (fun k => spec_l11Nodes.l0 k x (i : Int) n l) ((x.drop i).all (okN n) && decide ((x.length : Int) ≤ 8)):=by
 intro d
 induction d with
 | zero =>
  intro i hd hi;refine Ev.go ?_ (fun k => by rw [spec_l11Nodes.l0]);rw [List.drop_of_length_le (by omega)];exact Ev.neg (by omega) (Ev.is (by simp))
 | succ d ih =>
  intro i hd hi;have hlt : i < x.length:=by omega
  refine Ev.go ?_ (fun k => by rw [spec_l11Nodes.l0]);rw [rdn hlt,up1 hlt hm,drop_cons hlt,List.all_cons];refine Ev.pos (by omega) (Ev.pos (by omega) (Ev.bind0 (in1 _ _ _) ?_));rw [inB_okN hg];cases okN n x[i] with
  | false => exact Ev.neg (by simp) (Ev.is (by simp))
  | true => exact Ev.pos rfl ((ih (i + 1) (by omega) (by omega)).cast (by simp))
theorem nodes_ev (x : List Int) (hm : x.length ≤ maxLen) : Ev (fun k => spec_l11Nodes.f k n l x) (x.all (okN n) && decide ((x.length : Int) ≤ 8)):=nodes_l hg x hm _ 0 rfl (Nat.zero_le _)
end
theorem l27Ok_ev (n : Int) (l : List Arc) (x y : List Int) (hl : l.length ≤ maxLen) (hx : x.length ≤ maxLen) (hy : y.length ≤ maxLen) : Ev (fun k => spec_l27Ok.f k n l x y) (jobsB n l x y):=by
 unfold spec_l27Ok.f jobsB
 refine Ev.bind (l1Ok_ev n l hl) ?_;cases h3 : netOkB n l with
 | false => exact Ev.neg (by simp) (Ev.is (by simp))
 | true =>
  have hg:=(netOkB_iff n l).1 h3;refine Ev.pos rfl (Ev.bind (any_ev hg x hx) ?_);cases h4 : x.all (okN n) with
  | false => exact Ev.neg (by simp) (Ev.is (by simp))
  | true =>
   refine Ev.pos rfl (Ev.bind (any_ev hg y hy) ?_);cases h5 : y.all (okN n) with
   | false => exact Ev.neg (by simp) (Ev.is (by simp))
   | true =>
    refine Ev.pos rfl ?_
    by_cases h2 : y.length = x.length
    case neg => exact Ev.neg (by omega) (Ev.is (by rw [decide_eq_false h2]; simp))
    refine Ev.pos (by omega) (Ev.bind0 (in1 _ _ _) (Ev.is ?_));rw [decide_eq_true h2];simp only [Bool.and_true,Bool.true_and]
    unfold inB
    by_cases h1 : 1 ≤ x.length
    case neg => rw [decide_eq_false h1,decide_eq_false (show ¬ (1 : Int) ≤ (x.length : Int) by omega),Bool.false_and,Bool.false_and]
    rw [decide_eq_true h1,decide_eq_true (show (1 : Int) ≤ (x.length : Int) by omega),Bool.true_and,Bool.true_and,decide_eq_decide]; omega
section
variable {N : Nat} {l : List Arc} {a b : List Nat} (hJ : Jobs N l a b)
include hJ
def gridTo (N : Nat) (l : List Arc) (a b : List Nat) (i : Nat) : List (List Int):=(List.range i).map fun i => lst b.length (DJ N l a b i)
omit hJ in
theorem gridTo_snoc (i : Nat) : gridTo N l a b i ++ [lst b.length (DJ N l a b i)] = gridTo N l a b (i + 1):=by simp [gridTo,List.range_succ]
omit hJ in
theorem gridTo_len (i : Nat) : (gridTo N l a b i).length = i:=by simp [gridTo]
theorem many_l1 {i : Nat} (hi : i < a.length) (hn : Ev (fun q => spec_ManyAll.l0 q (nts a) (nts b) (gridTo N l a b (i + 1)) ((i + 1 : Nat) : Int) N l) (gridJ N l a b)) : ∀ (d k : Nat),b.length - k = d → k ≤ b.length → Ev (fun q => spec_ManyAll.l1 q (nts a) (nts b) (gridTo N l a b i) (i : Int) (lst N (fun v => far (dst N (back l) (at_ a i) v))) (lst k (DJ N l a b i)) (k : Int) N l) (gridJ N l a b):=by
 have h5:=hJ.m5;have hbl:=hJ.len;intro d
 induction d with
 | zero =>
  intro k hd hk;have e : k = b.length:=by omega
  subst e;refine Ev.go ?_ (fun q => by rw [spec_ManyAll.l1]);rw [up1 hi (by simp only [maxLen]; omega),gridTo_snoc];exact Ev.neg (by rw [nts_len]; omega) (Ev.pos (by rw [gridTo_len]; omega) hn)
 | succ d ih =>
  intro k hd hk;have hlt : k < b.length:=by omega
  have hb:=at_b hJ (i:=k) (by omega);have e1 : rd (lst N (fun v => far (dst N (back l) (at_ a i) v))) ((at_ b k : Nat) : Int) = DJ N l a b i k:=lst_rd _ hb;refine Ev.go ?_ (fun q => by rw [spec_ManyAll.l1]);rw [nts_rd,e1,up1 hlt (by simp only [maxLen]; omega),lst_snoc];exact Ev.pos (by rw [nts_len]; omega) (Ev.pos (by omega) (Ev.pos (by omega) (Ev.pos (by rw [lst_len]; omega) (Ev.pos (by rw [lst_len]; omega) (ih (k + 1) (by omega) (by omega))))))
theorem many_l : ∀ (d i : Nat),a.length - i = d → i ≤ a.length → Ev (fun q => spec_ManyAll.l0 q (nts a) (nts b) (gridTo N l a b i) (i : Int) N l) (gridJ N l a b):=by
 intro d
 induction d with
 | zero =>
  intro i hd hi;have e : i = a.length:=by omega
  subst e;refine Ev.go ?_ (fun q => by rw [spec_ManyAll.l0]);exact Ev.neg (by rw [nts_len]; omega) (Ev.now _)
 | succ d ih =>
  intro i hd hi;have hlt : i < a.length:=by omega
  have h3:=l3All_ev hJ.net (at_a hJ hlt);refine Ev.go ?_ (fun q => by rw [spec_ManyAll.l0]);rw [nts_rd];exact Ev.pos (by rw [nts_len]; omega) (Ev.pos (by omega) (Ev.bind h3 (many_l1 hJ hlt (ih (i + 1) (by omega) (by omega)) _ 0 rfl (Nat.zero_le _))))
theorem many_ev : Ev (fun q => spec_ManyAll.f q N l (nts a) (nts b)) (gridJ N l a b):=by
 have h5:=hJ.m5;have hbl:=hJ.len;have h16:=hJ.net.len;have hok:=l1Ok_ev (N : Int) l (by simp only [maxLen]; omega);rw [(netOkB_iff (N : Int) l).2 hJ.net] at hok;have hB:=jobs_jobsB hJ;simp only [jobsB,Bool.and_eq_true,nts_len] at hB;have e1 : ((nts a).all (okN (N : Int)) && decide (((nts a).length : Int) ≤ 8)) = true:=by
  rw [hB.2.2.2.2.1,Bool.true_and,decide_eq_true_eq,nts_len]; omega
 have e2 : ((nts b).all (okN (N : Int)) && decide (((nts b).length : Int) ≤ 8)) = true:=by
  rw [hB.2.2.2.2.2,Bool.true_and,decide_eq_true_eq,nts_len]; omega
 unfold spec_ManyAll.f
 refine Ev.bind0 rfl (Ev.bind hok (Ev.pos rfl (Ev.bind ((nodes_ev hJ.net (nts a) (by rw [nts_len]; simp only [maxLen]; omega)).cast e1) (Ev.pos rfl (Ev.bind ((nodes_ev hJ.net (nts b) (by rw [nts_len]; simp only [maxLen]; omega)).cast e2) ?_)))));refine Ev.go ?_ (fun q => by rw [spec_ManyAll.j0]);exact Ev.neg (by simp) (many_l hJ _ 0 rfl (Nat.zero_le _))
end
noncomputable def bestJ (N : Nat) (l : List Arc) (a b : List Nat) : List Nat × Int:=pick (costOf a.length (DJ N l a b)) (perms a.length a.length []) ([],99999)
noncomputable def jobV (n : Int) (l : List Arc) (x y : List Int) : List Int × Int:=if jobsB n l x y = true then (nts (bestJ n.toNat l (nats x) (nats y)).1,(bestJ n.toNat l (nats x) (nats y)).2) else ([],-1)
theorem jobV_at {N : Nat} {l : List Arc} {a b : List Nat} (hJ : Jobs N l a b) : jobV (N : Int) l (nts a) (nts b) = (nts (bestJ N l a b).1,(bestJ N l a b).2):=by
 unfold jobV
 rw [if_pos (jobs_jobsB hJ),nats_nts,nats_nts,Int.toNat_natCast]
theorem implJob_ev (n : Int) (l : List Arc) (x y : List Int) : Ev (fun k => impl_JobBest.f k n l x y) (jobV n l x y):=by
 unfold impl_JobBest.f
 refine Ev.bind0 (jobsOk_eq n l x y) ?_;cases h : jobsB n l x y with
 | false => exact Ev.neg (by simp) (Ev.is (by unfold jobV; rw [h]; simp))
 | true =>
  obtain ⟨N,a,b,rfl,rfl,rfl,hJ⟩:=jobsB_jobs h;have h5:=hJ.m5;rw [jobV_at hJ,nts_len];refine Ev.pos rfl (Ev.pos (by omega) (Ev.bind (table_ev hJ.net) ?_));exact ord_ev hJ a.length [] ([],99999) (by simp) (by simp)
def PermI (w : List Int) (m : Nat) : Prop:=IsPerm m (nats w) ∧ ∀ v ∈ w,0 ≤ v
theorem permI_iff (w : List Int) (m : Nat) : PermI w m ↔ w.length = m ∧ w.Nodup ∧ ∀ v ∈ w,0 ≤ v ∧ v < m:=by
 constructor
 ·rintro ⟨⟨h1,h2,h3⟩,h4⟩;refine ⟨by rw [nats_len] at h1; exact h1,?_,fun v hv => ⟨h4 v hv,?_⟩⟩
  ·rw [← nts_nats h4]
   unfold nts List.Nodup
   rw [List.pairwise_map];exact List.Pairwise.imp (fun {a b} h e => h (Int.ofNat_inj.1 e)) h2
  ·have:=h3 _ (List.mem_map_of_mem (f:=Int.toNat) hv);have:=h4 v hv;omega
 ·rintro ⟨h1,h2,h3⟩;have h4 : ∀ v ∈ w,0 ≤ v:=fun v hv => (h3 v hv).1
  refine ⟨⟨by rw [nats_len]; exact h1,?_,fun v hv => ?_⟩,h4⟩
  ·rw [← nts_nats h4] at h2
   unfold nts List.Nodup at h2
   rw [List.pairwise_map] at h2;exact List.Pairwise.imp (fun {a b} h e => h (by rw [e])) h2
  ·obtain ⟨i,hi,rfl⟩:=List.mem_map.1 hv;have:=h3 i hi; omega
theorem countL_pw (m : Nat) : (countL m).Pairwise (· < ·):=by
 unfold countL
 rw [List.pairwise_map];exact List.Pairwise.imp (fun {a b} h => by omega) List.pairwise_lt_range
theorem countL_mem (m : Nat) (v : Int) : v ∈ countL m ↔ 0 ≤ v ∧ v < m:=by
 unfold countL
 rw [List.mem_map];constructor
 ·rintro ⟨i,hi,rfl⟩;have:=List.mem_range.1 hi; omega
 ·rintro ⟨h1,h2⟩;exact ⟨v.toNat,List.mem_range.2 (by omega),by omega⟩
theorem permuted_iff (w : List Int) (m : Nat) : (sortedL w = countL w.length ∧ w.length = m) ↔ PermI w m:=by
 have hp : (sortedL w).Perm w:=List.mergeSort_perm w _;rw [permI_iff];constructor
 ·rintro ⟨h1,rfl⟩;rw [h1] at hp;refine ⟨rfl,hp.nodup_iff.1 ?_,fun v hv => (countL_mem _ v).1 (hp.mem_iff.2 hv)⟩;exact List.Pairwise.imp (fun {a b} h => by show a ≠ b; omega) (countL_pw w.length)
 ·rintro ⟨h1,h2,h3⟩;subst h1;refine ⟨?_,rfl⟩;have hnd : (sortedL w).Nodup:=hp.nodup_iff.2 h2;have hs : (sortedL w).Pairwise (· < ·):=List.Pairwise.imp (fun {a b} h => by have h1:=h.1; have h2 : a ≠ b:=h.2; omega) ((Dd.sorted_pw w).and hnd);have hI:=(permI_iff w w.length).2 ⟨rfl,h2,h3⟩;refine pw_uniq (L:=fun a b : Int => a < b) (fun x => by omega) (fun x y h => by omega) _ _ hs (countL_pw _) (fun v => ?_);rw [hp.mem_iff,countL_mem];refine ⟨fun hv => h3 v hv,fun hv => ?_⟩;have:=Pm.perm_mem_all hI.1 v.toNat (by omega);obtain ⟨i,hi,e⟩:=List.mem_map.1 this;have:=(h3 i hi).1;have : i = v:=by omega
  rw [← this]; exact hi
open Classical in
theorem permuted_eq (w : List Int) (m : Nat) (hw : w.length ≤ 2000000) : impl_permuted.f w (m : Int) = some (decide (PermI w m)):=by
 unfold impl_permuted.f
 rw [if_pos hw]
 congr 1
 by_cases h : PermI w m
 case pos =>
  obtain ⟨h1,h2⟩:=(permuted_iff w m).2 h;rw [decide_eq_true h,decide_eq_true h1,decide_eq_true (show (w.length : Int) = m by omega)]; rfl
 rw [decide_eq_false h]
 by_cases h1 : sortedL w = countL w.length
 case neg => rw [decide_eq_false h1,Bool.false_and]
 rw [decide_eq_true h1,Bool.true_and,decide_eq_false];exact fun e => h ((permuted_iff w m).1 ⟨h1,by omega⟩)
def OkTo (w : List Int) (m i : Nat) : Prop:=∀ j,j < i → (0 ≤ nth w j ∧ nth w j < m) ∧ ∀ h,h < j → nth w h ≠ nth w j
theorem okTo_all (w : List Int) (m : Nat) : PermI w m ↔ w.length = m ∧ OkTo w m w.length:=by
 rw [permI_iff];constructor
 ·rintro ⟨h1,h2,h3⟩;refine ⟨h1,fun j hj => ⟨h3 _ (getD_mem hj),fun h hh e => ?_⟩⟩;rw [nth_get hj,nth_get (show h < w.length by omega)] at e;exact List.pairwise_iff_getElem.1 h2 h j (by omega) hj hh e
 ·rintro ⟨h1,h2⟩;refine ⟨h1,List.pairwise_iff_getElem.2 (fun i j hi hj hij e => ?_),fun v hv => ?_⟩
  ·have:=(h2 j hj).2 i hij;rw [nth_get hi,nth_get hj] at this;exact this e
  ·obtain ⟨j,hj,rfl⟩:=mem_getD hv;exact (h2 j hj).1
open Classical in
theorem l8Order_l (w : List Int) (m : Nat) (hm : m ≤ 1000) (hw : w.length ≤ maxLen) : ∀ (d i : Nat),w.length - i = d → i ≤ w.length → OkTo w m i → Ev (fun k => spec_l8Order.l0 k w (m : Int) (i : Int)) (decide (PermI w m)):=by
 have hw2:=hw;simp only [maxLen] at hw2;intro d
 induction d with
 | zero =>
  intro i hd hi hok;have e : i = w.length:=by omega
  subst e;refine Ev.go ?_ (fun k => by rw [spec_l8Order.l0]);refine Ev.neg (by omega) (Ev.is ?_)
  by_cases c : w.length = m
  case pos => rw [decide_eq_true ((okTo_all w m).2 ⟨c,hok⟩),beq_iff_eq]; omega
  rw [decide_eq_false (fun h => c ((okTo_all w m).1 h).1),beq_eq_false_iff_ne]; omega
 | succ d ih =>
  intro i hd hi hok;have hlt : i < w.length:=by omega
  have hno : ¬ ((0 ≤ nth w i ∧ nth w i < m) ∧ ∀ h,h < i → nth w h ≠ nth w i) → decide (PermI w m) = false:=fun hc => decide_eq_false (fun h => hc (((okTo_all w m).1 h).2 i hlt))
  refine Ev.go ?_ (fun k => by rw [spec_l8Order.l0]);refine Ev.pos (by omega) (Ev.pos (by omega) (Ev.bind0 (in1 _ _ _) ?_));rw [rdg i,w64 (by omega) (by omega)]
  by_cases c : 0 ≤ nth w i ∧ nth w i < m
  case neg =>
   have e : inB (nth w i) 0 ((m : Int) - 1) = false:=by
    rw [Bool.eq_false_iff];exact fun h => c (by have:=inB_iff.1 h; omega)
   rw [e];exact Ev.neg (by simp) (Ev.is (hno (fun h => c h.1)).symm)
  have e : inB (nth w i) 0 ((m : Int) - 1) = true:=inB_iff.2 ⟨c.1,by omega⟩;rw [e];refine Ev.pos rfl ?_;have inner : ∀ (e j : Nat),i - j = e → j ≤ i → (∀ h,h < j → nth w h ≠ nth w i) → Ev (fun k => spec_l8Order.l1 k w (m : Int) (i : Int) (j : Int)) (decide (PermI w m)):=by
   intro e
   induction e with
   | zero =>
    intro j he hj hf;have : j = i:=by omega
    subst this;refine Ev.go ?_ (fun k => by rw [spec_l8Order.l1]);rw [up1 hlt hw];refine Ev.neg (by omega) (ih (j + 1) (by omega) (by omega) (fun q hq => ?_))
    by_cases eq : q = j
    case neg => exact hok q (by omega)
    subst eq; exact ⟨c,hf⟩
   | succ e ihe =>
    intro j he hj hf;refine Ev.go ?_ (fun k => by rw [spec_l8Order.l1]);rw [rdg j,rdg i,up1 (show j < w.length by omega) hw];refine Ev.pos (by omega) (Ev.pos (by omega) (Ev.pos (by omega) (Ev.pos (by omega) (Ev.pos (by omega) ?_))))
    by_cases eq : nth w j = nth w i
    case pos => exact Ev.pos eq (Ev.is (hno (fun h => h.2 j (by omega) eq)).symm)
    refine Ev.neg eq (ihe (j + 1) (by omega) (by omega) (fun h hh => ?_))
    by_cases e3 : h = j
    case pos => subst e3; exact eq
    exact hf h (by omega)
  exact inner _ 0 rfl (Nat.zero_le _) (fun h hh => absurd hh (by omega))
open Classical in
theorem l8Order_ev (w : List Int) (m : Nat) (hm : m ≤ 1000) (hw : w.length ≤ maxLen) : Ev (fun k => spec_l8Order.f k w (m : Int)) (decide (PermI w m)):=l8Order_l w m hm hw _ 0 rfl (Nat.zero_le _) (fun j h => absurd h (by omega))
open Classical in
noncomputable def jobCV (n : Int) (l : List Arc) (x y w : List Int) : Int:=if jobsB n l x y = true ∧ PermI w x.length then costOf x.length (DJ n.toNat l (nats x) (nats y)) (nats w) else -1
theorem jobCV_at {N : Nat} {l : List Arc} {a b : List Nat} (hJ : Jobs N l a b) {w : List Int} (hw : PermI w a.length) : jobCV (N : Int) l (nts a) (nts b) w = costOf a.length (DJ N l a b) (nats w):=by
 unfold jobCV
 rw [if_pos ⟨jobs_jobsB hJ,by rw [nts_len]; exact hw⟩,nats_nts,nats_nts,Int.toNat_natCast,nts_len]
theorem implJobCost_ev (n : Int) (l : List Arc) (x y w : List Int) (hw : w.length ≤ 2000000) : Ev (fun k => impl_JobCost.f k n l x y w) (jobCV n l x y w):=by
 classical
 unfold impl_JobCost.f
 refine Ev.bind0 (jobsOk_eq n l x y) ?_;cases h : jobsB n l x y with
 | false =>
  refine Ev.neg (by simp) (Ev.go ?_ (fun k => by rw [impl_JobCost.j0]));exact Ev.pos rfl (Ev.is (by unfold jobCV; rw [if_neg (by rw [h]; simp)]))
 | true =>
  refine Ev.pos rfl (Ev.bind0 (permuted_eq w x.length hw) (Ev.go ?_ (fun k => by rw [impl_JobCost.j0])))
  by_cases c : PermI w x.length
  case neg =>
   rw [decide_eq_false c];exact Ev.pos rfl (Ev.is (by unfold jobCV; rw [if_neg (fun h => c h.2)]))
  obtain ⟨N,a,b,rfl,rfl,rfl,hJ⟩:=jobsB_jobs h;rw [nts_len] at c;rw [jobCV_at hJ c,nts_len,decide_eq_true c];have e : w = nts (nats w):=(nts_nats c.2).symm;refine Ev.neg (by simp) (Ev.bind (table_ev hJ.net) (Ev.bind ?_ (Ev.now _)));have:=assigned_ev hJ c.1.len c.1.lt;rw [← e] at this;exact this
theorem specJobCost_ev (n : Int) (l : List Arc) (x y w : List Int) (hl : l.length ≤ maxLen) (hx : x.length ≤ maxLen) (hy : y.length ≤ maxLen) (hw : w.length ≤ maxLen) : Ev (fun k => spec_JobCost.f k n l x y w) (jobCV n l x y w):=by
 classical
 unfold spec_JobCost.f
 refine Ev.bind (l27Ok_ev n l x y hl hx hy) ?_;cases h : jobsB n l x y with
 | false =>
  refine Ev.neg (by simp) (Ev.go ?_ (fun k => by rw [spec_JobCost.j0]));exact Ev.pos rfl (Ev.is (by unfold jobCV; rw [if_neg (by rw [h]; simp)]))
 | true =>
  obtain ⟨N,a,b,rfl,rfl,rfl,hJ⟩:=jobsB_jobs h;have h5:=hJ.m5;refine Ev.pos rfl (Ev.bind (l8Order_ev w (nts a).length (by rw [nts_len]; omega) hw) (Ev.go ?_ (fun k => by rw [spec_JobCost.j0])))
  by_cases c : PermI w (nts a).length
  case neg =>
   rw [decide_eq_false c];exact Ev.pos rfl (Ev.is (by unfold jobCV; rw [if_neg (fun h => c h.2)]))
  rw [decide_eq_true c];rw [nts_len] at c;rw [jobCV_at hJ c];have e : w = nts (nats w):=(nts_nats c.2).symm;refine Ev.neg (by simp) (Ev.bind (many_ev hJ) (Ev.bind ?_ (Ev.now _)));have:=l27Cost_ev hJ c.1.len c.1.lt;rw [← e] at this;exact this
end Go.Proofs.Ytmioaahiflfcdaa.Pure
end
section
set_option linter.unusedSimpArgs false
set_option linter.unusedVariables false
namespace Go.Proofs.Ytmioaahiflfcdaa.Pure
open Go.RowKit Go.Proofs.Ytmioaahiflfcdaa.Pr Go.Proofs.YtmioaahiflfcdaaW.PrintWords Go.Proofs.YtmioaahiflfcdaaW.PrintLast Go.Proofs.YtmioaahiflfcdaaW.PrintMore
structure Rdr (b : List Int) : Prop where
 len : b.length ≤ 2000
 rng : ∀ i,i < b.length → 0 ≤ nth b i ∧ nth b i ≤ 255
theorem Rdr.rd {b : List Int} (h : Rdr b) (i : Int) : 0 ≤ Go.Proofs.YtmioaahiflfcdaaW.PrintWords.rd b i ∧ Go.Proofs.YtmioaahiflfcdaaW.PrintWords.rd b i ≤ 255:=by
 have e : Go.Proofs.YtmioaahiflfcdaaW.PrintWords.rd b i = nth b i.toNat:=rfl;rw [e]
 by_cases c : i.toNat < b.length
 case pos => exact h.rng _ c
 have c2 : b.length ≤ i.toNat:=by omega
 simp [nth,List.getElem?_eq_none c2]
theorem tm {x a : Int} (hx : 0 ≤ x) (ha : 0 < a) : 0 ≤ Int.tmod x a ∧ Int.tmod x a < a:=by
 rw [Int.tmod_eq_emod_of_nonneg hx];exact ⟨Int.emod_nonneg _ (by omega),Int.emod_lt_of_pos _ ha⟩
theorem td {x a : Int} (hx : 0 ≤ x) (ha : 0 < a) : 0 ≤ Int.tdiv x a ∧ Int.tdiv x a ≤ x:=by
 rw [Int.tdiv_eq_ediv_of_nonneg hx];exact ⟨Int.ediv_nonneg hx (by omega),Int.ediv_le_self _ hx⟩
theorem xor_nn {x y : Int} (hx : 0 ≤ x) (hx' : x < 4294967296) (hy : 0 ≤ y) (hy' : y < 4294967296) : 0 ≤ Go.bits .xor .i64 x y:=by
 obtain ⟨x,rfl⟩:=Int.eq_ofNat_of_zero_le hx;obtain ⟨y,rfl⟩:=Int.eq_ofNat_of_zero_le hy;have h1 : x ^^^ y < 2 ^ 32:=Nat.xor_lt_two_pow (by omega) (by omega);have e : Go.bits .xor .i64 ((x : Nat) : Int) ((y : Nat) : Int) = wrap64 (((BitVec.ofInt 64 ((x : Nat) : Int) ^^^ BitVec.ofInt 64 ((y : Nat) : Int)).toNat : Nat) : Int):=by
  unfold Go.bits
  simp only [i64_w];rfl
 rw [e,BitVec.toNat_xor,BitVec.ofInt_natCast,BitVec.ofInt_natCast,BitVec.toNat_ofNat,BitVec.toNat_ofNat,Nat.mod_eq_of_lt (by omega),Nat.mod_eq_of_lt (by omega),w64 (by omega) (by omega)];omega
theorem pick_pv {b : List Int} (h : Rdr b) {p a : Int} (hp : 0 ≤ p) (hp' : p ≤ 1000000) : Pv (fun k => spec_l30Rd_pick.f k b p a) (fun r => (0 ≤ r.1 ∧ (a < 1 → r.1 = 0) ∧ (1 ≤ a → r.1 < a)) ∧ r.2 = p + 1):=by
 have w1 : wrap64 (p + 1) = p + 1:=w64 (by omega) (by omega);have w2 : wrap64 (p + 1 - 1) = p:=by rw [w64 (by omega) (by omega)]; omega
 unfold spec_l30Rd_pick.f
 refine Pv.ite (fun c => ?_) (fun c => ?_)
 ·refine Pv.go ?_ (fun k => by rw [spec_l30Rd_pick.j0]);exact Pv.pos rfl (Pv.now ⟨⟨Int.le_refl _,fun _ => rfl,fun c2 => by omega⟩,w1⟩)
 ·refine Pv.go ?_ (fun k => by rw [spec_l30Rd_pick.j0]);refine Pv.ite (fun _ => Pv.now ⟨⟨Int.le_refl _,fun _ => rfl,fun c2 => by dsimp only; omega⟩,w1⟩) (fun c0 => ?_);have hb : 0 < (b.length : Int):=by
   have : (b.length : Int) ≠ 0:=by simpa using c0
   omega
  have hb2:=h.len;rw [w1,w2];have fin : ∀ X : Int,0 ≤ X → Pv (fun _ => some (Int.tmod X a,p + 1)) (fun r => (0 ≤ r.1 ∧ (a < 1 → r.1 = 0) ∧ (1 ≤ a → r.1 < a)) ∧ r.2 = p + 1):=by
   intro X hX;have:=tm hX (show 0 < a by omega);exact Pv.now ⟨⟨this.1,fun c2 => absurd c2 c,fun _ => this.2⟩,rfl⟩
  refine Pv.ite (fun c1 => Pv.pos hp (Pv.neg (by omega) ?_)) (fun c1 => ?_)
  ·have:=h.rd p;rw [w64 (n:=Go.Proofs.YtmioaahiflfcdaaW.PrintWords.rd b p) (by omega) (by omega)];exact fin _ (by omega)
  ·have t1:=tm hp hb;have e1 : wrap64 (p * 7) = p * 7:=w64 (by omega) (by omega);have e2 : wrap64 (p * 7 + 3) = p * 7 + 3:=w64 (by omega) (by omega);rw [e1,e2];have t2:=tm (show 0 ≤ p * 7 + 3 by omega) hb;have r1:=h.rd (Int.tmod p b.length);have r2:=h.rd (Int.tmod (p * 7 + 3) b.length);have d1:=td hp hb;refine Pv.neg (by omega) (Pv.pos t1.1 (Pv.pos t1.2 (Pv.pos t2.1 (Pv.pos t2.2 (Pv.neg (by omega) ?_)))));generalize Go.Proofs.YtmioaahiflfcdaaW.PrintWords.rd b (Int.tmod p b.length) = u at r1;generalize Go.Proofs.YtmioaahiflfcdaaW.PrintWords.rd b (Int.tmod (p * 7 + 3) b.length) = v at r2;generalize Int.tdiv p b.length = q at d1;rw [w64 (n:=u) (by omega) (by omega),w64 (n:=v) (by omega) (by omega),w64 (n:=q) (by omega) (by omega),w64 (n:=u * 131) (by omega) (by omega),w64 (n:=v * 1117) (by omega) (by omega),w64 (n:=p * 29) (by omega) (by omega),w64 (n:=q * 53) (by omega) (by omega),w64 (n:=u * 131 + v * 1117) (by omega) (by omega),w64 (n:=u * 131 + v * 1117 + p * 29) (by omega) (by omega),w64 (n:=u * 131 + v * 1117 + p * 29 + q * 53) (by omega) (by omega)];have d2:=td (show 0 ≤ u * 131 + v * 1117 + p * 29 + q * 53 by omega) (show (0 : Int) < 64 by omega);generalize Int.tdiv (u * 131 + v * 1117 + p * 29 + q * 53) 64 = z at d2;rw [w64 (n:=z) (by omega) (by omega)];exact fin _ (xor_nn (by omega) (by omega) (by omega) (by omega))
theorem one_pv {b : List Int} (h : Rdr b) {p : Int} (hp : 0 ≤ p) (hp' : p ≤ 1000000) {l : List Int} (hl : 0 < l.length) : Pv (fun k => spec_l30Rd_one.f k b p l) (fun r => r.1 ∈ l ∧ r.2 = p + 1):=by
 unfold spec_l30Rd_one.f
 refine Pv.bind (pick_pv h hp hp') (fun r ⟨⟨h1,_,h2⟩,h3⟩ => ?_);have h2:=h2 (by omega);refine Pv.pos h1 (Pv.pos h2 (Pv.now ⟨?_,h3⟩));have e : Go.Proofs.YtmioaahiflfcdaaW.PrintWords.rd l r.1 = nth l r.1.toNat:=rfl;dsimp only;rw [e];exact getD_mem (by omega)
theorem u8_range {x : Int} (h : (Lit.int .u8 x).wf = true) : 0 ≤ x ∧ x ≤ 255:=by
 simp only [Lit.wf] at h;have h2 : IntKind.u8.min ≤ x ∧ x ≤ IntKind.u8.max:=by simpa using h
 have e1 : IntKind.u8.min = 0:=by decide
 have e2 : IntKind.u8.max = 255:=by decide
 omega
theorem open_pv {l : List Int} (hl : ∀ x ∈ l,(Lit.int .u8 x).wf = true) : ∃ b,spec_l30Open.f l = some (b,0) ∧ Rdr b:=by
 have key : ∀ m : List Int,m.length ≤ 2000 → (∀ x ∈ m,x ∈ l) → Rdr m:=fun m h1 h2 => ⟨h1,fun i hi => u8_range (hl _ (h2 _ (getD_mem hi)))⟩
 unfold spec_l30Open.f
 by_cases c : (l.length : Int) > 2000
 case neg =>
  rw [if_neg c];exact ⟨_,rfl,key _ (by omega) (fun x hx => hx)⟩
 rw [if_pos c,if_pos (by omega)];exact ⟨_,rfl,key _ (by simp; omega) (fun x hx => List.mem_of_mem_take hx)⟩
def NetSz (p : Int) (r : Int × List Arc × Int) : Prop:=(0 ≤ r.1 ∧ r.1 ≤ 9) ∧ r.2.1.length ≤ 13 ∧ (p ≤ r.2.2 ∧ r.2.2 ≤ p + 100)
theorem net_l {b : List Int} (h : Rdr b) (n : Int) (hn : 1 ≤ n ∧ n ≤ 9) : ∀ (m : Nat) (p : Int) (l : List Arc),0 ≤ p → p + 6 * m ≤ 100000 → m ≤ 13 → l.length ≤ 13 - m → Pv (fun k => spec_l30Net.l0 k (m : Int) b p n l) (fun r => r.1 = n ∧ r.2.1.length ≤ 13 ∧ (p ≤ r.2.2 ∧ r.2.2 ≤ p + 6 * m)):=by
 intro m
 induction m with
 | zero =>
  intro p l hp hp' hm hl;refine Pv.go ?_ (fun k => by rw [spec_l30Net.l0]);exact Pv.neg (by omega) (Pv.now ⟨rfl,by dsimp only; omega,by dsimp only; omega⟩)
 | succ m ih =>
  intro p l hp hp' hm hl;have hw : wrap64 (((m + 1 : Nat) : Int) - 1) = (m : Int):=by rw [w64 (by omega) (by omega)]; omega
  refine Pv.go ?_ (fun k => by rw [spec_l30Net.l0]);rw [hw];refine Pv.pos (by omega) (Pv.bind (pick_pv h hp (by omega)) (fun r1 ⟨a1,e1⟩ => Pv.bind (pick_pv h (p:=r1.2) (by omega) (by omega)) (fun r2 ⟨a2,e2⟩ => Pv.bind (pick_pv h (p:=r2.2) (by omega) (by omega)) (fun r3 ⟨a3,e3⟩ => Pv.bind (one_pv h (p:=r3.2) (by omega) (by omega) (by simp)) (fun r4 ⟨a4,e4⟩ => Pv.bind (one_pv h (p:=r4.2) (by omega) (by omega) (by simp)) (fun r5 ⟨a5,e5⟩ => Pv.bind (pick_pv h (p:=r5.2) (by omega) (by omega)) (fun r6 ⟨a6,e6⟩ => ?_)))))));have step : ∀ x : Arc,Pv (fun k => spec_l30Net.l0 k (m : Int) b r6.2 n (l ++ [x])) (fun r => r.1 = n ∧ r.2.1.length ≤ 13 ∧ (p ≤ r.2.2 ∧ r.2.2 ≤ p + 6 * ((m + 1 : Nat) : Int))):=fun x => (ih r6.2 (l ++ [x]) (by omega) (by omega) (by omega) (by simp; omega)).mono (fun r hr => ⟨hr.1,hr.2.1,by omega,by omega⟩)
  refine Pv.ite (fun _ => Pv.neg (by omega) (Pv.pos (by omega) (step _))) (fun _ => Pv.pos (by omega) (step _))
theorem net_pv {b : List Int} (h : Rdr b) {p : Int} (hp : 0 ≤ p) (hp' : p ≤ 10000) : Pv (fun k => spec_l30Net.f k b p) (fun r => (2 ≤ r.1 ∧ r.1 ≤ 6) ∧ r.2.1.length ≤ 13 ∧ (p ≤ r.2.2 ∧ r.2.2 ≤ p + 90)):=by
 unfold spec_l30Net.f
 refine Pv.bind (pick_pv h hp (by omega)) (fun r1 ⟨a1,e1⟩ => Pv.bind (pick_pv h (p:=r1.2) (by omega) (by omega)) (fun r2 ⟨a2,e2⟩ => ?_));have b1:=a1.2.2 (by omega);have b2:=a2.2.2 (by omega);have hw : wrap64 (2 + r1.1) = 2 + r1.1:=w64 (by omega) (by omega);rw [hw];have:=net_l h (2 + r1.1) (by omega) r2.1.toNat r2.2 [] (by omega) (by omega) (by omega) (by simp);rw [Int.toNat_of_nonneg a2.1] at this;exact this.mono (fun r hr => ⟨⟨by omega,by omega⟩,hr.2.1,by omega,by omega⟩)
theorem anyNet_pv {b : List Int} (h : Rdr b) {p : Int} (hp : 0 ≤ p) (hp' : p ≤ 10000) : Pv (fun k => spec_l30AnyNet.f k b p) (NetSz p):=by
 unfold spec_l30AnyNet.f
 refine Pv.bind (net_pv h hp hp') (fun r0 ⟨a0,l0,e0⟩ => ?_);refine Pv.ite (fun c => ?_) (fun c => Pv.now ⟨by dsimp only; omega,l0,by dsimp only; omega⟩);refine Pv.bind (pick_pv h (p:=r0.2.2) (by omega) (by omega)) (fun r1 ⟨a1,e1⟩ => Pv.bind (pick_pv h (p:=r1.2) (by omega) (by omega)) (fun r2 ⟨a2,e2⟩ => ?_));have b1:=a1.2.2 (by omega);refine Pv.ite (fun c1 => Pv.pos a1.1 (Pv.pos b1 (Pv.bind (one_pv h (p:=r2.2) (by omega) (by omega) (by simp)) (fun r3 ⟨a3,e3⟩ => Pv.now ⟨by dsimp only; omega,by simpa using l0,by dsimp only; omega⟩)))) (fun c1 => ?_);refine Pv.ite (fun c2 => Pv.bind (one_pv h (p:=r2.2) (by omega) (by omega) (by simp)) (fun r3 ⟨a3,e3⟩ => Pv.pos a1.1 (Pv.pos b1 (Pv.now ⟨by dsimp only; omega,by simpa using l0,by dsimp only; omega⟩)))) (fun c2 => ?_);refine Pv.ite (fun c3 => Pv.bind (one_pv h (p:=r2.2) (by omega) (by omega) (by simp)) (fun r3 ⟨a3,e3⟩ => Pv.now ⟨?_,l0,by dsimp only; omega⟩)) (fun c3 => Pv.now ⟨by dsimp only; omega,l0,by dsimp only; omega⟩);simp only [List.mem_cons,List.not_mem_nil,or_false] at a3;dsimp only;omega
end Go.Proofs.Ytmioaahiflfcdaa.Pure
end
section
set_option linter.unusedSimpArgs false
set_option linter.unusedVariables false
set_option linter.unusedSectionVars false
namespace Go.Proofs.Ytmioaahiflfcdaa.Pure
open Go.RowKit Go.Proofs.Ytmioaahiflfcdaa.Pr Go.Proofs.YtmioaahiflfcdaaW.PrintWords Go.Proofs.YtmioaahiflfcdaaW.PrintLast Go.Proofs.YtmioaahiflfcdaaW.PrintMore
open Go.Proofs.Ytmioaahiflfcdaa.Pm (perms pick at_ costOf IsPerm inv)
section
variable {N : Nat} {l : List Arc} {a b : List Nat} (hJ : Jobs N l a b)
include hJ
theorem perm_in {p : List Nat} (h : IsPerm a.length p) : p ∈ perms a.length a.length []:=by
 have:=Pm.perms_all (n:=a.length) (f:=a.length) (b:=[]) (q:=p) (by simpa using h.nd) h.lt h.len
 simpa using this
theorem best_le {p : List Nat} (h : IsPerm a.length p) : (bestJ N l a b).2 ≤ costOf a.length (DJ N l a b) p:=(Pm.pick_le _ _ _).2 p (perm_in hJ h)
end
theorem nodeJ_pv {b : List Int} (h : Rdr b) {p : Int} (hp : 0 ≤ p) (hp' : p ≤ 20000) (n : Int) (l : List Arc) : Pv (fun k => spec_l30Node.f k b p n l) (fun r => p ≤ r.2 ∧ r.2 ≤ p + 2):=by
 unfold spec_l30Node.f
 refine Pv.bind (pick_pv h hp (by omega)) (fun r1 ⟨a1,e1⟩ => Pv.ite (fun _ => ?_) (fun _ => ?_))
 ·exact Pv.bind (one_pv h (p:=r1.2) (by omega) (by omega) (by simp)) (fun r2 ⟨a2,e2⟩ => Pv.now (by dsimp only; omega))
 ·exact Pv.bind (pick_pv h (p:=r1.2) (by omega) (by omega)) (fun r2 ⟨a2,e2⟩ => Pv.now (by dsimp only; omega))
theorem jobs_l {b : List Int} (h : Rdr b) (n : Int) (l : List Arc) : ∀ (m : Nat) (p : Int) (x y : List Int),0 ≤ p → p + 4 * m ≤ 15000 → x.length + m ≤ 4 → y.length + m ≤ 4 → Pv (fun k => spec_l30Jobs.l0 k x y (m : Int) b p n l) (fun r => r.1.length ≤ 5 ∧ r.2.1.length ≤ 5 ∧ (p ≤ r.2.2 ∧ r.2.2 ≤ p + 4 * m + 1)):=by
 intro m
 induction m with
 | zero =>
  intro p x y hp hp' hx hy;refine Pv.go ?_ (fun k => by rw [spec_l30Jobs.l0]);refine Pv.neg (by omega) (Pv.bind (pick_pv h hp (by omega)) (fun r1 ⟨a1,e1⟩ => Pv.ite (fun _ => Pv.pos (by omega) (Pv.now ⟨by simp; omega,by dsimp only; omega,by dsimp only; omega⟩)) (fun _ => Pv.now ⟨by dsimp only; omega,by dsimp only; omega,by dsimp only; omega⟩)))
 | succ m ih =>
  intro p x y hp hp' hx hy;refine Pv.go ?_ (fun k => by rw [spec_l30Jobs.l0]);have w2 : wrap64 (((m + 1 : Nat) : Int) - 1) = (m : Int):=by rw [w64 (by omega) (by omega)]; omega
  rw [w2];refine Pv.pos (by omega) (Pv.bind (nodeJ_pv h hp (by omega) n l) (fun r1 e1 => Pv.pos (by omega) (Pv.bind (nodeJ_pv h (p:=r1.2) (by omega) (by omega) n l) (fun r2 e2 => Pv.pos (by omega) ?_))));exact (ih r2.2 (x ++ [r1.1]) (y ++ [r2.1]) (by omega) (by omega) (by simp; omega) (by simp; omega)).mono (fun r hr => ⟨hr.1,hr.2.1,by have:=hr.2.2; omega⟩)
theorem jobs_pv {b : List Int} (h : Rdr b) {p : Int} (hp : 0 ≤ p) (hp' : p ≤ 10000) (n : Int) (l : List Arc) : Pv (fun k => spec_l30Jobs.f k b p n l) (fun r => r.1.length ≤ 5 ∧ r.2.1.length ≤ 5 ∧ (p ≤ r.2.2 ∧ r.2.2 ≤ p + 30)):=by
 unfold spec_l30Jobs.f
 refine Pv.bind (pick_pv h hp (by omega)) (fun r1 ⟨a1,e1⟩ => ?_);have b1:=a1.2.2 (by omega);obtain ⟨m,hm⟩ : ∃ m : Nat,r1.1 = (m : Int):=⟨r1.1.toNat,by omega⟩
 rw [hm];exact (jobs_l h n l m r1.2 [] [] (by omega) (by omega) (by simp; omega) (by simp; omega)).mono (fun r hr => ⟨hr.1,hr.2.1,by have:=hr.2.2; omega⟩)
end Go.Proofs.Ytmioaahiflfcdaa.Pure
end
section
set_option linter.unusedSimpArgs false
set_option linter.unusedVariables false
set_option linter.unusedSectionVars false
namespace Go.Proofs.Ytmioaahiflfcdaa.Pure
open Go.RowKit Go.Proofs.Ytmioaahiflfcdaa.Pr Go.Proofs.YtmioaahiflfcdaaW.PrintWords Go.Proofs.YtmioaahiflfcdaaW.PrintLast Go.Proofs.YtmioaahiflfcdaaW.PrintMore
open Go.Proofs.Ytmioaahiflfcdaa.Pm (perms pick at_ costOf IsPerm inv)
open Go.Proofs.Ytmioaahiflfcdaa.Fl (sm)
theorem order_l {b : List Int} (h : Rdr b) (m : Nat) (hm : m ≤ 10) : ∀ (d i : Nat) (p : Int) (x : List Int),m - i = d → i ≤ m → 0 ≤ p → p + d ≤ 20000 → x.length = i → Pv (fun k => spec_l30Order.l0 k (m : Int) x (i : Int) b p) (fun r => r.1.length = m):=by
 intro d
 induction d with
 | zero =>
  intro i p x hd hi hp hp' hx;refine Pv.go ?_ (fun k => by rw [spec_l30Order.l0]);exact Pv.neg (by omega) (Pv.now (by dsimp only; omega))
 | succ d ih =>
  intro i p x hd hi hp hp' hx;have hlt : i < m:=by omega
  refine Pv.go ?_ (fun k => by rw [spec_l30Order.l0]);have w1 : wrap64 ((x.length : Int) + 1) = ((x.length + 1 : Nat) : Int):=by rw [w64 (by omega) (by omega)]; omega
  rw [w1,up1 hlt (by simp only [maxLen]; omega)];refine Pv.pos (by omega) (Pv.bind (pick_pv h hp (by omega)) (fun r1 ⟨a1,e1⟩ => ?_));have b1:=a1.2.2 (by omega);obtain ⟨j,hj⟩ : ∃ j : Nat,r1.1 = (j : Int):=⟨r1.1.toNat,by omega⟩
  rw [hj,Int.toNat_natCast];have hl1 : (x.take j).length = j:=by rw [List.length_take]; omega
  have hl2 : (x.drop j).length = x.length - j:=List.length_drop;refine Pv.bind0 rfl (Pv.pos (by omega) (Pv.pos (by omega) (Pv.bind0 rfl ?_)));rw [List.nil_append];refine Pv.pos (by rw [List.length_nil]; omega) (Pv.bind0 rfl (Pv.pos (by omega) (Pv.bind0 rfl (Pv.bind0 rfl (Pv.pos (by rw [List.length_append,List.length_singleton]; omega) ?_)))));exact ih (i + 1) r1.2 _ (by omega) (by omega) (by omega) (by omega) (by rw [List.length_append,List.length_append,List.length_singleton]; omega)
theorem drawCost_pv {x : List Int} (hx : ∀ c ∈ x,(Lit.int .u8 c).wf = true) : Pv (fun k => spec_DrawJobCost.f k x) (fun r => r.2.1.length ≤ 13 ∧ r.2.2.1.length ≤ 5 ∧ r.2.2.2.1.length ≤ 5 ∧ r.2.2.2.2.length ≤ 5):=by
 unfold spec_DrawJobCost.f
 obtain ⟨b,e,hb⟩:=open_pv hx;refine Pv.bind0 e (Pv.bind (anyNet_pv hb (p:=0) (by omega) (by omega)) (fun r1 h1 => ?_));have h3:=h1.2.2;refine Pv.bind (jobs_pv hb (p:=r1.2.2) (by omega) (by omega) r1.1 r1.2.1) (fun r2 h2 => ?_);have h4:=h2.2.2;have hl:=h2.1;refine Pv.bind (R:=fun r => r.1.length ≤ 5) ?_ (fun r3 h5 => Pv.now ⟨h1.2.1,h2.1,h2.2.1,h5⟩)
 unfold spec_l30Order.f
 exact (order_l hb r2.1.length (by omega) _ 0 r2.2.2 [] rfl (Nat.zero_le _) (by omega) (by omega) rfl).mono (fun r hr => by omega)
section
variable {N : Nat} {l : List Arc} {a b : List Nat} (hJ : Jobs N l a b)
include hJ
theorem nearAllJ_ev {s : Nat} (hs : s < N) : Ev (fun q => impl_NearAll.f q N l (s : Int)) (tab N l s):=by
 unfold impl_NearAll.f tab
 exact Ev.bind0 (a:=true) (by rw [nodesIn_eq,(netOkB_iff _ _).2 hJ.net]; simp [okN]; omega) (Ev.pos rfl (Ev.bind (from_ev hJ.net hs) (Ev.now _)))
open Classical in
theorem cost_l {p : List Nat} (hp : IsPerm a.length p) : ∀ (d i : Nat),a.length - i = d → i ≤ a.length → Ev (fun k => laws_FnJobCost.l0 k (nts a) (nts b) (nts p) (costOf a.length (DJ N l a b) p) (if ∃ j,j < i ∧ DJ N l a b j (at_ p j) = 99999 then 99999 else sm (fun j => DJ N l a b j (at_ p j)) i) (i : Int) N l) true:=by
 have h8:=hJ.net.n8;have h5:=hJ.m5;have hpl:=hp.len;intro d
 induction d with
 | zero =>
  intro i hd hi;have e : i = a.length:=by omega
  subst e;have hib:=implJob_ev (N : Int) l (nts a) (nts b);rw [jobV_at hJ] at hib;have hle:=best_le hJ hp;refine Ev.go ?_ (fun k => by rw [laws_FnJobCost.l0]);refine Ev.neg (by rw [nts_len]; omega) (Ev.bind hib (Ev.pos ?_ (Ev.is ?_)))
  ·unfold costOf
   by_cases c : ∃ j,j < a.length ∧ DJ N l a b j (at_ p j) = 99999
   case neg => rw [if_neg c,if_neg c]
   rw [if_pos c,if_pos c]
  ·rw [decide_eq_true_eq]; exact hle
 | succ d ih =>
  intro i hd hi;have hlt : i < a.length:=by omega
  have hpi:=hp.lt _ (at_mem (show i < p.length by omega));have h1:=at_a hJ hlt;have h2:=at_b hJ hpi;have hbd:=DJ_bd hJ hlt hpi;have hn:=ih (i + 1) (by omega) (by omega);have e1 : rd (tab N l (at_ a i)) ((at_ b (at_ p i) : Nat) : Int) = DJ N l a b i (at_ p i):=tab_rd h2;refine Ev.go ?_ (fun k => by rw [laws_FnJobCost.l0]);rw [nts_rd,nts_rd,nts_rd,up1 hlt (by simp only [maxLen]; omega)];refine Ev.pos (by rw [nts_len]; omega) (Ev.pos (by omega) (Ev.pos (by rw [nts_len]; omega) (Ev.bind (nearAllJ_ev hJ h1) ?_)));rw [e1];refine Ev.pos (by omega) (Ev.pos (by rw [nts_len,hJ.len]; omega) (Ev.pos (by omega) (Ev.pos (by rw [tab_len]; omega) ?_)))
  by_cases c : DJ N l a b i (at_ p i) = 99999
  case pos =>
   rw [if_pos (⟨i,by omega,c⟩ : ∃ j,j < i + 1 ∧ DJ N l a b j (at_ p j) = 99999)] at hn;exact Ev.pos c hn
  refine Ev.neg c ?_
  by_cases c2 : ∃ j,j < i ∧ DJ N l a b j (at_ p j) = 99999
  case pos =>
   rw [if_pos c2];obtain ⟨j,hj,e⟩:=c2;rw [if_pos (⟨j,by omega,e⟩ : ∃ j,j < i + 1 ∧ DJ N l a b j (at_ p j) = 99999)] at hn;exact Ev.pos rfl hn
  have hf : ∀ j,j < i → DJ N l a b j (at_ p j) ≠ 99999:=fun j hj e => c2 ⟨j,hj,e⟩
  have hsm:=sm_bd hJ hpl hp.lt i hi hf;rw [if_neg c2];rw [if_neg (show ¬ ∃ j,j < i + 1 ∧ DJ N l a b j (at_ p j) = 99999 from fun ⟨j,hj,e⟩ => by
   by_cases e3 : j = i
   case pos => subst e3; exact c e
   exact hf j (by omega) e)] at hn
  refine Ev.neg (by omega) ?_;rw [w64 (by omega) (by omega)];exact hn
end
theorem FnJobCost : laws_FnJobCost.Asked:=by
 classical
 intro c hc;refine Pv.rounds ?_
 unfold laws_FnJobCost.f
 refine Pv.ite (fun _ => Pv.now rfl) (fun _ => Pv.bind (drawCost_pv hc.2) (fun r h => ?_));obtain ⟨n,l,x,y,w⟩:=r;obtain ⟨h1,h2,h3,h4⟩:=h;dsimp only at h1 h2 h3 h4 ⊢;have hs:=specJobCost_ev n l x y w (by simp only [maxLen]; omega) (by simp only [maxLen]; omega) (by simp only [maxLen]; omega) (by simp only [maxLen]; omega);refine Pv.of (Ev.bind (implJobCost_ev n l x y w (by omega)) (Ev.bind hs (Ev.pos rfl (Ev.go ?_ (fun k => by rw [laws_FnJobCost.j0]))))) rfl
 by_cases hb : jobsB n l x y = true ∧ PermI w x.length
 case neg =>
  have e : jobCV n l x y w = -1:=by unfold jobCV; rw [if_neg hb]
  rw [e] at hs ⊢;exact Ev.pos (by rfl) (Ev.bind hs (Ev.now _))
 obtain ⟨hb,hw⟩:=hb;obtain ⟨N,a,b,rfl,rfl,rfl,hJ⟩:=jobsB_jobs hb;rw [nts_len] at hw;rw [jobCV_at hJ hw];have hbd:=costOf_bd hJ hw.1.len hw.1.lt;have e : w = nts (nats w):=(nts_nats hw.2).symm;refine Ev.neg (by rw [decide_eq_true_eq]; omega) ?_;have:=cost_l hJ hw.1 _ 0 rfl (Nat.zero_le _);rw [if_neg (show ¬ ∃ j,j < 0 ∧ DJ N l a b j (at_ (nats w) j) = 99999 from fun ⟨j,hj,_⟩ => absurd hj (by omega)),← e] at this;exact this
end Go.Proofs.Ytmioaahiflfcdaa.Pure
end
section
namespace Go.Proofs.Ytmioaahiflfcdaa.fnJobCost
open Go.ChangeShapes Go.WideShapes Go.ChangeAt Go.RowKit Go.Proofs.YtmioaahiflfcdaaW.PrintWords Go.Proofs.Ytmioaahiflfcdaa.Pr
open Go.ChangeMaps (open_string shut_string)
set_option linter.unusedVariables false
set_option linter.unusedSimpArgs false
theorem own : ownKnob Try.prog.godebug = none:=by kernel_rfl
theorem laidOut : laidOutB Try.prog = true:=by kernel_rfl
theorem opens0 : Opens Try.prog (Kd.slice 5 (Kd.int .u8)) 22 (fun l => l.length ≤ maxLen ∧ ∀ x ∈ l,(fun n => (Lit.int .u8 n).wf = true) x):=(opens_slice (P:=Try.prog) Try.underlying22 (by kernel_rfl) (opens_int (P:=Try.prog) (k:=.u8) Try.underlying5))
set_option maxRecDepth 100000 in
set_option maxHeartbeats 2000000 in
theorem lifted (os : Os) (started : os.Started) (H : Type) (enc : TypeId × Value → H) :
  ReturnsInHanded {} Try.checked os 6 .any (Rows.fnJobCostSpec.pre6 enc Try.prog Try.f6 Rows.fnJobCostRow.domain false) (Rows.fnJobCostSpec.post enc Try.prog Try.f6 false true false false):=by
 refine returnsInHanded_of_change_sized (C:=Try.checked) own started (by kernel_rfl) Try.func6
  (ChangeSpec.witness6 (enc:=enc) (C:=Try.checked) false ⟨#[],#[(.slice none 0 0)],[]⟩ 8 (by kernel_rfl) (by kernel_rfl) (by kernel_rfl) (by kernel_rfl)) ?_
 intro W base args ds gs before hval0 hW hcnd hsz0 _;have hval : ∀ (j : Nat) t v,Try.f6.params[j]? = some t → args[j]? = some v → Value.okWide Try.prog W .any base t v:=hval0
 have hW':=hW;obtain ⟨p,q,hA0,hV,rfl,hfz,hnd⟩:=hW;have hA : DataW.TrodAll enc Try.prog W 0 (fun _ => true) true Try.f6.params.toList args.toList ds p:=hA0;rw [Try.params6] at hA hval;obtain ⟨v0,vs0,d0,ds0,p0,q0,hargs,rfl,rfl,h0,r0⟩:=trodAll_cons hA;obtain ⟨rfl,rfl,rfl⟩:=trodAll_nil r0;obtain rfl : args = #[v0]:=by cases args; simp_all
 obtain ⟨rfl,rfl⟩:=trodVars_none hV;have k0:=h0;have lt0 : ∀ x ∈ p0,x.block < W.heap.size:=by obtain ⟨m,hm⟩:=k0; exact DataW.trod_lt m _ _ _ hm
 obtain ⟨a0,len0,cap0,rfl⟩:=okWide_slice Try.underlying22 (hval 0 22 v0 rfl rfl);obtain ⟨fuel0,hf0⟩:=h0;obtain ⟨l0,⟨A0,c0,e0,hc0,hr0⟩,w0⟩:=opens0 hf0;have e0' : (Value.slice a0 len0 cap0) = .slice A0 l0.length c0:=(List.cons.inj e0).1;injection e0' with e0a e0b e0c
 subst e0a e0b e0c;obtain ⟨k,hh⟩:=Pure.FnJobCost l0 w0;refine (laws_FnJobCost.calls k _ _ l0 true W hr0 hc0 hh).mono fun e W' ⟨he,bel0⟩ => ?_
 have bel : Below W.heap.size W W':=bel0;subst he;exact ⟨_,rfl,_,_,_,[],_,[],hW',trodAll_mk1 (shut_bool Try.underlying4 _),(trodAll_cons_mk (Below.trod laidOut (by kernel_rfl) (of_decide_eq_true (by kernel_rfl)) k0 bel lt0) trodAll_mk0),rfl,bel.frame _,fun h => by cases h⟩
theorem over : Rows.fnJobCostRow.holds Try.pinned (OpenSpec.ofChange Rows.fnJobCostSpec) :=
 OpenClaim.holds_of_wide 6 Try.f6 rfl rfl rfl rfl rfl rfl rfl ⟨rfl,rfl,rfl,rfl,rfl⟩ rfl rfl rfl rfl rfl (by kernel_rfl) Try.func6 (by kernel_rfl)
  (of_decide_eq_true (by kernel_rfl)) (by unfold Func.isWrapper; first | (rw [if_pos (by decide +kernel)]; kernel_rfl) | (rw [if_neg (by decide +kernel)]; exact ⟨rfl,rfl⟩))
  (fun os started H enc _ => lifted os started H enc)
theorem proved : Rows.FnJobCostSaid:=over
#print axioms proved
end Go.Proofs.Ytmioaahiflfcdaa.fnJobCost
namespace Go.Proofs.Ytmioaahiflfcdaa
theorem fnJobCost_holds : Rows.FnJobCostSaid:=fnJobCost.proved
end Go.Proofs.Ytmioaahiflfcdaa
end
