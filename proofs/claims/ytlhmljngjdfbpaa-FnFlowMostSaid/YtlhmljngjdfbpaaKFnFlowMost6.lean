/- For the statement FnFlowMost of this seat: it is proved here, with no further conditions (part 7 of its texts: words, walks of the functions, the plain law, the row). -/
import Derived.ChangeArms
import Derived.ChangeSlices
import Derived.Deep.Slices
import Derived.WideShapes
import Derived.DataReads
import Derived.Test.YtlhmljngjdfbpaaRows
import Derived.WalkKit
import Derived.ProofKit
import Derived.OpenShut
import Derived.ShutString
import Derived.ChangeOld
import Derived.Below
import Derived.SizedLaws
import Derived.Test.YtlhmljngjdfbpaaKFnFlowMost5
section
namespace Go.Proofs.Ytlhmljngjdfbpaa.Pr
open Go.RowKit Go.Proofs.YtlhmljngjdfbpaaW.PrintWords Go.Proofs.YtlhmljngjdfbpaaW.PrintLast Go.Proofs.YtlhmljngjdfbpaaW.PrintMore
attribute [local go_sem] max2_int min2_int max_two min_two max_three min_three max_four min_four
set_option linter.unusedVariables false
set_option linter.unusedSimpArgs false
open List renaming setIfInBounds_toArray → U,set_cons_zero → V,set_cons_succ → Z
open Go.Proofs.YtlhmljngjdfbpaaW.PrintWords.Aside0 renaming mk → zx
mutual
def impl_Net_loads.l0 : Nat → Int → List Int → Int → Int → List (S58) → Option (List Int)
 | 0,_,_,_,_,_ => none
 | k + 1,x1,x5,x15,p8,p9 => if x15 < 10 then ((impl_Net_loaded.f k p8 p9 x15).bind fun bt1009 => ((impl_Net_from.f k bt1009.1 bt1009.2.1 x1).bind fun t1017 => (impl_Net_loads.l1 k x1 x5 x15 x15 t1017 (t1017.length : Int) 0 p8 p9))) else (some x5)
def impl_Net_loads.l1 : Nat → Int → List Int → Int → Int → List Int → Int → Int → Int → List (S58) → Option (List Int)
 | 0,_,_,_,_,_,_,_,_,_ => none
 | k + 1,x1,x5,x6,x15,x26,x27,x28,p8,p9 => if x28 < x27 then (if 0 ≤ x28 then (if x28 < (x26.length : Int) then (if (rd x26 x28) = 99999 then (impl_Net_loads.l1 k x1 x5 x6 x15 x26 x27 (wrap64 (x28 + 1)) p8 p9) else (if x28 < (x5.length : Int) then (impl_Net_loads.l1 k x1 (x5.set (x28 : Int).toNat x6) x6 x15 x26 x27 (wrap64 (x28 + 1)) p8 p9) else (none))) else (none)) else (none)) else (impl_Net_loads.l0 k x1 x5 (wrap64 (x15 + 1)) p8 p9)
end
def impl_Net_loads.f (k : Nat) (a0_0 : Int) (l0_1 : List (S58)) (a1 : Int) : Option (List Int):=(slices_Repeat_int_int.f (([(-1)] : List Int)) a0_0).bind fun t1004 => (impl_Net_loads.l0 k a1 t1004 0 a0_0 l0_1)
set_option maxHeartbeats 8000000 in
set_option maxRecDepth 100000 in
theorem impl_Net_loads.calls (k : Nat) (a0_0 : Int) (A0_1 : Option Addr) (c0_1 : Nat) (l0_1 : List (S58)) (a1 : Int) (r : List Int) (w : World) (hr0_1 : Kd.C k58 w A0_1 l0_1.length l0_1) (hc0_1 : l0_1.length ≤ c0_1) (h : impl_Net_loads.f k a0_0 l0_1 a1 = some r) :
  Calls Try.prog 100 #[.agg #[.int .i64 a0_0,.slice A0_1 l0_1.length c0_1],.int .i64 a1] w fun e w' => ∃ v0_ : Value,e = .returned (v0_) ∧ Kd.R (Kd.int .i64) 3 w' w.heap.size (fun _ => True) v0_ r ∧ Below w.heap.size w w':=by
 have hu34:=Try.underlying34;have HR0_1:=zx hr0_1;have HC0_1:=zx hc0_1;clear hr0_1 hc0_1;have HB:=zx (Below.refl w.heap.size w);have H : ((slices_Repeat_int_int.f (([(-1)] : List Int)) a0_0).bind fun t1004 => (impl_Net_loads.l0 k a1 t1004 0 a0_0 l0_1)) = some r:=h;clear h;obtain ⟨y1001,hy1001⟩ : ∃ y_ : List Int,y_ = (([(-1)] : List Int)):=⟨_,rfl⟩
 replace H : ((slices_Repeat_int_int.f y1001 a0_0).bind fun t1004 => (impl_Net_loads.l0 k a1 t1004 0 a0_0 l0_1)) = some r:=by first | (rw [hy1001]; with_reducible exact H) | (have H2_:=(Option.bind_some _ _).symm.trans H; rw [hy1001]; with_reducible exact H2_) | (have H2_:=(Option.bind_some _ _).symm.trans H; with_reducible exact H2_) | with_reducible exact H | (rw [hy1001]; exact H) | exact H
 have q5:=zx hy1001;clear hy1001;replace H:=Option.bind_eq_some_iff.mp H;obtain ⟨t1004,A30,H⟩:=H;replace H : (impl_Net_loads.l0 k a1 t1004 0 a0_0 l0_1) = some r:=H;have A3:=zx A30;clear A30;have H':=zx H;clear H
 go_enter Try.func100,Try.ntmps100
 go_wp2_with (first | ((with_reducible refine gate_dst (N:=2) rfl ?_); refine box_event ?hg (N:=2) ?hd (cs:=#[.int .i64 a0_0,.slice A0_1 l0_1.length c0_1]) (t:=34) ?hr ?_; (case hd => rfl); (case hg => rfl); (case hr => first | (go_simp; done) | (go_simp; rfl)); intro p5 hg w4 hbox hb; have n0_:=zx (below_step HB.out hb); have n1_:=zx (hbox); have n2_:=zx ((by rw [hg]; exact (below_size HB.out) : w.heap.size ≤ p5)); have n3_:=zx ((by rw [hg]; exact (below_size HB.out) : w.heap.size ≤ p5)); clear HB; have HB:=n0_; have p0:=n1_; have GW1000:=n2_; have q0:=n3_; clear n0_ n1_ n2_ n3_; clear hb hbox hg) | ((with_reducible refine gate_dst (N:=11) rfl ?_); refine Kd.R_lit (Kd.int .i64) _ 3 ?hg (N:=11) ?hd (xs:=([(-1)] : List Int)) (inner:=[.int .i64 (-1)]) (ok:=fun _ => True) (okp:=fun _ => True) ?hr ?hp (fun _ hk => hk) trivial (Below.refl _ _) (Nat.le_refl _) (by simp) ?_; (case hd => rfl); (case hg => rfl); (case hr => first | (go_simp; done) | (go_simp; rfl)); (case hp => exact (Reps.one (show Kd.M (Kd.int .i64) _ _ _ (-1) [.int .i64 (-1)] from rfl) (Reps.none _ _))); intro v1002 w5 ho6 hb hg_ hnew_; clear hg_ hnew_; (first | rw [← q5.out] at ho6 | (simp only [Int.reduceToNat] at ho6; rw [← q5.out] at ho6)); have n0_:=zx (Kd.R_lower ho6 (below_size HB.out)); have n1_:=zx (blk_below (g:=p5) (o:=.cells #[.int .i64 a0_0,.slice A0_1 l0_1.length c0_1] 34 (0,0)) p0.out hb); have n2_:=zx (below_step HB.out hb); clear p0; clear HB; have HO1003:=n0_; have p0:=n1_; have HB:=n2_; clear n0_ n1_ n2_; clear hb ho6; have q6 : w5.cell? ⟨p5,0,none⟩ = some (.int .i64 a0_0):=(blk_cell p0.out 0).trans rfl; have q7 : w5.cell? ⟨p5,1,none⟩ = some (.slice A0_1 l0_1.length c0_1):=(blk_cell p0.out 1).trans rfl; have q8:=blk_frozen p0.out 0; have q9:=blk_frozen p0.out 1; obtain ⟨Ao8,co8,eo8⟩:=Kd.R_slice HO1003.out; subst eo8) | ((with_reducible refine gate_callee (f:=131) rfl ?_); refine goesL_ (some 14) rfl rfl Try.func131 (by kernel_rfl) rfl #[.slice Ao8 y1001.length co8,.int .i64 a0_0] rfl (by (try simp only [List.map_toArray,List.map_cons,List.map_nil]); first | done | rfl | (simp only [List.length_drop,List.length_take]; rfl)) ?_; (with_reducible refine (slices_Repeat_int_int.calls _ _ y1001 a0_0 t1004 _ ?side1 ?side2 A3.out).mono ?_); (case side1 => repeat (first | exact (Kd.R_reads' HO1003.out).2.2 | (with_reducible refine Kd.C_alloc ?_ _) | (with_reducible refine Kd.C_drewN ?_ _) | (with_reducible refine Kd.C_drew ?_))); (case side2 => exact (Kd.R_reads' HO1003.out).2.1); rintro e w9 ⟨v1005,rfl,ho0,hb⟩; refine ⟨_,rfl,?_⟩; have n0_:=zx (Kd.R_elder' HO1003.out (Kd.R_base ho0) hb); have n1_:=zx (Kd.R_lower (Kd.R_new' ho0 (Kd.R_lt HO1003.out)) (below_size HB.out)); have n2_:=zx (blk_below (g:=p5) (o:=.cells #[.int .i64 a0_0,.slice A0_1 l0_1.length c0_1] 34 (0,0)) p0.out hb); have n3_:=zx (below_step HB.out hb); clear HO1003; clear p0; clear HB; have HO1003:=n0_; have HO1006:=n1_; have p0:=n2_; have HB:=n3_; clear n0_ n1_ n2_ n3_; (try clear hb); (try clear hb2); (try clear hk); (try clear hi); (try clear ho0)))
 go_loopg [15] k (fun kq v15 w' => ∃ (x5_1 : List Int) (p6 : Int),v15 = .int .i64 p6 ∧ Aside0 (impl_Net_loads.l0 kq a1 x5_1 p6 a0_0 l0_1 = some r) ∧ Aside0 (kq ≤ k) ∧ Aside0 (Kd.R (Kd.int .i64) 3 w' w.heap.size (fun _ => True) v1005 x5_1) ∧ Aside0 (w'.heap[p5]? = some (.cells #[.int .i64 a0_0,(.slice A0_1 l0_1.length c0_1)] 34 (0,0))) ∧ Aside0 (Below w.heap.size w w'))
 case atStart => exact ⟨(t1004),(0),(by first | rfl | (simp; done) | (simp [*]; done)),H',⟨Nat.le_refl _⟩,⟨by (with_reducible repeat (first | apply Kd.R_alloc | apply Kd.R_drewN | apply Kd.R_drew)); exact Kd.R_mono HO1006.out (fun _ hk => trivial)⟩,⟨by (with_reducible repeat (first | refine blk_drewN ?_ _ | refine blk_drew ?_ | refine blk_alloc ?_ _)); exact p0.out⟩,⟨by repeat (first | (with_reducible first | exact HB.out | apply below_alloc | apply pw_below_drewN | apply below_drew1 | refine below_set ?_ q0.out) | exact HB.out)⟩⟩
 case round =>
  clear H'
  try clear c1
  try clear p2
  try clear q6
  try clear q7
  try clear q8
  try clear q9
  obtain ⟨x5_1,p6,rfl,HA,HK1,HO_5,p0,HB⟩:=hrel;cases gk with
  | zero => exact absurd HA.out (by simp [impl_Net_loads.l0])
  | succ k1 =>
   have H:=HA.out;clear HA;simp only [impl_Net_loads.l0] at H
   by_cases c10 : p6 < 10
   case neg =>
    rw [if_neg c10] at H;have c10b0 : decide (p6 < 10) = false:=decide_eq_false c10;clear c10;obtain rfl:=Option.some.inj H;obtain ⟨Ao29,co29,eo29⟩:=Kd.R_slice HO_5.out;subst eo29;have hc30:=zx (Kd.R_reads' HO_5.out).2.1;have hr30:=Kd.R_cap1 HO_5.out;clear HO_5;have HO1008:=zx hr30;clear hr30
    go_wp2_with (first | ((with_reducible refine gate_callee (f:=133) rfl ?_); refine goesL_ (some 42) rfl rfl Try.func133 (by kernel_rfl) rfl #[.slice Ao29 x5_1.length co29] rfl (by (try simp only [List.map_toArray,List.map_cons,List.map_nil]); first | done | rfl) ?_; (with_reducible refine (clip133_calls _ _ _ _ hc30.out).mono ?_); rintro e w_ ⟨rfl,rfl⟩; refine ⟨_,rfl,?_⟩))
    go_ret;exact ⟨_,by first | rfl | (simp [errW_none,errW_some] <;> rfl) | (simp [*,errW_none,errW_some] <;> rfl),by (with_reducible repeat (first | apply Kd.R_alloc | apply Kd.R_drewN | apply Kd.R_drew)); exact HO1008.out,by repeat (first | (with_reducible first | exact HB.out | apply below_alloc | apply pw_below_drewN | apply below_drew1 | refine below_set ?_ q0.out) | exact HB.out)⟩
   rw [if_pos c10] at H;have c10b0 : decide (p6 < 10) = true:=decide_eq_true c10;clear c10;replace H:=Option.bind_eq_some_iff.mp H;obtain ⟨⟨t1009,t1010,t1013⟩,A110,H⟩:=H;replace H : ((impl_Net_from.f k1 t1009 t1010 a1).bind fun t1017 => (impl_Net_loads.l1 k1 a1 x5_1 p6 p6 t1017 (t1017.length : Int) 0 a0_0 l0_1)) = some r:=H;have A11:=zx A110;clear A110;replace H:=Option.bind_eq_some_iff.mp H;obtain ⟨t1017,A120,H⟩:=H;replace H : (impl_Net_loads.l1 k1 a1 x5_1 p6 p6 t1017 (t1017.length : Int) 0 a0_0 l0_1) = some r:=H;have A12:=zx A120;clear A120;have H':=zx H;clear H;have r2 : wr.cell? ⟨p5,0,none⟩ = some (.int .i64 a0_0):=(blk_cell p0.out 0).trans rfl;have r3 : wr.cell? ⟨p5,1,none⟩ = some (.slice A0_1 l0_1.length c0_1):=(blk_cell p0.out 1).trans rfl;have r4:=blk_frozen p0.out 0;have r5:=blk_frozen p0.out 1
   go_wp2_with (first | ((with_reducible refine gate_callee (f:=132) rfl ?_); refine goesL_ (some 21) rfl rfl Try.func132 (by kernel_rfl) rfl #[.agg #[.int .i64 a0_0,.slice A0_1 l0_1.length c0_1],.int .i64 p6] rfl (by (try simp only [List.map_toArray,List.map_cons,List.map_nil]); first | done | rfl | (simp only [List.length_drop,List.length_take]; rfl)) ?_; (with_reducible refine (impl_Net_loaded.calls k1 a0_0 _ _ l0_1 p6 t1009 t1010 t1013 _ ?side1 ?side2 A11.out).mono ?_); (case side1 => repeat (first | exact (Kd.C_below HR0_1.out HB.out) | (with_reducible refine Kd.C_alloc ?_ _) | (with_reducible refine Kd.C_drewN ?_ _) | (with_reducible refine Kd.C_drew ?_))); (case side2 => exact HC0_1.out); rintro e w14 ⟨v1011,v1014,rfl,ho0,ho1,hb⟩; refine ⟨_,rfl,?_⟩; have n0_:=zx (Kd.R_elder' HO_5.out (Kd.R_base ho1) hb); have n1_:=zx (Kd.R_lower ho0 (below_size HB.out)); have n2_:=zx (Kd.R_lower (Kd.R_new' ho1 (Kd.R_lt HO_5.out)) (below_size HB.out)); have n3_:=zx (blk_below (g:=p5) (o:=.cells #[.int .i64 a0_0,.slice A0_1 l0_1.length c0_1] 34 (0,0)) p0.out hb); have n4_:=zx (below_step HB.out hb); clear HO_5; clear p0; clear HB; have HO_5:=n0_; have HO1012:=n1_; have HO1015:=n2_; have p0:=n3_; have HB:=n4_; clear n0_ n1_ n2_ n3_ n4_; (try clear hb); (try clear hb2); (try clear hk); (try clear hi); (try clear ho0); (try clear ho1)) | ((with_reducible refine gate_dst (N:=7) rfl ?_); refine box_event ?hg (N:=7) ?hd (cs:=#[.int .i64 0,.slice none 0 0]) (t:=34) ?hr ?_; (case hd => rfl); (case hg => rfl); (case hr => first | (go_simp; done) | (go_simp; rfl)); intro p3 hg w15 hbox hb; have n0_:=zx (Kd.R_below HO_5.out hb); have n1_:=zx (Kd.R_below HO1012.out hb); have n2_:=zx (Kd.R_below HO1015.out hb); have n3_:=zx (blk_below (g:=p5) (o:=.cells #[.int .i64 a0_0,.slice A0_1 l0_1.length c0_1] 34 (0,0)) p0.out hb); have n4_:=zx (below_step HB.out hb); have n5_:=zx (hbox); have n6_:=zx ((by rw [hg]; exact (below_size HB.out) : w.heap.size ≤ p3)); have n7_:=zx ((by rw [hg]; exact (below_size HB.out) : w.heap.size ≤ p3)); have n8_:=zx ((by rw [hg]; exact Nat.ne_of_lt (blk_lt (g:=p5) (o:=.cells #[.int .i64 a0_0,.slice A0_1 l0_1.length c0_1] 34 (0,0)) p0.out) : p5 ≠ p3)); have n9_:=zx ((by rw [hg]; exact Nat.ne_of_gt (blk_lt (g:=p5) (o:=.cells #[.int .i64 a0_0,.slice A0_1 l0_1.length c0_1] 34 (0,0)) p0.out) : p3 ≠ p5)); clear HO_5; clear HO1012; clear HO1015; clear p0; clear HB; have HO_5:=n0_; have HO1012:=n1_; have HO1015:=n2_; have p0:=n3_; have HB:=n4_; have p4:=n5_; have GW1016:=n6_; have q2:=n7_; have q1:=n8_; have q4:=n9_; clear n0_ n1_ n2_ n3_ n4_ n5_ n6_ n7_ n8_ n9_; clear hb hbox hg; have hnb16:=q4.out; have hnc16:=q1.out; have r6 : w15.cell? ⟨p3,0,none⟩ = some (.int .i64 0):=(blk_cell p4.out 0).trans rfl; have r7 : w15.cell? ⟨p3,1,none⟩ = some (.slice none 0 0):=(blk_cell p4.out 1).trans rfl; have r8:=blk_frozen p4.out 0; have r9:=blk_frozen p4.out 1; obtain ⟨Ao18,co18,eo18⟩:=Kd.R_slice HO1012.out; subst eo18) | ((with_reducible refine gate_callee (f:=111) rfl ?_); refine goesL_ (some 26) rfl rfl Try.func111 (by kernel_rfl) rfl #[.agg #[.int .i64 t1009,.slice Ao18 t1010.length co18],.int .i64 a1] rfl (by (try simp only [List.map_toArray,List.map_cons,List.map_nil]); first | done | rfl | (simp only [List.length_drop,List.length_take]; rfl)) ?_; (with_reducible refine (impl_Net_from.calls k1 t1009 _ _ t1010 a1 t1017 _ ?side1 ?side2 A12.out).mono ?_); (case side1 => refine (Kd.R_reads' (e:=58) (base:=w.heap.size) (ok:=fun k_ => True) (n:=t1010.length) (c:=co18) ?_).2.2; exact (Kd.R_mono (Kd.R_far (p:=⟨p3,1,none⟩) (Kd.R_far (p:=⟨p3,0,none⟩) (Kd.R_types HO1012.out p4.out (by decide)) (fun _ hk => hk.2) (.int .i64 t1009)) (fun _ hk => hk.2) (.slice Ao18 t1010.length co18)) (fun _ h_ => h_.1))); (case side2 => exact (Kd.R_reads' HO1012.out).2.1); rintro e w19 ⟨v1018,rfl,ho0,hb⟩; refine ⟨_,rfl,?_⟩; have n0_:=zx (Kd.R_elder' (Kd.R_mono (Kd.R_far (p:=⟨p3,1,none⟩) (Kd.R_far (p:=⟨p3,0,none⟩) (Kd.R_types HO_5.out p4.out (by decide)) (fun _ hk => hk.2) (.int .i64 t1009)) (fun _ hk => hk.2) (.slice Ao18 t1010.length co18)) (fun _ h_ => h_.1)) (Kd.R_base ho0) hb); have n1_:=zx (Kd.R_below (Kd.R_mono (Kd.R_far (p:=⟨p3,1,none⟩) (Kd.R_far (p:=⟨p3,0,none⟩) (Kd.R_types HO1012.out p4.out (by decide)) (fun _ hk => hk.2) (.int .i64 t1009)) (fun _ hk => hk.2) (.slice Ao18 t1010.length co18)) (fun _ h_ => h_.1)) hb); have n2_:=zx (Kd.R_elder' (Kd.R_mono (Kd.R_far (p:=⟨p3,1,none⟩) (Kd.R_far (p:=⟨p3,0,none⟩) (Kd.R_types HO1015.out p4.out (by decide)) (fun _ hk => hk.2) (.int .i64 t1009)) (fun _ hk => hk.2) (.slice Ao18 t1010.length co18)) (fun _ h_ => h_.1)) (Kd.R_base ho0) hb); have n3_:=zx (Kd.R_lower (Kd.R_new' (Kd.R_new' ho0 (Kd.R_lt (Kd.R_mono (Kd.R_far (p:=⟨p3,1,none⟩) (Kd.R_far (p:=⟨p3,0,none⟩) (Kd.R_types HO_5.out p4.out (by decide)) (fun _ hk => hk.2) (.int .i64 t1009)) (fun _ hk => hk.2) (.slice Ao18 t1010.length co18)) (fun _ h_ => h_.1)))) (Kd.R_lt (Kd.R_mono (Kd.R_far (p:=⟨p3,1,none⟩) (Kd.R_far (p:=⟨p3,0,none⟩) (Kd.R_types HO1015.out p4.out (by decide)) (fun _ hk => hk.2) (.int .i64 t1009)) (fun _ hk => hk.2) (.slice Ao18 t1010.length co18)) (fun _ h_ => h_.1)))) (below_size (by repeat (first | (with_reducible first | exact HB.out | apply below_alloc | apply pw_below_drewN | apply below_drew1 | refine below_set ?_ q0.out | refine below_set ?_ q2.out) | exact HB.out)))); have n4_:=zx (blk_below (g:=p5) (o:=.cells #[.int .i64 a0_0,.slice A0_1 l0_1.length c0_1] 34 (0,0)) (by (with_reducible repeat (first | refine blk_drewN ?_ _ | refine blk_drew ?_ | refine blk_alloc ?_ _)); refine blk_far ?_ q1.out _; (with_reducible repeat (first | refine blk_drewN ?_ _ | refine blk_drew ?_ | refine blk_alloc ?_ _)); refine blk_far ?_ q1.out _; (with_reducible repeat (first | refine blk_drewN ?_ _ | refine blk_drew ?_ | refine blk_alloc ?_ _)); exact p0.out) hb); have n5_:=zx (blk_below (g:=p3) (o:=.cells #[.int .i64 t1009,.slice Ao18 t1010.length co18] 34 (0,0)) (by (with_reducible repeat (first | refine blk_drewN ?_ _ | refine blk_drew ?_ | refine blk_alloc ?_ _)); refine blk_put (cs:=#[.int .i64 t1009,.slice none 0 0]) ?_ 1 _ rfl; (with_reducible repeat (first | refine blk_drewN ?_ _ | refine blk_drew ?_ | refine blk_alloc ?_ _)); refine blk_put (cs:=#[.int .i64 0,.slice none 0 0]) ?_ 0 _ rfl; (with_reducible repeat (first | refine blk_drewN ?_ _ | refine blk_drew ?_ | refine blk_alloc ?_ _)); exact p4.out) hb); have n6_:=zx (below_step (by repeat (first | (with_reducible first | exact HB.out | apply below_alloc | apply pw_below_drewN | apply below_drew1 | refine below_set ?_ q0.out | refine below_set ?_ q2.out) | exact HB.out)) hb); clear HO_5; clear HO1012; clear HO1015; clear p0; clear p4; clear HB; have HO_5:=n0_; have HO1012:=n1_; have HO1015:=n2_; have HO1019:=n3_; have p0:=n4_; have p4:=n5_; have HB:=n6_; clear n0_ n1_ n2_ n3_ n4_ n5_ n6_; (try clear hb); (try clear hb2); (try clear hk); (try clear hi); (try clear ho0); obtain ⟨Ao20,co20,eo20⟩:=Kd.R_slice HO1019.out; subst eo20))
   go_loopg [28] k1 (fun kq v28 w' => ∃ (x5_2 : List Int) (p1 : Int),v28 = .int .i64 p1 ∧ Aside0 (impl_Net_loads.l1 kq a1 x5_2 p6 p6 t1017 (t1017.length : Int) p1 a0_0 l0_1 = some r) ∧ Aside0 (kq ≤ k1) ∧ Aside0 (Kd.R (Kd.int .i64) 3 w' w.heap.size (fun k_ => some k_ ≠ ((.slice Ao20 t1017.length co20) : Value).ownBlock) v1005 x5_2) ∧ Aside0 (Kd.R (Kd.int .i64) 3 w' w.heap.size (fun k_ => some k_ ≠ (v1005 : Value).ownBlock) (.slice Ao20 t1017.length co20) t1017) ∧ Aside0 (Kd.R k58 58 w' w.heap.size (fun _ => True) (.slice Ao18 t1010.length co18) t1010) ∧ Aside0 (w'.heap[p5]? = some (.cells #[.int .i64 a0_0,(.slice A0_1 l0_1.length c0_1)] 34 (0,0))) ∧ Aside0 (w'.heap[p3]? = some (.cells #[.int .i64 t1009,(.slice Ao18 t1010.length co18)] 34 (0,0))) ∧ Aside0 (Below w.heap.size w w'))
   case atStart => exact ⟨(x5_1),(0),(by first | rfl | (simp; done) | (simp [*]; done)),H',⟨Nat.le_refl _⟩,⟨by (with_reducible repeat (first | apply Kd.R_alloc | apply Kd.R_drewN | apply Kd.R_drew)); exact Kd.R_mono HO_5.out (fun _ hk => hk.2)⟩,⟨by (with_reducible repeat (first | apply Kd.R_alloc | apply Kd.R_drewN | apply Kd.R_drew)); exact Kd.R_mono HO1019.out (fun _ hk => hk.1.2)⟩,⟨by (with_reducible repeat (first | apply Kd.R_alloc | apply Kd.R_drewN | apply Kd.R_drew)); exact HO1012.out⟩,⟨by (with_reducible repeat (first | refine blk_drewN ?_ _ | refine blk_drew ?_ | refine blk_alloc ?_ _)); exact p0.out⟩,⟨by (with_reducible repeat (first | refine blk_drewN ?_ _ | refine blk_drew ?_ | refine blk_alloc ?_ _)); exact p4.out⟩,⟨by repeat (first | (with_reducible first | exact HB.out | apply below_alloc | apply pw_below_drewN | apply below_drew1 | refine below_set ?_ q0.out | refine below_set ?_ q2.out) | exact HB.out)⟩⟩
   case round =>
    clear H'
    try clear c1
    try clear p2
    try clear c10
    try clear c10b0
    try clear c11
    try clear c13
    try clear c16
    try clear r2
    try clear r3
    try clear r6
    try clear r7
    try clear q6
    try clear q7
    try clear r4
    try clear r5
    try clear r8
    try clear r9
    try clear q8
    try clear q9
    try clear p2
    obtain ⟨x5_2,p1,rfl,HA,HK2,HO_5,q3,p7,p0,p4,HB⟩:=hrel;cases gk with
    | zero => exact absurd HA.out (by simp [impl_Net_loads.l1])
    | succ k2 =>
     have H:=HA.out;clear HA;simp only [impl_Net_loads.l1] at H
     by_cases c21 : p1 < (t1017.length : Int)
     case neg =>
      rw [if_neg c21] at H;have c21b0 : decide (p1 < (t1017.length : Int)) = false:=decide_eq_false c21;clear c21;have H':=zx H;clear H
      go_wp2
      go_roundg k2
      case measure => have:=HK1.out; have:=HK2.out; omega
      case rel => exact ⟨(x5_2),(wrap64 (p6 + 1)),(by first | rfl | (simp; done) | (simp [*]; done)),H',⟨by have:=HK1.out; have:=HK2.out; omega⟩,⟨by (with_reducible repeat (first | apply Kd.R_alloc | apply Kd.R_drewN | apply Kd.R_drew)); exact Kd.R_mono HO_5.out (fun _ hk => trivial)⟩,⟨by (with_reducible repeat (first | refine blk_drewN ?_ _ | refine blk_drew ?_ | refine blk_alloc ?_ _)); exact p0.out⟩,⟨by repeat (first | (with_reducible first | exact HB.out | apply below_alloc | apply pw_below_drewN | apply below_drew1 | refine below_set ?_ q0.out | refine below_set ?_ q2.out) | exact HB.out)⟩⟩
     rw [if_pos c21] at H;have c21b0 : decide (p1 < (t1017.length : Int)) = true:=decide_eq_true c21;clear c21
     by_cases c22 : 0 ≤ p1
     case neg =>
      rw [if_neg c22] at H;exact absurd H (by simp)
     rw [if_pos c22] at H;have c22b0 : decide (0 ≤ p1) = true:=decide_eq_true c22;clear c22
     by_cases c23 : p1 < (t1017.length : Int)
     case neg =>
      rw [if_neg c23] at H;exact absurd H (by simp)
     rw [if_pos c23] at H;have c23b0 : decide (p1 < (t1017.length : Int)) = true:=decide_eq_true c23;clear c23
     by_cases c24 : (rd t1017 p1) = 99999
     case pos =>
      rw [if_pos c24] at H;have c24b0 : ((rd t1017 p1) == 99999) = true:=beq_iff_eq.mpr c24;have c24b1 : ((rd t1017 p1) != 99999) = false:=bne_eq_false_iff_eq.mpr c24;clear c24;have H':=zx H;clear H;have p1020 : 0 ≤ (p1 : Int):=of_decide_eq_true (by first | (with_reducible assumption) | assumption);have q1020 : p1 < (t1017.length : Int):=of_decide_eq_true (by first | (with_reducible assumption) | assumption);obtain ⟨r0,e1020,r1⟩:=Kd.at_int (Kd.R_reads' q3.out).2.2 p1 p1020 q1020;cases e1020;replace p1020:=eq_true p1020;replace q1020:=eq_true q1020
      go_wp2
      go_roundg k2
      case measure => have:=HK1.out; have:=HK2.out; omega
      case rel => exact ⟨(x5_2),(wrap64 (p1 + 1)),(by first | rfl | (simp; done) | (simp [*]; done)),H',⟨by have:=HK1.out; have:=HK2.out; omega⟩,⟨by (with_reducible repeat (first | apply Kd.R_alloc | apply Kd.R_drewN | apply Kd.R_drew)); exact HO_5.out⟩,⟨by (with_reducible repeat (first | apply Kd.R_alloc | apply Kd.R_drewN | apply Kd.R_drew)); exact q3.out⟩,⟨by (with_reducible repeat (first | apply Kd.R_alloc | apply Kd.R_drewN | apply Kd.R_drew)); exact p7.out⟩,⟨by (with_reducible repeat (first | refine blk_drewN ?_ _ | refine blk_drew ?_ | refine blk_alloc ?_ _)); exact p0.out⟩,⟨by (with_reducible repeat (first | refine blk_drewN ?_ _ | refine blk_drew ?_ | refine blk_alloc ?_ _)); exact p4.out⟩,⟨by repeat (first | (with_reducible first | exact HB.out | apply below_alloc | apply pw_below_drewN | apply below_drew1 | refine below_set ?_ q0.out | refine below_set ?_ q2.out) | exact HB.out)⟩⟩
     rw [if_neg c24] at H;have c24b0 : ((rd t1017 p1) == 99999) = false:=beq_eq_false_iff_ne.mpr c24;have c24b1 : ((rd t1017 p1) != 99999) = true:=bne_iff_ne.mpr c24
     by_cases c25 : p1 < (x5_2.length : Int)
     case neg =>
      rw [if_neg c25] at H;exact absurd H (by simp)
     rw [if_pos c25] at H;have c25b0 : decide (p1 < (x5_2.length : Int)) = true:=decide_eq_true c25;clear c25;obtain ⟨y1021,hy1021⟩ : ∃ y_ : List Int,y_ = (x5_2.set (p1 : Int).toNat p6):=⟨_,rfl⟩
     replace H : (impl_Net_loads.l1 k2 a1 y1021 p6 p6 t1017 (t1017.length : Int) (wrap64 (p1 + 1)) a0_0 l0_1) = some r:=by first | (rw [hy1021]; with_reducible exact H) | (have H2_:=(Option.bind_some _ _).symm.trans H; rw [hy1021]; with_reducible exact H2_) | (have H2_:=(Option.bind_some _ _).symm.trans H; with_reducible exact H2_) | with_reducible exact H | (rw [hy1021]; exact H) | exact H
     have Ny1021:=zx hy1021;clear hy1021;have H':=zx H;clear H;have p1020 : 0 ≤ (p1 : Int):=of_decide_eq_true (by first | (with_reducible assumption) | assumption);have q1020 : p1 < (t1017.length : Int):=of_decide_eq_true (by first | (with_reducible assumption) | assumption);obtain ⟨r0,e1020,r1⟩:=Kd.at_int (Kd.R_reads' q3.out).2.2 p1 p1020 q1020;cases e1020;replace p1020:=eq_true p1020;replace q1020:=eq_true q1020;have p26 : 0 ≤ (p1 : Int):=of_decide_eq_true (by first | (with_reducible assumption) | assumption);have q26 : (p1 : Int) < ((x5_2.length : Int) : Int):=of_decide_eq_true (by first | (with_reducible assumption) | assumption);obtain ⟨go26,co26,eo26,gb26,gl26,cl26,HG26⟩:=Kd.R_form HO_5.out (by omega)
     (first | cases eo26 | (injection eo26 with ea_ en_ ec_; (first | subst ea_ | (injection ea_ with ea_; subst ea_)); subst ec_; clear en_))
     have GB26:=zx gb26;have GG26:=zx HG26;clear gb26 gl26 HG26;obtain ⟨hx26_0,hf26_0⟩:=Kd.R_celln 0 HO_5.out (p1 : Int) p26 q26;replace p26:=eq_true p26;replace q26:=eq_true q26;have HP27:=Kd.R_putg HO_5.out (p1 : Int) p6
     go_wp2_with (first | ((with_reducible refine gate_store (t:=3) (p:=38) rfl ?_); refine store_event (t:=3) (p:=38) (v:=?vo_w28) (w1:=(wr.setCell ⟨go26,(p1 : Int).toNat,none⟩ (.int .i64 p6))) ?hg ?ho ?hn ?hr ?_; (case ho => rfl); (case hg => rfl); (case hn => rfl); (case hr => first | (go_simp; done) | (go_simp; rfl)); intro w28 hw; have hg : wr.grownBy w28 (some go26):=(by rw [hw]; exact HP27.2); have hp_ : Kd.R (Kd.int .i64) 3 w28 w.heap.size (fun k_ => some k_ ≠ (.slice (some r0) t1017.length co20 : Value).ownBlock) (.slice (some ⟨go26,0,none⟩) x5_2.length co26) y1021:=(by rw [hw,Ny1021.out]; exact HP27.1); clear HP27; have n0_:=zx (hp_); have n1_:=zx (Kd.R_after (v:=(.slice (some ⟨go26,0,none⟩) x5_2.length co26)) (v1:=(.slice (some ⟨go26,0,none⟩) x5_2.length co26)) (ok:=(fun _ => True)) (Kd.R_mono q3.out (fun _ hk => ⟨trivial,hk⟩)) hg (.inl rfl)); have n2_:=zx (Kd.R_over' (v:=(.slice (some ⟨go26,0,none⟩) x5_2.length co26)) p7.out (Kd.R_typed HO_5.out) (by decide) hg); have n3_:=zx (blk_grown (g:=p5) (o:=.cells #[.int .i64 a0_0,.slice A0_1 l0_1.length c0_1] 34 (0,0)) p0.out hg (Kd.R_ne HO_5.out p0.out (by decide))); have n4_:=zx (blk_grown (g:=p3) (o:=.cells #[.int .i64 t1009,.slice Ao18 t1010.length co18] 34 (0,0)) p4.out hg (Kd.R_ne HO_5.out p4.out (by decide))); have n5_:=zx ((by rw [hw]; exact below_set (HB.out) GB26.out : Below w.heap.size w w28)); clear HO_5; clear q3; clear p7; clear p0; clear p4; clear HB; have HO_5:=n0_; have q3:=n1_; have p7:=n2_; have p0:=n3_; have p4:=n4_; have HB:=n5_; clear n0_ n1_ n2_ n3_ n4_ n5_; clear hg hw hp_))
     go_roundg k2
     case measure => have:=HK1.out; have:=HK2.out; omega
     case rel => exact ⟨(y1021),(wrap64 (p1 + 1)),(by first | rfl | (simp; done) | (simp [*]; done)),H',⟨by have:=HK1.out; have:=HK2.out; omega⟩,⟨by (with_reducible repeat (first | apply Kd.R_alloc | apply Kd.R_drewN | apply Kd.R_drew)); exact HO_5.out⟩,⟨by (with_reducible repeat (first | apply Kd.R_alloc | apply Kd.R_drewN | apply Kd.R_drew)); exact Kd.R_mono q3.out (fun _ hk => hk.2)⟩,⟨by (with_reducible repeat (first | apply Kd.R_alloc | apply Kd.R_drewN | apply Kd.R_drew)); exact p7.out⟩,⟨by (with_reducible repeat (first | refine blk_drewN ?_ _ | refine blk_drew ?_ | refine blk_alloc ?_ _)); exact p0.out⟩,⟨by (with_reducible repeat (first | refine blk_drewN ?_ _ | refine blk_drew ?_ | refine blk_alloc ?_ _)); exact p4.out⟩,⟨by repeat (first | (with_reducible first | exact HB.out | apply below_alloc | apply pw_below_drewN | apply below_drew1 | refine below_set ?_ q0.out | refine below_set ?_ q2.out) | exact HB.out)⟩⟩
def impl_LoadAll.f (k : Nat) (a0_0 : Int) (l0_1 : List (S58)) (a1 : Int) : Option (List Int):=(impl_nodesIn.f a0_0 l0_1 (([a1] : List Int))).bind fun t1026 => (if t1026 = true then ((impl_Net_loads.f k a0_0 l0_1 a1).bind fun t1027 => (some t1027)) else (some ([] : List Int)))
set_option maxHeartbeats 8000000 in
set_option maxRecDepth 100000 in
theorem impl_LoadAll.calls (k : Nat) (a0_0 : Int) (A0_1 : Option Addr) (c0_1 : Nat) (l0_1 : List (S58)) (a1 : Int) (r : List Int) (w : World) (hr0_1 : Kd.C k58 w A0_1 l0_1.length l0_1) (hc0_1 : l0_1.length ≤ c0_1) (h : impl_LoadAll.f k a0_0 l0_1 a1 = some r) :
  Calls Try.prog 46 #[.agg #[.int .i64 a0_0,.slice A0_1 l0_1.length c0_1],.int .i64 a1] w fun e w' => ∃ v0_ : Value,e = .returned (v0_) ∧ Kd.R (Kd.int .i64) 3 w' w.heap.size (fun _ => True) v0_ r ∧ Below w.heap.size w w':=by
 have hu34:=Try.underlying34;have p4:=zx hr0_1;have p5:=zx hc0_1;clear hr0_1 hc0_1;have HB:=zx (Below.refl w.heap.size w);have H : ((impl_nodesIn.f a0_0 l0_1 (([a1] : List Int))).bind fun t1026 => (if t1026 = true then ((impl_Net_loads.f k a0_0 l0_1 a1).bind fun t1027 => (some t1027)) else (some ([] : List Int)))) = some r:=h;clear h;obtain ⟨y1023,hy1023⟩ : ∃ y_ : List Int,y_ = (([a1] : List Int)):=⟨_,rfl⟩
 replace H : ((impl_nodesIn.f a0_0 l0_1 y1023).bind fun t1026 => (if t1026 = true then ((impl_Net_loads.f k a0_0 l0_1 a1).bind fun t1027 => (some t1027)) else (some ([] : List Int)))) = some r:=by first | (rw [hy1023]; with_reducible exact H) | (have H2_:=(Option.bind_some _ _).symm.trans H; rw [hy1023]; with_reducible exact H2_) | (have H2_:=(Option.bind_some _ _).symm.trans H; with_reducible exact H2_) | with_reducible exact H | (rw [hy1023]; exact H) | exact H
 have p2:=zx hy1023;clear hy1023;replace H:=Option.bind_eq_some_iff.mp H;obtain ⟨t1026,A30,H⟩:=H;replace H : (if t1026 = true then ((impl_Net_loads.f k a0_0 l0_1 a1).bind fun t1027 => (some t1027)) else (some ([] : List Int))) = some r:=H;have A3:=zx A30;clear A30
 by_cases c4 : t1026 = true
 case neg =>
  replace c4:=Bool.eq_false_iff.mpr c4;subst c4;have H1 : (some ([] : List Int)) = some r:=by rw [if_neg (show ¬ (false = true) by decide)] at H; exact H
  clear H;have H:=H1;clear H1;obtain rfl:=Option.some.inj H
  go_enter Try.func46,Try.ntmps46
  go_wp2_with (first | ((with_reducible refine gate_dst (N:=2) rfl ?_); refine box_event ?hg (N:=2) ?hd (cs:=#[.int .i64 a0_0,.slice A0_1 l0_1.length c0_1]) (t:=34) ?hr ?_; (case hd => rfl); (case hg => rfl); (case hr => first | (go_simp; done) | (go_simp; rfl)); intro p1 hg w14 hbox hb; have n0_:=zx (below_step HB.out hb); have n1_:=zx (hbox); have n2_:=zx ((by rw [hg]; exact (below_size HB.out) : w.heap.size ≤ p1)); have n3_:=zx ((by rw [hg]; exact (below_size HB.out) : w.heap.size ≤ p1)); clear HB; have HB:=n0_; have p0:=n1_; have GW1022:=n2_; have p3:=n3_; clear n0_ n1_ n2_ n3_; clear hb hbox hg; have hcz15_0 : w14.cell? ⟨p1,0,none⟩ = some (.int .i64 a0_0):=(blk_cell p0.out 0).trans rfl; have hcz15_1 : w14.cell? ⟨p1,1,none⟩ = some (.slice A0_1 l0_1.length c0_1):=(blk_cell p0.out 1).trans rfl; have hfz15_0:=blk_frozen p0.out 0; have hfz15_1:=blk_frozen p0.out 1) | ((with_reducible refine gate_dst (N:=7) rfl ?_); refine Kd.R_lit (Kd.int .i64) _ 3 ?hg (N:=7) ?hd (xs:=([a1] : List Int)) (inner:=[.int .i64 a1]) (ok:=fun _ => True) (okp:=fun _ => True) ?hr ?hp (fun _ hk => hk) trivial (Below.refl _ _) (Nat.le_refl _) (by simp) ?_; (case hd => rfl); (case hg => rfl); (case hr => first | (go_simp; done) | (go_simp; rfl)); (case hp => exact (Reps.one (show Kd.M (Kd.int .i64) _ _ _ a1 [.int .i64 a1] from rfl) (Reps.none _ _))); intro v1024 w16 ho17 hb hg_ hnew_; clear hg_ hnew_; (first | rw [← p2.out] at ho17 | (simp only [Int.reduceToNat] at ho17; rw [← p2.out] at ho17)); have n0_:=zx (Kd.R_lower ho17 (below_size HB.out)); have n1_:=zx (blk_below (g:=p1) (o:=.cells #[.int .i64 a0_0,.slice A0_1 l0_1.length c0_1] 34 (0,0)) p0.out hb); have n2_:=zx (below_step HB.out hb); clear p0; clear HB; have HO1025:=n0_; have p0:=n1_; have HB:=n2_; clear n0_ n1_ n2_; clear hb ho17; obtain ⟨Ao18,co18,eo18⟩:=Kd.R_slice HO1025.out; subst eo18) | ((with_reducible refine gate_callee (f:=99) rfl ?_); refine goesL_ (some 8) rfl rfl Try.func99 (by kernel_rfl) rfl #[.agg #[.int .i64 a0_0,.slice A0_1 l0_1.length c0_1],.slice Ao18 y1023.length co18] rfl (by (try simp only [List.map_toArray,List.map_cons,List.map_nil]); first | done | rfl | (simp only [List.length_drop,List.length_take]; rfl)) ?_; (with_reducible refine (impl_nodesIn.calls a0_0 _ _ l0_1 _ _ y1023 false _ ?side1 ?side2 ?side3 ?side4 A3.out).mono ?_); (case side1 => repeat (first | exact (Kd.C_below p4.out HB.out) | (with_reducible refine Kd.C_alloc ?_ _) | (with_reducible refine Kd.C_drewN ?_ _) | (with_reducible refine Kd.C_drew ?_))); (case side2 => exact p5.out); (case side3 => repeat (first | exact (Kd.R_reads' HO1025.out).2.2 | (with_reducible refine Kd.C_alloc ?_ _) | (with_reducible refine Kd.C_drewN ?_ _) | (with_reducible refine Kd.C_drew ?_))); (case side4 => exact (Kd.R_reads' HO1025.out).2.1); rintro e w19 ⟨rfl,hb⟩; refine ⟨_,rfl,?_⟩; have n0_:=zx (Kd.R_below HO1025.out hb); have n1_:=zx (blk_below (g:=p1) (o:=.cells #[.int .i64 a0_0,.slice A0_1 l0_1.length c0_1] 34 (0,0)) p0.out hb); have n2_:=zx (below_step HB.out hb); clear HO1025; clear p0; clear HB; have HO1025:=n0_; have p0:=n1_; have HB:=n2_; clear n0_ n1_ n2_; (try clear hb); (try clear hb2); (try clear hk); (try clear hi)))
  go_ret;exact ⟨_,by first | rfl | (simp [errW_none,errW_some] <;> rfl) | (simp [*,errW_none,errW_some] <;> rfl),by first | exact Kd.R_nil _ _ _ _ _ | exact Kd.N_nil _ _ _ _ _ | exact Kd.V_nil _ _ _ _ _ | exact Kd.Q_nil _ _ _ _ _ | exact Kd.S_nil _ _ _ _ _,by repeat (first | (with_reducible first | exact HB.out | apply below_alloc | apply pw_below_drewN | apply below_drew1 | refine below_set ?_ p3.out) | exact HB.out)⟩
 subst c4;have H1 : ((impl_Net_loads.f k a0_0 l0_1 a1).bind fun t1027 => (some t1027)) = some r:=by rw [if_pos rfl] at H; exact H
 clear H;have H:=H1;clear H1;replace H:=Option.bind_eq_some_iff.mp H;obtain ⟨t1027,A50,H⟩:=H;replace H : (some t1027) = some r:=H;have A5:=zx A50;clear A50;obtain rfl:=Option.some.inj H
 go_enter Try.func46,Try.ntmps46
 go_wp2_with (first | ((with_reducible refine gate_dst (N:=2) rfl ?_); refine box_event ?hg (N:=2) ?hd (cs:=#[.int .i64 a0_0,.slice A0_1 l0_1.length c0_1]) (t:=34) ?hr ?_; (case hd => rfl); (case hg => rfl); (case hr => first | (go_simp; done) | (go_simp; rfl)); intro p1 hg w6 hbox hb; have n0_:=zx (below_step HB.out hb); have n1_:=zx (hbox); have n2_:=zx ((by rw [hg]; exact (below_size HB.out) : w.heap.size ≤ p1)); have n3_:=zx ((by rw [hg]; exact (below_size HB.out) : w.heap.size ≤ p1)); clear HB; have HB:=n0_; have p0:=n1_; have GW1022:=n2_; have p3:=n3_; clear n0_ n1_ n2_ n3_; clear hb hbox hg; have hcz7_0 : w6.cell? ⟨p1,0,none⟩ = some (.int .i64 a0_0):=(blk_cell p0.out 0).trans rfl; have hcz7_1 : w6.cell? ⟨p1,1,none⟩ = some (.slice A0_1 l0_1.length c0_1):=(blk_cell p0.out 1).trans rfl; have hfz7_0:=blk_frozen p0.out 0; have hfz7_1:=blk_frozen p0.out 1) | ((with_reducible refine gate_dst (N:=7) rfl ?_); refine Kd.R_lit (Kd.int .i64) _ 3 ?hg (N:=7) ?hd (xs:=([a1] : List Int)) (inner:=[.int .i64 a1]) (ok:=fun _ => True) (okp:=fun _ => True) ?hr ?hp (fun _ hk => hk) trivial (Below.refl _ _) (Nat.le_refl _) (by simp) ?_; (case hd => rfl); (case hg => rfl); (case hr => first | (go_simp; done) | (go_simp; rfl)); (case hp => exact (Reps.one (show Kd.M (Kd.int .i64) _ _ _ a1 [.int .i64 a1] from rfl) (Reps.none _ _))); intro v1024 w8 ho9 hb hg_ hnew_; clear hg_ hnew_; (first | rw [← p2.out] at ho9 | (simp only [Int.reduceToNat] at ho9; rw [← p2.out] at ho9)); have n0_:=zx (Kd.R_lower ho9 (below_size HB.out)); have n1_:=zx (blk_below (g:=p1) (o:=.cells #[.int .i64 a0_0,.slice A0_1 l0_1.length c0_1] 34 (0,0)) p0.out hb); have n2_:=zx (below_step HB.out hb); clear p0; clear HB; have HO1025:=n0_; have p0:=n1_; have HB:=n2_; clear n0_ n1_ n2_; clear hb ho9; obtain ⟨Ao10,co10,eo10⟩:=Kd.R_slice HO1025.out; subst eo10) | ((with_reducible refine gate_callee (f:=99) rfl ?_); refine goesL_ (some 8) rfl rfl Try.func99 (by kernel_rfl) rfl #[.agg #[.int .i64 a0_0,.slice A0_1 l0_1.length c0_1],.slice Ao10 y1023.length co10] rfl (by (try simp only [List.map_toArray,List.map_cons,List.map_nil]); first | done | rfl | (simp only [List.length_drop,List.length_take]; rfl)) ?_; (with_reducible refine (impl_nodesIn.calls a0_0 _ _ l0_1 _ _ y1023 true _ ?side1 ?side2 ?side3 ?side4 A3.out).mono ?_); (case side1 => repeat (first | exact (Kd.C_below p4.out HB.out) | (with_reducible refine Kd.C_alloc ?_ _) | (with_reducible refine Kd.C_drewN ?_ _) | (with_reducible refine Kd.C_drew ?_))); (case side2 => exact p5.out); (case side3 => repeat (first | exact (Kd.R_reads' HO1025.out).2.2 | (with_reducible refine Kd.C_alloc ?_ _) | (with_reducible refine Kd.C_drewN ?_ _) | (with_reducible refine Kd.C_drew ?_))); (case side4 => exact (Kd.R_reads' HO1025.out).2.1); rintro e w11 ⟨rfl,hb⟩; refine ⟨_,rfl,?_⟩; have n0_:=zx (Kd.R_below HO1025.out hb); have n1_:=zx (blk_below (g:=p1) (o:=.cells #[.int .i64 a0_0,.slice A0_1 l0_1.length c0_1] 34 (0,0)) p0.out hb); have n2_:=zx (below_step HB.out hb); clear HO1025; clear p0; clear HB; have HO1025:=n0_; have p0:=n1_; have HB:=n2_; clear n0_ n1_ n2_; (try clear hb); (try clear hb2); (try clear hk); (try clear hi); have hcz12_0 : w11.cell? ⟨p1,0,none⟩ = some (.int .i64 a0_0):=(blk_cell p0.out 0).trans rfl; have hcz12_1 : w11.cell? ⟨p1,1,none⟩ = some (.slice A0_1 l0_1.length c0_1):=(blk_cell p0.out 1).trans rfl; have hfz12_0:=blk_frozen p0.out 0; have hfz12_1:=blk_frozen p0.out 1) | ((with_reducible refine gate_callee (f:=100) rfl ?_); refine goesL_ (some 12) rfl rfl Try.func100 (by kernel_rfl) rfl #[.agg #[.int .i64 a0_0,.slice A0_1 l0_1.length c0_1],.int .i64 a1] rfl (by (try simp only [List.map_toArray,List.map_cons,List.map_nil]); first | done | rfl | (simp only [List.length_drop,List.length_take]; rfl)) ?_; (with_reducible refine (impl_Net_loads.calls k a0_0 _ _ l0_1 a1 t1027 _ ?side1 ?side2 A5.out).mono ?_); (case side1 => repeat (first | exact (Kd.C_below p4.out HB.out) | (with_reducible refine Kd.C_alloc ?_ _) | (with_reducible refine Kd.C_drewN ?_ _) | (with_reducible refine Kd.C_drew ?_))); (case side2 => exact p5.out); rintro e w13 ⟨v1028,rfl,ho0,hb⟩; refine ⟨_,rfl,?_⟩; have n0_:=zx (Kd.R_elder' HO1025.out (Kd.R_base ho0) hb); have n1_:=zx (Kd.R_lower (Kd.R_new' ho0 (Kd.R_lt HO1025.out)) (below_size HB.out)); have n2_:=zx (blk_below (g:=p1) (o:=.cells #[.int .i64 a0_0,.slice A0_1 l0_1.length c0_1] 34 (0,0)) p0.out hb); have n3_:=zx (below_step HB.out hb); clear HO1025; clear p0; clear HB; have HO1025:=n0_; have HO1029:=n1_; have p0:=n2_; have HB:=n3_; clear n0_ n1_ n2_ n3_; (try clear hb); (try clear hb2); (try clear hk); (try clear hi); (try clear ho0)))
 go_ret;exact ⟨_,by first | rfl | (simp [errW_none,errW_some] <;> rfl) | (simp [*,errW_none,errW_some] <;> rfl),by (with_reducible repeat (first | apply Kd.R_alloc | apply Kd.R_drewN | apply Kd.R_drew)); exact Kd.R_mono HO1029.out (fun _ hk => trivial),by repeat (first | (with_reducible first | exact HB.out | apply below_alloc | apply pw_below_drewN | apply below_drew1 | refine below_set ?_ p3.out) | exact HB.out)⟩
def impl_NetBack.f (k : Nat) (a0_0 : Int) (l0_1 : List (S58)) : Option (Int × (List (S58))):=(impl_NetOk.f a0_0 l0_1).bind fun t1032 => (if t1032 = true then ((impl_Net_back.f k a0_0 l0_1).bind fun bt1033 => (some (bt1033.1,bt1033.2))) else (some (0,([] : List (S58)))))
set_option maxHeartbeats 8000000 in
set_option maxRecDepth 100000 in
theorem impl_NetBack.calls (k : Nat) (a0_0 : Int) (A0_1 : Option Addr) (c0_1 : Nat) (l0_1 : List (S58)) (r1 : Int) (r2 : List (S58)) (w : World) (hr0_1 : Kd.C k58 w A0_1 l0_1.length l0_1) (hc0_1 : l0_1.length ≤ c0_1) (h : impl_NetBack.f k a0_0 l0_1 = some (r1,r2)) :
  Calls Try.prog 47 #[.agg #[.int .i64 a0_0,.slice A0_1 l0_1.length c0_1]] w fun e w' => ∃ v1_ : Value,e = .returned (.agg #[.int .i64 r1,v1_]) ∧ Kd.R k58 58 w' w.heap.size (fun _ => True) v1_ r2 ∧ Below w.heap.size w w':=by
 have hu34:=Try.underlying34;have p8:=zx hr0_1;have p9:=zx hc0_1;clear hr0_1 hc0_1;have HB:=zx (Below.refl w.heap.size w);have H : ((impl_NetOk.f a0_0 l0_1).bind fun t1032 => (if t1032 = true then ((impl_Net_back.f k a0_0 l0_1).bind fun bt1033 => (some (bt1033.1,bt1033.2))) else (some (0,([] : List (S58)))))) = some (r1,r2):=h;clear h;replace H:=Option.bind_eq_some_iff.mp H;obtain ⟨t1032,A20,H⟩:=H;replace H : (if t1032 = true then ((impl_Net_back.f k a0_0 l0_1).bind fun bt1033 => (some (bt1033.1,bt1033.2))) else (some (0,([] : List (S58))))) = some (r1,r2):=H;have A2:=zx A20;clear A20
 by_cases c3 : t1032 = true
 case neg =>
  replace c3:=Bool.eq_false_iff.mpr c3;subst c3;have H1 : (some (0,([] : List (S58)))) = some (r1,r2):=by rw [if_neg (show ¬ (false = true) by decide)] at H; exact H
  clear H;have H:=H1;clear H1;simp only [Option.some.injEq,Prod.mk.injEq] at H;obtain ⟨rfl,rfl⟩:=H
  go_enter Try.func47,Try.ntmps47
  go_wp2_with (first | ((with_reducible refine gate_dst (N:=1) rfl ?_); refine box_event ?hg (N:=1) ?hd (cs:=#[.int .i64 a0_0,.slice A0_1 l0_1.length c0_1]) (t:=34) ?hr ?_; (case hd => rfl); (case hg => rfl); (case hr => first | (go_simp; done) | (go_simp; rfl)); intro p1 hg w14 hbox hb; have n0_:=zx (below_step HB.out hb); have n1_:=zx (hbox); have n2_:=zx ((by rw [hg]; exact (below_size HB.out) : w.heap.size ≤ p1)); have n3_:=zx ((by rw [hg]; exact (below_size HB.out) : w.heap.size ≤ p1)); clear HB; have HB:=n0_; have p0:=n1_; have GW1030:=n2_; have p6:=n3_; clear n0_ n1_ n2_ n3_; clear hb hbox hg) | ((with_reducible refine gate_dst (N:=2) rfl ?_); refine box_event ?hg (N:=2) ?hd (cs:=#[.int .i64 0,.slice none 0 0]) (t:=34) ?hr ?_; (case hd => rfl); (case hg => rfl); (case hr => first | (go_simp; done) | (go_simp; rfl)); intro p3 hg w15 hbox hb; have n0_:=zx (blk_below (g:=p1) (o:=.cells #[.int .i64 a0_0,.slice A0_1 l0_1.length c0_1] 34 (0,0)) p0.out hb); have n1_:=zx (below_step HB.out hb); have n2_:=zx (hbox); have n3_:=zx ((by rw [hg]; exact (below_size HB.out) : w.heap.size ≤ p3)); have n4_:=zx ((by rw [hg]; exact (below_size HB.out) : w.heap.size ≤ p3)); have n5_:=zx ((by rw [hg]; exact Nat.ne_of_lt (blk_lt (g:=p1) (o:=.cells #[.int .i64 a0_0,.slice A0_1 l0_1.length c0_1] 34 (0,0)) p0.out) : p1 ≠ p3)); have n6_:=zx ((by rw [hg]; exact Nat.ne_of_gt (blk_lt (g:=p1) (o:=.cells #[.int .i64 a0_0,.slice A0_1 l0_1.length c0_1] 34 (0,0)) p0.out) : p3 ≠ p1)); clear p0; clear HB; have p0:=n0_; have HB:=n1_; have p2:=n2_; have GW1031:=n3_; have p7:=n4_; have p4:=n5_; have p5:=n6_; clear n0_ n1_ n2_ n3_ n4_ n5_ n6_; clear hb hbox hg; have hnb16:=p4.out; have hnc16:=p5.out; have hcz17_0 : w15.cell? ⟨p1,0,none⟩ = some (.int .i64 a0_0):=(blk_cell p0.out 0).trans rfl; have hcz17_1 : w15.cell? ⟨p1,1,none⟩ = some (.slice A0_1 l0_1.length c0_1):=(blk_cell p0.out 1).trans rfl; have hfz17_0:=blk_frozen p0.out 0; have hfz17_1:=blk_frozen p0.out 1) | ((with_reducible refine gate_callee (f:=51) rfl ?_); refine goesL_ (some 4) rfl rfl Try.func51 (by kernel_rfl) rfl #[.agg #[.int .i64 a0_0,.slice A0_1 l0_1.length c0_1]] rfl (by (try simp only [List.map_toArray,List.map_cons,List.map_nil]); first | done | rfl | (simp only [List.length_drop,List.length_take]; rfl)) ?_; (with_reducible refine (impl_NetOk.calls a0_0 _ _ l0_1 false _ ?side1 ?side2 A2.out).mono ?_); (case side1 => repeat (first | exact (Kd.C_below p8.out HB.out) | (with_reducible refine Kd.C_alloc ?_ _) | (with_reducible refine Kd.C_drewN ?_ _) | (with_reducible refine Kd.C_drew ?_))); (case side2 => exact p9.out); rintro e w18 ⟨rfl,hb⟩; refine ⟨_,rfl,?_⟩; have n0_:=zx (blk_below (g:=p1) (o:=.cells #[.int .i64 a0_0,.slice A0_1 l0_1.length c0_1] 34 (0,0)) p0.out hb); have n1_:=zx (blk_below (g:=p3) (o:=.cells #[.int .i64 0,.slice none 0 0] 34 (0,0)) p2.out hb); have n2_:=zx (below_step HB.out hb); clear p0; clear p2; clear HB; have p0:=n0_; have p2:=n1_; have HB:=n2_; clear n0_ n1_ n2_; (try clear hb); (try clear hb2); (try clear hk); (try clear hi); have hcz19_0 : w18.cell? ⟨p3,0,none⟩ = some (.int .i64 0):=(blk_cell p2.out 0).trans rfl; have hcz19_1 : w18.cell? ⟨p3,1,none⟩ = some (.slice none 0 0):=(blk_cell p2.out 1).trans rfl; have hfz19_0:=blk_frozen p2.out 0; have hfz19_1:=blk_frozen p2.out 1))
  refine bodyPost_ret (results_cell_row rfl _ _ p3 34 #[.int .i64 0,.slice none 0 0] (0,0) _ rfl (by (with_reducible repeat (first | refine blk_drewN ?_ _ | refine blk_drew ?_ | refine blk_alloc ?_ _)); refine blk_put (cs:=#[.int .i64 0,.slice none 0 0]) ?_ 1 _ rfl; (with_reducible repeat (first | refine blk_drewN ?_ _ | refine blk_drew ?_ | refine blk_alloc ?_ _)); refine blk_put (cs:=#[.int .i64 0,.slice none 0 0]) ?_ 0 _ rfl; (with_reducible repeat (first | refine blk_drewN ?_ _ | refine blk_drew ?_ | refine blk_alloc ?_ _)); exact p2.out) Try.underlying34 rfl (by kernel_rfl)) rfl ?_;exact ⟨_,by first | rfl | (simp [errW_none,errW_some] <;> rfl) | (simp [*,errW_none,errW_some] <;> rfl),by first | exact Kd.R_nil _ _ _ _ _ | exact Kd.N_nil _ _ _ _ _ | exact Kd.V_nil _ _ _ _ _ | exact Kd.Q_nil _ _ _ _ _ | exact Kd.S_nil _ _ _ _ _,by repeat (first | (with_reducible first | exact HB.out | apply below_alloc | apply pw_below_drewN | apply below_drew1 | refine below_set ?_ p6.out | refine below_set ?_ p7.out) | exact HB.out)⟩
 subst c3;have H1 : ((impl_Net_back.f k a0_0 l0_1).bind fun bt1033 => (some (bt1033.1,bt1033.2))) = some (r1,r2):=by rw [if_pos rfl] at H; exact H
 clear H;have H:=H1;clear H1;replace H:=Option.bind_eq_some_iff.mp H;obtain ⟨⟨t1033,t1034⟩,A40,H⟩:=H;replace H : (some (t1033,t1034)) = some (r1,r2):=H;have A4:=zx A40;clear A40;simp only [Option.some.injEq,Prod.mk.injEq] at H;obtain ⟨rfl,rfl⟩:=H
 go_enter Try.func47,Try.ntmps47
 go_wp2_with (first | ((with_reducible refine gate_dst (N:=1) rfl ?_); refine box_event ?hg (N:=1) ?hd (cs:=#[.int .i64 a0_0,.slice A0_1 l0_1.length c0_1]) (t:=34) ?hr ?_; (case hd => rfl); (case hg => rfl); (case hr => first | (go_simp; done) | (go_simp; rfl)); intro p1 hg w5 hbox hb; have n0_:=zx (below_step HB.out hb); have n1_:=zx (hbox); have n2_:=zx ((by rw [hg]; exact (below_size HB.out) : w.heap.size ≤ p1)); have n3_:=zx ((by rw [hg]; exact (below_size HB.out) : w.heap.size ≤ p1)); clear HB; have HB:=n0_; have p0:=n1_; have GW1030:=n2_; have p6:=n3_; clear n0_ n1_ n2_ n3_; clear hb hbox hg) | ((with_reducible refine gate_dst (N:=2) rfl ?_); refine box_event ?hg (N:=2) ?hd (cs:=#[.int .i64 0,.slice none 0 0]) (t:=34) ?hr ?_; (case hd => rfl); (case hg => rfl); (case hr => first | (go_simp; done) | (go_simp; rfl)); intro p3 hg w6 hbox hb; have n0_:=zx (blk_below (g:=p1) (o:=.cells #[.int .i64 a0_0,.slice A0_1 l0_1.length c0_1] 34 (0,0)) p0.out hb); have n1_:=zx (below_step HB.out hb); have n2_:=zx (hbox); have n3_:=zx ((by rw [hg]; exact (below_size HB.out) : w.heap.size ≤ p3)); have n4_:=zx ((by rw [hg]; exact (below_size HB.out) : w.heap.size ≤ p3)); have n5_:=zx ((by rw [hg]; exact Nat.ne_of_lt (blk_lt (g:=p1) (o:=.cells #[.int .i64 a0_0,.slice A0_1 l0_1.length c0_1] 34 (0,0)) p0.out) : p1 ≠ p3)); have n6_:=zx ((by rw [hg]; exact Nat.ne_of_gt (blk_lt (g:=p1) (o:=.cells #[.int .i64 a0_0,.slice A0_1 l0_1.length c0_1] 34 (0,0)) p0.out) : p3 ≠ p1)); clear p0; clear HB; have p0:=n0_; have HB:=n1_; have p2:=n2_; have GW1031:=n3_; have p7:=n4_; have p4:=n5_; have p5:=n6_; clear n0_ n1_ n2_ n3_ n4_ n5_ n6_; clear hb hbox hg; have hnb7:=p4.out; have hnc7:=p5.out; have hcz8_0 : w6.cell? ⟨p1,0,none⟩ = some (.int .i64 a0_0):=(blk_cell p0.out 0).trans rfl; have hcz8_1 : w6.cell? ⟨p1,1,none⟩ = some (.slice A0_1 l0_1.length c0_1):=(blk_cell p0.out 1).trans rfl; have hfz8_0:=blk_frozen p0.out 0; have hfz8_1:=blk_frozen p0.out 1) | ((with_reducible refine gate_callee (f:=51) rfl ?_); refine goesL_ (some 4) rfl rfl Try.func51 (by kernel_rfl) rfl #[.agg #[.int .i64 a0_0,.slice A0_1 l0_1.length c0_1]] rfl (by (try simp only [List.map_toArray,List.map_cons,List.map_nil]); first | done | rfl | (simp only [List.length_drop,List.length_take]; rfl)) ?_; (with_reducible refine (impl_NetOk.calls a0_0 _ _ l0_1 true _ ?side1 ?side2 A2.out).mono ?_); (case side1 => repeat (first | exact (Kd.C_below p8.out HB.out) | (with_reducible refine Kd.C_alloc ?_ _) | (with_reducible refine Kd.C_drewN ?_ _) | (with_reducible refine Kd.C_drew ?_))); (case side2 => exact p9.out); rintro e w9 ⟨rfl,hb⟩; refine ⟨_,rfl,?_⟩; have n0_:=zx (blk_below (g:=p1) (o:=.cells #[.int .i64 a0_0,.slice A0_1 l0_1.length c0_1] 34 (0,0)) p0.out hb); have n1_:=zx (blk_below (g:=p3) (o:=.cells #[.int .i64 0,.slice none 0 0] 34 (0,0)) p2.out hb); have n2_:=zx (below_step HB.out hb); clear p0; clear p2; clear HB; have p0:=n0_; have p2:=n1_; have HB:=n2_; clear n0_ n1_ n2_; (try clear hb); (try clear hb2); (try clear hk); (try clear hi); have hcz10_0 : w9.cell? ⟨p1,0,none⟩ = some (.int .i64 a0_0):=(blk_cell p0.out 0).trans rfl; have hcz10_1 : w9.cell? ⟨p1,1,none⟩ = some (.slice A0_1 l0_1.length c0_1):=(blk_cell p0.out 1).trans rfl; have hfz10_0:=blk_frozen p0.out 0; have hfz10_1:=blk_frozen p0.out 1) | ((with_reducible refine gate_callee (f:=101) rfl ?_); refine goesL_ (some 8) rfl rfl Try.func101 (by kernel_rfl) rfl #[.agg #[.int .i64 a0_0,.slice A0_1 l0_1.length c0_1]] rfl (by (try simp only [List.map_toArray,List.map_cons,List.map_nil]); first | done | rfl | (simp only [List.length_drop,List.length_take]; rfl)) ?_; (with_reducible refine (impl_Net_back.calls k a0_0 _ _ l0_1 t1033 t1034 _ ?side1 ?side2 A4.out).mono ?_); (case side1 => repeat (first | exact (Kd.C_below p8.out HB.out) | (with_reducible refine Kd.C_alloc ?_ _) | (with_reducible refine Kd.C_drewN ?_ _) | (with_reducible refine Kd.C_drew ?_))); (case side2 => exact p9.out); rintro e w11 ⟨v1035,rfl,ho0,hb⟩; refine ⟨_,rfl,?_⟩; have n0_:=zx (Kd.R_lower ho0 (below_size HB.out)); have n1_:=zx (blk_below (g:=p1) (o:=.cells #[.int .i64 a0_0,.slice A0_1 l0_1.length c0_1] 34 (0,0)) p0.out hb); have n2_:=zx (blk_below (g:=p3) (o:=.cells #[.int .i64 0,.slice none 0 0] 34 (0,0)) p2.out hb); have n3_:=zx (below_step HB.out hb); clear p0; clear p2; clear HB; have HO1036:=n0_; have p0:=n1_; have p2:=n2_; have HB:=n3_; clear n0_ n1_ n2_ n3_; (try clear hb); (try clear hb2); (try clear hk); (try clear hi); (try clear ho0); have hcz12_0 : w11.cell? ⟨p3,0,none⟩ = some (.int .i64 0):=(blk_cell p2.out 0).trans rfl; have hcz12_1 : w11.cell? ⟨p3,1,none⟩ = some (.slice none 0 0):=(blk_cell p2.out 1).trans rfl; have hfz12_0:=blk_frozen p2.out 0; have hfz12_1:=blk_frozen p2.out 1; obtain ⟨Ao13,co13,eo13⟩:=Kd.R_slice HO1036.out; subst eo13))
 refine bodyPost_ret (results_cell_row rfl _ _ p3 34 #[.int .i64 t1033,.slice Ao13 t1034.length co13] (0,0) _ rfl (by (with_reducible repeat (first | refine blk_drewN ?_ _ | refine blk_drew ?_ | refine blk_alloc ?_ _)); refine blk_put (cs:=#[.int .i64 t1033,.slice none 0 0]) ?_ 1 _ rfl; (with_reducible repeat (first | refine blk_drewN ?_ _ | refine blk_drew ?_ | refine blk_alloc ?_ _)); refine blk_put (cs:=#[.int .i64 0,.slice none 0 0]) ?_ 0 _ rfl; (with_reducible repeat (first | refine blk_drewN ?_ _ | refine blk_drew ?_ | refine blk_alloc ?_ _)); exact p2.out) Try.underlying34 rfl (by kernel_rfl)) rfl ?_;exact ⟨_,by first | rfl | (simp [errW_none,errW_some] <;> rfl) | (simp [*,errW_none,errW_some] <;> rfl),by (with_reducible repeat (first | apply Kd.R_alloc | apply Kd.R_drewN | apply Kd.R_drew)); exact Kd.R_mono (Kd.R_far (p:=⟨p3,1,none⟩) (Kd.R_far (p:=⟨p3,0,none⟩) (Kd.R_types HO1036.out p2.out (by decide)) (fun _ hk => hk.2) (.int .i64 t1033)) (fun _ hk => hk.2) (.slice Ao13 t1034.length co13)) (fun _ hk => trivial),by repeat (first | (with_reducible first | exact HB.out | apply below_alloc | apply pw_below_drewN | apply below_drew1 | refine below_set ?_ p6.out | refine below_set ?_ p7.out) | exact HB.out)⟩
def laws_FnFlowMost.j0 : Nat → Int → Int → Int → Bool → Int → List (S58) → Option (Bool)
 | 0,_,_,_,_,_,_ => none
 | k + 1,x4,x5,x6,x32,p4,p5 => if x32 = true then ((spec_FlowMost.f k p4 p5 x4 x5).bind fun t1046 => (some (x6 == t1046))) else ((impl_FlowOf.f k p4 p5 x4 x5).bind fun t1047 => ((impl_FlowValue.f k p4 p5 t1047 x4 x5).bind fun bt1050 => ((impl_LoadAll.f k p4 p5 x4).bind fun t1052 => (if 0 ≤ x5 then (if x5 < (t1052.length : Int) then (if bt1050.2 = true then (if bt1050.1 = x6 then ((impl_NetBack.f k p4 p5).bind fun bt1056 => ((impl_FlowMost.f k bt1056.1 bt1056.2 x5 x4).bind fun t1060 => (if t1060 = x6 then (some (decide (x6 ≥ (rd t1052 x5)))) else (some false)))) else (some false)) else (some false)) else (none)) else (none)))))
def laws_FnFlowMost.f (k : Nat) (l0 : List Int) : Option (Bool):=if (l0.length : Int) > 1048576 then (some true) else ((spec_DrawFlowMost.f k l0).bind fun bt1037 => ((impl_FlowMost.f k bt1037.1 bt1037.2.1 bt1037.2.2.1 bt1037.2.2.2).bind fun t1044 => ((spec_FlowMost.f k bt1037.1 bt1037.2.1 bt1037.2.2.1 bt1037.2.2.2).bind fun t1045 => (if t1044 = t1045 then (laws_FnFlowMost.j0 k bt1037.2.2.1 bt1037.2.2.2 t1044 (decide (t1044 < 0)) bt1037.1 bt1037.2.1) else (laws_FnFlowMost.j0 k bt1037.2.2.1 bt1037.2.2.2 t1044 true bt1037.1 bt1037.2.1)))))
def laws_FnFlowMost.T7 : Bool × List (List Nat × List Nat):=(true,[([],[]),([],[]),([],[]),([],[]),([1,2,3],[1,2,3]),([],[]),([],[]),([0,4,5,6,4],[0,4,5,6]),([7],[7]),([8],[8]),([8],[8]),([9,7,0,1,2,3,4,5,6,7,8,9],[9]),([10,11,0,1,2,3,4,5,6,7,8,9,10,11],[10])])
def laws_FnFlowMost.B7 : List Nat:=[0,0,0,0,14,0,0,127,255,511,511,1023,4095]
theorem laws_FnFlowMost.tab7 : rtab .any (opsOf Try.f9 7) = laws_FnFlowMost.T7:=by kernel_rfl
theorem laws_FnFlowMost.bits7 : waitsOk laws_FnFlowMost.T7.2 laws_FnFlowMost.B7 = true:=by kernel_rfl
set_option maxHeartbeats 8000000 in
set_option maxRecDepth 100000 in
theorem laws_FnFlowMost.calls (k : Nat) (A0 : Option Addr) (c0 : Nat) (l0 : List Int) (r : Bool) (w : World) (hr0 : Kd.C (Kd.int .u8) w A0 l0.length l0) (hc0 : l0.length ≤ c0) (h : laws_FnFlowMost.f k l0 = some r) (hrT_ : r = true:=by rfl) :
  Calls Try.prog 9 #[.slice A0 l0.length c0] w fun e w' => e = .returned (.bool r) ∧ Below w.heap.size w w':=by
 have HRT_:=zx hrT_;clear hrT_;have hu34:=Try.underlying34;have HR0:=zx hr0;have HC0:=zx hc0;clear hr0 hc0;have HB:=zx (Below.refl w.heap.size w);have H : (if (l0.length : Int) > 1048576 then (some true) else ((spec_DrawFlowMost.f k l0).bind fun bt1037 => ((impl_FlowMost.f k bt1037.1 bt1037.2.1 bt1037.2.2.1 bt1037.2.2.2).bind fun t1044 => ((spec_FlowMost.f k bt1037.1 bt1037.2.1 bt1037.2.2.1 bt1037.2.2.2).bind fun t1045 => (if t1044 = t1045 then (laws_FnFlowMost.j0 k bt1037.2.2.1 bt1037.2.2.2 t1044 (decide (t1044 < 0)) bt1037.1 bt1037.2.1) else (laws_FnFlowMost.j0 k bt1037.2.2.1 bt1037.2.2.2 t1044 true bt1037.1 bt1037.2.1)))))) = some r:=h;clear h
 by_cases c2 : (l0.length : Int) > 1048576
 case pos =>
  rw [if_pos c2] at H;have c2b0 : decide (1048576 < (l0.length : Int)) = true:=decide_eq_true c2;have c2b1 : decide (1048576 < l0.length) = true:=decide_eq_true (by omega);clear c2;obtain rfl:=Option.some.inj H
  go_enter Try.func9,Try.ntmps9
  go_wp2
  go_ret;exact ⟨by first | rfl | (simp [errW_none,errW_some] <;> rfl) | (simp [*,errW_none,errW_some] <;> rfl),by repeat (first | (with_reducible first | exact HB.out | apply below_alloc | apply pw_below_drewN | apply below_drew1) | exact HB.out)⟩
 rw [if_neg c2] at H;have c2b0 : decide (1048576 < (l0.length : Int)) = false:=decide_eq_false c2;have c2b1 : decide (1048576 < l0.length) = false:=decide_eq_false (by omega);clear c2;replace H:=Option.bind_eq_some_iff.mp H;obtain ⟨⟨t1037,t1038,t1041,t1042⟩,A30,H⟩:=H;replace H : ((impl_FlowMost.f k t1037 t1038 t1041 t1042).bind fun t1044 => ((spec_FlowMost.f k t1037 t1038 t1041 t1042).bind fun t1045 => (if t1044 = t1045 then (laws_FnFlowMost.j0 k t1041 t1042 t1044 (decide (t1044 < 0)) t1037 t1038) else (laws_FnFlowMost.j0 k t1041 t1042 t1044 true t1037 t1038)))) = some r:=H;have A3:=zx A30;clear A30;replace H:=Option.bind_eq_some_iff.mp H;obtain ⟨t1044,A40,H⟩:=H;replace H : ((spec_FlowMost.f k t1037 t1038 t1041 t1042).bind fun t1045 => (if t1044 = t1045 then (laws_FnFlowMost.j0 k t1041 t1042 t1044 (decide (t1044 < 0)) t1037 t1038) else (laws_FnFlowMost.j0 k t1041 t1042 t1044 true t1037 t1038))) = some r:=H;have A4:=zx A40;clear A40;have HC5:=zx H;clear H
 go_enter Try.func9,Try.ntmps9
 go_upto_region 5 with (first | ((with_reducible refine gate_callee (f:=44) rfl ?_); refine goesL_ (some 15) rfl rfl Try.func44 (by kernel_rfl) rfl #[.slice A0 l0.length c0] rfl (by (try simp only [List.map_toArray,List.map_cons,List.map_nil]); first | done | rfl | (simp only [List.length_drop,List.length_take]; rfl)) ?_; (with_reducible refine (spec_DrawFlowMost.calls k _ _ l0 t1037 t1038 t1041 t1042 _ ?side1 ?side2 A3.out).mono ?_); (case side1 => repeat (first | exact HR0.out | (with_reducible refine Kd.C_alloc ?_ _) | (with_reducible refine Kd.C_drewN ?_ _) | (with_reducible refine Kd.C_drew ?_))); (case side2 => exact HC0.out); rintro e w6 ⟨v1039,rfl,ho0,hb⟩; refine ⟨_,rfl,?_⟩; have n0_:=zx (Kd.R_lower ho0 (below_size HB.out)); have n1_:=zx (below_step HB.out hb); clear HB; have HO1040:=n0_; have HB:=n1_; clear n0_ n1_; (try clear hb); (try clear hb2); (try clear hk); (try clear hi); (try clear ho0)) | ((with_reducible refine gate_dst (N:=3) rfl ?_); refine box_event ?hg (N:=3) ?hd (cs:=#[.int .i64 0,.slice none 0 0]) (t:=34) ?hr ?_; (case hd => rfl); (case hg => rfl); (case hr => first | (go_simp; done) | (go_simp; rfl)); intro p3 hg w7 hbox hb; have n0_:=zx (Kd.R_below HO1040.out hb); have n1_:=zx (below_step HB.out hb); have n2_:=zx (hbox); have n3_:=zx ((by rw [hg]; exact (below_size HB.out) : w.heap.size ≤ p3)); have n4_:=zx ((by rw [hg]; exact (below_size HB.out) : w.heap.size ≤ p3)); clear HO1040; clear HB; have HO1040:=n0_; have HB:=n1_; have p1:=n2_; have GW1043:=n3_; have p6:=n4_; clear n0_ n1_ n2_ n3_ n4_; clear hb hbox hg; have hcz8_0 : w7.cell? ⟨p3,0,none⟩ = some (.int .i64 0):=(blk_cell p1.out 0).trans rfl; have hcz8_1 : w7.cell? ⟨p3,1,none⟩ = some (.slice none 0 0):=(blk_cell p1.out 1).trans rfl; have hfz8_0:=blk_frozen p1.out 0; have hfz8_1:=blk_frozen p1.out 1; obtain ⟨Ao9,co9,eo9⟩:=Kd.R_slice HO1040.out; subst eo9) | ((with_reducible refine gate_callee (f:=36) rfl ?_); refine goesL_ (some 22) rfl rfl Try.func36 (by kernel_rfl) rfl #[.agg #[.int .i64 t1037,.slice Ao9 t1038.length co9],.int .i64 t1041,.int .i64 t1042] rfl (by (try simp only [List.map_toArray,List.map_cons,List.map_nil]); first | done | rfl | (simp only [List.length_drop,List.length_take]; rfl)) ?_; (with_reducible refine (impl_FlowMost.calls k t1037 _ _ t1038 t1041 t1042 t1044 _ ?side1 ?side2 A4.out).mono ?_); (case side1 => refine (Kd.R_reads' (e:=58) (base:=w.heap.size) (ok:=fun k_ => True) (n:=t1038.length) (c:=co9) ?_).2.2; exact (Kd.R_mono (Kd.R_far (p:=⟨p3,1,none⟩) (Kd.R_far (p:=⟨p3,0,none⟩) (Kd.R_types HO1040.out p1.out (by decide)) (fun _ hk => hk.2) (.int .i64 t1037)) (fun _ hk => hk.2) (.slice Ao9 t1038.length co9)) (fun _ h_ => h_.1))); (case side2 => exact (Kd.R_reads' HO1040.out).2.1); rintro e w10 ⟨rfl,hb⟩; refine ⟨_,rfl,?_⟩; have n0_:=zx (Kd.R_below (Kd.R_mono (Kd.R_far (p:=⟨p3,1,none⟩) (Kd.R_far (p:=⟨p3,0,none⟩) (Kd.R_types HO1040.out p1.out (by decide)) (fun _ hk => hk.2) (.int .i64 t1037)) (fun _ hk => hk.2) (.slice Ao9 t1038.length co9)) (fun _ h_ => h_.1)) hb); have n1_:=zx (blk_below (g:=p3) (o:=.cells #[.int .i64 t1037,.slice Ao9 t1038.length co9] 34 (0,0)) (by (with_reducible repeat (first | refine blk_drewN ?_ _ | refine blk_drew ?_ | refine blk_alloc ?_ _)); refine blk_put (cs:=#[.int .i64 t1037,.slice none 0 0]) ?_ 1 _ rfl; (with_reducible repeat (first | refine blk_drewN ?_ _ | refine blk_drew ?_ | refine blk_alloc ?_ _)); refine blk_put (cs:=#[.int .i64 0,.slice none 0 0]) ?_ 0 _ rfl; (with_reducible repeat (first | refine blk_drewN ?_ _ | refine blk_drew ?_ | refine blk_alloc ?_ _)); exact p1.out) hb); have n2_:=zx (below_step (by repeat (first | (with_reducible first | exact HB.out | apply below_alloc | apply pw_below_drewN | apply below_drew1 | refine below_set ?_ p6.out) | exact HB.out)) hb); clear HO1040; clear p1; clear HB; have HO1040:=n0_; have p1:=n1_; have HB:=n2_; clear n0_ n1_ n2_; (try clear hb); (try clear hb2); (try clear hk); (try clear hi)))
 (try simp only [Act.put,U,V,Z])
 go_cut [32] (fun v32 wc => ∃ (kq : Nat) (p8 : Bool),v32 = .bool p8 ∧ Aside0 (laws_FnFlowMost.j0 kq t1041 t1042 t1044 p8 t1037 t1038 = some r) ∧ Aside0 (kq ≤ k) ∧ Aside0 (Kd.R k58 58 wc w.heap.size (fun _ => True) (.slice Ao9 t1038.length co9) t1038) ∧ Aside0 (wc.heap[p3]? = some (.cells #[.int .i64 t1037,(.slice Ao9 t1038.length co9)] 34 (0,0))) ∧ Aside0 (Below w.heap.size w wc))
 case first =>
  have H:=HC5.out;clear HC5;replace H:=Option.bind_eq_some_iff.mp H;obtain ⟨t1045,A110,H⟩:=H;replace H : (if t1044 = t1045 then (laws_FnFlowMost.j0 k t1041 t1042 t1044 (decide (t1044 < 0)) t1037 t1038) else (laws_FnFlowMost.j0 k t1041 t1042 t1044 true t1037 t1038)) = some r:=H;have A11:=zx A110;clear A110
  by_cases c12 : t1044 = t1045
  case neg =>
   rw [if_neg c12] at H;have c12b0 : (t1044 == t1045) = false:=beq_eq_false_iff_ne.mpr c12;have c12b1 : (t1044 != t1045) = true:=bne_iff_ne.mpr c12
   (first | rw [c12b0] | (simp only [i64_w,i32_w]; rw [c12b0]) | skip)
   have H':=zx H;clear H;have q4 : w10.cell? ⟨p3,0,none⟩ = some (.int .i64 t1037):=(blk_cell p1.out 0).trans rfl;have q5 : w10.cell? ⟨p3,1,none⟩ = some (.slice Ao9 t1038.length co9):=(blk_cell p1.out 1).trans rfl;have q6:=blk_frozen p1.out 0;have q7:=blk_frozen p1.out 1
   go_wp2_with (first | ((with_reducible refine gate_callee (f:=45) rfl ?_); refine goesL_ (some 27) rfl rfl Try.func45 (by kernel_rfl) rfl #[.agg #[.int .i64 t1037,.slice Ao9 t1038.length co9],.int .i64 t1041,.int .i64 t1042] rfl (by (try simp only [List.map_toArray,List.map_cons,List.map_nil]); first | done | rfl | (simp only [List.length_drop,List.length_take]; rfl)) ?_; (with_reducible refine (spec_FlowMost.calls k t1037 _ _ t1038 t1041 t1042 t1045 _ ?side1 ?side2 A11.out).mono ?_); (case side1 => repeat (first | exact (Kd.R_reads' HO1040.out).2.2 | (with_reducible refine Kd.C_alloc ?_ _) | (with_reducible refine Kd.C_drewN ?_ _) | (with_reducible refine Kd.C_drew ?_))); (case side2 => exact (Kd.R_reads' HO1040.out).2.1); rintro e w16 ⟨rfl,hb⟩; refine ⟨_,rfl,?_⟩; have n0_:=zx (Kd.R_below HO1040.out hb); have n1_:=zx (blk_below (g:=p3) (o:=.cells #[.int .i64 t1037,.slice Ao9 t1038.length co9] 34 (0,0)) p1.out hb); have n2_:=zx (below_step HB.out hb); clear HO1040; clear p1; clear HB; have HO1040:=n0_; have p1:=n1_; have HB:=n2_; clear n0_ n1_ n2_; (try clear hb); (try clear hb2); (try clear hk); (try clear hi)))
   go_meet
   case rel => exact ⟨_,(true),(by first | rfl | (simp; done) | (simp [*]; done)),H',⟨by first | omega | exact Nat.le_refl _⟩,⟨by (with_reducible repeat (first | apply Kd.R_alloc | apply Kd.R_drewN | apply Kd.R_drew)); exact HO1040.out⟩,⟨by (with_reducible repeat (first | refine blk_drewN ?_ _ | refine blk_drew ?_ | refine blk_alloc ?_ _)); exact p1.out⟩,⟨by repeat (first | (with_reducible first | exact HB.out | apply below_alloc | apply pw_below_drewN | apply below_drew1 | refine below_set ?_ p6.out) | exact HB.out)⟩⟩
  rw [if_pos c12] at H;have c12b0 : (t1044 == t1045) = true:=beq_iff_eq.mpr c12;have c12b1 : (t1044 != t1045) = false:=bne_eq_false_iff_eq.mpr c12;clear c12
  (first | rw [c12b0] | (simp only [i64_w,i32_w]; rw [c12b0]) | skip)
  have H':=zx H;clear H;have q0 : w10.cell? ⟨p3,0,none⟩ = some (.int .i64 t1037):=(blk_cell p1.out 0).trans rfl;have q1 : w10.cell? ⟨p3,1,none⟩ = some (.slice Ao9 t1038.length co9):=(blk_cell p1.out 1).trans rfl;have q2:=blk_frozen p1.out 0;have q3:=blk_frozen p1.out 1
  go_wp2_with (first | ((with_reducible refine gate_callee (f:=45) rfl ?_); refine goesL_ (some 27) rfl rfl Try.func45 (by kernel_rfl) rfl #[.agg #[.int .i64 t1037,.slice Ao9 t1038.length co9],.int .i64 t1041,.int .i64 t1042] rfl (by (try simp only [List.map_toArray,List.map_cons,List.map_nil]); first | done | rfl | (simp only [List.length_drop,List.length_take]; rfl)) ?_; (with_reducible refine (spec_FlowMost.calls k t1037 _ _ t1038 t1041 t1042 t1045 _ ?side1 ?side2 A11.out).mono ?_); (case side1 => repeat (first | exact (Kd.R_reads' HO1040.out).2.2 | (with_reducible refine Kd.C_alloc ?_ _) | (with_reducible refine Kd.C_drewN ?_ _) | (with_reducible refine Kd.C_drew ?_))); (case side2 => exact (Kd.R_reads' HO1040.out).2.1); rintro e w14 ⟨rfl,hb⟩; refine ⟨_,rfl,?_⟩; have n0_:=zx (Kd.R_below HO1040.out hb); have n1_:=zx (blk_below (g:=p3) (o:=.cells #[.int .i64 t1037,.slice Ao9 t1038.length co9] 34 (0,0)) p1.out hb); have n2_:=zx (below_step HB.out hb); clear HO1040; clear p1; clear HB; have HO1040:=n0_; have p1:=n1_; have HB:=n2_; clear n0_ n1_ n2_; (try clear hb); (try clear hb2); (try clear hk); (try clear hi)))
  go_meet
  case rel => exact ⟨_,(decide (t1044 < 0)),(by first | rfl | (simp; done) | (simp [*]; done)),H',⟨by first | omega | exact Nat.le_refl _⟩,⟨by (with_reducible repeat (first | apply Kd.R_alloc | apply Kd.R_drewN | apply Kd.R_drew)); exact HO1040.out⟩,⟨by (with_reducible repeat (first | refine blk_drewN ?_ _ | refine blk_drew ?_ | refine blk_alloc ?_ _)); exact p1.out⟩,⟨by repeat (first | (with_reducible first | exact HB.out | apply below_alloc | apply pw_below_drewN | apply below_drew1 | refine below_set ?_ p6.out) | exact HB.out)⟩⟩
 case rest =>
  clear HC5
  try clear c1
  try clear c2
  try clear c2b0
  try clear c2b1
  try clear p2
  try clear c3
  try clear c4
  try clear c9
  try clear c12
  try clear c12b0
  try clear c12b1
  try clear q0
  try clear q1
  try clear q4
  try clear q5
  try clear hcz8_0
  try clear hcz8_1
  try clear q2
  try clear q3
  try clear q6
  try clear q7
  try clear hfz8_0
  try clear hfz8_1
  obtain ⟨kq,p8,rfl,HA,HJ4,p0,p1,HB⟩:=hcut;cases kq with
  | zero => exact absurd HA.out (by simp [laws_FnFlowMost.j0])
  | succ kj4 =>
   have H:=HA.out;clear HA;simp only [laws_FnFlowMost.j0] at H
   by_cases c17 : p8 = true
   case pos =>
    subst c17;have H1 : ((spec_FlowMost.f kj4 t1037 t1038 t1041 t1042).bind fun t1046 => (some (t1044 == t1046))) = some r:=by rw [if_pos rfl] at H; exact H
    clear H;have H:=H1;clear H1;replace H:=Option.bind_eq_some_iff.mp H;obtain ⟨t1046,A180,H⟩:=H;replace H : (some (t1044 == t1046)) = some r:=H;have A18:=zx A180;clear A180;obtain rfl:=Option.some.inj H;have hcz19_0 : wc.cell? ⟨p3,0,none⟩ = some (.int .i64 t1037):=(blk_cell p1.out 0).trans rfl;have hcz19_1 : wc.cell? ⟨p3,1,none⟩ = some (.slice Ao9 t1038.length co9):=(blk_cell p1.out 1).trans rfl;have hfz19_0:=blk_frozen p1.out 0;have hfz19_1:=blk_frozen p1.out 1
    go_wp2_with (first | ((with_reducible refine gate_callee (f:=45) rfl ?_); refine goesL_ (some 37) rfl rfl Try.func45 (by kernel_rfl) rfl #[.agg #[.int .i64 t1037,.slice Ao9 t1038.length co9],.int .i64 t1041,.int .i64 t1042] rfl (by (try simp only [List.map_toArray,List.map_cons,List.map_nil]); first | done | rfl | (simp only [List.length_drop,List.length_take]; rfl)) ?_; (with_reducible refine (spec_FlowMost.calls kj4 t1037 _ _ t1038 t1041 t1042 t1046 _ ?side1 ?side2 A18.out).mono ?_); (case side1 => repeat (first | exact (Kd.R_reads' p0.out).2.2 | (with_reducible refine Kd.C_alloc ?_ _) | (with_reducible refine Kd.C_drewN ?_ _) | (with_reducible refine Kd.C_drew ?_))); (case side2 => exact (Kd.R_reads' p0.out).2.1); rintro e w20 ⟨rfl,hb⟩; refine ⟨_,rfl,?_⟩; have n0_:=zx (Kd.R_below p0.out hb); have n1_:=zx (blk_below (g:=p3) (o:=.cells #[.int .i64 t1037,.slice Ao9 t1038.length co9] 34 (0,0)) p1.out hb); have n2_:=zx (below_step HB.out hb); clear p0; clear p1; clear HB; have p0:=n0_; have p1:=n1_; have HB:=n2_; clear n0_ n1_ n2_; (try clear hb); (try clear hb2); (try clear hk); (try clear hi)))
    go_ret;exact ⟨by first | rfl | (simp [errW_none,errW_some] <;> rfl) | (simp [*,errW_none,errW_some] <;> rfl),by repeat (first | (with_reducible first | exact HB.out | apply below_alloc | apply pw_below_drewN | apply below_drew1 | refine below_set ?_ p6.out) | exact HB.out)⟩
   replace c17:=Bool.eq_false_iff.mpr c17;subst c17;have H1 : ((impl_FlowOf.f kj4 t1037 t1038 t1041 t1042).bind fun t1047 => ((impl_FlowValue.f kj4 t1037 t1038 t1047 t1041 t1042).bind fun bt1050 => ((impl_LoadAll.f kj4 t1037 t1038 t1041).bind fun t1052 => (if 0 ≤ t1042 then (if t1042 < (t1052.length : Int) then (if bt1050.2 = true then (if bt1050.1 = t1044 then ((impl_NetBack.f kj4 t1037 t1038).bind fun bt1056 => ((impl_FlowMost.f kj4 bt1056.1 bt1056.2 t1042 t1041).bind fun t1060 => (if t1060 = t1044 then (some (decide (t1044 ≥ (rd t1052 t1042)))) else (some false)))) else (some false)) else (some false)) else (none)) else (none))))) = some r:=by rw [if_neg (show ¬ (false = true) by decide)] at H; exact H
   clear H;have H:=H1;clear H1;replace H:=Option.bind_eq_some_iff.mp H;obtain ⟨t1047,A210,H⟩:=H;replace H : ((impl_FlowValue.f kj4 t1037 t1038 t1047 t1041 t1042).bind fun bt1050 => ((impl_LoadAll.f kj4 t1037 t1038 t1041).bind fun t1052 => (if 0 ≤ t1042 then (if t1042 < (t1052.length : Int) then (if bt1050.2 = true then (if bt1050.1 = t1044 then ((impl_NetBack.f kj4 t1037 t1038).bind fun bt1056 => ((impl_FlowMost.f kj4 bt1056.1 bt1056.2 t1042 t1041).bind fun t1060 => (if t1060 = t1044 then (some (decide (t1044 ≥ (rd t1052 t1042)))) else (some false)))) else (some false)) else (some false)) else (none)) else (none)))) = some r:=H;have A21:=zx A210;clear A210;replace H:=Option.bind_eq_some_iff.mp H;obtain ⟨⟨t1050,t1051⟩,A220,H⟩:=H;replace H : ((impl_LoadAll.f kj4 t1037 t1038 t1041).bind fun t1052 => (if 0 ≤ t1042 then (if t1042 < (t1052.length : Int) then (if t1051 = true then (if t1050 = t1044 then ((impl_NetBack.f kj4 t1037 t1038).bind fun bt1056 => ((impl_FlowMost.f kj4 bt1056.1 bt1056.2 t1042 t1041).bind fun t1060 => (if t1060 = t1044 then (some (decide (t1044 ≥ (rd t1052 t1042)))) else (some false)))) else (some false)) else (some false)) else (none)) else (none))) = some r:=H;have A22:=zx A220;clear A220;replace H:=Option.bind_eq_some_iff.mp H;obtain ⟨t1052,A230,H⟩:=H;replace H : (if 0 ≤ t1042 then (if t1042 < (t1052.length : Int) then (if t1051 = true then (if t1050 = t1044 then ((impl_NetBack.f kj4 t1037 t1038).bind fun bt1056 => ((impl_FlowMost.f kj4 bt1056.1 bt1056.2 t1042 t1041).bind fun t1060 => (if t1060 = t1044 then (some (decide (t1044 ≥ (rd t1052 t1042)))) else (some false)))) else (some false)) else (some false)) else (none)) else (none)) = some r:=H;have A23:=zx A230;clear A230
   by_cases c24 : 0 ≤ t1042
   case neg =>
    rw [if_neg c24] at H;exact absurd H (by simp)
   rw [if_pos c24] at H;have c24b0 : decide (0 ≤ t1042) = true:=decide_eq_true c24;clear c24
   by_cases c25 : t1042 < (t1052.length : Int)
   case neg =>
    rw [if_neg c25] at H;exact absurd H (by simp)
   rw [if_pos c25] at H;have c25b0 : decide (t1042 < (t1052.length : Int)) = true:=decide_eq_true c25;clear c25
   by_cases c26 : t1051 = true
   case neg =>
    replace c26:=Bool.eq_false_iff.mpr c26;subst c26;have H1 : (some false) = some r:=by rw [if_neg (show ¬ (false = true) by decide)] at H; exact H
    exact absurd ((Option.some.inj H1).trans HRT_.out) (by decide)
   subst c26;have H1 : (if t1050 = t1044 then ((impl_NetBack.f kj4 t1037 t1038).bind fun bt1056 => ((impl_FlowMost.f kj4 bt1056.1 bt1056.2 t1042 t1041).bind fun t1060 => (if t1060 = t1044 then (some (decide (t1044 ≥ (rd t1052 t1042)))) else (some false)))) else (some false)) = some r:=by rw [if_pos rfl] at H; exact H
   clear H;have H:=H1;clear H1
   by_cases c27 : t1050 = t1044
   case neg =>
    rw [if_neg c27] at H;have c27b0 : (t1050 == t1044) = false:=beq_eq_false_iff_ne.mpr c27;have c27b1 : (t1050 != t1044) = true:=bne_iff_ne.mpr c27;obtain rfl:=Option.some.inj H
    try go_wp2
    have n0_:=zx (Kd.R_drew p0.out);have n1_:=zx (blk_drew p1.out);have n2_:=zx (below_drew1 HB.out);clear p0;clear p1;clear HB;have p0:=n0_;have p1:=n1_;have HB:=n2_;clear n0_ n1_ n2_;refine start_ (n:=13) (S:=fun w' => w'.cell? ⟨p3,0,none⟩ = some (.int .i64 t1037) ∧ w'.cell? ⟨p3,1,none⟩ = some (.slice Ao9 t1038.length co9)) (ds:=[]) #[J,J,J,J,J,J,J,J,J,J,J,J,J] (by kernel_rfl) rfl rfl ⟨(blk_cell p1.out 0).trans rfl,(blk_cell p1.out 1).trans rfl⟩ (fun hHeld => ?_); refine with_tabW laws_FnFlowMost.tab7 laws_FnFlowMost.bits7 (fun HT_ HW_ => ?_);generalize wc.drew = w53 at p0 p1 HB hHeld ⊢;refine pure_ (i:=2) (N:=some 42) (v:=?_) (a':=?_) #[J,J,Y,J,J,J,J,J,J,J,J,J,J] rfl rfl (any_of HT_.out (by kernel_rfl)) (fun _ _ _ h => h) (Or.inl ⟨by rfl,?_⟩) ?_ ?_;rotate_left
    ·intro w';go_simp;with_reducible rfl
    rotate_left
    ·simp only [Act.put,U,V,Z,i64_w,i32_w];rfl
    refine pure_ (i:=3) (N:=some 43) (v:=?_) (a':=?_) #[J,J,Y,Y,J,J,J,J,J,J,J,J,J] rfl rfl (any_of HT_.out (by kernel_rfl)) (fun _ _ _ h => h) (Or.inl ⟨by rfl,?_⟩) ?_ ?_;rotate_left
    ·intro w';go_simp;with_reducible rfl
    rotate_left
    ·simp only [Act.put,U,V,Z,i64_w,i32_w];rfl
    refine pure_ (i:=5) (N:=some 45) (v:=?_) (a':=?_) #[J,J,Y,Y,J,Y,J,J,J,J,J,J,J] rfl rfl (any_of HT_.out (by kernel_rfl)) (fun _ _ _ h => h) (Or.inl ⟨by rfl,?_⟩) ?_ ?_;rotate_left
    ·intro w';go_simp;with_reducible rfl
    rotate_left
    ·simp only [Act.put,U,V,Z,i64_w,i32_w];rfl
    refine pure_ (i:=6) (N:=some 46) (v:=?_) (a':=?_) #[J,J,Y,Y,J,Y,Y,J,J,J,J,J,J] rfl rfl (any_of HT_.out (by kernel_rfl)) (fun _ _ _ h => h) (Or.inl ⟨by rfl,?_⟩) ?_ ?_;rotate_left
    ·intro w';go_simp;with_reducible rfl
    rotate_left
    ·simp only [Act.put,U,V,Z,i64_w,i32_w];rfl
    refine take_ (i:=0) (N:=some 40) (v:=?_) (a':=?_) #[Y,J,Y,Y,J,Y,Y,J,J,J,J,J,J] rfl rfl (take_ofW HT_.out HW_.out (by kernel_rfl)) (fun _ _ _ h => h) (Or.inl ⟨by rfl,?_⟩) hHeld ?_ ?_;rotate_left
    ·rintro w' ⟨s0,s1⟩;go_simp;with_reducible rfl
    rotate_left
    ·simp only [Act.put,U,V,Z,i64_w,i32_w];rfl
    refine take_ (i:=1) (N:=some 41) (v:=?_) (a':=?_) #[Y,Y,Y,Y,J,Y,Y,J,J,J,J,J,J] rfl rfl (take_ofW HT_.out HW_.out (by kernel_rfl)) (fun _ _ _ h => h) (Or.inl ⟨by rfl,?_⟩) hHeld ?_ ?_;rotate_left
    ·rintro w' ⟨s0,s1⟩;go_simp;with_reducible rfl
    rotate_left
    ·simp only [Act.put,U,V,Z,i64_w,i32_w];rfl
    refine one_ (i:=4) (N:=some 44) #[Y,Y,Y,Y,Y,Y,Y,J,J,J,J,J,J] rfl rfl (one_of HT_.out (by kernel_rfl)) (by decide) (fun K hK => ?_);refine goes_ Try.func38 (by kernel_rfl) rfl #[.agg #[.int .i64 t1037,.slice Ao9 t1038.length co9],.int .i64 t1041,.int .i64 t1042] (by rfl) rfl rfl (by (try simp only [List.map_toArray,List.map_cons,List.map_nil]); first | done | rfl | (simp only [List.length_drop,List.length_take]; rfl)) ?_;with_reducible refine (impl_FlowOf.calls kj4 t1037 _ _ t1038 t1041 t1042 t1047 _ ?side1 ?side2 A21.out).mono ?_
    (case side1 => repeat (first | exact (Kd.R_reads' p0.out).2.2 | (with_reducible refine Kd.C_alloc ?_ _) | (with_reducible refine Kd.C_drewN ?_ _) | (with_reducible refine Kd.C_drew ?_)))
    (case side2 => exact (Kd.R_reads' p0.out).2.1)
    rintro e w54 ⟨v1048,rfl,ho0,hb⟩;refine ⟨_,rfl,?_⟩;have n0_:=zx (Kd.R_below p0.out hb);have n1_:=zx (Kd.R_lower ho0 (below_size HB.out));have n2_:=zx (blk_below (g:=p3) (o:=.cells #[.int .i64 t1037,.slice Ao9 t1038.length co9] 34 (0,0)) p1.out hb);have n3_:=zx (below_step HB.out hb);clear p0;clear p1;clear HB;have p0:=n0_;have HO1049:=n1_;have p1:=n2_;have HB:=n3_;clear n0_ n1_ n2_ n3_
    (try clear hb)
    (try clear hb2)
    (try clear hk)
    (try clear hi)
    (try clear ho0)
    obtain ⟨Ao55,co55,eo55⟩:=Kd.R_slice HO1049.out
    (first | subst eo55 | (injection eo55 with f1_ f2_ f3_; have f4_:=f1_.symm; have f5_:=f3_.symm; clear f1_ f2_ f3_; subst f4_; subst f5_))
    refine hK.out _ _ ⟨(blk_cell p1.out 0).trans rfl,(blk_cell p1.out 1).trans rfl⟩ (fun hHeld => ?_);clear hK K;refine norm_ (a':=?_) ?_ ?_;rotate_left
    ·show Act.put _ (some 44) _ = _
     simp only [Act.put,U,V,Z,i64_w,i32_w];rfl
    refine one_ (i:=7) (N:=some 47) #[Y,Y,Y,Y,Y,Y,Y,Y,J,J,J,J,J] rfl rfl (one_of HT_.out (by kernel_rfl)) (by decide) (fun K hK => ?_);refine goes_ Try.func34 (by kernel_rfl) rfl #[.agg #[.int .i64 t1037,.slice Ao9 t1038.length co9],.slice Ao55 t1047.length co55,.int .i64 t1041,.int .i64 t1042] (by rfl) rfl rfl (by (try simp only [List.map_toArray,List.map_cons,List.map_nil]); first | done | rfl | (simp only [List.length_drop,List.length_take]; rfl)) ?_;with_reducible refine (impl_FlowValue.calls kj4 t1037 _ _ t1038 _ _ t1047 t1041 t1042 t1050 true _ ?side1 ?side2 ?side3 ?side4 A22.out).mono ?_
    (case side1 => repeat (first | exact (Kd.R_reads' p0.out).2.2 | (with_reducible refine Kd.C_alloc ?_ _) | (with_reducible refine Kd.C_drewN ?_ _) | (with_reducible refine Kd.C_drew ?_)))
    (case side2 => exact (Kd.R_reads' p0.out).2.1)
    (case side3 => repeat (first | exact (Kd.R_reads' HO1049.out).2.2 | (with_reducible refine Kd.C_alloc ?_ _) | (with_reducible refine Kd.C_drewN ?_ _) | (with_reducible refine Kd.C_drew ?_)))
    (case side4 => exact (Kd.R_reads' HO1049.out).2.1)
    rintro e w56 ⟨rfl,hb⟩;refine ⟨_,rfl,?_⟩;have n0_:=zx (Kd.R_below p0.out hb);have n1_:=zx (Kd.R_below HO1049.out hb);have n2_:=zx (blk_below (g:=p3) (o:=.cells #[.int .i64 t1037,.slice Ao9 t1038.length co9] 34 (0,0)) p1.out hb);have n3_:=zx (below_step HB.out hb);clear p0;clear HO1049;clear p1;clear HB;have p0:=n0_;have HO1049:=n1_;have p1:=n2_;have HB:=n3_;clear n0_ n1_ n2_ n3_
    (try clear hb)
    (try clear hb2)
    (try clear hk)
    (try clear hi)
    refine hK.out _ _ ⟨(blk_cell p1.out 0).trans rfl,(blk_cell p1.out 1).trans rfl⟩ (fun hHeld => ?_);clear hK K;refine norm_ (a':=?_) ?_ ?_;rotate_left
    ·show Act.put _ (some 47) _ = _
     simp only [Act.put,U,V,Z,i64_w,i32_w];rfl
    refine pure_ (i:=8) (N:=some 39) (v:=?_) (a':=?_) #[Y,Y,Y,Y,Y,Y,Y,Y,Y,J,J,J,J] rfl rfl (any_of HT_.out (by kernel_rfl)) (fun _ _ _ h => h) (Or.inl ⟨by rfl,?_⟩) ?_ ?_;rotate_left
    ·intro w';go_simp;with_reducible rfl
    rotate_left
    ·simp only [Act.put,U,V,Z,i64_w,i32_w];rfl
    refine pure_ (i:=9) (N:=some 48) (v:=?_) (a':=?_) #[Y,Y,Y,Y,Y,Y,Y,Y,Y,Y,J,J,J] rfl rfl (any_of HT_.out (by kernel_rfl)) (fun _ _ _ h => h) (Or.inl ⟨by rfl,?_⟩) ?_ ?_;rotate_left
    ·intro w';go_simp;with_reducible rfl
    rotate_left
    ·simp only [Act.put,U,V,Z,i64_w,i32_w];rfl
    refine pure_ (i:=10) (N:=some 49) (v:=?_) (a':=?_) #[Y,Y,Y,Y,Y,Y,Y,Y,Y,Y,Y,J,J] rfl rfl (any_of HT_.out (by kernel_rfl)) (fun _ _ _ h => h) (Or.inl ⟨by rfl,?_⟩) ?_ ?_;rotate_left
    ·intro w';go_simp;with_reducible rfl
    rotate_left
    ·simp only [Act.put,U,V,Z,i64_w,i32_w];rfl
    refine pure_ (i:=11) (N:=some 7) (v:=?_) (a':=?_) #[Y,Y,Y,Y,Y,Y,Y,Y,Y,Y,Y,Y,J] rfl rfl (any_of HT_.out (by kernel_rfl)) (fun _ _ _ h => h) (Or.inl ⟨by rfl,?_⟩) ?_ ?_;rotate_left
    ·intro w';go_simp;with_reducible rfl
    rotate_left
    ·simp only [Act.put,U,V,Z,i64_w,i32_w];rfl
    refine pure_ (i:=12) (N:=some 8) (v:=?_) (a':=?_) #[Y,Y,Y,Y,Y,Y,Y,Y,Y,Y,Y,Y,Y] rfl rfl (any_of HT_.out (by kernel_rfl)) (fun _ _ _ h => h) (Or.inl ⟨by rfl,?_⟩) ?_ ?_;rotate_left
    ·intro w';go_simp;with_reducible rfl
    rotate_left
    ·simp only [Act.put,U,V,Z,i64_w,i32_w];rfl
    refine done_ (done_of HT_.out (by kernel_rfl)) ?_;have hcz57_0 : w56.cell? ⟨p3,0,none⟩ = some (.int .i64 t1037):=(blk_cell p1.out 0).trans rfl;have hcz57_1 : w56.cell? ⟨p3,1,none⟩ = some (.slice Ao9 t1038.length co9):=(blk_cell p1.out 1).trans rfl;have hfz57_0:=blk_frozen p1.out 0;have hfz57_1:=blk_frozen p1.out 1
    try go_wp2_with (first | ((with_reducible refine gate_callee (f:=46) rfl ?_); refine goesL_ (some 52) rfl rfl Try.func46 (by kernel_rfl) rfl #[.agg #[.int .i64 t1037,.slice Ao9 t1038.length co9],.int .i64 t1041] rfl (by (try simp only [List.map_toArray,List.map_cons,List.map_nil]); first | done | rfl | (simp only [List.length_drop,List.length_take]; rfl)) ?_; (with_reducible refine (impl_LoadAll.calls kj4 t1037 _ _ t1038 t1041 t1052 _ ?side1 ?side2 A23.out).mono ?_); (case side1 => repeat (first | exact (Kd.R_reads' p0.out).2.2 | (with_reducible refine Kd.C_alloc ?_ _) | (with_reducible refine Kd.C_drewN ?_ _) | (with_reducible refine Kd.C_drew ?_))); (case side2 => exact (Kd.R_reads' p0.out).2.1); rintro e w58 ⟨v1053,rfl,ho0,hb⟩; refine ⟨_,rfl,?_⟩; have n0_:=zx (Kd.R_below p0.out hb); have n1_:=zx (Kd.R_elder' HO1049.out (Kd.R_base ho0) hb); have n2_:=zx (Kd.R_lower (Kd.R_new' ho0 (Kd.R_lt HO1049.out)) (below_size HB.out)); have n3_:=zx (blk_below (g:=p3) (o:=.cells #[.int .i64 t1037,.slice Ao9 t1038.length co9] 34 (0,0)) p1.out hb); have n4_:=zx (below_step HB.out hb); clear p0; clear HO1049; clear p1; clear HB; have p0:=n0_; have HO1049:=n1_; have HO1054:=n2_; have p1:=n3_; have HB:=n4_; clear n0_ n1_ n2_ n3_ n4_; (try clear hb); (try clear hb2); (try clear hk); (try clear hi); (try clear ho0); obtain ⟨Ao59,co59,eo59⟩:=Kd.R_slice HO1054.out; subst eo59; have p1055 : 0 ≤ (t1042 : Int):=of_decide_eq_true (by first | (with_reducible assumption) | assumption); have q1055 : t1042 < (t1052.length : Int):=of_decide_eq_true (by first | (with_reducible assumption) | assumption); obtain ⟨p9,e1055,p7⟩:=Kd.at_int (Kd.R_reads' HO1054.out).2.2 t1042 p1055 q1055; cases e1055; replace p1055:=eq_true p1055; replace q1055:=eq_true q1055))
    go_ret;exact ⟨by first | rfl | (simp [errW_none,errW_some] <;> rfl) | (simp [*,errW_none,errW_some] <;> rfl),by repeat (first | (with_reducible first | exact HB.out | apply below_alloc | apply pw_below_drewN | apply below_drew1 | refine below_set ?_ p6.out) | exact HB.out)⟩
   rw [if_pos c27] at H;have c27b0 : (t1050 == t1044) = true:=beq_iff_eq.mpr c27;have c27b1 : (t1050 != t1044) = false:=bne_eq_false_iff_eq.mpr c27;clear c27;replace H:=Option.bind_eq_some_iff.mp H;obtain ⟨⟨t1056,t1057⟩,A280,H⟩:=H;replace H : ((impl_FlowMost.f kj4 t1056 t1057 t1042 t1041).bind fun t1060 => (if t1060 = t1044 then (some (decide (t1044 ≥ (rd t1052 t1042)))) else (some false))) = some r:=H;have A28:=zx A280;clear A280;replace H:=Option.bind_eq_some_iff.mp H;obtain ⟨t1060,A290,H⟩:=H;replace H : (if t1060 = t1044 then (some (decide (t1044 ≥ (rd t1052 t1042)))) else (some false)) = some r:=H;have A29:=zx A290;clear A290;have HH_:=zx H;clear H
   try go_wp2
   have n0_:=zx (Kd.R_drew p0.out);have n1_:=zx (blk_drew p1.out);have n2_:=zx (below_drew1 HB.out);clear p0;clear p1;clear HB;have p0:=n0_;have p1:=n1_;have HB:=n2_;clear n0_ n1_ n2_;refine start_ (n:=13) (S:=fun w' => w'.cell? ⟨p3,0,none⟩ = some (.int .i64 t1037) ∧ w'.cell? ⟨p3,1,none⟩ = some (.slice Ao9 t1038.length co9)) (ds:=[]) #[J,J,J,J,J,J,J,J,J,J,J,J,J] (by kernel_rfl) rfl rfl ⟨(blk_cell p1.out 0).trans rfl,(blk_cell p1.out 1).trans rfl⟩ (fun hHeld => ?_); refine with_tabW laws_FnFlowMost.tab7 laws_FnFlowMost.bits7 (fun HT_ HW_ => ?_);generalize wc.drew = w31 at p0 p1 HB hHeld ⊢;refine pure_ (i:=2) (N:=some 42) (v:=?_) (a':=?_) #[J,J,Y,J,J,J,J,J,J,J,J,J,J] rfl rfl (any_of HT_.out (by kernel_rfl)) (fun _ _ _ h => h) (Or.inl ⟨by rfl,?_⟩) ?_ ?_;rotate_left
   ·intro w';go_simp;with_reducible rfl
   rotate_left
   ·simp only [Act.put,U,V,Z,i64_w,i32_w];rfl
   refine pure_ (i:=3) (N:=some 43) (v:=?_) (a':=?_) #[J,J,Y,Y,J,J,J,J,J,J,J,J,J] rfl rfl (any_of HT_.out (by kernel_rfl)) (fun _ _ _ h => h) (Or.inl ⟨by rfl,?_⟩) ?_ ?_;rotate_left
   ·intro w';go_simp;with_reducible rfl
   rotate_left
   ·simp only [Act.put,U,V,Z,i64_w,i32_w];rfl
   refine pure_ (i:=5) (N:=some 45) (v:=?_) (a':=?_) #[J,J,Y,Y,J,Y,J,J,J,J,J,J,J] rfl rfl (any_of HT_.out (by kernel_rfl)) (fun _ _ _ h => h) (Or.inl ⟨by rfl,?_⟩) ?_ ?_;rotate_left
   ·intro w';go_simp;with_reducible rfl
   rotate_left
   ·simp only [Act.put,U,V,Z,i64_w,i32_w];rfl
   refine pure_ (i:=6) (N:=some 46) (v:=?_) (a':=?_) #[J,J,Y,Y,J,Y,Y,J,J,J,J,J,J] rfl rfl (any_of HT_.out (by kernel_rfl)) (fun _ _ _ h => h) (Or.inl ⟨by rfl,?_⟩) ?_ ?_;rotate_left
   ·intro w';go_simp;with_reducible rfl
   rotate_left
   ·simp only [Act.put,U,V,Z,i64_w,i32_w];rfl
   refine take_ (i:=0) (N:=some 40) (v:=?_) (a':=?_) #[Y,J,Y,Y,J,Y,Y,J,J,J,J,J,J] rfl rfl (take_ofW HT_.out HW_.out (by kernel_rfl)) (fun _ _ _ h => h) (Or.inl ⟨by rfl,?_⟩) hHeld ?_ ?_;rotate_left
   ·rintro w' ⟨s0,s1⟩;go_simp;with_reducible rfl
   rotate_left
   ·simp only [Act.put,U,V,Z,i64_w,i32_w];rfl
   refine take_ (i:=1) (N:=some 41) (v:=?_) (a':=?_) #[Y,Y,Y,Y,J,Y,Y,J,J,J,J,J,J] rfl rfl (take_ofW HT_.out HW_.out (by kernel_rfl)) (fun _ _ _ h => h) (Or.inl ⟨by rfl,?_⟩) hHeld ?_ ?_;rotate_left
   ·rintro w' ⟨s0,s1⟩;go_simp;with_reducible rfl
   rotate_left
   ·simp only [Act.put,U,V,Z,i64_w,i32_w];rfl
   refine one_ (i:=4) (N:=some 44) #[Y,Y,Y,Y,Y,Y,Y,J,J,J,J,J,J] rfl rfl (one_of HT_.out (by kernel_rfl)) (by decide) (fun K hK => ?_);refine goes_ Try.func38 (by kernel_rfl) rfl #[.agg #[.int .i64 t1037,.slice Ao9 t1038.length co9],.int .i64 t1041,.int .i64 t1042] (by rfl) rfl rfl (by (try simp only [List.map_toArray,List.map_cons,List.map_nil]); first | done | rfl | (simp only [List.length_drop,List.length_take]; rfl)) ?_;with_reducible refine (impl_FlowOf.calls kj4 t1037 _ _ t1038 t1041 t1042 t1047 _ ?side1 ?side2 A21.out).mono ?_
   (case side1 => repeat (first | exact (Kd.R_reads' p0.out).2.2 | (with_reducible refine Kd.C_alloc ?_ _) | (with_reducible refine Kd.C_drewN ?_ _) | (with_reducible refine Kd.C_drew ?_)))
   (case side2 => exact (Kd.R_reads' p0.out).2.1)
   rintro e w32 ⟨v1048,rfl,ho0,hb⟩;refine ⟨_,rfl,?_⟩;have n0_:=zx (Kd.R_below p0.out hb);have n1_:=zx (Kd.R_lower ho0 (below_size HB.out));have n2_:=zx (blk_below (g:=p3) (o:=.cells #[.int .i64 t1037,.slice Ao9 t1038.length co9] 34 (0,0)) p1.out hb);have n3_:=zx (below_step HB.out hb);clear p0;clear p1;clear HB;have p0:=n0_;have HO1049:=n1_;have p1:=n2_;have HB:=n3_;clear n0_ n1_ n2_ n3_
   (try clear hb)
   (try clear hb2)
   (try clear hk)
   (try clear hi)
   (try clear ho0)
   obtain ⟨Ao33,co33,eo33⟩:=Kd.R_slice HO1049.out
   (first | subst eo33 | (injection eo33 with f1_ f2_ f3_; have f4_:=f1_.symm; have f5_:=f3_.symm; clear f1_ f2_ f3_; subst f4_; subst f5_))
   refine hK.out _ _ ⟨(blk_cell p1.out 0).trans rfl,(blk_cell p1.out 1).trans rfl⟩ (fun hHeld => ?_);clear hK K;refine norm_ (a':=?_) ?_ ?_;rotate_left
   ·show Act.put _ (some 44) _ = _
    simp only [Act.put,U,V,Z,i64_w,i32_w];rfl
   refine one_ (i:=7) (N:=some 47) #[Y,Y,Y,Y,Y,Y,Y,Y,J,J,J,J,J] rfl rfl (one_of HT_.out (by kernel_rfl)) (by decide) (fun K hK => ?_);refine goes_ Try.func34 (by kernel_rfl) rfl #[.agg #[.int .i64 t1037,.slice Ao9 t1038.length co9],.slice Ao33 t1047.length co33,.int .i64 t1041,.int .i64 t1042] (by rfl) rfl rfl (by (try simp only [List.map_toArray,List.map_cons,List.map_nil]); first | done | rfl | (simp only [List.length_drop,List.length_take]; rfl)) ?_;with_reducible refine (impl_FlowValue.calls kj4 t1037 _ _ t1038 _ _ t1047 t1041 t1042 t1050 true _ ?side1 ?side2 ?side3 ?side4 A22.out).mono ?_
   (case side1 => repeat (first | exact (Kd.R_reads' p0.out).2.2 | (with_reducible refine Kd.C_alloc ?_ _) | (with_reducible refine Kd.C_drewN ?_ _) | (with_reducible refine Kd.C_drew ?_)))
   (case side2 => exact (Kd.R_reads' p0.out).2.1)
   (case side3 => repeat (first | exact (Kd.R_reads' HO1049.out).2.2 | (with_reducible refine Kd.C_alloc ?_ _) | (with_reducible refine Kd.C_drewN ?_ _) | (with_reducible refine Kd.C_drew ?_)))
   (case side4 => exact (Kd.R_reads' HO1049.out).2.1)
   rintro e w34 ⟨rfl,hb⟩;refine ⟨_,rfl,?_⟩;have n0_:=zx (Kd.R_below p0.out hb);have n1_:=zx (Kd.R_below HO1049.out hb);have n2_:=zx (blk_below (g:=p3) (o:=.cells #[.int .i64 t1037,.slice Ao9 t1038.length co9] 34 (0,0)) p1.out hb);have n3_:=zx (below_step HB.out hb);clear p0;clear HO1049;clear p1;clear HB;have p0:=n0_;have HO1049:=n1_;have p1:=n2_;have HB:=n3_;clear n0_ n1_ n2_ n3_
   (try clear hb)
   (try clear hb2)
   (try clear hk)
   (try clear hi)
   refine hK.out _ _ ⟨(blk_cell p1.out 0).trans rfl,(blk_cell p1.out 1).trans rfl⟩ (fun hHeld => ?_);clear hK K;refine norm_ (a':=?_) ?_ ?_;rotate_left
   ·show Act.put _ (some 47) _ = _
    simp only [Act.put,U,V,Z,i64_w,i32_w];rfl
   refine pure_ (i:=8) (N:=some 39) (v:=?_) (a':=?_) #[Y,Y,Y,Y,Y,Y,Y,Y,Y,J,J,J,J] rfl rfl (any_of HT_.out (by kernel_rfl)) (fun _ _ _ h => h) (Or.inl ⟨by rfl,?_⟩) ?_ ?_;rotate_left
   ·intro w';go_simp;with_reducible rfl
   rotate_left
   ·simp only [Act.put,U,V,Z,i64_w,i32_w];rfl
   refine pure_ (i:=9) (N:=some 48) (v:=?_) (a':=?_) #[Y,Y,Y,Y,Y,Y,Y,Y,Y,Y,J,J,J] rfl rfl (any_of HT_.out (by kernel_rfl)) (fun _ _ _ h => h) (Or.inl ⟨by rfl,?_⟩) ?_ ?_;rotate_left
   ·intro w';go_simp;with_reducible rfl
   rotate_left
   ·simp only [Act.put,U,V,Z,i64_w,i32_w];rfl
   refine pure_ (i:=10) (N:=some 49) (v:=?_) (a':=?_) #[Y,Y,Y,Y,Y,Y,Y,Y,Y,Y,Y,J,J] rfl rfl (any_of HT_.out (by kernel_rfl)) (fun _ _ _ h => h) (Or.inl ⟨by rfl,?_⟩) ?_ ?_;rotate_left
   ·intro w';go_simp;with_reducible rfl
   rotate_left
   ·simp only [Act.put,U,V,Z,i64_w,i32_w];rfl
   refine pure_ (i:=11) (N:=some 7) (v:=?_) (a':=?_) #[Y,Y,Y,Y,Y,Y,Y,Y,Y,Y,Y,Y,J] rfl rfl (any_of HT_.out (by kernel_rfl)) (fun _ _ _ h => h) (Or.inl ⟨by rfl,?_⟩) ?_ ?_;rotate_left
   ·intro w';go_simp;with_reducible rfl
   rotate_left
   ·simp only [Act.put,U,V,Z,i64_w,i32_w];rfl
   refine pure_ (i:=12) (N:=some 8) (v:=?_) (a':=?_) #[Y,Y,Y,Y,Y,Y,Y,Y,Y,Y,Y,Y,Y] rfl rfl (any_of HT_.out (by kernel_rfl)) (fun _ _ _ h => h) (Or.inl ⟨by rfl,?_⟩) ?_ ?_;rotate_left
   ·intro w';go_simp;with_reducible rfl
   rotate_left
   ·simp only [Act.put,U,V,Z,i64_w,i32_w];rfl
   refine done_ (done_of HT_.out (by kernel_rfl)) ?_;have hcz35_0 : w34.cell? ⟨p3,0,none⟩ = some (.int .i64 t1037):=(blk_cell p1.out 0).trans rfl;have hcz35_1 : w34.cell? ⟨p3,1,none⟩ = some (.slice Ao9 t1038.length co9):=(blk_cell p1.out 1).trans rfl;have hfz35_0:=blk_frozen p1.out 0;have hfz35_1:=blk_frozen p1.out 1;have H:=HH_.out;clear HH_
   by_cases c30 : t1060 = t1044
   case neg =>
    rw [if_neg c30] at H;have c30b0 : (t1060 == t1044) = false:=beq_eq_false_iff_ne.mpr c30;have c30b1 : (t1060 != t1044) = true:=bne_iff_ne.mpr c30;obtain rfl:=Option.some.inj H
    try go_wp2_with (first | ((with_reducible refine gate_callee (f:=46) rfl ?_); refine goesL_ (some 52) rfl rfl Try.func46 (by kernel_rfl) rfl #[.agg #[.int .i64 t1037,.slice Ao9 t1038.length co9],.int .i64 t1041] rfl (by (try simp only [List.map_toArray,List.map_cons,List.map_nil]); first | done | rfl | (simp only [List.length_drop,List.length_take]; rfl)) ?_; (with_reducible refine (impl_LoadAll.calls kj4 t1037 _ _ t1038 t1041 t1052 _ ?side1 ?side2 A23.out).mono ?_); (case side1 => repeat (first | exact (Kd.R_reads' p0.out).2.2 | (with_reducible refine Kd.C_alloc ?_ _) | (with_reducible refine Kd.C_drewN ?_ _) | (with_reducible refine Kd.C_drew ?_))); (case side2 => exact (Kd.R_reads' p0.out).2.1); rintro e w47 ⟨v1053,rfl,ho0,hb⟩; refine ⟨_,rfl,?_⟩; have n0_:=zx (Kd.R_below p0.out hb); have n1_:=zx (Kd.R_elder' HO1049.out (Kd.R_base ho0) hb); have n2_:=zx (Kd.R_lower (Kd.R_new' ho0 (Kd.R_lt HO1049.out)) (below_size HB.out)); have n3_:=zx (blk_below (g:=p3) (o:=.cells #[.int .i64 t1037,.slice Ao9 t1038.length co9] 34 (0,0)) p1.out hb); have n4_:=zx (below_step HB.out hb); clear p0; clear HO1049; clear p1; clear HB; have p0:=n0_; have HO1049:=n1_; have HO1054:=n2_; have p1:=n3_; have HB:=n4_; clear n0_ n1_ n2_ n3_ n4_; (try clear hb); (try clear hb2); (try clear hk); (try clear hi); (try clear ho0); obtain ⟨Ao48,co48,eo48⟩:=Kd.R_slice HO1054.out; subst eo48; have p1055 : 0 ≤ (t1042 : Int):=of_decide_eq_true (by first | (with_reducible assumption) | assumption); have q1055 : t1042 < (t1052.length : Int):=of_decide_eq_true (by first | (with_reducible assumption) | assumption); obtain ⟨p9,e1055,p7⟩:=Kd.at_int (Kd.R_reads' HO1054.out).2.2 t1042 p1055 q1055; cases e1055; replace p1055:=eq_true p1055; replace q1055:=eq_true q1055; have hcz49_0 : w47.cell? ⟨p3,0,none⟩ = some (.int .i64 t1037):=(blk_cell p1.out 0).trans rfl; have hcz49_1 : w47.cell? ⟨p3,1,none⟩ = some (.slice Ao9 t1038.length co9):=(blk_cell p1.out 1).trans rfl; have hfz49_0:=blk_frozen p1.out 0; have hfz49_1:=blk_frozen p1.out 1) | (go_at_call 47; (with_reducible refine (impl_NetBack.calls kj4 t1037 _ _ t1038 t1056 t1057 _ ?side1 ?side2 A28.out).mono ?_); (case side1 => repeat (first | exact (Kd.R_reads' p0.out).2.2 | (with_reducible refine Kd.C_alloc ?_ _) | (with_reducible refine Kd.C_drewN ?_ _) | (with_reducible refine Kd.C_drew ?_))); (case side2 => exact (Kd.R_reads' p0.out).2.1); rintro e w50 ⟨v1058,rfl,ho0,hb⟩; have n0_:=zx (Kd.R_elder' p0.out (Kd.R_base ho0) hb); have n1_:=zx (Kd.R_below HO1049.out hb); have n2_:=zx (Kd.R_below HO1054.out hb); have n3_:=zx (Kd.R_lower (Kd.R_new' ho0 (Kd.R_lt p0.out)) (below_size HB.out)); have n4_:=zx (blk_below (g:=p3) (o:=.cells #[.int .i64 t1037,.slice Ao9 t1038.length co9] 34 (0,0)) p1.out hb); have n5_:=zx (below_step HB.out hb); clear p0; clear HO1049; clear HO1054; clear p1; clear HB; have p0:=n0_; have HO1049:=n1_; have HO1054:=n2_; have HO1059:=n3_; have p1:=n4_; have HB:=n5_; clear n0_ n1_ n2_ n3_ n4_ n5_; (try clear hb); (try clear hb2); (try clear hk); (try clear hi); (try clear ho0); obtain ⟨Ao51,co51,eo51⟩:=Kd.R_slice HO1059.out; subst eo51) | (go_at_call 36; (with_reducible refine (impl_FlowMost.calls kj4 t1056 _ _ t1057 t1042 t1041 t1060 _ ?side1 ?side2 A29.out).mono ?_); (case side1 => repeat (first | exact (Kd.R_reads' HO1059.out).2.2 | (with_reducible refine Kd.C_alloc ?_ _) | (with_reducible refine Kd.C_drewN ?_ _) | (with_reducible refine Kd.C_drew ?_))); (case side2 => exact (Kd.R_reads' HO1059.out).2.1); rintro e w52 ⟨rfl,hb⟩; have n0_:=zx (Kd.R_below p0.out hb); have n1_:=zx (Kd.R_below HO1049.out hb); have n2_:=zx (Kd.R_below HO1054.out hb); have n3_:=zx (Kd.R_below HO1059.out hb); have n4_:=zx (blk_below (g:=p3) (o:=.cells #[.int .i64 t1037,.slice Ao9 t1038.length co9] 34 (0,0)) p1.out hb); have n5_:=zx (below_step HB.out hb); clear p0; clear HO1049; clear HO1054; clear HO1059; clear p1; clear HB; have p0:=n0_; have HO1049:=n1_; have HO1054:=n2_; have HO1059:=n3_; have p1:=n4_; have HB:=n5_; clear n0_ n1_ n2_ n3_ n4_ n5_; (try clear hb); (try clear hb2); (try clear hk); (try clear hi)))
    go_ret;exact ⟨by first | rfl | (simp [errW_none,errW_some] <;> rfl) | (simp [*,errW_none,errW_some] <;> rfl),by repeat (first | (with_reducible first | exact HB.out | apply below_alloc | apply pw_below_drewN | apply below_drew1 | refine below_set ?_ p6.out) | exact HB.out)⟩
   rw [if_pos c30] at H;have c30b0 : (t1060 == t1044) = true:=beq_iff_eq.mpr c30;have c30b1 : (t1060 != t1044) = false:=bne_eq_false_iff_eq.mpr c30;clear c30;obtain rfl:=Option.some.inj H
   try go_wp2_with (first | ((with_reducible refine gate_callee (f:=46) rfl ?_); refine goesL_ (some 52) rfl rfl Try.func46 (by kernel_rfl) rfl #[.agg #[.int .i64 t1037,.slice Ao9 t1038.length co9],.int .i64 t1041] rfl (by (try simp only [List.map_toArray,List.map_cons,List.map_nil]); first | done | rfl | (simp only [List.length_drop,List.length_take]; rfl)) ?_; (with_reducible refine (impl_LoadAll.calls kj4 t1037 _ _ t1038 t1041 t1052 _ ?side1 ?side2 A23.out).mono ?_); (case side1 => repeat (first | exact (Kd.R_reads' p0.out).2.2 | (with_reducible refine Kd.C_alloc ?_ _) | (with_reducible refine Kd.C_drewN ?_ _) | (with_reducible refine Kd.C_drew ?_))); (case side2 => exact (Kd.R_reads' p0.out).2.1); rintro e w36 ⟨v1053,rfl,ho0,hb⟩; refine ⟨_,rfl,?_⟩; have n0_:=zx (Kd.R_below p0.out hb); have n1_:=zx (Kd.R_elder' HO1049.out (Kd.R_base ho0) hb); have n2_:=zx (Kd.R_lower (Kd.R_new' ho0 (Kd.R_lt HO1049.out)) (below_size HB.out)); have n3_:=zx (blk_below (g:=p3) (o:=.cells #[.int .i64 t1037,.slice Ao9 t1038.length co9] 34 (0,0)) p1.out hb); have n4_:=zx (below_step HB.out hb); clear p0; clear HO1049; clear p1; clear HB; have p0:=n0_; have HO1049:=n1_; have HO1054:=n2_; have p1:=n3_; have HB:=n4_; clear n0_ n1_ n2_ n3_ n4_; (try clear hb); (try clear hb2); (try clear hk); (try clear hi); (try clear ho0); obtain ⟨Ao37,co37,eo37⟩:=Kd.R_slice HO1054.out; subst eo37; have p1055 : 0 ≤ (t1042 : Int):=of_decide_eq_true (by first | (with_reducible assumption) | assumption); have q1055 : t1042 < (t1052.length : Int):=of_decide_eq_true (by first | (with_reducible assumption) | assumption); obtain ⟨p9,e1055,p7⟩:=Kd.at_int (Kd.R_reads' HO1054.out).2.2 t1042 p1055 q1055; cases e1055; replace p1055:=eq_true p1055; replace q1055:=eq_true q1055; have hcz38_0 : w36.cell? ⟨p3,0,none⟩ = some (.int .i64 t1037):=(blk_cell p1.out 0).trans rfl; have hcz38_1 : w36.cell? ⟨p3,1,none⟩ = some (.slice Ao9 t1038.length co9):=(blk_cell p1.out 1).trans rfl; have hfz38_0:=blk_frozen p1.out 0; have hfz38_1:=blk_frozen p1.out 1) | (go_at_call 47; (with_reducible refine (impl_NetBack.calls kj4 t1037 _ _ t1038 t1056 t1057 _ ?side1 ?side2 A28.out).mono ?_); (case side1 => repeat (first | exact (Kd.R_reads' p0.out).2.2 | (with_reducible refine Kd.C_alloc ?_ _) | (with_reducible refine Kd.C_drewN ?_ _) | (with_reducible refine Kd.C_drew ?_))); (case side2 => exact (Kd.R_reads' p0.out).2.1); rintro e w39 ⟨v1058,rfl,ho0,hb⟩; have n0_:=zx (Kd.R_elder' p0.out (Kd.R_base ho0) hb); have n1_:=zx (Kd.R_below HO1049.out hb); have n2_:=zx (Kd.R_below HO1054.out hb); have n3_:=zx (Kd.R_lower (Kd.R_new' ho0 (Kd.R_lt p0.out)) (below_size HB.out)); have n4_:=zx (blk_below (g:=p3) (o:=.cells #[.int .i64 t1037,.slice Ao9 t1038.length co9] 34 (0,0)) p1.out hb); have n5_:=zx (below_step HB.out hb); clear p0; clear HO1049; clear HO1054; clear p1; clear HB; have p0:=n0_; have HO1049:=n1_; have HO1054:=n2_; have HO1059:=n3_; have p1:=n4_; have HB:=n5_; clear n0_ n1_ n2_ n3_ n4_ n5_; (try clear hb); (try clear hb2); (try clear hk); (try clear hi); (try clear ho0); obtain ⟨Ao40,co40,eo40⟩:=Kd.R_slice HO1059.out; subst eo40) | (go_at_call 36; (with_reducible refine (impl_FlowMost.calls kj4 t1056 _ _ t1057 t1042 t1041 t1060 _ ?side1 ?side2 A29.out).mono ?_); (case side1 => repeat (first | exact (Kd.R_reads' HO1059.out).2.2 | (with_reducible refine Kd.C_alloc ?_ _) | (with_reducible refine Kd.C_drewN ?_ _) | (with_reducible refine Kd.C_drew ?_))); (case side2 => exact (Kd.R_reads' HO1059.out).2.1); rintro e w41 ⟨rfl,hb⟩; have n0_:=zx (Kd.R_below p0.out hb); have n1_:=zx (Kd.R_below HO1049.out hb); have n2_:=zx (Kd.R_below HO1054.out hb); have n3_:=zx (Kd.R_below HO1059.out hb); have n4_:=zx (blk_below (g:=p3) (o:=.cells #[.int .i64 t1037,.slice Ao9 t1038.length co9] 34 (0,0)) p1.out hb); have n5_:=zx (below_step HB.out hb); clear p0; clear HO1049; clear HO1054; clear HO1059; clear p1; clear HB; have p0:=n0_; have HO1049:=n1_; have HO1054:=n2_; have HO1059:=n3_; have p1:=n4_; have HB:=n5_; clear n0_ n1_ n2_ n3_ n4_ n5_; (try clear hb); (try clear hb2); (try clear hk); (try clear hi)))
   go_ret;exact ⟨by first | rfl | (simp [errW_none,errW_some] <;> rfl) | (simp [*,errW_none,errW_some] <;> rfl),by repeat (first | (with_reducible first | exact HB.out | apply below_alloc | apply pw_below_drewN | apply below_drew1 | refine below_set ?_ p6.out) | exact HB.out)⟩
end Go.Proofs.Ytlhmljngjdfbpaa.Pr
end
section
set_option linter.unusedVariables false
namespace Go.Proofs.YtlhmljngjdfbpaaW.PrintWords
open Go.RowKit Go.ChangeShapes Go.WideShapes
def Opens (P : Program) {α : Type} (d : Kd α) (t : TypeId) (wf : α → Prop) : Prop :=
 ∀ {H : Type} {enc : TypeId × Value → H} {w : World} {sp : Nat → Bool} {held : Bool} {fuel : Nat} {cs : List Value} {x : DataW H × List MemPlace},DataW.trod enc P w 0 sp held fuel t cs = some x → ∃ a,d.K w a cs ∧ wf a
section
variable {P : Program} {α β : Type}
theorem opens_int {t : TypeId} {k : IntKind} (ht : P.underlying t = some (.int k)) : Opens P (Kd.int k) t (fun n => (Lit.int k n).wf = true):=by
 intro H enc w sp held fuel cs x h;obtain ⟨n,rfl,_,hw⟩:=DataW.trod_int ht h;exact ⟨n,rfl,hw⟩
theorem addr_add_add (a : Addr) (i j : Nat) : (a.add i).add j = a.add (i + j):=by
 unfold Addr.add
 by_cases hi : i = 0 <;> by_cases hj : j = 0 <;> simp [hi,hj,Nat.add_assoc]
theorem opens_slice [Inhabited α] {d : Kd α} {t e : TypeId} {wf : α → Prop} (ht : P.underlying t = some (.slice e)) (hc : P.cellsOf e = d.sz) (he : Opens P d e wf) : Opens P (Kd.slice e d) t (fun l => l.length ≤ maxLen ∧ ∀ x ∈ l,wf x):=by
 intro H enc w sp held fuel cs x h
 rcases Deep.open_slice ht h with ⟨rfl,_⟩ | ⟨a,len,cap,m,n,D,Pl,rfl,_,hl,hm,hmm,_,hel⟩
 ·exact ⟨[],⟨none,0,rfl,Nat.le_refl _,Kd.C_nil d w⟩,by simp,by simp⟩
 ·have hlm : len ≤ m:=by rw [hmm]; split <;> omega
  have hx : ∀ i,i < len → ∃ y : α,(∃ c,c.length = d.sz ∧ d.K w y c ∧ ∀ j u,c[j]? = some u → w.cell? (a.add (i * d.sz + j)) = some u) ∧ wf y:=by
   intro i hi;obtain ⟨cs',hcs,htr⟩:=hel i (by omega);obtain ⟨y,hk,hw⟩:=he htr;obtain ⟨_,hlen,hcell⟩:=World.cells?_some hcs;refine ⟨y,⟨cs',d.K_len hk,hk,fun j u hu => ?_⟩,hw⟩;have hj : j < P.cellsOf e:=by
    have:=(List.getElem?_eq_some_iff.1 hu).1;omega
   have:=hcell j hj;rw [addr_add_add,hc,hu] at this;exact this
  obtain ⟨f,hf⟩:=Deep.choose_lt hx;refine ⟨(List.range len).map f,⟨some a,cap,by simp,by simpa using hl,by simp,by simp only [maxLen] at hm; simp; omega,fun _ => ⟨a,rfl,fun j p hj => ?_⟩⟩,by simp; omega,fun y hy => ?_⟩
  ·obtain ⟨hj1,hj2⟩:=List.getElem?_eq_some_iff.1 hj;simp at hj1 hj2;subst hj2;exact (hf j hj1).1
  ·simp only [List.mem_map,List.mem_range] at hy;obtain ⟨i,hi,rfl⟩:=hy;exact (hf i hi).2
end
end Go.Proofs.YtlhmljngjdfbpaaW.PrintWords
end
section
namespace Go.Proofs.Ytlhmljngjdfbpaa.Pr
open Go.RowKit Go.Proofs.YtlhmljngjdfbpaaW.PrintWords Go.Proofs.YtlhmljngjdfbpaaW.PrintLast Go.Proofs.YtlhmljngjdfbpaaW.PrintMore
open List renaming setIfInBounds_toArray → U,set_cons_zero → V,set_cons_succ → Z
open Go.Proofs.YtlhmljngjdfbpaaW.PrintWords.Aside0 renaming mk → zx
def laws_FnFlowMost.Asked : Prop:=∀ (l0 : List Int),(l0.length ≤ maxLen ∧ ∀ x_ ∈ l0,(Lit.int .u8 x_).wf = true) → ∃ k,laws_FnFlowMost.f k l0 = some true
end Go.Proofs.Ytlhmljngjdfbpaa.Pr
end
section
set_option linter.unusedVariables false
namespace Go.Proofs.YtlhmljngjdfbpaaW.PrintWords
open Go.RowKit
section
variable {α β : Type}
theorem Ev.pos {c : Prop} [Decidable c] {t e : Nat → Option α} {r : α} (h : c) (k : Ev t r) : Ev (fun n => if c then t n else e n) r:=by
 simp only [if_pos h]; exact k
theorem Ev.neg {c : Prop} [Decidable c] {t e : Nat → Option α} {r : α} (h : ¬ c) (k : Ev e r) : Ev (fun n => if c then t n else e n) r:=by
 simp only [if_neg h]; exact k
theorem Ev.bind0 {g : Option α} {f : Nat → α → Option β} {a : α} {r : β} (h : g = some a) (k : Ev (fun n => f n a) r) : Ev (fun n => g.bind (f n)) r:=by
 subst h; exact k
theorem Ev.is {a r : α} (h : a = r) : Ev (fun _ => some a) r:=by subst h; exact Ev.now _
theorem Ev.cast {g : Nat → Option α} {a r : α} (k : Ev g a) (h : a = r) : Ev g r:=h ▸ k
theorem Ev.go {g f : Nat → Option α} {r : α} (k : Ev f r) (h : ∀ k,g (k + 1) = f k) : Ev g r:=Ev.step h k
end
theorem w64 {n : Int} (h : -9223372036854775808 ≤ n) (h' : n ≤ 9223372036854775807) : wrap64 n = n:=by unfold wrap64; omega
theorem some_ite (b x : Bool) : (if b = true then some x else some false) = some (b && x):=by cases b <;> rfl
end Go.Proofs.YtlhmljngjdfbpaaW.PrintWords
end
section
set_option linter.unusedSimpArgs false
set_option linter.unusedVariables false
namespace Go.Proofs.Ytlhmljngjdfbpaa.Pure
open Go.RowKit Go.Proofs.Ytlhmljngjdfbpaa.Pr Go.Proofs.YtlhmljngjdfbpaaW.PrintWords Go.Proofs.YtlhmljngjdfbpaaW.PrintLast Go.Proofs.YtlhmljngjdfbpaaW.PrintMore
def inB (x a b : Int) : Bool:=decide (a ≤ x) && decide (x ≤ b)
theorem inB_iff {x a b : Int} : inB x a b = true ↔ a ≤ x ∧ x ≤ b:=by simp [inB]
theorem in1 (x a b : Int) : spec_l1In.f x a b = some (inB x a b):=by
 unfold spec_l1In.f inB
 by_cases h : x ≥ a
 case pos => rw [if_pos h]; simp [show a ≤ x from h]
 rw [if_neg h]; simp [show ¬ a ≤ x from h]
theorem within1 (x a b : Int) : impl_within.f x a b = some (inB x a b):=by
 unfold impl_within.f inB
 by_cases h : x ≥ a
 case pos => rw [if_pos h]; simp [show a ≤ x from h]
 rw [if_neg h]; simp [show ¬ a ≤ x from h]
theorem up1 {i n : Nat} (h : i < n) (hn : n ≤ maxLen) : wrap64 ((i : Int) + 1) = ((i + 1 : Nat) : Int):=by
 simp only [maxLen] at hn;rw [w64 (by omega) (by omega)]; omega
def nth (l : List Int) (i : Nat) : Int:=l.getD i 0
theorem rdg {l : List Int} (i : Nat) : rd l (i : Int) = nth l i:=by simp [rd,nth]
theorem nth_get {l : List Int} {i : Nat} (h : i < l.length) : nth l i = l[i]:=by simp [nth,h]
theorem getD_mem {l : List Int} {i : Nat} (h : i < l.length) : nth l i ∈ l:=by
 rw [nth_get h];exact List.getElem_mem h
theorem drop_cons {α : Type} {l : List α} {i : Nat} (h : i < l.length) : l.drop i = l[i] :: l.drop (i + 1):=List.drop_eq_getElem_cons h
def Pv {α : Type} (g : Nat → Option α) (P : α → Prop) : Prop:=∃ r,Ev g r ∧ P r
section
variable {α β : Type} {P : α → Prop}
theorem Pv.of {g : Nat → Option α} {r : α} (h : Ev g r) (hp : P r) : Pv g P:=⟨r,h,hp⟩
theorem Pv.now {a : α} (h : P a) : Pv (fun _ => some a) P:=⟨a,Ev.now a,h⟩
theorem Pv.pos {c : Prop} [Decidable c] {t e : Nat → Option α} (h : c) (k : Pv t P) : Pv (fun n => if c then t n else e n) P:=by
 obtain ⟨r,k,hp⟩:=k;exact ⟨r,Ev.pos h k,hp⟩
theorem Pv.neg {c : Prop} [Decidable c] {t e : Nat → Option α} (h : ¬ c) (k : Pv e P) : Pv (fun n => if c then t n else e n) P:=by
 obtain ⟨r,k,hp⟩:=k;exact ⟨r,Ev.neg h k,hp⟩
theorem Pv.ite {c : Prop} [Decidable c] {t e : Nat → Option α} (h : c → Pv t P) (k : ¬ c → Pv e P) : Pv (fun n => if c then t n else e n) P:=by
 by_cases hc : c
 case neg => exact Pv.neg hc (k hc)
 exact Pv.pos hc (h hc)
theorem Pv.bind {g : Nat → Option β} {f : Nat → β → Option α} {R : β → Prop} (h : Pv g R) (k : ∀ b,R b → Pv (fun n => f n b) P) : Pv (fun n => (g n).bind (f n)) P:=by
 obtain ⟨b,h,hb⟩:=h;obtain ⟨r,k,hp⟩:=k b hb;exact ⟨r,Ev.bind h k,hp⟩
theorem Pv.bind0 {g : Option β} {f : Nat → β → Option α} {b : β} (h : g = some b) (k : Pv (fun n => f n b) P) : Pv (fun n => g.bind (f n)) P:=by
 obtain ⟨r,k,hp⟩:=k;exact ⟨r,Ev.bind0 h k,hp⟩
theorem Pv.go {g f : Nat → Option α} (k : Pv f P) (h : ∀ k,g (k + 1) = f k) : Pv g P:=by
 obtain ⟨r,k,hp⟩:=k;exact ⟨r,Ev.go k h,hp⟩
theorem Pv.mono {g : Nat → Option α} {R : α → Prop} (h : Pv g R) (k : ∀ a,R a → P a) : Pv g P:=by
 obtain ⟨r,h,hr⟩:=h;exact ⟨r,h,k r hr⟩
end
theorem Pv.rounds {g : Nat → Option Bool} (h : Pv g (· = true)) : ∃ k,g k = some true:=by
 obtain ⟨r,h,rfl⟩:=h;exact Ev.rounds h
end Go.Proofs.Ytlhmljngjdfbpaa.Pure
end
section
set_option linter.unusedSimpArgs false
set_option linter.unusedVariables false
namespace Go.Proofs.Ytlhmljngjdfbpaa.Pure
open Go.RowKit Go.Proofs.Ytlhmljngjdfbpaa.Pr Go.Proofs.YtlhmljngjdfbpaaW.PrintWords Go.Proofs.YtlhmljngjdfbpaaW.PrintLast Go.Proofs.YtlhmljngjdfbpaaW.PrintMore
section
variable {t e : Nat → Option Bool} {r : Bool}
theorem Ev.and {b : Bool} (k : Ev t r) : Ev (fun n => if b = true then t n else some false) (b && r):=by
 cases b with
 | false => exact Ev.neg (by simp) (Ev.now _)
 | true => exact Ev.pos rfl k
theorem Ev.nand {c : Prop} [Decidable c] (k : Ev t r) : Ev (fun n => if c then some false else t n) (!decide c && r):=by
 by_cases h : c
 case pos => exact Ev.pos h (Ev.is (by simp [h]))
 exact Ev.neg h (k.cast (by simp [h]))
end
abbrev Arc:=S58
def arc (l : List Arc) (i : Nat) : Arc:=rd_T58 l (i : Int)
theorem rda (l : List Arc) (i : Nat) : rd_T58 l (i : Int) = arc l i:=rfl
theorem arc_get {l : List Arc} {i : Nat} (h : i < l.length) : arc l i = l[i]:=by simp [arc,rd_T58,h]
theorem arc_mem {l : List Arc} {i : Nat} (h : i < l.length) : arc l i ∈ l:=by
 rw [arc_get h];exact List.getElem_mem h
attribute [irreducible] arc
def okArcW (n : Int) (a : Arc) : Bool:=inB a.f0 0 (wrap64 (n - 1)) && (inB a.f1 0 (wrap64 (n - 1)) && (!decide (a.f0 = a.f1) && (inB a.f2 0 99 && (inB a.f3 0 99 && inB a.f4 0 9))))
theorem l1Ok_l (n : Int) (l : List Arc) (hm : l.length ≤ maxLen) : ∀ (m i : Nat),l.length - i = m → i ≤ l.length → Ev (fun k => spec_l1Ok.l0 k (i : Int) n l) ((l.drop i).all (okArcW n) && (inB n 1 8 && decide ((l.length : Int) ≤ 16))):=by
 intro m
 induction m with
 | zero =>
  intro i hd hi;refine Ev.go ?_ (fun k => by rw [spec_l1Ok.l0]);refine Ev.neg (by omega) (Ev.bind0 (in1 _ _ _) ?_);rw [List.drop_of_length_le (by omega)];exact (Ev.and (Ev.now _)).cast (by simp)
 | succ m ih =>
  intro i hd hi;have hlt : i < l.length:=by omega
  refine Ev.go ?_ (fun k => by rw [spec_l1Ok.l0]);rw [drop_cons hlt,← arc_get hlt,List.all_cons,rda,up1 hlt hm];refine Ev.pos (by omega) (Ev.pos (by omega) ?_);refine Ev.cast (Ev.bind0 (in1 _ _ _) (Ev.and (Ev.bind0 (in1 _ _ _) (Ev.and (Ev.nand (Ev.bind0 (in1 _ _ _) (Ev.and (Ev.bind0 (in1 _ _ _) (Ev.and (Ev.bind0 (in1 _ _ _) (Ev.and (ih (i + 1) (by omega) (by omega))))))))))))) ?_;simp only [okArcW,Bool.and_assoc]
theorem okArcW_okArc {n : Int} (h : 1 ≤ n) (h8 : n ≤ 8) (a : Arc) : okArcW n a = okArc n a:=by
 unfold okArcW okArc inB okN okC
 rw [w64 (by omega) (by omega)];have e : (a.f4 ≤ 9) ↔ (a.f4 ≤ 10 - 1):=by omega
 have e2 : (a.f0 == a.f1) = decide (a.f0 = a.f1):=by
  by_cases c : a.f0 = a.f1 <;> simp [c]
 rw [e2];simp only [Bool.and_assoc,e]
theorem l1Ok_ev (n : Int) (l : List Arc) (hm : l.length ≤ maxLen) : Ev (fun k => spec_l1Ok.f k n l) (netOkB n l):=by
 unfold spec_l1Ok.f
 refine (l1Ok_l n l hm _ 0 rfl (by omega)).cast ?_
 unfold netOkB
 rw [List.drop_zero]
 by_cases h : 1 ≤ n ∧ n ≤ 8
 case pos =>
  have e : l.all (okArcW n) = l.all (okArc n):=by
   congr 1
   funext a
   exact okArcW_okArc h.1 h.2 a
  rw [e,show inB n 1 8 = true from inB_iff.2 h];simp [h.1,h.2,Bool.and_comm]
 have e : inB n 1 8 = false:=by
  cases c : inB n 1 8 with
  | false => rfl
  | true => exact absurd (inB_iff.1 c) h
 rw [e];have e2 : (decide (1 ≤ n) && decide (n ≤ 8)) = false:=e;simp only [e2,Bool.false_and,Bool.and_false]
structure NetGood (n : Int) (l : List Arc) : Prop where
 n1 : 1 ≤ n
 n8 : n ≤ 8
 len : l.length ≤ 16
 ok : ∀ i,i < l.length → (0 ≤ (arc l i).f0 ∧ (arc l i).f0 < n) ∧ (0 ≤ (arc l i).f1 ∧ (arc l i).f1 < n) ∧ (arc l i).f0 ≠ (arc l i).f1 ∧ (0 ≤ (arc l i).f2 ∧ (arc l i).f2 ≤ 99) ∧ (0 ≤ (arc l i).f3 ∧ (arc l i).f3 ≤ 99) ∧ (0 ≤ (arc l i).f4 ∧ (arc l i).f4 ≤ 9)
theorem okArc_iff (n : Int) (a : Arc) : okArc n a = true ↔ (0 ≤ a.f0 ∧ a.f0 < n) ∧ (0 ≤ a.f1 ∧ a.f1 < n) ∧ a.f0 ≠ a.f1 ∧ (0 ≤ a.f2 ∧ a.f2 ≤ 99) ∧ (0 ≤ a.f3 ∧ a.f3 ≤ 99) ∧ (0 ≤ a.f4 ∧ a.f4 ≤ 9):=by
 simp only [okArc,okN,okC,Bool.and_eq_true,decide_eq_true_eq,Bool.not_eq_true',beq_eq_false_iff_ne];constructor
 ·rintro ⟨⟨⟨⟨⟨⟨a1,a2⟩,a3,a4⟩,a5⟩,a6⟩,a7⟩,a8,a9⟩;exact ⟨⟨a1,by omega⟩,⟨a3,by omega⟩,a5,a6,a7,a8,by omega⟩
 ·rintro ⟨⟨a1,a2⟩,⟨a3,a4⟩,a5,a6,a7,a8,a9⟩;exact ⟨⟨⟨⟨⟨⟨a1,by omega⟩,a3,by omega⟩,a5⟩,a6⟩,a7⟩,a8,by omega⟩
theorem netOkB_iff (n : Int) (l : List Arc) : netOkB n l = true ↔ NetGood n l:=by
 simp only [netOkB,Bool.and_eq_true,decide_eq_true_eq,List.all_eq_true];constructor
 ·rintro ⟨⟨⟨h1,h2⟩,h3⟩,h4⟩;exact ⟨h1,h2,by omega,fun i hi => (okArc_iff n _).1 (h4 _ (arc_mem hi))⟩
 ·rintro ⟨h1,h2,h3,h4⟩;refine ⟨⟨⟨h1,h2⟩,by omega⟩,fun a ha => ?_⟩;obtain ⟨i,hi,rfl⟩:=List.getElem_of_mem ha;rw [← arc_get hi];exact (okArc_iff n _).2 (h4 i hi)
theorem hasOf {n : Int} {l : List Arc} (h : NetGood n l) (v : List Int) : impl_Net_has.f n l v = some (v.all (okN n)):=by
 have:=h.n1;have:=h.n8
 unfold impl_Net_has.f
 rw [if_pos (by omega),if_pos (by omega)]
theorem nodesIn_eq (n : Int) (l : List Arc) (v : List Int) : impl_nodesIn.f n l v = some (netOkB n l && v.all (okN n)):=by
 unfold impl_nodesIn.f
 rw [show impl_NetOk.f n l = some (netOkB n l) from rfl,Option.bind_some];cases h : netOkB n l with
 | false => rfl
 | true => rw [if_pos rfl,hasOf ((netOkB_iff n l).1 h),Option.bind_some,Bool.true_and]
theorem apart_eq (n : Int) (l : List Arc) (a b : Int) : impl_apart.f n l a b = some (netOkB n l && (okN n a && (okN n b && (a != b)))):=by
 unfold impl_apart.f
 rw [nodesIn_eq,Option.bind_some];simp only [List.all_cons,List.all_nil,Bool.and_true,some_ite,Bool.and_assoc]
end Go.Proofs.Ytlhmljngjdfbpaa.Pure
end
section
set_option linter.unusedSimpArgs false
set_option linter.unusedVariables false
namespace Go.Proofs.Ytlhmljngjdfbpaa.Pure
open Go.RowKit Go.Proofs.Ytlhmljngjdfbpaa.Pr Go.Proofs.YtlhmljngjdfbpaaW.PrintWords Go.Proofs.YtlhmljngjdfbpaaW.PrintLast Go.Proofs.YtlhmljngjdfbpaaW.PrintMore
def flip (a : Arc) : Arc:=⟨a.f1,a.f0,a.f2,a.f3,a.f4⟩
def back (l : List Arc) : List Arc:=l.map flip
theorem back_len (l : List Arc) : (back l).length = l.length:=by simp [back]
theorem back_arc {l : List Arc} {i : Nat} (h : i < l.length) : arc (back l) i = flip (arc l i):=by
 rw [arc_get (by rw [back_len]; exact h),arc_get h];simp [back]
theorem back_good {n : Int} {l : List Arc} (h : NetGood n l) : NetGood n (back l):=by
 refine ⟨h.n1,h.n8,by rw [back_len]; exact h.len,fun i hi => ?_⟩;rw [back_len] at hi;obtain ⟨a1,a2,a3,a4⟩:=h.ok i hi;rw [back_arc hi];exact ⟨a2,a1,fun e => a3 e.symm,a4⟩
theorem implBack_l (n : Int) (l : List Arc) (hm : l.length ≤ 1000) : ∀ (m i : Nat),l.length - i = m → i ≤ l.length → Ev (fun k => impl_Net_back.l0 k l (l.length : Int) (i : Int) n ((back l).take i)) (n,back l):=by
 intro m
 induction m with
 | zero =>
  intro i hd hi;refine Ev.go ?_ (fun k => by rw [impl_Net_back.l0]);refine Ev.neg (by omega) (Ev.is ?_);rw [List.take_of_length_le (by rw [back_len]; omega)]
 | succ m ih =>
  intro i hd hi;have hlt : i < l.length:=by omega
  refine Ev.go ?_ (fun k => by rw [impl_Net_back.l0]);have ih:=ih (i + 1) (by omega) (by omega);have hlt2 : i < (back l).length:=by rw [back_len]; exact hlt
  rw [List.take_succ_eq_append_getElem hlt2,← arc_get hlt2,back_arc hlt] at ih;rw [up1 hlt (by simp only [maxLen]; omega),rda];exact Ev.pos (by omega) (Ev.pos (by omega) (Ev.pos (by omega) (Ev.pos (by simp; omega) ih)))
theorem implBack_ev (n : Int) (l : List Arc) (hm : l.length ≤ 1000) : Ev (fun k => impl_Net_back.f k n l) (n,back l):=by
 unfold impl_Net_back.f
 exact Ev.pos (by omega) (Ev.pos (by omega) (by simpa using implBack_l n l hm _ 0 rfl (Nat.zero_le _)))
theorem implNetBack_ev {n : Int} {l : List Arc} (h : NetGood n l) : Ev (fun k => impl_NetBack.f k n l) (n,back l):=by
 unfold impl_NetBack.f
 have:=h.len;exact Ev.bind0 (show impl_NetOk.f n l = some (netOkB n l) from rfl) (Ev.pos ((netOkB_iff n l).2 h) (Ev.bind (implBack_ev n l (by omega)) (Ev.now _)))
def lst (n : Nat) (F : Nat → Int) : List Int:=(List.range n).map F
theorem lst_len (n : Nat) (F : Nat → Int) : (lst n F).length = n:=by simp [lst]
theorem lst_nth {n v : Nat} (F : Nat → Int) (h : v < n) : nth (lst n F) v = F v:=by
 simp [nth,lst,h]
theorem lst_rd {n v : Nat} (F : Nat → Int) (h : v < n) : rd (lst n F) (v : Int) = F v:=by rw [rdg,lst_nth F h]
theorem lst_congr {n : Nat} {F G : Nat → Int} (h : ∀ v,v < n → F v = G v) : lst n F = lst n G:=by
 unfold lst
 exact List.map_congr_left (fun v hv => h v (List.mem_range.1 hv))
theorem lst_snoc (n : Nat) (F : Nat → Int) : lst n F ++ [F n] = lst (n + 1) F:=by
 simp [lst,List.range_succ]
def upd (F : Nat → Int) (a : Nat) (x : Int) : Nat → Int:=fun v => if v = a then x else F v
theorem lst_set {n a : Nat} (F : Nat → Int) (x : Int) : (lst n F).set a x = lst n (upd F a x):=by
 apply List.ext_getElem (by simp [lst])
 intro i h1 h2;have hi : i < n:=by simpa [lst] using h2
 simp only [List.getElem_set]
 by_cases e : a = i
 case pos => subst e; simp [lst,upd]
 simp [lst,upd,e,show ¬ i = a from fun h => e h.symm]
inductive Conn (E : Nat → Nat → Prop) : Nat → Nat → Prop
 | refl (v : Nat) : Conn E v v
 | tail {u v w : Nat} : Conn E u v → (E v w ∨ E w v) → Conn E u w
end Go.Proofs.Ytlhmljngjdfbpaa.Pure
end
section
set_option linter.unusedSectionVars false
namespace Go.Proofs.Ytlhmljngjdfbpaa.Sp
structure G where
 n : Nat
 m : Nat
 fr : Nat → Nat
 tw : Nat → Nat
 w : Nat → Int
 use : Nat → Bool
structure G.Ok (g : G) : Prop where
 fl : ∀ i,i < g.m → g.fr i < g.n
 tl : ∀ i,i < g.m → g.tw i < g.n
 w0 : ∀ i,i < g.m → 0 ≤ g.w i
inductive Wk (g : G) : Nat → Nat → Nat → Int → Prop
 | nil (v : Nat) : Wk g v v 0 0
 | cons {i v k : Nat} {c : Int} : i < g.m → g.use i = true → Wk g (g.tw i) v k c → Wk g (g.fr i) v (k + 1) (g.w i + c)
theorem Wk.cast {g : G} {u v k k' : Nat} {c c' : Int} (h : Wk g u v k c) (hk : k = k') (hc : c = c') : Wk g u v k' c':=by
 subst hk; subst hc; exact h
theorem Wk.nonneg {g : G} (ok : g.Ok) {u v k : Nat} {c : Int} (h : Wk g u v k c) : 0 ≤ c:=by
 induction h with
 | nil => omega
 | cons hi _ _ ih => have:=ok.w0 _ hi; omega
theorem nodup_len : ∀ (n : Nat) (l : List Nat),l.Nodup → (∀ x ∈ l,x < n) → l.length ≤ n:=by
 intro n
 induction n with
 | zero =>
  intro l _ h;cases l with
  | nil => simp
  | cons a l => exact absurd (h a (by simp)) (by omega)
 | succ n ih =>
  intro l hn h;have h1:=ih (l.erase n) (hn.erase n) (fun x hx => by
   have h2:=h x (List.mem_of_mem_erase hx);have h3 : x ≠ n:=by
    rintro rfl;exact (List.Nodup.not_mem_erase hn) hx
   omega)
  have:=List.length_erase_le (a:=n) (l:=l);have h4 : l.length ≤ (l.erase n).length + 1:=by
   rw [List.length_erase]
   split <;> omega
  omega
inductive Sm (g : G) (t : Nat) : Nat → List Nat → Nat → Int → Prop
 | nil : Sm g t t [t] 0 0
 | cons {i k : Nat} {L : List Nat} {c : Int} : i < g.m → g.use i = true → Sm g t (g.tw i) L k c → g.fr i ∉ L → Sm g t (g.fr i) (g.fr i :: L) (k + 1) (g.w i + c)
theorem Sm.wk {g : G} {t u k : Nat} {L : List Nat} {c : Int} (h : Sm g t u L k c) : Wk g u t k c:=by
 induction h with
 | nil => exact .nil _
 | cons hi hu _ _ ih => exact .cons hi hu ih
theorem Sm.facts {g : G} (ok : g.Ok) {t u k : Nat} (ht : t < g.n) {L : List Nat} {c : Int} (h : Sm g t u L k c) : L.Nodup ∧ (∀ x ∈ L,x < g.n) ∧ L.length = k + 1:=by
 induction h with
 | nil => simp [ht]
 | cons hi _ _ hn ih =>
  refine ⟨List.nodup_cons.2 ⟨hn,ih.1⟩,?_,by simp [ih.2.2]⟩;intro x hx
  rcases List.mem_cons.1 hx with rfl | hx
  ·exact ok.fl _ hi
  ·exact ih.2.1 x hx
theorem Sm.tail {g : G} (ok : g.Ok) {t u k : Nat} {L : List Nat} {c : Int} (h : Sm g t u L k c) {x : Nat} (hx : x ∈ L) : ∃ L' k' c',Sm g t x L' k' c' ∧ k' ≤ k ∧ c' ≤ c:=by
 induction h with
 | nil =>
  obtain rfl : x = t:=by simpa using hx
  exact ⟨_,_,_,.nil,Nat.le_refl _,Int.le_refl _⟩
 | cons hi hu h hn ih =>
  rcases List.mem_cons.1 hx with rfl | hx
  ·exact ⟨_,_,_,.cons hi hu h hn,Nat.le_refl _,Int.le_refl _⟩
  ·obtain ⟨L',k',c',h1,h2,h3⟩:=ih hx;have:=ok.w0 _ hi;exact ⟨L',k',c',h1,by omega,by omega⟩
theorem Wk.simple {g : G} (ok : g.Ok) {u v k : Nat} {c : Int} (h : Wk g u v k c) : ∃ L k' c',Sm g v u L k' c' ∧ k' ≤ k ∧ c' ≤ c:=by
 induction h with
 | nil v => exact ⟨_,_,_,.nil,Nat.le_refl _,Int.le_refl _⟩
 | @cons i v k c hi hu h ih =>
  obtain ⟨L,k',c',h1,h2,h3⟩:=ih
  by_cases hm : g.fr i ∈ L
  case neg => exact ⟨_,_,_,.cons hi hu h1 hm,by omega,by omega⟩
  obtain ⟨L'',k'',c'',h4,h5,h6⟩:=h1.tail ok hm;have:=ok.w0 _ hi;exact ⟨L'',k'',c'',h4,by omega,by omega⟩
theorem Wk.short {g : G} (ok : g.Ok) {u v k : Nat} (hv : v < g.n) {c : Int} (h : Wk g u v k c) : ∃ k' c',Wk g u v k' c' ∧ k' < g.n ∧ k' ≤ k ∧ c' ≤ c:=by
 obtain ⟨L,k',c',h1,h2,h3⟩:=h.simple ok;obtain ⟨f1,f2,f3⟩:=h1.facts ok hv;have:=nodup_len _ _ f1 f2;exact ⟨k',c',h1.wk,by omega,h2,h3⟩
def Opt (g : G) (t : Nat) (L : Nat → Option Int) : Prop:=∀ v,v < g.n → (∀ x,L v = some x → ∃ k,Wk g v t k x) ∧ (∀ k c,Wk g v t k c → ∃ x,L v = some x ∧ x ≤ c)
theorem Opt.uniq {g : G} {t : Nat} {L L' : Nat → Option Int} (h : Opt g t L) (h' : Opt g t L') : ∀ v,v < g.n → L v = L' v:=by
 intro v hv;obtain ⟨a,b⟩:=h v hv;obtain ⟨a',b'⟩:=h' v hv;cases e : L v with
 | none =>
  cases e' : L' v with
  | none => rfl
  | some y =>
   obtain ⟨k,hk⟩:=a' y e';obtain ⟨x,hx,_⟩:=b k y hk;rw [e] at hx; cases hx
 | some x =>
  obtain ⟨k,hk⟩:=a x e;obtain ⟨y,hy,h1⟩:=b' k x hk;obtain ⟨k',hk'⟩:=a' y hy;obtain ⟨x',hx',h2⟩:=b k' y hk';rw [e] at hx';obtain rfl:=Option.some.inj hx';rw [hy]
  congr 1
  omega
def lts (a : Int) : Option Int → Bool
 | none => true
 | some y => decide (a < y)
def put (L : Nat → Option Int) (a : Nat) (x : Int) : Nat → Option Int:=fun v => if v = a then some x else L v
def relax (g : G) (L : Nat → Option Int) (i : Nat) : Nat → Option Int :=
 if g.use i = true then
  match L (g.tw i) with
  | none => L
  | some x => if lts (x + g.w i) (L (g.fr i)) = true then put L (g.fr i) (x + g.w i) else L
 else L
theorem relax_cases (g : G) (L : Nat → Option Int) (i : Nat) : (relax g L i = L ∧ (g.use i = true → ∀ x,L (g.tw i) = some x → lts (x + g.w i) (L (g.fr i)) = false)) ∨ (g.use i = true ∧ ∃ x,L (g.tw i) = some x ∧ lts (x + g.w i) (L (g.fr i)) = true ∧ relax g L i = put L (g.fr i) (x + g.w i)):=by
 unfold relax
 by_cases hu : g.use i = true
 case neg =>
  rw [if_neg hu];exact .inl ⟨rfl,fun h => absurd h hu⟩
 rw [if_pos hu];cases e : L (g.tw i) with
 | none => exact .inl ⟨rfl,fun _ x hx => by cases hx⟩
 | some x =>
  dsimp only
  by_cases hl : lts (x + g.w i) (L (g.fr i)) = true
  case pos =>
   rw [if_pos hl];exact .inr ⟨hu,x,rfl,hl,rfl⟩
  rw [if_neg hl];refine .inl ⟨rfl,fun _ y hy => ?_⟩;obtain rfl:=Option.some.inj hy
  simpa using hl
def sweep (g : G) (L : Nat → Option Int) : Nat → (Nat → Option Int)
 | 0 => L
 | i + 1 => relax g (sweep g L i) i
def Le (a b : Option Int) : Prop:=∀ y,b = some y → ∃ x,a = some x ∧ x ≤ y
theorem Le.refl (a : Option Int) : Le a a:=fun y h => ⟨y,h,Int.le_refl _⟩
theorem Le.trans {a b c : Option Int} (h : Le a b) (k : Le b c) : Le a c:=by
 intro y hy;obtain ⟨x,hx,h1⟩:=k y hy;obtain ⟨z,hz,h2⟩:=h x hx;exact ⟨z,hz,by omega⟩
theorem put_same (L : Nat → Option Int) (a : Nat) (x : Int) : put L a x a = some x:=by simp [put]
theorem put_far (L : Nat → Option Int) {a v : Nat} (x : Int) (h : v ≠ a) : put L a x v = L v:=by simp [put,h]
theorem relax_le (g : G) (L : Nat → Option Int) (i v : Nat) : Le (relax g L i v) (L v):=by
 rcases relax_cases g L i with ⟨e,_⟩ | ⟨_,x,hx,hl,e⟩
 ·rw [e]; exact Le.refl _
 ·rw [e]
  by_cases hv : v = g.fr i
  case neg => rw [put_far _ _ hv]; exact Le.refl _
  subst hv;rw [put_same];intro y hy;rw [hy] at hl;exact ⟨_,rfl,by simp [lts] at hl; omega⟩
theorem relax_arc (g : G) (L : Nat → Option Int) (i : Nat) (hu : g.use i = true) {x : Int} (hx : L (g.tw i) = some x) : Le (relax g L i (g.fr i)) (some (x + g.w i)):=by
 intro y hy;obtain rfl:=Option.some.inj hy
 unfold relax
 rw [if_pos hu,hx];dsimp only
 split
 ·exact ⟨_,by simp [put],Int.le_refl _⟩
 ·rename_i hl;cases e : L (g.fr i) with
  | none => rw [e] at hl; simp [lts] at hl
  | some z => rw [e] at hl; exact ⟨z,rfl,by simp [lts] at hl; omega⟩
theorem sweep_le (g : G) (L : Nat → Option Int) (i s v : Nat) : Le (sweep g L (i + s) v) (sweep g L i v):=by
 induction s with
 | zero => exact Le.refl _
 | succ s ih => exact (relax_le g _ _ v).trans ih
theorem sweep_arc (g : G) (L : Nat → Option Int) {i : Nat} (hi : i < g.m) (hu : g.use i = true) {x : Int} (hx : L (g.tw i) = some x) : ∃ y,sweep g L g.m (g.fr i) = some y ∧ y ≤ x + g.w i:=by
 have h0:=sweep_le g L 0 i (g.tw i);rw [Nat.zero_add] at h0;obtain ⟨x',hx',h1⟩:=h0 x hx;have h2:=relax_arc g (sweep g L i) i hu hx';have h3:=sweep_le g L (i + 1) (g.m - (i + 1)) (g.fr i);rw [show i + 1 + (g.m - (i + 1)) = g.m by omega] at h3;obtain ⟨y,hy,h4⟩:=(h3.trans h2) _ rfl;exact ⟨y,hy,by omega⟩
def Real (g : G) (t : Nat) (L : Nat → Option Int) : Prop:=∀ v x,L v = some x → ∃ k,Wk g v t k x
theorem relax_real {g : G} {t : Nat} {L : Nat → Option Int} (h : Real g t L) {i : Nat} (hi : i < g.m) : Real g t (relax g L i):=by
 intro v x hx
 rcases relax_cases g L i with ⟨e,_⟩ | ⟨hu,y,hy,hl,e⟩
 ·rw [e] at hx; exact h v x hx
 ·rw [e] at hx
  by_cases hv : v = g.fr i
  case neg => rw [put_far _ _ hv] at hx; exact h v x hx
  subst hv;rw [put_same] at hx;obtain rfl:=Option.some.inj hx;obtain ⟨k,hk⟩:=h _ _ hy;exact ⟨k + 1,(Wk.cons hi hu hk).cast rfl (by omega)⟩
theorem sweep_real {g : G} {t : Nat} {L : Nat → Option Int} (h : Real g t L) : ∀ i,i ≤ g.m → Real g t (sweep g L i):=by
 intro i
 induction i with
 | zero => exact fun _ => h
 | succ i ih => exact fun hi => relax_real (ih (by omega)) (by omega)
theorem opt_of_fix {g : G} {t : Nat} {L : Nat → Option Int} (h : Real g t L) (ht : Le (L t) (some 0)) (hf : ∀ v,sweep g L g.m v = L v) : Opt g t L:=by
 intro v hv0;clear hv0;refine ⟨fun x hx => h v x hx,fun k c hw => ?_⟩;clear h
 induction hw with
 | nil =>
  obtain ⟨x,hx,h1⟩:=ht 0 rfl;exact ⟨x,hx,h1⟩
 | cons hi hu _ ih =>
  obtain ⟨x,hx,h1⟩:=ih ht;obtain ⟨y,hy,h2⟩:=sweep_arc g L hi hu hx;rw [hf] at hy;exact ⟨y,hy,by omega⟩
def start (t : Nat) : Nat → Option Int:=fun v => if v = t then some 0 else none
def rounds (g : G) (t : Nat) : Nat → (Nat → Option Int)
 | 0 => start t
 | r + 1 => sweep g (rounds g t r) g.m
theorem start_real (g : G) (t : Nat) : Real g t (start t):=by
 intro v x hx
 unfold start at hx
 split at hx
 ·rename_i e;obtain rfl:=Option.some.inj hx;subst e;exact ⟨0,.nil _⟩
 ·cases hx
theorem rounds_real (g : G) (t : Nat) : ∀ r,Real g t (rounds g t r):=by
 intro r
 induction r with
 | zero => exact start_real g t
 | succ r ih => exact sweep_real ih _ (Nat.le_refl _)
theorem rounds_le (g : G) (t r s v : Nat) : Le (rounds g t (r + s) v) (rounds g t r v):=by
 induction s with
 | zero => exact Le.refl _
 | succ s ih =>
  have:=sweep_le g (rounds g t (r + s)) 0 g.m v;rw [Nat.zero_add] at this;exact this.trans ih
theorem rounds_t (g : G) (t r : Nat) : Le (rounds g t r t) (some 0):=by
 have:=rounds_le g t 0 r t;rw [Nat.zero_add] at this;exact this.trans (by simp [rounds,start]; exact Le.refl _)
theorem rounds_walk {g : G} {t r u k : Nat} {c : Int} (h : Wk g u t k c) (hk : k ≤ r) : ∃ x,rounds g t r u = some x ∧ x ≤ c:=by
 induction h generalizing r with
 | nil => exact rounds_t g _ r 0 rfl
 | cons hi hu _ ih =>
  obtain ⟨r,rfl⟩ : ∃ q,r = q + 1:=⟨r - 1,by omega⟩
  obtain ⟨x,hx,h1⟩:=ih (r:=r) (by omega);obtain ⟨y,hy,h2⟩:=sweep_arc g _ hi hu hx;exact ⟨y,hy,by omega⟩
theorem rounds_opt {g : G} (ok : g.Ok) {t r : Nat} (ht : t < g.n) (hr : g.n ≤ r + 1) : Opt g t (rounds g t r):=by
 intro v _;refine ⟨fun x hx => rounds_real g t r v x hx,fun k c hw => ?_⟩;obtain ⟨k',c',h1,h2,h3,h4⟩:=hw.short ok ht;obtain ⟨x,hx,h5⟩:=rounds_walk (r:=r) h1 (by omega);exact ⟨x,hx,by omega⟩
theorem relax_none {g : G} {L : Nat → Option Int} (hn : ∀ v,g.n ≤ v → L v = none) (ok : g.Ok) {i : Nat} (hi : i < g.m) : ∀ v,g.n ≤ v → relax g L i v = none:=by
 intro v hv
 rcases relax_cases g L i with ⟨e,_⟩ | ⟨_,x,hx,hl,e⟩
 ·rw [e]; exact hn v hv
 ·rw [e,put_far _ _ (by have:=ok.fl i hi; omega)]; exact hn v hv
theorem sweep_none {g : G} {L : Nat → Option Int} (ok : g.Ok) (hn : ∀ v,g.n ≤ v → L v = none) : ∀ i,i ≤ g.m → ∀ v,g.n ≤ v → sweep g L i v = none:=by
 intro i
 induction i with
 | zero => exact fun _ => hn
 | succ i ih => exact fun hi => relax_none (ih (by omega)) ok (by omega)
theorem rounds_none {g : G} (ok : g.Ok) {t : Nat} (ht : t < g.n) : ∀ r v,g.n ≤ v → rounds g t r v = none:=by
 intro r
 induction r with
 | zero => intro v hv; simp [rounds,start]; omega
 | succ r ih => exact sweep_none ok ih _ (Nat.le_refl _)
theorem rounds_fix {g : G} (ok : g.Ok) {t r : Nat} (ht : t < g.n) (hr : g.n ≤ r + 1) : ∀ v,rounds g t (r + 1) v = rounds g t r v:=by
 intro v
 by_cases hv : v < g.n
 case pos => exact (rounds_opt ok ht (by omega)).uniq (rounds_opt ok ht hr) v hv
 rw [rounds_none ok ht _ v (by omega),rounds_none ok ht _ v (by omega)]
theorem sweep_same {g : G} {L : Nat → Option Int} (h : ∀ v,sweep g L g.m v = L v) {i : Nat} (hi : i ≤ g.m) : ∀ v,sweep g L i v = L v:=by
 intro v;have h1:=sweep_le g L 0 i v;have h2:=sweep_le g L i (g.m - i) v;rw [Nat.zero_add] at h1;rw [show i + (g.m - i) = g.m by omega,h v] at h2;cases e : L v with
 | none =>
  cases e' : sweep g L i v with
  | none => rfl
  | some y =>
   obtain ⟨x,hx,_⟩:=h2 y e';rw [e] at hx; cases hx
 | some x =>
  obtain ⟨y,hy,a1⟩:=h1 x (by simpa [sweep] using e);obtain ⟨x',hx',a2⟩:=h2 y hy;rw [e] at hx';obtain rfl:=Option.some.inj hx';rw [hy]; congr 1; omega
end Go.Proofs.Ytlhmljngjdfbpaa.Sp
namespace Go.Proofs.Ytlhmljngjdfbpaa.Sp
structure Dbl (g e s : G) (D : Nat → Option Int) : Prop where
 en : e.n = g.n
 em : e.m = g.m
 ef : e.fr = g.fr
 et : e.tw = g.tw
 eu : e.use = g.use
 ew : ∀ i,i < g.m → e.w i = 1000 * g.w i + 1
 sn : s.n = g.n
 sm : s.m = g.m
 sf : s.fr = g.fr
 st : s.tw = g.tw
 sw : ∀ i,i < g.m → s.w i = 1
 su : ∀ i,i < g.m → (s.use i = true ↔ g.use i = true ∧ ∃ x,D (g.tw i) = some x ∧ D (g.fr i) = some (g.w i + x))
def both (D S : Nat → Option Int) : Nat → Option Int:=fun v =>
 match D v with
 | none => none
 | some d => match S v with
  | none => none
  | some k => some (1000 * d + k)
section
variable {g e s : G} {t : Nat} {D S : Nat → Option Int} (h : Dbl g e s D) (ok : g.Ok) (hD : Opt g t D) (hS : Opt s t S) (ht : t < g.n)
include h
theorem Dbl.okS (ok : g.Ok) : s.Ok:=by
 refine ⟨?_,?_,?_⟩
 ·rw [h.sf,h.sm,h.sn]; exact ok.fl
 ·rw [h.st,h.sm,h.sn]; exact ok.tl
 ·intro i hi;rw [h.sm] at hi;rw [h.sw i hi]; omega
theorem Dbl.toE {u v k : Nat} {c : Int} (w : Wk g u v k c) : Wk e u v k (1000 * c + k):=by
 induction w with
 | nil => exact (Wk.nil _).cast rfl (by omega)
 | @cons i v k c hi hu _ ih =>
  have h1 : Wk e (e.tw i) v k (1000 * c + k):=by rw [h.et]; exact ih
  have h2:=Wk.cons (i:=i) (by rw [h.em]; exact hi) (by rw [h.eu]; exact hu) h1;rw [h.ef,h.ew i hi] at h2;exact h2.cast rfl (by omega)
theorem Dbl.ofE {u v k : Nat} {c : Int} (w : Wk e u v k c) : ∃ c',Wk g u v k c' ∧ c = 1000 * c' + k:=by
 induction w with
 | nil => exact ⟨0,.nil _,by omega⟩
 | @cons i v k c hi hu _ ih =>
  obtain ⟨c',h1,h2⟩:=ih;rw [h.em] at hi;rw [h.eu] at hu;rw [h.et] at h1;refine ⟨g.w i + c',?_,by rw [h.ew i hi]; omega⟩;rw [h.ef];exact .cons hi hu h1
theorem Dbl.ofS (hD : Opt g t D) (ht : t < g.n) (ok : g.Ok) {u k : Nat} {c : Int} (w : Wk s u t k c) : ∃ d,D u = some d ∧ Wk g u t k d ∧ c = k:=by
 generalize ev : t = v at w
 induction w with
 | nil v =>
  subst ev;obtain ⟨x,hx,h1⟩:=(hD t ht).2 0 0 (.nil _);obtain ⟨k,hk⟩:=(hD t ht).1 x hx;have:=hk.nonneg ok;have e0 : x = 0:=by omega
  subst e0;exact ⟨0,hx,.nil _,rfl⟩
 | @cons i v k c hi hu _ ih =>
  obtain ⟨d,h1,h2,h3⟩:=ih ev;rw [h.sm] at hi;obtain ⟨g1,x,g2,g3⟩:=(h.su i hi).1 hu;rw [h.st] at h1 h2;rw [g2] at h1;obtain rfl:=Option.some.inj h1;rw [h.sf];exact ⟨_,g3,.cons hi g1 h2,by rw [h.sw i hi,h3]; omega⟩
theorem Dbl.toS (hD : Opt g t D) (ok : g.Ok) {u k : Nat} {c : Int} (w : Wk g u t k c) (hc : D u = some c) : Wk s u t k k:=by
 generalize ev : t = v at w
 induction w with
 | nil => exact .nil _
 | @cons i v k c hi hu w ih =>
  subst ev;obtain ⟨x,hx,h1⟩:=(hD _ (ok.tl i hi)).2 k c w;obtain ⟨j,hj⟩:=(hD _ (ok.tl i hi)).1 x hx;obtain ⟨y,hy,h2⟩:=(hD _ (ok.fl i hi)).2 _ _ (Wk.cons hi hu hj);rw [hc] at hy;obtain rfl:=Option.some.inj hy;have ex : x = c:=by omega
  subst ex;have h3:=ih hx rfl;rw [← h.st] at h3;have h4:=Wk.cons (i:=i) (by rw [h.sm]; exact hi) ((h.su i hi).2 ⟨hu,x,hx,hc⟩) h3;rw [h.sf,h.sw i hi] at h4;exact h4.cast rfl (by omega)
theorem Dbl.some (hD : Opt g t D) (hS : Opt s t S) (ht : t < g.n) (ok : g.Ok) {v : Nat} (hv : v < g.n) {d : Int} (hd : D v = .some d) : ∃ k : Nat,S v = .some (k : Int) ∧ k < g.n ∧ Wk s v t k k:=by
 obtain ⟨k,hk⟩:=(hD v hv).1 d hd;have w:=h.toS hD ok hk hd;obtain ⟨x,hx,h1⟩:=(hS v (by rw [h.sn]; exact hv)).2 _ _ w;obtain ⟨j,hj⟩:=(hS v (by rw [h.sn]; exact hv)).1 x hx;obtain ⟨d',e1,e2,e3⟩:=h.ofS hD ht ok hj;obtain ⟨j',c',w1,w2,w3,w4⟩:=hj.short (h.okS ok) (by rw [h.sn]; exact ht);obtain ⟨y,hy,h5⟩:=(hS v (by rw [h.sn]; exact hv)).2 _ _ w1;rw [hx] at hy;obtain rfl:=Option.some.inj hy;obtain ⟨_,_,_,e5⟩:=h.ofS hD ht ok w1;rw [h.sn] at w2;exact ⟨j,by rw [hx,e3],by omega,e3 ▸ hj⟩
theorem Dbl.opt (hD : Opt g t D) (hS : Opt s t S) (ht : t < g.n) (ok : g.Ok) (h8 : g.n ≤ 1000) : Opt e t (both D S):=by
 intro v hv;rw [h.en] at hv;constructor
 ·intro x hx
  unfold both at hx
  cases ed : D v with
  | none => rw [ed] at hx; cases hx
  | some d =>
   obtain ⟨k,hk,h1,h2⟩:=h.some hD hS ht ok hv ed;rw [ed,hk] at hx;obtain rfl:=Option.some.inj hx;obtain ⟨d',g1,g2,g3⟩:=h.ofS hD ht ok h2;rw [ed] at g1;obtain rfl:=Option.some.inj g1;exact ⟨k,h.toE g2⟩
 ·intro k c w;obtain ⟨c',w1,rfl⟩:=h.ofE w;obtain ⟨d,hd,h1⟩:=(hD v hv).2 _ _ w1;obtain ⟨j,hj,h2,h3⟩:=h.some hD hS ht ok hv hd;refine ⟨1000 * d + j,by simp [both,hd,hj],?_⟩
  by_cases e0 : d = c'
  case neg => omega
  subst e0;have w2:=h.toS hD ok w1 hd;obtain ⟨x,hx,h4⟩:=(hS v (by rw [h.sn]; exact hv)).2 _ _ w2;rw [hj] at hx;obtain rfl:=Option.some.inj hx;omega
end
end Go.Proofs.Ytlhmljngjdfbpaa.Sp
end
section
set_option linter.unusedSimpArgs false
set_option linter.unusedVariables false
set_option linter.unusedSectionVars false
namespace Go.Proofs.Ytlhmljngjdfbpaa.Pure
open Go.RowKit Go.Proofs.Ytlhmljngjdfbpaa.Pr Go.Proofs.YtlhmljngjdfbpaaW.PrintWords Go.Proofs.YtlhmljngjdfbpaaW.PrintLast Go.Proofs.YtlhmljngjdfbpaaW.PrintMore
open Go.Proofs.Ytlhmljngjdfbpaa.Sp (G Wk Opt lts put relax sweep rounds start Dbl)
def gr (N : Nat) (l : List Arc) : G:=⟨N,l.length,fun i => (arc l i).f0.toNat,fun i => (arc l i).f1.toNat,fun i => (arc l i).f2,fun _ => true⟩
def grE (N : Nat) (l : List Arc) : G:={ gr N l with w:=fun i => 1000 * (arc l i).f2 + 1 }
def grS (N : Nat) (l : List Arc) (D : Nat → Option Int) : G:={ gr N l with w:=fun _ => 1,use:=fun i => match D (arc l i).f1.toNat with | none => false | some x => decide (D (arc l i).f0.toNat = some ((arc l i).f2 + x)) }
section
variable {N : Nat} {l : List Arc} (hg : NetGood N l)
include hg
theorem gr_ok : (gr N l).Ok:=⟨fun i hi => by have:=hg.ok i hi; show (arc l i).f0.toNat < N; omega,fun i hi => by have:=hg.ok i hi; show (arc l i).f1.toNat < N; omega,fun i hi => by have:=hg.ok i hi; show 0 ≤ (arc l i).f2; omega⟩
theorem grE_ok : (grE N l).Ok:=⟨fun i hi => by have:=hg.ok i hi; show (arc l i).f0.toNat < N; omega,fun i hi => by have:=hg.ok i hi; show (arc l i).f1.toNat < N; omega,fun i hi => by have:=hg.ok i hi; show 0 ≤ 1000 * (arc l i).f2 + 1; omega⟩
theorem grS_ok (D : Nat → Option Int) : (grS N l D).Ok:=⟨fun i hi => by have:=hg.ok i hi; show (arc l i).f0.toNat < N; omega,fun i hi => by have:=hg.ok i hi; show (arc l i).f1.toNat < N; omega,fun i hi => by show (0 : Int) ≤ 1; omega⟩
end
theorem dbl (N : Nat) (l : List Arc) (D : Nat → Option Int) : Dbl (gr N l) (grE N l) (grS N l D) D:=by
 refine ⟨rfl,rfl,rfl,rfl,rfl,fun i _ => rfl,rfl,rfl,rfl,rfl,fun i _ => rfl,fun i _ => ?_⟩
 show (match D (arc l i).f1.toNat with | none => false | some x => decide (D (arc l i).f0.toNat = some ((arc l i).f2 + x))) = true ↔ _
 cases e : D (arc l i).f1.toNat with
 | none =>
  refine ⟨fun h => (by cases h),fun ⟨_,x,h,_⟩ => ?_⟩;have h : D (arc l i).f1.toNat = some x:=h;rw [e] at h; cases h
 | some x =>
  dsimp only;rw [decide_eq_true_iff];refine ⟨fun h => ⟨rfl,x,e,h⟩,fun ⟨_,y,h,h2⟩ => ?_⟩;have h : D (arc l i).f1.toNat = some y:=h;rw [e] at h;obtain rfl:=Option.some.inj h;exact h2
def dst (N : Nat) (l : List Arc) (t : Nat) : Nat → Option Int:=rounds (gr N l) t N
def stp (N : Nat) (l : List Arc) (t : Nat) : Nat → Option Int:=rounds (grS N l (dst N l t)) t N
section
variable {N : Nat} {l : List Arc} (hg : NetGood N l) {t : Nat} (ht : t < N)
include hg ht
theorem dst_opt : Opt (gr N l) t (dst N l t):=Sp.rounds_opt (gr_ok hg) ht (by show N ≤ N + 1; omega)
theorem stp_opt : Opt (grS N l (dst N l t)) t (stp N l t):=Sp.rounds_opt (grS_ok hg _) ht (by show N ≤ N + 1; omega)
theorem stp_some {v : Nat} (hv : v < N) {d : Int} (hd : dst N l t v = some d) : ∃ k : Nat,stp N l t v = some (k : Int) ∧ k < N:=by
 obtain ⟨k,h1,h2,_⟩:=(dbl N l (dst N l t)).some (dst_opt hg ht) (stp_opt hg ht) ht (gr_ok hg) hv hd;exact ⟨k,h1,h2⟩
theorem tow_both {v : Nat} (hv : v < N) : rounds (grE N l) t N v = Sp.both (dst N l t) (stp N l t) v:=by
 have h8:=hg.n8;have h1:=Sp.rounds_opt (g:=grE N l) (t:=t) (r:=N) (grE_ok hg) ht (by show N ≤ N + 1; omega);have h2:=(dbl N l (dst N l t)).opt (dst_opt hg ht) (stp_opt hg ht) ht (gr_ok hg) (by show N ≤ 1000; omega);exact h1.uniq h2 v hv
end
abbrev Msr:=S147
def ent : Option Int → Msr
 | none => ⟨99999,0⟩
 | some x => ⟨x / 1000,x % 1000⟩
def far : Option Int → Int
 | none => 99999
 | some x => x
def lstM (N : Nat) (F : Nat → Msr) : List Msr:=(List.range N).map F
theorem lstM_len (N : Nat) (F : Nat → Msr) : (lstM N F).length = N:=by simp [lstM]
theorem lstM_rd {N v : Nat} (F : Nat → Msr) (h : v < N) : rd_T147 (lstM N F) (v : Int) = F v:=by
 simp [rd_T147,lstM,h]
theorem lstM_congr {N : Nat} {F H : Nat → Msr} (h : ∀ v,v < N → F v = H v) : lstM N F = lstM N H:=by
 unfold lstM
 exact List.map_congr_left (fun v hv => h v (List.mem_range.1 hv))
theorem lstM_set {N a : Nat} (L : Nat → Option Int) (x : Int) : (lstM N (fun v => ent (L v))).set a (ent (some x)) = lstM N (fun v => ent (put L a x v)):=by
 apply List.ext_getElem (by simp [lstM])
 intro i h1 h2;simp only [List.getElem_set]
 by_cases e : a = i
 case pos => subst e; simp [lstM,put]
 simp [lstM,put,e,show ¬ i = a from fun h => e h.symm]
theorem less_eq (a b c d : Int) : impl_measure_less.f a b c d = some (decide (a < c ∨ a = c ∧ b < d)):=by
 unfold impl_measure_less.f
 by_cases h : a < c
 case pos => rw [if_pos h,decide_eq_true (.inl h)]
 rw [if_neg h]
 by_cases h2 : a = c
 case neg => rw [if_neg h2,decide_eq_false (fun h3 => h3.elim h (fun h4 => h2 h4.1))]
 rw [if_pos h2]
 congr 1
 simp only [decide_eq_decide];exact ⟨fun h3 => .inr ⟨h2,h3⟩,fun h3 => h3.elim (fun h4 => absurd h4 h) (fun h4 => h4.2)⟩
def Bd (s : Nat) (L : Nat → Option Int) : Prop:=∀ v x,L v = some x → 0 ≤ x ∧ x / 1000 ≤ 99 * (s : Int) ∧ x % 1000 ≤ (s : Int)
theorem Bd.relax {N : Nat} {l : List Arc} (hg : NetGood N l) {s : Nat} {L : Nat → Option Int} (h : Bd s L) (hs : s < 900) {i : Nat} (hi : i < l.length) : Bd (s + 1) (relax (grE N l) L i):=by
 obtain ⟨_,_,_,⟨a1,a2⟩,_⟩:=hg.ok i hi;intro v x hx
 rcases Sp.relax_cases (grE N l) L i with ⟨e,_⟩ | ⟨_,y,hy,hl,e⟩
 ·rw [e] at hx; have:=h v x hx; omega
 ·rw [e] at hx
  by_cases hv : v = (grE N l).fr i
  case neg => rw [Sp.put_far _ _ hv] at hx; have:=h v x hx; omega
  subst hv;rw [Sp.put_same] at hx;have hx : some (y + (1000 * (arc l i).f2 + 1)) = some x:=hx;obtain rfl:=Option.some.inj hx;have:=h _ _ hy;omega
theorem Bd.sweep {N : Nat} {l : List Arc} (hg : NetGood N l) {s : Nat} {L : Nat → Option Int} (h : Bd s L) : ∀ i,i ≤ l.length → s + i ≤ 900 → Bd (s + i) (sweep (grE N l) L i):=by
 intro i
 induction i with
 | zero => exact fun _ _ => h
 | succ i ih => exact fun hi hs => (ih (by omega) (by omega)).relax hg (by omega) (by omega)
theorem Bd.mono {s r : Nat} {L : Nat → Option Int} (h : Bd s L) (hs : s ≤ r) : Bd r L:=fun v x hx => by have:=h v x hx; omega
theorem Bd.rounds {N : Nat} {l : List Arc} (hg : NetGood N l) (t : Nat) : ∀ r,r ≤ 9 → Bd (16 * r) (rounds (grE N l) t r):=by
 intro r
 induction r with
 | zero =>
  intro _ v x hx
  unfold Sp.rounds Sp.start at hx
  split at hx
  ·obtain rfl:=Option.some.inj hx; omega
  ·cases hx
 | succ r ih =>
  intro hr;have:=hg.len;exact ((ih (by omega)).sweep hg l.length (Nat.le_refl _) (by omega)).mono (by omega)
def hit (g : G) (L : Nat → Option Int) (i : Nat) : Bool:=match L (g.tw i) with
 | none => false
 | some x => lts (x + g.w i) (L (g.fr i))
def fl (g : G) (L : Nat → Option Int) : Nat → Bool
 | 0 => false
 | i + 1 => fl g L i || hit g (sweep g L i) i
theorem relax_hit {g : G} {L : Nat → Option Int} {i : Nat} (h : hit g L i = false) : relax g L i = L:=by
 unfold hit at h
 unfold Sp.relax
 split
 ·cases e : L (g.tw i) with
  | none => rfl
  | some x => rw [e] at h; dsimp only at h ⊢; rw [h]; rfl
 ·rfl
theorem fl_none {g : G} {L : Nat → Option Int} : ∀ i,fl g L i = false → sweep g L i = L
 | 0,_ => rfl
 | i + 1,h => by
  have h : (fl g L i || hit g (sweep g L i) i) = false:=h;rw [Bool.or_eq_false_iff] at h
  show relax g (sweep g L i) i = L
  rw [relax_hit h.2,fl_none i h.1]
theorem fl_same {g : G} (hu : ∀ i,g.use i = true) {L : Nat → Option Int} (h : ∀ v,sweep g L g.m v = L v) : ∀ i,i ≤ g.m → fl g L i = false
 | 0,_ => rfl
 | i + 1,hi => by
  show (fl g L i || hit g (sweep g L i) i) = false
  rw [fl_same hu h i (by omega),Bool.false_or];have e1 : sweep g L i = L:=funext (Sp.sweep_same h (by omega));have e2 : relax g L i = L:=by
   have : sweep g L (i + 1) = L:=funext (Sp.sweep_same h hi);have e3 : sweep g L (i + 1) = relax g (sweep g L i) i:=rfl;rw [e3,e1] at this;exact this
  rw [e1]
  unfold hit
  unfold Sp.relax at e2
  rw [if_pos (hu i)] at e2;cases e : L (g.tw i) with
  | none => rfl
  | some x =>
   rw [e] at e2;dsimp only at e2 ⊢;cases hl : lts (x + g.w i) (L (g.fr i)) with
   | false => rfl
   | true =>
    rw [if_pos hl] at e2;have:=congrFun e2 (g.fr i);rw [Sp.put_same] at this;rw [← this] at hl;simp [Sp.lts] at hl
section
variable {N : Nat} {l : List Arc} (hg : NetGood N l)
include hg
theorem tow_l1 (L : Nat → Option Int) {s : Nat} (hs : s ≤ 700) (hL : Bd s L) {R : List Msr} : ∀ (m i : Nat),l.length - i = m → i ≤ l.length →
  Ev (fun k => impl_Net_toward.l0 k (lstM N (fun v => ent (sweep (grE N l) L l.length v))) (fl (grE N l) L l.length) N l) R →
  Ev (fun k => impl_Net_toward.l1 k (lstM N (fun v => ent (sweep (grE N l) L i v))) (fl (grE N l) L i) l (l.length : Int) (i : Int) N l) R:=by
 have h16:=hg.len;intro m
 induction m with
 | zero =>
  intro i hd hi h;have e : i = l.length:=by omega
  subst e;refine Ev.go ?_ (fun k => by rw [impl_Net_toward.l1]);exact Ev.neg (by omega) h
 | succ m ih =>
  intro i hd hi h;have hlt : i < l.length:=by omega
  have hn:=ih (i + 1) (by omega) (by omega) h;clear ih h;have hb:=hL.sweep hg i hi (by omega);obtain ⟨⟨a1,a2⟩,⟨a3,a4⟩,a5,⟨a6,a7⟩,_⟩:=hg.ok i hlt;have ef : (grE N l).fr i = (arc l i).f0.toNat:=rfl;have et : (grE N l).tw i = (arc l i).f1.toNat:=rfl;have ew : (grE N l).w i = 1000 * (arc l i).f2 + 1:=rfl;obtain ⟨f,hf⟩:=Int.eq_ofNat_of_zero_le a1;obtain ⟨t,ht⟩:=Int.eq_ofNat_of_zero_le a3;rw [hf,Int.toNat_natCast] at ef;rw [ht,Int.toNat_natCast] at et;have hfN : f < N:=by omega
  have htN : t < N:=by omega
  have hsw : sweep (grE N l) L (i + 1) = relax (grE N l) (sweep (grE N l) L i) i:=rfl;have hfl : fl (grE N l) L (i + 1) = (fl (grE N l) L i || hit (grE N l) (sweep (grE N l) L i) i):=rfl;rw [hsw,hfl] at hn;clear hsw hfl;generalize sweep (grE N l) L i = M at hn hb;generalize fl (grE N l) L i = b at hn;refine Ev.go ?_ (fun k => by rw [impl_Net_toward.l1]);rw [rda,up1 hlt (by simp only [maxLen]; omega),hf,ht,lstM_rd _ htN,lstM_rd _ hfN,lstM_len];refine Ev.pos (by omega) (Ev.pos (by omega) (Ev.pos (by omega) (Ev.pos (by omega) (Ev.pos (by omega) ?_))));cases et2 : M t with
  | none =>
   have hh : hit (grE N l) M i = false:=by unfold hit; rw [et,et2]
   rw [hh,relax_hit hh,Bool.or_false] at hn;exact Ev.pos rfl hn
  | some x =>
   have hx:=hb t x et2;have hq : 0 ≤ x / 1000:=by omega
   have hr : 0 ≤ x % 1000:=by omega
   have w1 : wrap64 (x / 1000 + (arc l i).f2) = x / 1000 + (arc l i).f2:=w64 (by omega) (by omega);have w2 : wrap64 (x % 1000 + 1) = x % 1000 + 1:=w64 (by omega) (by omega);have e1 : (x + (1000 * (arc l i).f2 + 1)) / 1000 = x / 1000 + (arc l i).f2:=by omega
   have e2 : (x + (1000 * (arc l i).f2 + 1)) % 1000 = x % 1000 + 1:=by omega
   have eent : (⟨x / 1000 + (arc l i).f2,x % 1000 + 1⟩ : Msr) = ent (some (x + (1000 * (arc l i).f2 + 1))):=by simp only [ent,e1,e2]
   have hne : ¬ ((ent (some x)).f0 = 99999):=by show ¬ (x / 1000 = 99999); omega
   have elts : decide ((x / 1000 + (arc l i).f2) < (ent (M f)).f0 ∨ (x / 1000 + (arc l i).f2) = (ent (M f)).f0 ∧ (x % 1000 + 1) < (ent (M f)).f1) = lts (x + (1000 * (arc l i).f2 + 1)) (M f):=by
    cases ef2 : M f with
    | none => exact decide_eq_true (.inl (by show x / 1000 + (arc l i).f2 < 99999; omega))
    | some y =>
     have hy:=hb f y ef2
     show decide (_ < y / 1000 ∨ _ = y / 1000 ∧ _ < y % 1000) = decide (_ < y)
     rw [decide_eq_decide];omega
   have hh : hit (grE N l) M i = lts (x + (1000 * (arc l i).f2 + 1)) (M f):=by unfold hit; rw [et,et2,ef,ew]
   have hre : relax (grE N l) M i = if lts (x + (1000 * (arc l i).f2 + 1)) (M f) = true then put M f (x + (1000 * (arc l i).f2 + 1)) else M:=by
    unfold Sp.relax
    rw [if_pos (show (grE N l).use i = true from rfl),et,et2,ef,ew]
   rw [hh,hre] at hn;clear hh hre;refine Ev.neg hne ?_
   show Ev (fun k => if 0 ≤ ((f : Nat) : Int) then _ else _) R
   rw [show (ent (some x)).f0 = x / 1000 from rfl,show (ent (some x)).f1 = x % 1000 from rfl,w1,w2,Int.toNat_natCast,eent,lstM_set];clear w1 w2 hne;refine Ev.pos (by omega) (Ev.pos (by omega) (Ev.bind0 (less_eq _ _ _ _) ?_));rw [elts];cases c : lts (x + (1000 * (arc l i).f2 + 1)) (M f) with
   | true =>
    rw [c,if_pos rfl,Bool.or_true] at hn;exact Ev.pos rfl hn
   | false =>
    rw [c,if_neg (by simp),Bool.or_false] at hn;exact Ev.neg (by simp) hn
theorem tow_l0 {t : Nat} (ht : t < N) : ∀ d r,r + d = N → Ev (fun k => impl_Net_toward.l0 k (lstM N (fun v => ent (rounds (grE N l) t r v))) true N l) (lstM N (fun v => ent (rounds (grE N l) t N v))):=by
 have h8:=hg.n8;have stop : ∀ r,r ≤ N → fl (grE N l) (rounds (grE N l) t r) l.length = false → lstM N (fun v => ent (rounds (grE N l) t (r + 1) v)) = lstM N (fun v => ent (rounds (grE N l) t N v)):=by
  intro r hr hf;have e:=fl_none l.length hf;have o1 : Opt (grE N l) t (rounds (grE N l) t r):=Sp.opt_of_fix (Sp.rounds_real _ _ _) (Sp.rounds_t _ _ _) (fun v => congrFun e v);have o2:=Sp.rounds_opt (g:=grE N l) (t:=t) (r:=N) (grE_ok hg) ht (by show N ≤ N + 1; omega);refine lstM_congr (fun v hv => ?_);have e2 : rounds (grE N l) t (r + 1) = rounds (grE N l) t r:=e;rw [e2,o1.uniq o2 v hv]
 intro d
 induction d with
 | zero =>
  intro r hr;obtain rfl : r = N:=by omega
  refine Ev.go ?_ (fun k => by rw [impl_Net_toward.l0]);refine Ev.pos rfl (tow_l1 hg (rounds (grE r l) t r) (s:=16 * r) (by omega) (Bd.rounds hg t r (by omega)) _ 0 rfl (Nat.zero_le _) ?_);have hf:=fl_same (g:=grE r l) (fun _ => rfl) (L:=rounds (grE r l) t r) (Sp.rounds_fix (grE_ok hg) ht (by show r ≤ r + 1; omega)) l.length (Nat.le_refl _);rw [hf];refine Ev.go ?_ (fun k => by rw [impl_Net_toward.l0]);exact Ev.neg (by simp) (Ev.is (stop r (Nat.le_refl _) hf))
 | succ d ih =>
  intro r hr;refine Ev.go ?_ (fun k => by rw [impl_Net_toward.l0]);refine Ev.pos rfl (tow_l1 hg (rounds (grE N l) t r) (s:=16 * r) (by omega) (Bd.rounds hg t r (by omega)) _ 0 rfl (Nat.zero_le _) ?_);cases hf : fl (grE N l) (rounds (grE N l) t r) l.length with
  | true => exact ih (r + 1) (by omega)
  | false =>
   refine Ev.go ?_ (fun k => by rw [impl_Net_toward.l0]);exact Ev.neg (by simp) (Ev.is (stop r (by omega) hf))
theorem tow_ev {t : Nat} (ht : t < N) : Ev (fun k => impl_Net_toward.f k N l (t : Int)) (lstM N (fun v => ent (rounds (grE N l) t N v))):=by
 have h8:=hg.n8
 unfold impl_Net_toward.f
 refine Ev.bind0 (rep_measure _ N (by omega)) ?_;refine Ev.pos (by omega) (Ev.pos (by simp; omega) ?_);have e : (List.replicate N (⟨99999,0⟩ : Msr)).set (t : Int).toNat ⟨0,0⟩ = lstM N (fun v => ent (rounds (grE N l) t 0 v)):=by
  apply List.ext_getElem (by simp [lstM])
  intro i h1 h2;simp only [Int.toNat_natCast,List.getElem_set]
  by_cases c : t = i
  case pos => subst c; simp [lstM,Sp.rounds,Sp.start,ent]
  simp [lstM,Sp.rounds,Sp.start,ent,c,show ¬ i = t from fun h => c h.symm]
 rw [e];exact tow_l0 hg ht N 0 (by omega)
theorem ent_far {t : Nat} (ht : t < N) {v : Nat} (hv : v < N) : (ent (rounds (grE N l) t N v)).f0 = far (dst N l t v):=by
 have h8:=hg.n8;rw [tow_both hg ht hv]
 unfold Sp.both
 cases e : dst N l t v with
 | none => rfl
 | some d =>
  obtain ⟨k,h1,h2⟩:=stp_some hg ht hv e;rw [h1]
  show (1000 * d + (k : Int)) / 1000 = d
  omega
end
theorem costs_l (N : Nat) (hN : N ≤ 64) (F : Nat → Msr) : ∀ (m i : Nat),N - i = m → i ≤ N → Ev (fun k => impl_costs.l0 k (lst i (fun v => (F v).f0)) (lstM N F) (N : Int) (i : Int)) (lst N (fun v => (F v).f0)):=by
 intro m
 induction m with
 | zero =>
  intro i hd hi;refine Ev.go ?_ (fun k => by rw [impl_costs.l0]);obtain rfl : i = N:=by omega
  exact Ev.neg (by omega) (Ev.now _)
 | succ m ih =>
  intro i hd hi;refine Ev.go ?_ (fun k => by rw [impl_costs.l0]);rw [up1 (show i < N by omega) (by simp only [maxLen]; omega),lstM_rd F (show i < N by omega),lst_snoc i (fun v => (F v).f0),lst_len,lstM_len];exact Ev.pos (by omega) (Ev.pos (by omega) (Ev.pos (by omega) (Ev.pos (by omega) (ih (i + 1) (by omega) (by omega)))))
theorem costs_ev (N : Nat) (hN : N ≤ 64) (F : Nat → Msr) : Ev (fun k => impl_costs.f k (lstM N F)) (lst N (fun v => (F v).f0)):=by
 unfold impl_costs.f
 rw [lstM_len];exact Ev.pos (by omega) (Ev.pos (by omega) (costs_l N hN F _ 0 rfl (Nat.zero_le _)))
theorem from_ev {N : Nat} {l : List Arc} (hg : NetGood N l) {s : Nat} (hs : s < N) : Ev (fun k => impl_Net_from.f k N l (s : Int)) (lst N (fun v => far (dst N (back l) s v))):=by
 have h8:=hg.n8;have h16:=hg.len
 unfold impl_Net_from.f
 refine Ev.bind (implBack_ev _ l (by omega)) (Ev.bind (tow_ev (back_good hg) hs) (Ev.bind (costs_ev N (by omega) _) (Ev.is ?_)));exact lst_congr (fun v hv => ent_far (back_good hg) hs hv)
end Go.Proofs.Ytlhmljngjdfbpaa.Pure
end
section
set_option linter.unusedSimpArgs false
set_option linter.unusedVariables false
namespace Go.Proofs.Ytlhmljngjdfbpaa.Pure
open Go.RowKit Go.Proofs.Ytlhmljngjdfbpaa.Pr Go.Proofs.YtlhmljngjdfbpaaW.PrintWords Go.Proofs.YtlhmljngjdfbpaaW.PrintLast Go.Proofs.YtlhmljngjdfbpaaW.PrintMore
def side (s v : Nat) : Bool:=s.testBit v
theorem shr_fin : ∀ (s : Fin 256) (v : Fin 8),((Int.tmod (shr .i64 ((s.val : Nat) : Int) ((v.val : Nat) : Int)) 2) == 1) = s.val.testBit v.val ∧ Go.bits .and .i64 (shr .i64 ((s.val : Nat) : Int) ((v.val : Nat) : Int)) 1 = (if s.val.testBit v.val then 1 else 0):=by decide +kernel
theorem shl_fin : ∀ (v : Fin 9),shl .i64 1 ((v.val : Nat) : Int) = ((2 ^ v.val : Nat) : Int):=by decide +kernel
theorem two8 {v : Nat} (h : v ≤ 8) : 2 ^ v ≤ 256:=by
 have : (2:Nat) ^ v ≤ 2 ^ 8:=Nat.pow_le_pow_right (by omega) h;omega
theorem side_spec {s v : Nat} (hs : s < 256) (hv : v < 8) : spec_l25Side.f (s : Int) (v : Int) = some (side s v):=by
 unfold spec_l25Side.f side
 rw [if_pos (by omega),(shr_fin ⟨s,hs⟩ ⟨v,hv⟩).1]
theorem side_bits {s v : Nat} (hs : s < 256) (hv : v < 8) : Go.bits .and .i64 (shr .i64 (s : Int) (v : Int)) 1 = if side s v = true then 1 else 0:=(shr_fin ⟨s,hs⟩ ⟨v,hv⟩).2
def outB (s : Nat) (a : Arc) : Bool:=side s a.f0.toNat && !side s a.f1.toNat
def cutTo (l : List Arc) (s : Nat) : Nat → Int
 | 0 => 0
 | i + 1 => cutTo l s i + if outB s (arc l i) = true then (arc l i).f4 else 0
theorem cutTo_bd {n : Int} {l : List Arc} (h : NetGood n l) (s : Nat) : ∀ i,i ≤ l.length → 0 ≤ cutTo l s i ∧ cutTo l s i ≤ 9 * (i : Int):=by
 intro i
 induction i with
 | zero => intro _; simp [cutTo]
 | succ i ih =>
  intro hi;have h1:=ih (by omega);have h2:=(h.ok i (by omega)).2.2.2.2.2;simp only [cutTo]
  split <;> omega
def cutOf (l : List Arc) (s : Nat) : Int:=cutTo l s l.length
theorem cutOf_bd {n : Int} {l : List Arc} (h : NetGood n l) (s : Nat) : 0 ≤ cutOf l s ∧ cutOf l s ≤ 144:=by
 have:=cutTo_bd h s l.length (by omega);have:=h.len
 unfold cutOf
 omega
theorem node8 {n : Int} {l : List Arc} (h : NetGood n l) {i : Nat} (hi : i < l.length) : (∃ v : Nat,(arc l i).f0 = (v : Int) ∧ v < 8) ∧ ∃ v : Nat,(arc l i).f1 = (v : Int) ∧ v < 8:=by
 have h1:=h.ok i hi;have:=h.n8;exact ⟨⟨(arc l i).f0.toNat,by omega,by omega⟩,⟨(arc l i).f1.toNat,by omega,by omega⟩⟩
theorem specCut_l {n : Int} {l : List Arc} (hg : NetGood n l) {s : Nat} (hs : s < 256) : ∀ (m i : Nat),l.length - i = m → i ≤ l.length → Ev (fun k => spec_l25Cut.l0 k (s : Int) (cutTo l s i) (i : Int) n l) (cutOf l s):=by
 have h16:=hg.len;intro m
 induction m with
 | zero =>
  intro i hd hi;refine Ev.go ?_ (fun k => by rw [spec_l25Cut.l0]);have e : i = l.length:=by omega
  subst e;exact Ev.neg (by omega) (Ev.now _)
 | succ m ih =>
  intro i hd hi;have hlt : i < l.length:=by omega
  have hn:=ih (i + 1) (by omega) (by omega);refine Ev.go ?_ (fun k => by rw [spec_l25Cut.l0]);refine Ev.pos (by omega) (Ev.pos (by omega) ?_);obtain ⟨⟨v0,e0,h0⟩,v1,e1,h1⟩:=node8 hg hlt;have hw : wrap64 (cutTo l s i + (arc l i).f4) = cutTo l s i + (arc l i).f4:=by
   have hb:=cutTo_bd hg s i (by omega);have hf:=(hg.ok i hlt).2.2.2.2.2;clear hn e0 e1;generalize cutTo l s i = c at *;generalize (arc l i).f4 = f at *;exact w64 (by omega) (by omega)
  have hu:=up1 hlt (by simp only [maxLen]; omega);rw [rda,e0,e1,hu,hw];simp only [cutTo,outB,e0,e1,Int.toNat_natCast] at hn;refine Ev.bind0 (side_spec hs h0) ?_;cases c0 : side s v0 with
  | false =>
   rw [c0] at hn;exact Ev.neg (by simp) (by simpa using hn)
  | true =>
   refine Ev.pos rfl (Ev.bind0 (side_spec hs h1) ?_);rw [c0] at hn;cases c1 : side s v1 with
   | true =>
    rw [c1] at hn;exact Ev.pos rfl (by simpa using hn)
   | false =>
    rw [c1] at hn;exact Ev.neg (by simp) (by simpa using hn)
theorem specCut_ev {n : Int} {l : List Arc} (hg : NetGood n l) {s : Nat} (hs : s < 256) : Ev (fun k => spec_l25Cut.f k n l (s : Int)) (cutOf l s):=specCut_l hg hs _ 0 rfl (by omega)
theorem implCut_l {n : Int} {l : List Arc} (hg : NetGood n l) {s : Nat} (hs : s < 256) : ∀ (m i : Nat),l.length - i = m → i ≤ l.length → Ev (fun k => impl_Net_cut.l0 k (s : Int) (cutTo l s i) l (l.length : Int) (i : Int)) (cutOf l s):=by
 have h16:=hg.len;intro m
 induction m with
 | zero =>
  intro i hd hi;refine Ev.go ?_ (fun k => by rw [impl_Net_cut.l0]);have e : i = l.length:=by omega
  subst e;exact Ev.neg (by omega) (Ev.now _)
 | succ m ih =>
  intro i hd hi;have hlt : i < l.length:=by omega
  have hn:=ih (i + 1) (by omega) (by omega);refine Ev.go ?_ (fun k => by rw [impl_Net_cut.l0]);refine Ev.pos (by omega) (Ev.pos (by omega) (Ev.pos (by omega) ?_));obtain ⟨⟨v0,e0,h0⟩,v1,e1,h1⟩:=node8 hg hlt;have hw : wrap64 (cutTo l s i + (arc l i).f4) = cutTo l s i + (arc l i).f4:=by
   have hb:=cutTo_bd hg s i (by omega);have hf:=(hg.ok i hlt).2.2.2.2.2;clear hn e0 e1;generalize cutTo l s i = c at *;generalize (arc l i).f4 = f at *;exact w64 (by omega) (by omega)
  have hu:=up1 hlt (by simp only [maxLen]; omega);rw [rda,e0,e1,hu,hw,side_bits hs h0,side_bits hs h1];simp only [cutTo,outB,e0,e1,Int.toNat_natCast] at hn;refine Ev.pos (by omega) ?_;cases c0 : side s v0 with
  | false =>
   rw [c0] at hn;exact Ev.neg (by simp) (by simpa using hn)
  | true =>
   refine Ev.pos rfl (Ev.pos (by omega) ?_);rw [c0] at hn;cases c1 : side s v1 with
   | true =>
    rw [c1] at hn;exact Ev.neg (by simp) (by simpa using hn)
   | false =>
    rw [c1] at hn;exact Ev.pos (by simp) (by simpa using hn)
theorem implCut_ev {n : Int} {l : List Arc} (hg : NetGood n l) {s : Nat} (hs : s < 256) : Ev (fun k => impl_Net_cut.f k n l (s : Int)) (cutOf l s):=implCut_l hg hs _ 0 rfl (by omega)
def mostTo (l : List Arc) (a b : Nat) : Nat → Int
 | 0 => -1
 | s + 1 => if side s a = true then (if side s b = true then mostTo l a b s else if mostTo l a b s < 0 then cutOf l s else if cutOf l s < mostTo l a b s then cutOf l s else mostTo l a b s) else mostTo l a b s
theorem specMost_l {n : Int} {l : List Arc} (hg : NetGood n l) {a b : Nat} (ha : a < 8) (hb : b < 8) {N : Nat} (hN : n = (N : Int)) : ∀ (m s : Nat),2 ^ N - s = m → s ≤ 2 ^ N → Ev (fun k => spec_FlowMost.l0 k (a : Int) (b : Int) (mostTo l a b s) (s : Int) n l) (mostTo l a b (2 ^ N)):=by
 have hN8 : N ≤ 8:=by have:=hg.n8; omega
 have h256:=two8 hN8;have hsh : shl .i64 1 n = ((2 ^ N : Nat) : Int):=by rw [hN]; exact shl_fin ⟨N,by omega⟩
 intro m
 induction m with
 | zero =>
  intro s hd hi;refine Ev.go ?_ (fun k => by rw [spec_FlowMost.l0]);have e : s = 2 ^ N:=by omega
  refine Ev.pos (by have:=hg.n1; omega) ?_;rw [hsh];subst e;exact Ev.neg (by omega) (Ev.now _)
 | succ m ih =>
  intro s hd hi;have hlt : s < 2 ^ N:=by omega
  have hn:=ih (s + 1) (by omega) (by omega);have hu : wrap64 ((s : Int) + 1) = ((s + 1 : Nat) : Int):=up1 hlt (by simp only [maxLen]; omega);rw [← hu] at hn;refine Ev.go ?_ (fun k => by rw [spec_FlowMost.l0]);refine Ev.pos (by have:=hg.n1; omega) ?_;rw [hsh];refine Ev.pos (by omega) (Ev.bind0 (side_spec (by omega) ha) ?_);simp only [mostTo] at hn;cases c0 : side s a with
  | false =>
   rw [c0] at hn;refine Ev.neg (by simp) (Ev.go ?_ (fun k => by rw [spec_FlowMost.j2]));exact Ev.neg (by simp) (by simpa using hn)
  | true =>
   rw [c0] at hn;refine Ev.pos rfl (Ev.bind0 (side_spec (by omega) hb) (Ev.go ?_ (fun k => by rw [spec_FlowMost.j2])));cases c1 : side s b with
   | true =>
    rw [c1] at hn;exact Ev.neg (by simp) (by simpa using hn)
   | false =>
    rw [c1] at hn;refine Ev.pos (by simp) (Ev.bind (specCut_ev hg (by omega)) ?_);simp only [Bool.false_eq_true,if_false,if_true] at hn
    by_cases c2 : mostTo l a b s < 0
    case pos =>
     rw [if_pos c2] at hn;exact Ev.pos c2 hn
    rw [if_neg c2] at hn;refine Ev.neg c2 ?_
    by_cases c3 : cutOf l s < mostTo l a b s
    case neg =>
     rw [if_neg c3] at hn;exact Ev.neg c3 hn
    rw [if_pos c3] at hn;exact Ev.pos c3 hn
theorem implMost_l {n : Int} {l : List Arc} (hg : NetGood n l) {a b : Nat} (ha : a < 8) (hb : b < 8) {N : Nat} (hN : n = (N : Int)) : ∀ (m s : Nat),2 ^ N - s = m → s ≤ 2 ^ N → Ev (fun k => impl_FlowMost.l0 k (a : Int) (b : Int) (mostTo l a b s) ((2 ^ N : Nat) : Int) (s : Int) n l) (mostTo l a b (2 ^ N)):=by
 have hN8 : N ≤ 8:=by have:=hg.n8; omega
 have h256:=two8 hN8;intro m
 induction m with
 | zero =>
  intro s hd hi;refine Ev.go ?_ (fun k => by rw [impl_FlowMost.l0]);have e : s = 2 ^ N:=by omega
  subst e;exact Ev.neg (by omega) (Ev.now _)
 | succ m ih =>
  intro s hd hi;have hlt : s < 2 ^ N:=by omega
  have hn:=ih (s + 1) (by omega) (by omega);have hu : wrap64 ((s : Int) + 1) = ((s + 1 : Nat) : Int):=up1 hlt (by simp only [maxLen]; omega);rw [← hu] at hn;refine Ev.go ?_ (fun k => by rw [impl_FlowMost.l0]);rw [side_bits (by omega) ha,side_bits (by omega) hb];refine Ev.pos (by omega) (Ev.pos (by omega) ?_);simp only [mostTo] at hn;cases c0 : side s a with
  | false =>
   rw [c0] at hn;exact Ev.neg (by simp) (by simpa using hn)
  | true =>
   rw [c0] at hn;refine Ev.pos rfl (Ev.pos (by omega) ?_);cases c1 : side s b with
   | true =>
    rw [c1] at hn;exact Ev.neg (by simp) (by simpa using hn)
   | false =>
    rw [c1] at hn;refine Ev.pos (by simp) ?_;simp only [Bool.false_eq_true,if_false,if_true] at hn
    by_cases c2 : mostTo l a b s < 0
    case pos =>
     rw [if_pos c2] at hn;exact Ev.pos c2 (Ev.bind (implCut_ev hg (by omega)) hn)
    rw [if_neg c2] at hn;refine Ev.neg c2 (Ev.bind (implCut_ev hg (by omega)) ?_)
    by_cases c3 : cutOf l s < mostTo l a b s
    case neg =>
     rw [if_neg c3] at hn;exact Ev.neg c3 hn
    rw [if_pos c3] at hn;exact Ev.pos c3 (Ev.bind (implCut_ev hg (by omega)) hn)
def mostB (n : Int) (l : List Arc) (a b : Int) : Bool:=netOkB n l && (okN n a && (okN n b && (a != b)))
def mostV (n : Int) (l : List Arc) (a b : Int) : Int:=if mostB n l a b = true then mostTo l a.toNat b.toNat (2 ^ n.toNat) else -1
theorem mostB_iff (n : Int) (l : List Arc) (a b : Int) : mostB n l a b = true ↔ NetGood n l ∧ (0 ≤ a ∧ a < n) ∧ (0 ≤ b ∧ b < n) ∧ a ≠ b:=by
 simp only [mostB,Bool.and_eq_true,netOkB_iff,okN,decide_eq_true_eq,bne_iff_ne];constructor
 ·rintro ⟨h1,⟨h2,h3⟩,⟨h4,h5⟩,h6⟩;exact ⟨h1,⟨h2,by omega⟩,⟨h4,by omega⟩,h6⟩
 ·rintro ⟨h1,⟨h2,h3⟩,⟨h4,h5⟩,h6⟩;exact ⟨h1,⟨h2,by omega⟩,⟨h4,by omega⟩,h6⟩
theorem inB_okN {n : Int} {l : List Arc} (h : NetGood n l) (a : Int) : inB a 0 (wrap64 (n - 1)) = okN n a:=by
 have:=h.n1;have:=h.n8;rw [w64 (by omega) (by omega)];rfl
theorem specMost_ev (n : Int) (l : List Arc) (a b : Int) (hm : l.length ≤ maxLen) : Ev (fun k => spec_FlowMost.f k n l a b) (mostV n l a b):=by
 unfold spec_FlowMost.f
 refine Ev.bind (l1Ok_ev n l hm) ?_;have key : ∀ x : Bool,x = mostB n l a b → Ev (fun k => spec_FlowMost.j0 k a b (-1) (!x) n l) (mostV n l a b):=by
  intro x hx;refine Ev.go ?_ (fun k => by rw [spec_FlowMost.j0])
  unfold mostV
  rw [← hx];cases x with
  | false => exact Ev.pos rfl (Ev.now _)
  | true =>
   obtain ⟨hg,ha,hb,hne⟩:=(mostB_iff n l a b).1 hx.symm;have h8:=hg.n8;refine Ev.neg (by simp) ?_;rw [if_pos rfl];have:=specMost_l hg (a:=a.toNat) (b:=b.toNat) (by omega) (by omega) (N:=n.toNat) (by omega) _ 0 rfl (Nat.zero_le _)
   rwa [show ((a.toNat : Nat) : Int) = a by omega,show ((b.toNat : Nat) : Int) = b by omega] at this
 cases c0 : netOkB n l with
 | false => exact Ev.neg (by simp) (key false (by simp [mostB,c0]))
 | true =>
  have hg:=(netOkB_iff n l).1 c0;refine Ev.pos rfl (Ev.bind0 (in1 _ _ _) ?_);rw [inB_okN hg];cases c1 : okN n a with
  | false => exact Ev.neg (by simp) (key false (by simp [mostB,c1]))
  | true =>
   refine Ev.pos rfl (Ev.bind0 (in1 _ _ _) ?_);rw [inB_okN hg];cases c2 : okN n b with
   | false => exact Ev.neg (by simp) (key false (by simp [mostB,c2]))
   | true =>
    refine Ev.pos rfl ?_;have:=key (a != b) (by simp [mostB,c0,c1,c2]);have e : (a == b) = !(a != b):=by simp [bne]
    rw [e];exact this
theorem implMost_ev (n : Int) (l : List Arc) (a b : Int) : Ev (fun k => impl_FlowMost.f k n l a b) (mostV n l a b):=by
 unfold impl_FlowMost.f
 refine Ev.bind0 (apart_eq n l a b) ?_
 unfold mostV
 change Ev (fun k => if mostB n l a b = true then _ else _) _
 cases hx : mostB n l a b with
 | false => exact Ev.neg (by simp) (Ev.now _)
 | true =>
  obtain ⟨hg,ha,hb,hne⟩:=(mostB_iff n l a b).1 hx;have h1:=hg.n1;have h8:=hg.n8;refine Ev.pos rfl (Ev.pos (by omega) ?_);rw [if_pos rfl];have:=implMost_l hg (a:=a.toNat) (b:=b.toNat) (by omega) (by omega) (N:=n.toNat) (by omega) _ 0 rfl (Nat.zero_le _);rw [show ((a.toNat : Nat) : Int) = a by omega,show ((b.toNat : Nat) : Int) = b by omega] at this;have hsh : shl .i64 1 n = ((2 ^ n.toNat : Nat) : Int):=by
   have:=shl_fin ⟨n.toNat,by omega⟩
   rwa [show ((n.toNat : Nat) : Int) = n by omega] at this
  rw [hsh];exact this
end Go.Proofs.Ytlhmljngjdfbpaa.Pure
end
section
set_option linter.unusedSimpArgs false
set_option linter.unusedVariables false
set_option linter.unusedVariables false
end
section
namespace Go.Proofs.Ytlhmljngjdfbpaa.Pr
open Go.RowKit Go.Proofs.YtlhmljngjdfbpaaW.PrintWords Go.Proofs.YtlhmljngjdfbpaaW.PrintLast Go.Proofs.YtlhmljngjdfbpaaW.PrintMore
attribute [local go_sem] max2_int min2_int max_two min_two max_three min_three max_four min_four
set_option linter.unusedVariables false
set_option linter.unusedSimpArgs false
open List renaming setIfInBounds_toArray → U,set_cons_zero → V,set_cons_succ → Z
open Go.Proofs.YtlhmljngjdfbpaaW.PrintWords.Aside0 renaming mk → zx
mutual
def spec_l25Ok.l0 : Nat → List Int → Int → Int → List Int → Int → Int → List (S58) → Option (Int × Bool)
 | 0,_,_,_,_,_,_,_ => none
 | k + 1,x1,x2,x3,x10,x11,r7,q0 => if x11 < (q0.length : Int) then (if 0 ≤ x11 then (if x11 < (x1.length : Int) then ((spec_l1In.f (rd x1 x11) 0 ((rd_T58 q0 x11).f4)).bind fun t755 => (if t755 = true then (if 0 ≤ ((rd_T58 q0 x11).f0) then (if ((rd_T58 q0 x11).f0) < (x10.length : Int) then ((some (x10.set (((rd_T58 q0 x11).f0) : Int).toNat (wrap64 ((rd x10 ((rd_T58 q0 x11).f0)) + (rd x1 x11))) : List Int)).bind fun y760 => (if 0 ≤ ((rd_T58 q0 x11).f1) then (if ((rd_T58 q0 x11).f1) < (x10.length : Int) then (spec_l25Ok.l0 k x1 x2 x3 (y760.set (((rd_T58 q0 x11).f1) : Int).toNat (wrap64 ((rd y760 ((rd_T58 q0 x11).f1)) - (rd x1 x11)))) (wrap64 (x11 + 1)) r7 q0) else (none)) else (none))) else (none)) else (none)) else (some (0,false)))) else (none)) else (none)) else (spec_l25Ok.l1 k x2 x3 x10 0 r7 q0)
def spec_l25Ok.l1 : Nat → Int → Int → List Int → Int → Int → List (S58) → Option (Int × Bool)
 | 0,_,_,_,_,_,_ => none
 | k + 1,x2,x3,x10,x12,r7,q0 => if x12 < r7 then (if 0 ≤ x12 then (if x12 < (x10.length : Int) then (if (rd x10 x12) = 0 then (spec_l25Ok.l1 k x2 x3 x10 (wrap64 (x12 + 1)) r7 q0) else (if x12 = x2 then (spec_l25Ok.l1 k x2 x3 x10 (wrap64 (x12 + 1)) r7 q0) else (if x12 = x3 then (spec_l25Ok.l1 k x2 x3 x10 (wrap64 (x12 + 1)) r7 q0) else (some (0,false))))) else (none)) else (none)) else (if 0 ≤ x2 then (if x2 < (x10.length : Int) then (some (rd x10 x2,true)) else (none)) else (none))
end
def spec_l25Ok.f (k : Nat) (a0_0 : Int) (l0_1 : List (S58)) (l1 : List Int) (a2 : Int) (a3 : Int) : Option (Int × Bool):=if 0 ≤ a0_0 then (if (a0_0 : Int).toNat ≤ 35184372088832 then (spec_l25Ok.l0 k l1 a2 a3 (List.replicate (a0_0 : Int).toNat 0) 0 a0_0 l0_1) else (none)) else (none)
def spec_FlowValue.f (k : Nat) (a0_0 : Int) (l0_1 : List (S58)) (l1 : List Int) (a2 : Int) (a3 : Int) : Option (Int × Bool):=(spec_l1Ok.f k a0_0 l0_1).bind fun t769 => (if t769 = true then ((spec_l1In.f a2 0 (wrap64 (a0_0 - 1))).bind fun t770 => (if t770 = true then ((spec_l1In.f a3 0 (wrap64 (a0_0 - 1))).bind fun t771 => (if t771 = true then (if a2 = a3 then (some (0,false)) else (if (l1.length : Int) = (l0_1.length : Int) then ((spec_l25Ok.f k a0_0 l0_1 l1 a2 a3).bind fun bt772 => (some (bt772.1,bt772.2))) else (some (0,false)))) else (some (0,false)))) else (some (0,false)))) else (some (0,false)))
end Go.Proofs.Ytlhmljngjdfbpaa.Pr
end
section
set_option linter.unusedSimpArgs false
set_option linter.unusedVariables false
namespace Go.Proofs.Ytlhmljngjdfbpaa.Pure
open Go.RowKit Go.Proofs.Ytlhmljngjdfbpaa.Pr Go.Proofs.YtlhmljngjdfbpaaW.PrintWords Go.Proofs.YtlhmljngjdfbpaaW.PrintLast Go.Proofs.YtlhmljngjdfbpaaW.PrintMore
def netTo (n : Int) (l : List Arc) (x : List Int) : Nat → List Int
 | 0 => List.replicate n.toNat 0
 | i + 1 =>
  let y:=(netTo n l x i).set (arc l i).f0.toNat (wrap64 (rd (netTo n l x i) (arc l i).f0 + nth x i))
  y.set (arc l i).f1.toNat (wrap64 (rd y (arc l i).f1 - nth x i))
theorem netTo_len (n : Int) (l : List Arc) (x : List Int) (i : Nat) : (netTo n l x i).length = n.toNat:=by
 induction i with
 | zero => simp [netTo]
 | succ i ih => simp [netTo,ih]
def EvenFrom (y : List Int) (a b : Int) (v : Nat) : Prop:=∀ j,j < y.length → v ≤ j → nth y j = 0 ∨ (j : Int) = a ∨ (j : Int) = b
def FitsFrom (l : List Arc) (x : List Int) (i : Nat) : Prop:=∀ j,j < l.length → i ≤ j → 0 ≤ nth x j ∧ nth x j ≤ (arc l j).f4
def ValueOk (n : Int) (l : List Arc) (x : List Int) (a b : Int) : Prop:=FitsFrom l x 0 ∧ EvenFrom (netTo n l x l.length) a b 0
open Classical in
noncomputable def valueV (n : Int) (l : List Arc) (x : List Int) (a b : Int) : Int × Bool:=if mostB n l a b = true ∧ x.length = l.length ∧ ValueOk n l x a b then (rd (netTo n l x l.length) a,true) else (0,false)
open Classical in
theorem specEven_l {n : Int} {l : List Arc} (hg : NetGood n l) {a b : Int} (ha : 0 ≤ a ∧ a < n) (y : List Int) (hy : y.length = n.toNat) : ∀ (m v : Nat),y.length - v = m → v ≤ y.length → Ev (fun k => spec_l25Ok.l1 k a b y (v : Int) n l) (if EvenFrom y a b v then (rd y a,true) else (0,false)):=by
 have h8:=hg.n8;have h1:=hg.n1;intro m
 induction m with
 | zero =>
  intro v hd hi;refine Ev.go ?_ (fun k => by rw [spec_l25Ok.l1]);refine Ev.neg (by omega) (Ev.pos (by omega) (Ev.pos (by omega) ?_));rw [if_pos (show EvenFrom y a b v from fun j h1 h2 => absurd h1 (by omega))];exact Ev.now _
 | succ m ih =>
  intro v hd hi;have hlt : v < y.length:=by omega
  have hn:=ih (v + 1) (by omega) (by omega);have step : EvenFrom y a b v ↔ (nth y v = 0 ∨ (v : Int) = a ∨ (v : Int) = b) ∧ EvenFrom y a b (v + 1):=by
   constructor
   ·exact fun h => ⟨h v hlt (Nat.le_refl _),fun j hj hij => h j hj (by omega)⟩
   ·intro h j hj hij
    by_cases e : j = v
    case pos => subst e; exact h.1
    exact h.2 j hj (by omega)
  rw [← up1 hlt (by simp only [maxLen]; omega)] at hn;refine Ev.go ?_ (fun k => by rw [spec_l25Ok.l1]);refine Ev.pos (by omega) (Ev.pos (by omega) (Ev.pos (by omega) ?_));rw [rdg v]
  by_cases c0 : nth y v = 0
  case pos => exact Ev.pos c0 (hn.cast (by rw [step]; simp [c0]))
  refine Ev.neg c0 ?_
  by_cases c1 : (v : Int) = a
  case pos => exact Ev.pos c1 (hn.cast (by rw [step]; simp [c1]))
  refine Ev.neg c1 ?_
  by_cases c2 : (v : Int) = b
  case pos => exact Ev.pos c2 (hn.cast (by rw [step]; simp [c2]))
  exact Ev.neg c2 (Ev.is (by rw [step]; simp [c0,c1,c2]))
open Classical in
theorem specVal_l {n : Int} {l : List Arc} (hg : NetGood n l) {a b : Int} (ha : 0 ≤ a ∧ a < n) (x : List Int) (hx : x.length = l.length) : ∀ (m i : Nat),l.length - i = m → i ≤ l.length → Ev (fun k => spec_l25Ok.l0 k x a b (netTo n l x i) (i : Int) n l) (if FitsFrom l x i ∧ EvenFrom (netTo n l x l.length) a b 0 then (rd (netTo n l x l.length) a,true) else (0,false)):=by
 have h16:=hg.len;intro m
 induction m with
 | zero =>
  intro i hd hi;have e : i = l.length:=by omega
  subst e;refine Ev.go ?_ (fun k => by rw [spec_l25Ok.l0]);refine Ev.neg (by omega) ((specEven_l hg ha _ (netTo_len n l x _) _ 0 rfl (Nat.zero_le _)).cast ?_);have : FitsFrom l x l.length:=fun j h1 h2 => absurd h1 (by omega)
  simp [this]
 | succ m ih =>
  intro i hd hi;have hlt : i < l.length:=by omega
  have hn:=ih (i + 1) (by omega) (by omega);have hlen:=netTo_len n l x i;have step : FitsFrom l x i ↔ (0 ≤ nth x i ∧ nth x i ≤ (arc l i).f4) ∧ FitsFrom l x (i + 1):=by
   constructor
   ·exact fun h => ⟨h i hlt (Nat.le_refl _),fun j hj hij => h j hj (by omega)⟩
   ·intro h j hj hij
    by_cases e : j = i
    case pos => subst e; exact h.1
    exact h.2 j hj (by omega)
  have h1:=hg.n1;refine Ev.go ?_ (fun k => by rw [spec_l25Ok.l0]);refine Ev.pos (by omega) (Ev.pos (by omega) (Ev.pos (by omega) (Ev.bind0 (in1 _ _ _) ?_)));rw [rda,rdg i];cases c0 : inB (nth x i) 0 (arc l i).f4 with
  | false =>
   refine Ev.neg (by simp) (Ev.is ?_);rw [if_neg];intro h;have:=inB_iff.2 (step.1 h.1).1;rw [c0] at this;simp at this
  | true =>
   have hf:=inB_iff.1 c0;have ho:=hg.ok i hlt;have hu:=up1 hlt (by simp only [maxLen]; omega);refine Ev.pos rfl ?_;have hl0 : (arc l i).f0 < ((netTo n l x i).length : Int):=by rw [hlen]; omega
   have hl1 : (arc l i).f1 < ((netTo n l x i).length : Int):=by rw [hlen]; omega
   refine Ev.pos ho.1.1 (Ev.pos hl0 (Ev.bind0 rfl (Ev.pos ho.2.1.1 (Ev.pos (by exact hl1) ?_))));rw [hu];refine hn.cast ?_;rw [step];simp [hf]
open Classical in
theorem implEven_l {n : Int} {l : List Arc} (hg : NetGood n l) {a b : Int} (ha : 0 ≤ a ∧ a < n) (y : List Int) (hy : y.length = n.toNat) : ∀ (m v : Nat),y.length - v = m → v ≤ y.length → Ev (fun k => impl_FlowValue.l1 k a b y (y.length : Int) (v : Int)) (if EvenFrom y a b v then (rd y a,true) else (0,false)):=by
 have h8:=hg.n8;have h1:=hg.n1;intro m
 induction m with
 | zero =>
  intro v hd hi;refine Ev.go ?_ (fun k => by rw [impl_FlowValue.l1]);refine Ev.neg (by omega) (Ev.pos (by omega) (Ev.pos (by omega) ?_));rw [if_pos (show EvenFrom y a b v from fun j h1 h2 => absurd h1 (by omega))];exact Ev.now _
 | succ m ih =>
  intro v hd hi;have hlt : v < y.length:=by omega
  have hn:=ih (v + 1) (by omega) (by omega);have step : EvenFrom y a b v ↔ (nth y v = 0 ∨ (v : Int) = a ∨ (v : Int) = b) ∧ EvenFrom y a b (v + 1):=by
   constructor
   ·exact fun h => ⟨h v hlt (Nat.le_refl _),fun j hj hij => h j hj (by omega)⟩
   ·intro h j hj hij
    by_cases e : j = v
    case pos => subst e; exact h.1
    exact h.2 j hj (by omega)
  rw [← up1 hlt (by simp only [maxLen]; omega)] at hn;refine Ev.go ?_ (fun k => by rw [impl_FlowValue.l1]);refine Ev.pos (by omega) (Ev.pos (by omega) (Ev.pos (by omega) ?_));rw [rdg v]
  by_cases c0 : nth y v = 0
  case pos => exact Ev.pos c0 (hn.cast (by rw [step]; simp [c0]))
  refine Ev.neg c0 ?_
  by_cases c1 : (v : Int) = a
  case pos => exact Ev.pos c1 (hn.cast (by rw [step]; simp [c1]))
  refine Ev.neg c1 ?_
  by_cases c2 : (v : Int) = b
  case pos => exact Ev.pos c2 (hn.cast (by rw [step]; simp [c2]))
  exact Ev.neg c2 (Ev.is (by rw [step]; simp [c0,c1,c2]))
open Classical in
theorem implVal_l {n : Int} {l : List Arc} (hg : NetGood n l) {a b : Int} (ha : 0 ≤ a ∧ a < n) (x : List Int) (hx : x.length = l.length) : ∀ (m i : Nat),l.length - i = m → i ≤ l.length → Ev (fun k => impl_FlowValue.l0 k x a b (netTo n l x i) l (l.length : Int) (i : Int)) (if FitsFrom l x i ∧ EvenFrom (netTo n l x l.length) a b 0 then (rd (netTo n l x l.length) a,true) else (0,false)):=by
 have h16:=hg.len;intro m
 induction m with
 | zero =>
  intro i hd hi;have e : i = l.length:=by omega
  subst e;refine Ev.go ?_ (fun k => by rw [impl_FlowValue.l0]);refine Ev.neg (by omega) ((implEven_l hg ha _ (netTo_len n l x _) _ 0 rfl (Nat.zero_le _)).cast ?_);have : FitsFrom l x l.length:=fun j h1 h2 => absurd h1 (by omega)
  simp [this]
 | succ m ih =>
  intro i hd hi;have hlt : i < l.length:=by omega
  have hn:=ih (i + 1) (by omega) (by omega);have hlen:=netTo_len n l x i;have step : FitsFrom l x i ↔ (0 ≤ nth x i ∧ nth x i ≤ (arc l i).f4) ∧ FitsFrom l x (i + 1):=by
   constructor
   ·exact fun h => ⟨h i hlt (Nat.le_refl _),fun j hj hij => h j hj (by omega)⟩
   ·intro h j hj hij
    by_cases e : j = i
    case pos => subst e; exact h.1
    exact h.2 j hj (by omega)
  have h1:=hg.n1;refine Ev.go ?_ (fun k => by rw [impl_FlowValue.l0]);refine Ev.pos (by omega) (Ev.pos (by omega) (Ev.pos (by omega) (Ev.pos (by omega) (Ev.bind0 (within1 _ _ _) ?_))));rw [rda,rdg i];cases c0 : inB (nth x i) 0 (arc l i).f4 with
  | false =>
   refine Ev.neg (by simp) (Ev.is ?_);rw [if_neg];intro h;have:=inB_iff.2 (step.1 h.1).1;rw [c0] at this;simp at this
  | true =>
   have hf:=inB_iff.1 c0;have ho:=hg.ok i hlt;have hu:=up1 hlt (by simp only [maxLen]; omega);refine Ev.pos rfl ?_;have hl0 : (arc l i).f0 < ((netTo n l x i).length : Int):=by rw [hlen]; omega
   have hl1 : (arc l i).f1 < ((netTo n l x i).length : Int):=by rw [hlen]; omega
   refine Ev.pos ho.1.1 (Ev.pos hl0 (Ev.bind0 rfl (Ev.pos ho.2.1.1 (Ev.pos (by exact hl1) ?_))));rw [hu];refine hn.cast ?_;rw [step];simp [hf]
theorem specValue_ev (n : Int) (l : List Arc) (x : List Int) (a b : Int) (hm : l.length ≤ maxLen) : Ev (fun k => spec_FlowValue.f k n l x a b) (valueV n l x a b):=by
 unfold spec_FlowValue.f
 have bad : mostB n l a b = false → valueV n l x a b = (0,false):=by
  intro h
  unfold valueV
  rw [if_neg (by simp [h])]
 refine Ev.bind (l1Ok_ev n l hm) ?_;cases c0 : netOkB n l with
 | false => exact Ev.neg (by simp) (Ev.is (bad (by simp [mostB,c0])).symm)
 | true =>
  have hg:=(netOkB_iff n l).1 c0;refine Ev.pos rfl (Ev.bind0 (in1 _ _ _) ?_);rw [inB_okN hg];cases c1 : okN n a with
  | false => exact Ev.neg (by simp) (Ev.is (bad (by simp [mostB,c1])).symm)
  | true =>
   refine Ev.pos rfl (Ev.bind0 (in1 _ _ _) ?_);rw [inB_okN hg];cases c2 : okN n b with
   | false => exact Ev.neg (by simp) (Ev.is (bad (by simp [mostB,c2])).symm)
   | true =>
    refine Ev.pos rfl ?_
    by_cases c3 : a = b
    case pos => exact Ev.pos c3 (Ev.is (bad (by simp [mostB,c3])).symm)
    refine Ev.neg c3 ?_;have hB : mostB n l a b = true:=by simp [mostB,c0,c1,c2,c3]
    obtain ⟨_,ha,hb,_⟩:=(mostB_iff n l a b).1 hB
    by_cases c4 : x.length = l.length
    case neg =>
     refine Ev.neg (by omega) (Ev.is ?_)
     unfold valueV
     rw [if_neg (by simp [c4])]
    refine Ev.pos (by omega) (Ev.bind (a:=valueV n l x a b) ?_ (Ev.now _))
    unfold spec_l25Ok.f
    have h1:=hg.n1;have h8:=hg.n8;refine Ev.pos (by omega) (Ev.pos (by omega) ?_);refine (specVal_l hg ha x c4 _ 0 rfl (Nat.zero_le _)).cast ?_
    unfold valueV
    by_cases hv : ValueOk n l x a b
    case pos => rw [if_pos (show FitsFrom l x 0 ∧ EvenFrom (netTo n l x l.length) a b 0 from hv),if_pos ⟨hB,c4,hv⟩]
    rw [if_neg (show ¬ (FitsFrom l x 0 ∧ EvenFrom (netTo n l x l.length) a b 0) from hv),if_neg (fun h => hv h.2.2)]
theorem implValue_ev (n : Int) (l : List Arc) (x : List Int) (a b : Int) : Ev (fun k => impl_FlowValue.f k n l x a b) (valueV n l x a b):=by
 unfold impl_FlowValue.f
 refine Ev.bind0 (apart_eq n l a b) ?_
 change Ev (fun k => if mostB n l a b = true then _ else _) _
 cases hB : mostB n l a b with
 | false =>
  refine Ev.neg (by simp) (Ev.go ?_ (fun k => by rw [impl_FlowValue.j0]));refine Ev.pos rfl (Ev.is ?_)
  unfold valueV
  rw [if_neg (by simp [hB])]
 | true =>
  obtain ⟨hg,ha,hb,_⟩:=(mostB_iff n l a b).1 hB;refine Ev.pos rfl (Ev.go ?_ (fun k => by rw [impl_FlowValue.j0]))
  by_cases c4 : x.length = l.length
  case neg =>
   refine Ev.pos (by simp; omega) (Ev.is ?_)
   unfold valueV
   rw [if_neg (by simp [c4])]
  have h1:=hg.n1;have h8:=hg.n8;refine Ev.neg (by simp [c4]) (Ev.pos (by omega) (Ev.pos (by omega) ?_));refine (implVal_l hg ha x c4 _ 0 rfl (Nat.zero_le _)).cast ?_
  unfold valueV
  by_cases hv : ValueOk n l x a b
  case pos => rw [if_pos (show FitsFrom l x 0 ∧ EvenFrom (netTo n l x l.length) a b 0 from hv),if_pos ⟨hB,c4,hv⟩]
  rw [if_neg (show ¬ (FitsFrom l x 0 ∧ EvenFrom (netTo n l x l.length) a b 0) from hv),if_neg (fun h => hv h.2.2)]
end Go.Proofs.Ytlhmljngjdfbpaa.Pure
end
section
set_option linter.unusedSectionVars false
namespace Go.Proofs.Ytlhmljngjdfbpaa.Fl
def sm (F : Nat → Int) : Nat → Int
 | 0 => 0
 | n + 1 => sm F n + F n
theorem sm_congr {F H : Nat → Int} {n : Nat} (h : ∀ i,i < n → F i = H i) : sm F n = sm H n:=by
 induction n with
 | zero => rfl
 | succ n ih => simp only [sm]; rw [ih (fun i hi => h i (by omega)),h n (by omega)]
theorem sm_add (F H : Nat → Int) (n : Nat) : sm (fun i => F i + H i) n = sm F n + sm H n:=by
 induction n with
 | zero => rfl
 | succ n ih => simp only [sm]; rw [ih]; omega
theorem sm_sub (F H : Nat → Int) (n : Nat) : sm (fun i => F i - H i) n = sm F n - sm H n:=by
 induction n with
 | zero => rfl
 | succ n ih => simp only [sm]; rw [ih]; omega
theorem sm_zero (n : Nat) : sm (fun _ => 0) n = 0:=by
 induction n with
 | zero => rfl
 | succ n ih => simp only [sm]; rw [ih]; rfl
theorem sm_le {F H : Nat → Int} {n : Nat} (h : ∀ i,i < n → F i ≤ H i) : sm F n ≤ sm H n:=by
 induction n with
 | zero => exact Int.le_refl _
 | succ n ih => simp only [sm]; have:=ih (fun i hi => h i (by omega)); have:=h n (by omega); omega
theorem sm_swap (F : Nat → Nat → Int) (n m : Nat) : sm (fun v => sm (F v) m) n = sm (fun i => sm (fun v => F v i) n) m:=by
 induction n with
 | zero => simp only [sm]; rw [sm_zero]
 | succ n ih => simp only [sm]; rw [ih,sm_add]
theorem sm_one (n a : Nat) (x : Int) (h : a < n) : sm (fun v => if v = a then x else 0) n = x:=by
 induction n with
 | zero => omega
 | succ n ih =>
  simp only [sm]
  by_cases e : a = n
  case neg =>
   rw [ih (by omega),if_neg (by omega)];omega
  subst e;rw [if_pos rfl,sm_congr (H:=fun _ => 0) (fun i hi => by rw [if_neg (by omega)]),sm_zero];omega
theorem sm_pick (n a : Nat) (S : Nat → Bool) (x : Int) (h : a < n) : sm (fun v => if S v = true then (if a = v then x else 0) else 0) n = if S a = true then x else 0:=by
 have : sm (fun v => if S v = true then (if a = v then x else 0) else 0) n = sm (fun v => if v = a then (if S a = true then x else 0) else 0) n:=by
  apply sm_congr
  intro v _
  by_cases e : v = a
  case pos => subst e; simp
  have e' : ¬ a = v:=fun h => e h.symm
  rw [if_neg e]; simp [e']
 rw [this,sm_one n a _ h]
section
variable {n m : Nat} {fr tw : Nat → Nat} {f : Nat → Int} (hf : ∀ i,i < m → fr i < n) (ht : ∀ i,i < m → tw i < n)
def net (m : Nat) (fr tw : Nat → Nat) (f : Nat → Int) (v : Nat) : Int:=sm (fun i => (if fr i = v then f i else 0) - (if tw i = v then f i else 0)) m
include hf ht
theorem net_set (S : Nat → Bool) : sm (fun v => if S v = true then net m fr tw f v else 0) n = sm (fun i => (if S (fr i) = true then f i else 0) - (if S (tw i) = true then f i else 0)) m:=by
 have h1 : sm (fun v => if S v = true then net m fr tw f v else 0) n = sm (fun v => sm (fun i => (if S v = true then (if fr i = v then f i else 0) else 0) - (if S v = true then (if tw i = v then f i else 0) else 0)) m) n:=by
  apply sm_congr
  intro v _
  by_cases e : S v = true
  case pos => simp only [e,if_true,net]
  simp only [e,if_false,Bool.false_eq_true];rw [show (fun i : Nat => (0 : Int) - 0) = fun _ => 0 from rfl,sm_zero]
 rw [h1,sm_swap]
 apply sm_congr
 intro i hi;rw [sm_sub,sm_pick n (fr i) S (f i) (hf i hi),sm_pick n (tw i) S (f i) (ht i hi)]
theorem net_cut {s t : Nat} (hs : s < n) (hz : ∀ v,v < n → v ≠ s → v ≠ t → net m fr tw f v = 0) (S : Nat → Bool) (h1 : S s = true) (h2 : S t = false) : net m fr tw f s = sm (fun i => (if S (fr i) = true then f i else 0) - (if S (tw i) = true then f i else 0)) m:=by
 rw [← net_set hf ht S];have : sm (fun v => if S v = true then net m fr tw f v else 0) n = sm (fun v => if v = s then net m fr tw f s else 0) n:=by
  apply sm_congr
  intro v hv
  by_cases e : v = s
  case pos => subst e; rw [if_pos h1,if_pos rfl]
  rw [if_neg e]
  split
  ·rename_i h3;exact hz v hv e (by rintro rfl; rw [h2] at h3; cases h3)
  ·rfl
 rw [this,sm_one n s _ hs]
end
def cut (m : Nat) (fr tw : Nat → Nat) (cap : Nat → Int) (S : Nat → Bool) : Int:=sm (fun i => if S (fr i) = true then (if S (tw i) = true then 0 else cap i) else 0) m
section
variable {n m : Nat} {fr tw : Nat → Nat} {f cap : Nat → Int} (hf : ∀ i,i < m → fr i < n) (ht : ∀ i,i < m → tw i < n) (h0 : ∀ i,i < m → 0 ≤ f i ∧ f i ≤ cap i) {s t : Nat} (hs : s < n) (hz : ∀ v,v < n → v ≠ s → v ≠ t → net m fr tw f v = 0)
include hf ht h0 hs hz
theorem value_le (S : Nat → Bool) (h1 : S s = true) (h2 : S t = false) : net m fr tw f s ≤ cut m fr tw cap S:=by
 rw [net_cut hf ht hs hz S h1 h2]
 apply sm_le
 intro i hi;have:=h0 i hi
 by_cases a : S (fr i) = true <;> by_cases b : S (tw i) = true <;> simp only [a,b,if_true,if_false,Bool.false_eq_true] <;> omega
theorem value_eq (S : Nat → Bool) (h1 : S s = true) (h2 : S t = false) (ho : ∀ i,i < m → S (fr i) = true → S (tw i) = false → f i = cap i) (hi : ∀ i,i < m → S (tw i) = true → S (fr i) = false → f i = 0) : net m fr tw f s = cut m fr tw cap S:=by
 rw [net_cut hf ht hs hz S h1 h2]
 apply sm_congr
 intro i h;have:=h0 i h
 by_cases a : S (fr i) = true
 case pos =>
  by_cases b : S (tw i) = true
  case pos => simp only [a,b,if_true]; omega
  have b : S (tw i) = false:=by simpa using b
  simp only [a,b,if_true,if_false,Bool.false_eq_true];have:=ho i h a b;omega
 have a : S (fr i) = false:=by simpa using a
 by_cases b : S (tw i) = true
 case neg => simp only [a,b,if_false,Bool.false_eq_true]; omega
 simp only [a,b,if_true,if_false,Bool.false_eq_true];have:=hi i h b a;omega
end
end Go.Proofs.Ytlhmljngjdfbpaa.Fl
end
section
set_option linter.unusedSimpArgs false
set_option linter.unusedSectionVars false
set_option linter.unusedVariables false
namespace Go.Proofs.Ytlhmljngjdfbpaa.Fl
def ud (F : Nat → Int) (a : Nat) (x : Int) : Nat → Int:=fun v => if v = a then x else F v
theorem ud_at (F : Nat → Int) (a : Nat) (x : Int) : ud F a x a = x:=by simp [ud]
theorem ud_off (F : Nat → Int) {a v : Nat} (x : Int) (h : v ≠ a) : ud F a x v = F v:=by simp [ud,h]
section
variable {m : Nat} {fr tw : Nat → Nat} {cap f : Nat → Int} {s : Nat}
def Came (m : Nat) (fr tw : Nat → Nat) (cap f : Nat → Int) (b : Int) (u v : Nat) : Prop:=(∃ i : Nat,i < m ∧ b = (i : Int) + 1 ∧ fr i = u ∧ tw i = v ∧ f i < cap i) ∨ (∃ i : Nat,i < m ∧ b = -(i : Int) - 1 ∧ tw i = u ∧ fr i = v ∧ 0 < f i)
structure Tr (m : Nat) (fr tw : Nat → Nat) (cap f : Nat → Int) (s : Nat) (b : Nat → Int) (L : List Nat) : Prop where
 nodup : L.Nodup
 root : s ∈ L
 up : ∀ p v q,L = p ++ v :: q → v ≠ s → ∃ u,u ∈ p ∧ Came m fr tw cap f (b v) u v
 none : ∀ v,v ∉ L ∨ v = s → b v = 0
theorem Tr.start : Tr m fr tw cap f s (fun _ => 0) [s]:=by
 refine ⟨by simp,by simp,fun p v q e hv => ?_,fun _ _ => rfl⟩;cases p with
 | nil => simp at e; exact absurd e.1.symm hv
 | cons a p => simp at e
theorem Tr.add {b : Nat → Int} {L : List Nat} (h : Tr m fr tw cap f s b L) {u v : Nat} {x : Int} (hu : u ∈ L) (hv : v ∉ L) (c : Came m fr tw cap f x u v) : Tr m fr tw cap f s (ud b v x) (L ++ [v]):=by
 have hvs : v ≠ s:=fun e => hv (by rw [e]; exact h.root)
 refine ⟨?_,List.mem_append_left _ h.root,fun p w q e hw => ?_,fun w hw => ?_⟩
 ·rw [List.nodup_append];exact ⟨h.nodup,by simp,fun a ha b hb e => hv (by rw [List.mem_singleton] at hb; rw [← hb,← e]; exact ha)⟩
 ·by_cases hq : q = []
  case pos =>
   subst hq;have e2:=List.append_inj' e (by simp);obtain ⟨rfl,e3⟩:=e2;have e4 : v = w:=by simpa using e3
   subst e4;exact ⟨u,hu,by rw [ud_at]; exact c⟩
  obtain ⟨q',y,rfl⟩ : ∃ q' y,q = q' ++ [y]:=⟨q.dropLast,q.getLast hq,(List.dropLast_concat_getLast hq).symm⟩
  have e1 : L ++ [v] = (p ++ w :: q') ++ [y]:=by rw [e]; simp
  have e3:=(List.append_inj' e1 (by simp)).1;have hwv : w ≠ v:=fun e => hv (by rw [e3,← e]; simp)
  rw [ud_off _ _ hwv];exact h.up p w q' e3 hw
 ·have hwv : w ≠ v:=by
   rcases hw with hw | hw
   ·exact fun e => hw (by rw [e]; simp)
   ·exact fun e => hvs (by rw [← e]; exact hw)
  rw [ud_off _ _ hwv];exact h.none w (hw.imp (fun h k => h (List.mem_append_left _ k)) id)
abbrev St:=(Nat → Int) × List Nat
variable (fr tw cap f)
def vis1 (u i : Nat) (st : St) : St:=if fr i = u ∧ f i < cap i ∧ tw i ∉ st.2 then (ud st.1 (tw i) ((i : Int) + 1),st.2 ++ [tw i]) else st
def vis2 (u i : Nat) (st : St) : St:=if tw i = u ∧ 0 < f i ∧ fr i ∉ st.2 then (ud st.1 (fr i) (-(i : Int) - 1),st.2 ++ [fr i]) else st
def vis (u i : Nat) (st : St) : St:=vis2 fr tw f u i (vis1 fr tw cap f u i st)
def visAll (u : Nat) : Nat → Nat → St → St
 | _,0,st => st
 | i,d + 1,st => visAll u (i + 1) d (vis fr tw cap f u i st)
def bfs (m : Nat) : Nat → Nat → St → St
 | 0,_,st => st
 | d + 1,h,st => if hh : h < st.2.length then bfs m d (h + 1) (visAll fr tw cap f st.2[h] 0 m st) else st
variable {fr tw cap f}
def Shut (m : Nat) (fr tw : Nat → Nat) (cap f : Nat → Int) (L : List Nat) (u : Nat) (lo hi : Nat) : Prop:=∀ i,lo ≤ i → i < hi → (fr i = u → f i < cap i → tw i ∈ L) ∧ (tw i = u → 0 < f i → fr i ∈ L)
theorem Shut.mono {L L' : List Nat} {u lo hi : Nat} (h : Shut m fr tw cap f L u lo hi) (k : ∀ x,x ∈ L → x ∈ L') : Shut m fr tw cap f L' u lo hi :=
 fun i h1 h2 => ⟨fun a b => k _ ((h i h1 h2).1 a b),fun a b => k _ ((h i h1 h2).2 a b)⟩
variable {N : Nat} (hf : ∀ i,i < m → fr i < N) (ht : ∀ i,i < m → tw i < N)
def Good (m : Nat) (fr tw : Nat → Nat) (cap f : Nat → Int) (s N : Nat) (st : St) : Prop:=Tr m fr tw cap f s st.1 st.2 ∧ ∀ v ∈ st.2,v < N
include hf ht
theorem vis1_good {u i : Nat} {st : St} (h : Good m fr tw cap f s N st) (hu : u ∈ st.2) (hi : i < m) : Good m fr tw cap f s N (vis1 fr tw cap f u i st) ∧ ∃ x,(vis1 fr tw cap f u i st).2 = st.2 ++ x:=by
 unfold vis1
 split
 ·rename_i c;refine ⟨⟨h.1.add hu c.2.2 (.inl ⟨i,hi,rfl,c.1,rfl,c.2.1⟩),fun v hv => ?_⟩,_,rfl⟩
  rcases List.mem_append.1 hv with h1 | h1
  ·exact h.2 v h1
  ·rw [List.mem_singleton.1 h1]; exact ht i hi
 ·exact ⟨h,[],by simp⟩
theorem vis2_good {u i : Nat} {st : St} (h : Good m fr tw cap f s N st) (hu : u ∈ st.2) (hi : i < m) : Good m fr tw cap f s N (vis2 fr tw f u i st) ∧ ∃ x,(vis2 fr tw f u i st).2 = st.2 ++ x:=by
 unfold vis2
 split
 ·rename_i c;refine ⟨⟨h.1.add hu c.2.2 (.inr ⟨i,hi,rfl,c.1,rfl,c.2.1⟩),fun v hv => ?_⟩,_,rfl⟩
  rcases List.mem_append.1 hv with h1 | h1
  ·exact h.2 v h1
  ·rw [List.mem_singleton.1 h1]; exact hf i hi
 ·exact ⟨h,[],by simp⟩
theorem vis_good {u i : Nat} {st : St} (h : Good m fr tw cap f s N st) (hu : u ∈ st.2) (hi : i < m) : Good m fr tw cap f s N (vis fr tw cap f u i st) ∧ (∃ x,(vis fr tw cap f u i st).2 = st.2 ++ x) ∧ Shut m fr tw cap f (vis fr tw cap f u i st).2 u i (i + 1):=by
 obtain ⟨g1,x1,e1⟩:=vis1_good hf ht h hu hi;obtain ⟨g2,x2,e2⟩:=vis2_good hf ht g1 (u:=u) (i:=i) (by rw [e1]; exact List.mem_append_left _ hu) hi;refine ⟨g2,⟨x1 ++ x2,by unfold vis; rw [e2,e1,List.append_assoc]⟩,fun j h1 h2 => ?_⟩;have : j = i:=by omega
 subst this;constructor
 ·intro a b
  unfold vis
  rw [e2];refine List.mem_append_left _ ?_
  by_cases c : tw j ∈ st.2
  case pos => rw [e1]; exact List.mem_append_left _ c
  unfold vis1
  rw [if_pos ⟨a,b,c⟩];simp
 ·intro a b
  unfold vis
  by_cases c : fr j ∈ (vis1 fr tw cap f u j st).2
  case pos => rw [e2]; exact List.mem_append_left _ c
  unfold vis2
  rw [if_pos ⟨a,b,c⟩];simp
theorem visAll_good {u : Nat} : ∀ (d i : Nat) (st : St),Good m fr tw cap f s N st → u ∈ st.2 → i + d ≤ m → Good m fr tw cap f s N (visAll fr tw cap f u i d st) ∧ (∃ x,(visAll fr tw cap f u i d st).2 = st.2 ++ x) ∧ Shut m fr tw cap f (visAll fr tw cap f u i d st).2 u i (i + d)
 | 0,i,st,h,_,_ => ⟨h,⟨[],by simp [visAll]⟩,fun j h1 h2 => by omega⟩
 | d + 1,i,st,h,hu,hd => by
  obtain ⟨g1,⟨x1,e1⟩,s1⟩:=vis_good hf ht h hu (i:=i) (by omega);obtain ⟨g2,⟨x2,e2⟩,s2⟩:=visAll_good d (i + 1) (vis fr tw cap f u i st) g1 (by rw [e1]; exact List.mem_append_left _ hu) (by omega);refine ⟨g2,⟨x1 ++ x2,by simp only [visAll]; rw [e2,e1,List.append_assoc]⟩,fun j h1 h2 => ?_⟩
  by_cases c : j = i
  case neg => exact s2 j (by omega) (by omega)
  exact (s1.mono (L':=(visAll fr tw cap f u i (d + 1) st).2) (fun y hy => by simp only [visAll]; rw [e2]; exact List.mem_append_left _ hy)) j h1 (by omega)
theorem bfs_good : ∀ (d h : Nat) (st : St),Good m fr tw cap f s N st → N ≤ d + h → (∀ u ∈ st.2.take h,Shut m fr tw cap f st.2 u 0 m) → Good m fr tw cap f s N (bfs fr tw cap f m d h st) ∧ ∀ u ∈ (bfs fr tw cap f m d h st).2,Shut m fr tw cap f (bfs fr tw cap f m d h st).2 u 0 m
 | 0,h,st,g,hd,hs => by
  have:=Sp.nodup_len N st.2 g.1.nodup g.2;refine ⟨g,fun u hu => hs u ?_⟩;rw [List.take_of_length_le (by omega)];exact hu
 | d + 1,h,st,g,hd,hs => by
  unfold bfs
  split
  ·rename_i hh;obtain ⟨g1,⟨x,e⟩,s1⟩:=visAll_good hf ht (u:=st.2[h]) m 0 st g (List.getElem_mem hh) (by omega);refine bfs_good d (h + 1) _ g1 (by omega) (fun u hu => ?_);rw [e,List.take_append_of_le_length (by omega),List.take_succ_eq_append_getElem hh] at hu
   rcases List.mem_append.1 hu with h1 | h1
   ·exact (hs u h1).mono (fun y hy => by rw [e]; exact List.mem_append_left _ hy)
   ·rw [List.mem_singleton.1 h1];rw [Nat.zero_add] at s1;exact s1
  ·rename_i hh;refine ⟨g,fun u hu => hs u ?_⟩;rw [List.take_of_length_le (by omega)];exact hu
omit hf ht
inductive Way (fr tw : Nat → Nat) (s : Nat) (b : Nat → Int) : Nat → List (Nat × Bool) → Prop
 | nil : Way fr tw s b s []
 | fwd {v i : Nat} {P : List (Nat × Bool)} : v ≠ s → b v = (i : Int) + 1 → tw i = v → Way fr tw s b (fr i) P → Way fr tw s b v ((i,true) :: P)
 | bck {v i : Nat} {P : List (Nat × Bool)} : v ≠ s → b v = -(i : Int) - 1 → fr i = v → Way fr tw s b (tw i) P → Way fr tw s b v ((i,false) :: P)
def dl (d : Bool) : Int:=if d = true then 1 else -1
def ap (f : Nat → Int) : List (Nat × Bool) → (Nat → Int)
 | [] => f
 | x :: P => ap (ud f x.1 (f x.1 + dl x.2)) P
def Fit (m : Nat) (cap f : Nat → Int) (x : Nat × Bool) : Prop:=x.1 < m ∧ (x.2 = true → f x.1 < cap x.1) ∧ (x.2 = false → 0 < f x.1)
theorem Tr.way {b : Nat → Int} {L : List Nat} (h : Tr m fr tw cap f s b L) : ∀ (n : Nat) (p : List Nat) (v : Nat) (q : List Nat),p.length ≤ n → L = p ++ v :: q → ∃ P,Way fr tw s b v P ∧ (P.map Prod.fst).Nodup ∧ ∀ x ∈ P,Fit m cap f x ∧ fr x.1 ∈ p ++ [v] ∧ tw x.1 ∈ p ++ [v]:=by
 intro n
 induction n with
 | zero =>
  intro p v q hp e;have : p = []:=List.length_eq_zero_iff.1 (by omega);subst this
  by_cases hv : v = s
  case pos => subst hv; exact ⟨[],.nil,by simp,by simp⟩
  obtain ⟨u,hu,_⟩:=h.up [] v q e hv;simp at hu
 | succ n ih =>
  intro p v q hp e
  by_cases hv : v = s
  case pos => subst hv; exact ⟨[],.nil,by simp,by simp⟩
  obtain ⟨u,hu,c⟩:=h.up p v q e hv;obtain ⟨p1,p2,ep⟩:=List.append_of_mem hu;have hvp : v ∉ p:=fun hm => by
   have hn:=h.nodup;rw [e] at hn;exact (List.nodup_append.1 hn).2.2 v hm v (List.mem_cons_self ..) rfl
  obtain ⟨P,w,hn,hP⟩:=ih p1 u (p2 ++ v :: q) (by rw [ep] at hp; simp at hp; omega) (by rw [e,ep]; simp);have hin : ∀ y,y ∈ p1 ++ [u] → y ∈ p:=fun y hy => by
   rw [ep]
   rcases List.mem_append.1 hy with h1 | h1
   ·exact List.mem_append_left _ h1
   ·rw [List.mem_singleton.1 h1]; simp
  have hL : ∀ x ∈ P,Fit m cap f x ∧ fr x.1 ∈ p ++ [v] ∧ tw x.1 ∈ p ++ [v]:=fun x hx => ⟨(hP x hx).1,List.mem_append_left _ (hin _ (hP x hx).2.1),List.mem_append_left _ (hin _ (hP x hx).2.2)⟩
  rcases c with ⟨i,hi,eb,e1,e2,hc⟩ | ⟨i,hi,eb,e1,e2,hc⟩
  ·refine ⟨(i,true) :: P,.fwd hv eb e2 (by rw [e1]; exact w),?_,fun x hx => ?_⟩
   ·rw [List.map_cons,List.nodup_cons];refine ⟨fun hm => ?_,hn⟩;obtain ⟨x,hx,ex⟩:=List.mem_map.1 hm;have h3:=hin _ (hP x hx).2.2;have ex : x.1 = i:=ex;rw [ex,e2] at h3;exact hvp h3
   ·rcases List.mem_cons.1 hx with rfl | hx
    ·exact ⟨⟨hi,fun _ => hc,fun h => by simp at h⟩,by show fr i ∈ _; rw [e1]; exact List.mem_append_left _ hu,by show tw i ∈ _; rw [e2]; simp⟩
    ·exact hL x hx
  ·refine ⟨(i,false) :: P,.bck hv eb e2 (by rw [e1]; exact w),?_,fun x hx => ?_⟩
   ·rw [List.map_cons,List.nodup_cons];refine ⟨fun hm => ?_,hn⟩;obtain ⟨x,hx,ex⟩:=List.mem_map.1 hm;have h3:=hin _ (hP x hx).2.1;have ex : x.1 = i:=ex;rw [ex,e2] at h3;exact hvp h3
   ·rcases List.mem_cons.1 hx with rfl | hx
    ·exact ⟨⟨hi,fun h => by simp at h,fun _ => hc⟩,by show fr i ∈ _; rw [e2]; simp,by show tw i ∈ _; rw [e1]; exact List.mem_append_left _ hu⟩
    ·exact hL x hx
theorem ap_fit : ∀ (P : List (Nat × Bool)) (f : Nat → Int),(P.map Prod.fst).Nodup → (∀ x ∈ P,Fit m cap f x) → (∀ i,i < m → 0 ≤ f i ∧ f i ≤ cap i) → ∀ i,i < m → 0 ≤ ap f P i ∧ ap f P i ≤ cap i
 | [],f,_,_,h => h
 | x :: P,f,hn,hx,h => by
  rw [List.map_cons,List.nodup_cons] at hn;have h1:=hx x (List.mem_cons_self ..);refine ap_fit P _ hn.2 (fun y hy => ?_) (fun i hi => ?_)
  ·have hne : y.1 ≠ x.1:=fun e => hn.1 (by rw [← e]; exact List.mem_map_of_mem hy)
   have:=hx y (List.mem_cons_of_mem _ hy)
   unfold Fit at this ⊢
   rw [ud_off _ _ hne];exact this
  ·have:=h i hi
   by_cases c : i = x.1
   case neg => rw [ud_off _ _ c]; exact this
   subst c;rw [ud_at]
   unfold dl
   cases hd : x.2 with
   | true => have:=h1.2.1 hd; rw [if_pos rfl]; omega
   | false => have:=h1.2.2 hd; rw [if_neg (by simp)]; omega
theorem net_ud (f : Nat → Int) {i : Nat} (hi : i < m) (c : Int) (w : Nat) : net m fr tw (ud f i (f i + c)) w = net m fr tw f w + ((if fr i = w then c else 0) - (if tw i = w then c else 0)):=by
 unfold net
 have e : sm (fun j => (if fr j = w then ud f i (f i + c) j else 0) - (if tw j = w then ud f i (f i + c) j else 0)) m = sm (fun j => ((if fr j = w then f j else 0) - (if tw j = w then f j else 0)) + (if j = i then ((if fr i = w then c else 0) - (if tw i = w then c else 0)) else 0)) m:=by
  apply sm_congr
  intro j hj
  by_cases e : j = i
  case neg => rw [ud_off _ _ e,if_neg e,Int.add_zero]
  subst e;rw [ud_at,if_pos rfl]
  by_cases a : fr j = w <;> by_cases b : tw j = w <;> simp only [a,b,if_true,if_false] <;> omega
 rw [e,sm_add,sm_one m i _ hi]
theorem ap_net {b : Nat → Int} {v : Nat} {P : List (Nat × Bool)} (h : Way fr tw s b v P) : ∀ (f : Nat → Int),(∀ x ∈ P,x.1 < m) → ∀ w,net m fr tw (ap f P) w = net m fr tw f w + ((if s = w then 1 else 0) - (if v = w then 1 else 0)):=by
 induction h with
 | nil => intro f _ w; show net m fr tw f w = _; omega
 | @fwd v i P hv _ e _ ih =>
  intro f hP w;have hi:=hP _ (List.mem_cons_self ..);have:=ih (ud f i (f i + 1)) (fun x hx => hP x (List.mem_cons_of_mem _ hx)) w
  show net m fr tw (ap (ud f i (f i + 1)) P) w = _
  rw [this,net_ud f hi,e]
  by_cases a : s = w <;> by_cases b : fr i = w <;> by_cases c : v = w <;> simp only [a,b,c,if_true,if_false] <;> omega
 | @bck v i P hv _ e _ ih =>
  intro f hP w;have hi:=hP _ (List.mem_cons_self ..);have:=ih (ud f i (f i + -1)) (fun x hx => hP x (List.mem_cons_of_mem _ hx)) w
  show net m fr tw (ap (ud f i (f i + -1)) P) w = _
  rw [this,net_ud f hi,e]
  by_cases a : s = w <;> by_cases b : tw i = w <;> by_cases c : v = w <;> simp only [a,b,c,if_true,if_false] <;> omega
end
end Go.Proofs.Ytlhmljngjdfbpaa.Fl
end
section
set_option linter.unusedSimpArgs false
set_option linter.unusedVariables false
set_option linter.unusedSectionVars false
namespace Go.Proofs.Ytlhmljngjdfbpaa.Pure
open Go.RowKit Go.Proofs.Ytlhmljngjdfbpaa.Pr Go.Proofs.YtlhmljngjdfbpaaW.PrintWords Go.Proofs.YtlhmljngjdfbpaaW.PrintLast Go.Proofs.YtlhmljngjdfbpaaW.PrintMore
open Go.Proofs.Ytlhmljngjdfbpaa.Fl (ud vis1 vis2 vis visAll bfs Tr Way Fit ap dl net cut Shut sm)
def frF (l : List Arc) (i : Nat) : Nat:=(arc l i).f0.toNat
def twF (l : List Arc) (i : Nat) : Nat:=(arc l i).f1.toNat
def capF (l : List Arc) (i : Nat) : Int:=(arc l i).f4
def iL (L : List Nat) : List Int:=L.map fun v => ((v : Nat) : Int)
theorem iL_len (L : List Nat) : (iL L).length = L.length:=by simp [iL]
theorem iL_snoc (L : List Nat) (v : Nat) : iL L ++ [((v : Nat) : Int)] = iL (L ++ [v]):=by simp [iL]
theorem iL_rd {L : List Nat} {h : Nat} (hh : h < L.length) : rd (iL L) (h : Int) = ((L[h] : Nat) : Int):=by
 rw [rdg,nth_get (by rw [iL_len]; exact hh)];simp [iL]
theorem set_ud (n : Nat) (F : Nat → Int) (a : Nat) (x : Int) : (lst n F).set a x = lst n (ud F a x):=lst_set F x
section
variable {N : Nat} {l : List Arc} (hg : NetGood N l)
include hg
theorem arcF {i : Nat} (h : i < l.length) : (((frF l i : Nat) : Int) = (arc l i).f0 ∧ frF l i < N) ∧ (((twF l i : Nat) : Int) = (arc l i).f1 ∧ twF l i < N) ∧ (0 ≤ capF l i ∧ capF l i ≤ 9):=by
 have:=hg.ok i h
 unfold frF twF capF
 omega
variable {f : Nat → Int} {s t : Nat} (hs : s < N) (ht : t < N)
include hs ht
abbrev GoodF (N : Nat) (l : List Arc) (f : Nat → Int) (s : Nat) (st : Fl.St) : Prop:=Fl.Good l.length (frF l) (twF l) (capF l) f s N st
abbrev visF (l : List Arc) (f : Nat → Int) (u i : Nat) (st : Fl.St) : Fl.St:=vis (frF l) (twF l) (capF l) f u i st
theorem good_len {st : Fl.St} (h : GoodF N l f s st) : st.2.length ≤ 8:=by
 have:=Sp.nodup_len N st.2 h.1.nodup h.2;have:=hg.n8;omega
theorem hfF : ∀ i,i < l.length → frF l i < N:=fun i hi => (arcF hg hi).1.2
theorem htF : ∀ i,i < l.length → twF l i < N:=fun i hi => (arcF hg hi).2.1.2
omit hg hs ht in
theorem back_w {i : Nat} (h : i < 100) : wrap64 ((wrap64 (-(i : Int))) - 1) = -(i : Int) - 1:=by
 rw [w64 (n:=-(i : Int)) (by omega) (by omega),w64 (by omega) (by omega)]
omit hg hs ht in
theorem next_w {i : Nat} (h : i < 100) : wrap64 ((i : Int) + 1) = (i : Int) + 1:=w64 (by omega) (by omega)
omit hg hs ht in
theorem short_w {L : List Nat} (h : L.length ≤ 100) : (iL L).length < 17592186044416:=by rw [iL_len]; omega
def come (N : Nat) (l : List Arc) (f : Nat → Int) (s : Nat) : Fl.St:=bfs (frF l) (twF l) (capF l) f l.length N 0 ((fun _ => 0),[s])
omit ht in
theorem start_good : GoodF N l f s ((fun _ => 0),[s]):=⟨Fl.Tr.start,fun v hv => by rw [List.mem_singleton.1 hv]; exact hs⟩
theorem come_good : GoodF N l f s (come N l f s) ∧ ∀ u ∈ (come N l f s).2,Fl.Shut l.length (frF l) (twF l) (capF l) f (come N l f s).2 u 0 l.length :=
 Fl.bfs_good (hfF hg hs ht) (htF hg hs ht) N 0 _ (start_good hg hs) (by omega) (fun u hu => by simp at hu)
theorem come_way (h : t ∈ (come N l f s).2) : ∃ P,Fl.Way (frF l) (twF l) s (come N l f s).1 t P ∧ (P.map Prod.fst).Nodup ∧ ∀ x ∈ P,Fl.Fit l.length (capF l) f x:=by
 obtain ⟨p,q,e⟩:=List.append_of_mem h;obtain ⟨P,w,hn,hP⟩:=(come_good hg hs ht).1.1.way p.length p t q (Nat.le_refl _) e;exact ⟨P,w,hn,fun x hx => (hP x hx).1⟩
end
inductive Aug (N : Nat) (l : List Arc) (s t : Nat) : (Nat → Int) → (Nat → Int) → Prop
 | stop {f : Nat → Int} : t ∉ (come N l f s).2 → Aug N l s t f f
 | more {f g : Nat → Int} {P : List (Nat × Bool)} : t ∈ (come N l f s).2 → Fl.Way (frF l) (twF l) s (come N l f s).1 t P → (P.map Prod.fst).Nodup → (∀ x ∈ P,Fl.Fit l.length (capF l) f x) → Aug N l s t (ap f P) g → Aug N l s t f g
structure FlowI (N : Nat) (l : List Arc) (s t : Nat) (f : Nat → Int) : Prop where
 fits : ∀ i,i < l.length → 0 ≤ f i ∧ f i ≤ capF l i
 even : ∀ v,v < N → v ≠ s → v ≠ t → Fl.net l.length (frF l) (twF l) f v = 0
section
variable {N : Nat} {l : List Arc} (hg : NetGood N l) {s t : Nat} (hs : s < N) (ht : t < N) (hne : s ≠ t)
include hg hs ht hne
theorem flow_ap {f : Nat → Int} (h : FlowI N l s t f) {b : Nat → Int} {P : List (Nat × Bool)} (w : Fl.Way (frF l) (twF l) s b t P) (hn : (P.map Prod.fst).Nodup) (hf : ∀ x ∈ P,Fl.Fit l.length (capF l) f x) : FlowI N l s t (ap f P) ∧ Fl.net l.length (frF l) (twF l) (ap f P) s = Fl.net l.length (frF l) (twF l) f s + 1:=by
 have hnet:=Fl.ap_net w f (fun x hx => (hf x hx).1);refine ⟨⟨Fl.ap_fit P f hn hf h.fits,fun v hv h1 h2 => ?_⟩,?_⟩
 ·rw [hnet,h.even v hv h1 h2,if_neg (fun e => h1 e.symm),if_neg (fun e => h2 e.symm)]; rfl
 ·rw [hnet,if_pos rfl,if_neg (fun e => hne e.symm)]; rfl
theorem flow_le {f : Nat → Int} (h : FlowI N l s t f) : Fl.net l.length (frF l) (twF l) f s ≤ Fl.cut l.length (frF l) (twF l) (capF l) (fun v => v == s) :=
 Fl.value_le (hfF hg hs ht) (htF hg hs ht) h.fits hs h.even _ (by simp) (by simp; exact fun e => hne e.symm)
theorem aug_ex : ∀ (m : Nat) (f : Nat → Int),FlowI N l s t f → Fl.cut l.length (frF l) (twF l) (capF l) (fun v => v == s) - Fl.net l.length (frF l) (twF l) f s ≤ (m : Int) → ∃ g,Aug N l s t f g:=by
 intro m
 induction m with
 | zero =>
  intro f h hm
  by_cases c : t ∈ (come N l f s).2
  case neg => exact ⟨f,.stop c⟩
  obtain ⟨P,w,hn,hf⟩:=come_way hg hs ht c;have h1:=flow_ap hg hs ht hne h w hn hf;have h2:=flow_le hg hs ht hne h1.1;omega
 | succ m ih =>
  intro f h hm
  by_cases c : t ∈ (come N l f s).2
  case neg => exact ⟨f,.stop c⟩
  obtain ⟨P,w,hn,hf⟩:=come_way hg hs ht c;have h1:=flow_ap hg hs ht hne h w hn hf;obtain ⟨g,hg2⟩:=ih (ap f P) h1.1 (by omega);exact ⟨g,.more c w hn hf hg2⟩
theorem aug_end {f g : Nat → Int} (h : Aug N l s t f g) : FlowI N l s t f → FlowI N l s t g ∧ t ∉ (come N l g s).2:=by
 induction h with
 | stop c => exact fun h => ⟨h,c⟩
 | more c w hn hf _ ih => exact fun h => ih (flow_ap hg hs ht hne h w hn hf).1
theorem flow_zero : FlowI N l s t (fun _ => 0):=by
 refine ⟨fun i hi => ?_,fun v hv _ _ => ?_⟩
 ·have:=(arcF hg hi).2.2;omega
 ·unfold Fl.net
  have e : (fun i => (if frF l i = v then (0 : Int) else 0) - (if twF l i = v then (0 : Int) else 0)) = fun _ => 0:=by
   funext i
   split <;> split <;> rfl
  rw [e,Fl.sm_zero]
theorem aug_zero : ∃ g,Aug N l s t (fun _ => 0) g:=by
 have h0:=flow_zero hg hs ht hne;exact aug_ex hg hs ht hne _ _ h0 (Int.self_le_toNat _)
end
end Go.Proofs.Ytlhmljngjdfbpaa.Pure
end
section
set_option linter.unusedSimpArgs false
set_option linter.unusedVariables false
set_option linter.unusedSectionVars false
namespace Go.Proofs.Ytlhmljngjdfbpaa.Pure
open Go.RowKit Go.Proofs.Ytlhmljngjdfbpaa.Pr Go.Proofs.YtlhmljngjdfbpaaW.PrintWords Go.Proofs.YtlhmljngjdfbpaaW.PrintLast Go.Proofs.YtlhmljngjdfbpaaW.PrintMore
open Go.Proofs.Ytlhmljngjdfbpaa.Fl (ud net cut sm)
theorem most_le {n : Int} {l : List Arc} (h : NetGood n l) {a b : Nat} : ∀ S s,s < S → side s a = true → side s b = false → 0 ≤ mostTo l a b S ∧ mostTo l a b S ≤ cutOf l s:=by
 intro S
 induction S with
 | zero => intro s hs; omega
 | succ S ih =>
  intro s hs ha hb;have hc:=(cutOf_bd h S).1;simp only [mostTo]
  by_cases e : s = S
  case pos =>
   subst e;rw [if_pos ha,if_neg (by simp [hb])]
   split
   ·omega
   ·split <;> omega
  have:=ih s (by omega) ha hb
  split
  ·split
   ·exact this
   ·split
    ·omega
    ·split <;> omega
  ·exact this
theorem most_from {n : Int} {l : List Arc} (h : NetGood n l) {a b : Nat} : ∀ S,mostTo l a b S = -1 ∨ ∃ s,s < S ∧ side s a = true ∧ side s b = false ∧ mostTo l a b S = cutOf l s:=by
 intro S
 induction S with
 | zero => exact .inl rfl
 | succ S ih =>
  have keep : mostTo l a b (S + 1) = mostTo l a b S → mostTo l a b (S + 1) = -1 ∨ ∃ s,s < S + 1 ∧ side s a = true ∧ side s b = false ∧ mostTo l a b (S + 1) = cutOf l s:=fun e => by
   rw [e]
   rcases ih with h | ⟨s,h1,h2⟩
   ·exact .inl h
   ·exact .inr ⟨s,by omega,h2⟩
  by_cases ha : side S a = true
  case neg => exact keep (by simp only [mostTo]; rw [if_neg ha])
  by_cases hb : side S b = true
  case pos => exact keep (by simp only [mostTo]; rw [if_pos ha,if_pos hb])
  have hb2 : side S b = false:=by simpa using hb
  have new : mostTo l a b (S + 1) = cutOf l S → mostTo l a b (S + 1) = -1 ∨ ∃ s,s < S + 1 ∧ side s a = true ∧ side s b = false ∧ mostTo l a b (S + 1) = cutOf l s:=fun e => .inr ⟨S,by omega,ha,hb2,e⟩
  by_cases c : mostTo l a b S < 0
  case pos => exact new (by simp only [mostTo]; rw [if_pos ha,if_neg hb,if_pos c])
  by_cases c2 : cutOf l S < mostTo l a b S
  case pos => exact new (by simp only [mostTo]; rw [if_pos ha,if_neg hb,if_neg c,if_pos c2])
  exact keep (by simp only [mostTo]; rw [if_pos ha,if_neg hb,if_neg c,if_neg c2])
theorem cutTo_sm (l : List Arc) (s : Nat) : ∀ i,cutTo l s i = cut i (frF l) (twF l) (capF l) (fun v => side s v)
 | 0 => rfl
 | i + 1 => by
  have ih:=cutTo_sm l s i
  unfold cut at ih ⊢
  simp only [cutTo,sm];rw [ih]
  congr 1
  by_cases h1 : side s (arc l i).f0.toNat = true <;> by_cases h2 : side s (arc l i).f1.toNat = true <;> simp [outB,frF,twF,capF,h1,h2]
section
variable {N : Nat} {l : List Arc} (hg : NetGood N l)
include hg
theorem net_bd {f : Nat → Int} (hb : ∀ i,i < l.length → 0 ≤ f i ∧ f i ≤ capF l i) (v : Nat) : ∀ i,i ≤ l.length → -(9 * (i : Int)) ≤ net i (frF l) (twF l) f v ∧ net i (frF l) (twF l) f v ≤ 9 * (i : Int)
 | 0,_ => by simp [net,sm]
 | i + 1,hi => by
  have ih:=net_bd hb v i (by omega);have h1:=hb i (by omega);have h2:=(arcF hg (show i < l.length by omega)).2.2
  unfold net at ih ⊢
  simp only [sm]
  by_cases a : frF l i = v <;> by_cases b : twF l i = v <;> simp only [a,b,if_true,if_false] <;> omega
theorem netTo_lst {x : List Int} (hb : FitsFrom l x 0) : ∀ i,i ≤ l.length → netTo (N : Int) l x i = lst N (fun v => net i (frF l) (twF l) (nth x) v):=by
 have hb2 : ∀ i,i < l.length → 0 ≤ nth x i ∧ nth x i ≤ capF l i:=fun i hi => hb i hi (Nat.zero_le _)
 have h16:=hg.len;intro i
 induction i with
 | zero =>
  intro _;simp only [netTo]
  apply List.ext_getElem (by simp [lst])
  intro i h1 h2;simp [lst,net,sm]
 | succ i ih =>
  intro hi;have hlt : i < l.length:=by omega
  have ha:=arcF hg hlt;have hne:=(hg.ok i hlt).2.2.1;have hfi:=hb2 i hlt;have hcap:=ha.2.2;have hne2 : frF l i ≠ twF l i:=fun e => hne (by rw [← ha.1.1,← ha.2.1.1,e])
  have n1:=net_bd hg hb2 (frF l i) i (by omega);have n2:=net_bd hg hb2 (twF l i) i (by omega);simp only [netTo];rw [ih (by omega)];have r1 : rd (lst N (fun v => net i (frF l) (twF l) (nth x) v)) (arc l i).f0 = net i (frF l) (twF l) (nth x) (frF l i):=by rw [← ha.1.1]; exact lst_rd _ ha.1.2
  rw [r1,show (arc l i).f0.toNat = frF l i from rfl,show (arc l i).f1.toNat = twF l i from rfl,set_ud];have r2 : rd (lst N (ud (fun v => net i (frF l) (twF l) (nth x) v) (frF l i) (wrap64 (net i (frF l) (twF l) (nth x) (frF l i) + nth x i)))) (arc l i).f1 = net i (frF l) (twF l) (nth x) (twF l i):=by
   rw [← ha.2.1.1,lst_rd _ ha.2.1.2,Fl.ud_off _ _ (fun e => hne2 e.symm)]
  rw [r2,set_ud,w64 (by omega) (by omega),w64 (by omega) (by omega)];refine lst_congr (fun v hv => ?_);have e : net (i + 1) (frF l) (twF l) (nth x) v = net i (frF l) (twF l) (nth x) v + ((if frF l i = v then nth x i else 0) - (if twF l i = v then nth x i else 0)):=rfl;rw [e]
  by_cases a : v = twF l i
  case pos =>
   subst a;rw [Fl.ud_at,if_neg hne2,if_pos rfl]; omega
  have t1 : ¬ twF l i = v:=fun h => a h.symm
  rw [Fl.ud_off _ _ a,if_neg t1]
  by_cases b : v = frF l i
  case pos =>
   have t2 : frF l i = v:=b.symm;rw [if_pos t2,b,Fl.ud_at]; omega
  have t2 : ¬ frF l i = v:=fun h => b h.symm
  rw [Fl.ud_off _ _ b,if_neg t2]; omega
variable {s t : Nat} (hs : s < N) (ht : t < N) (hne : s ≠ t)
include hs ht hne
theorem most_pos : 0 ≤ mostTo l s t (2 ^ N):=by
 have h8:=hg.n8;have h1 : side (2 ^ s) s = true:=by simp [side]
 have h2 : side (2 ^ s) t = false:=by
  simp only [side];rw [Nat.testBit_two_pow];simp [hne]
 exact (most_le hg (2 ^ N) (2 ^ s) (Nat.pow_lt_pow_right (by omega) hs) h1 h2).1
theorem value_most {f : Nat → Int} (h : FlowI N l s t f) : net l.length (frF l) (twF l) f s ≤ mostTo l s t (2 ^ N):=by
 rcases most_from hg (a:=s) (b:=t) (2 ^ N) with e | ⟨S,_,h1,h2,e⟩
 ·have:=most_pos hg hs ht hne;omega
 ·rw [e]
  unfold cutOf
  rw [cutTo_sm];exact Fl.value_le (hfF hg hs ht) (htF hg hs ht) h.fits hs h.even _ h1 h2
end
end Go.Proofs.Ytlhmljngjdfbpaa.Pure
end
section
set_option linter.unusedSimpArgs false
set_option linter.unusedVariables false
set_option linter.unusedSectionVars false
namespace Go.Proofs.Ytlhmljngjdfbpaa.Pure
open Go.RowKit Go.Proofs.Ytlhmljngjdfbpaa.Pr Go.Proofs.YtlhmljngjdfbpaaW.PrintWords Go.Proofs.YtlhmljngjdfbpaaW.PrintLast Go.Proofs.YtlhmljngjdfbpaaW.PrintMore
open Go.Proofs.Ytlhmljngjdfbpaa.Sp (G Wk Opt rounds)
def heavy (l : List Arc) (w : Int) : List Arc:=l.filter fun a => decide (w ≤ a.f4)
theorem heavy_mem {l : List Arc} {w : Int} {i : Nat} (h : i < (heavy l w).length) : ∃ j,j < l.length ∧ arc l j = arc (heavy l w) i ∧ w ≤ (arc l j).f4:=by
 have hm:=arc_mem h;have hm:=List.mem_filter.1 hm;obtain ⟨j,hj,e⟩:=List.getElem_of_mem hm.1;refine ⟨j,hj,by rw [arc_get hj,e],?_⟩;rw [arc_get hj,e];exact of_decide_eq_true hm.2
theorem heavy_good {n : Int} {l : List Arc} (h : NetGood n l) (w : Int) : NetGood n (heavy l w):=by
 refine ⟨h.n1,h.n8,?_,fun i hi => ?_⟩
 ·have:=List.length_filter_le (fun a : Arc => decide (w ≤ a.f4)) l;have:=h.len
  unfold heavy
  omega
 ·obtain ⟨j,hj,e,_⟩:=heavy_mem hi;rw [← e];exact h.ok j hj
theorem loaded_l (n : Int) (l : List Arc) (w : Int) (hm : l.length ≤ 1000) : ∀ (m i : Nat) (x : List Int),l.length - i = m → i ≤ l.length → x.length ≤ i → Pv (fun k => impl_Net_loaded.l0 k w x l (l.length : Int) (i : Int) n (heavy (l.take i) w)) (fun r => r.1 = n ∧ r.2.1 = heavy l w):=by
 intro m
 induction m with
 | zero =>
  intro i x hd hi hx;refine Pv.go ?_ (fun k => by rw [impl_Net_loaded.l0]);refine Pv.neg (by omega) (Pv.now ⟨rfl,?_⟩);rw [List.take_of_length_le (by omega)]
 | succ m ih =>
  intro i x hd hi hx;have hlt : i < l.length:=by omega
  have hh : (heavy (l.take i) w).length ≤ i:=by
   have h1:=List.length_filter_le (fun a : Arc => decide (w ≤ a.f4)) (l.take i);rw [List.length_take] at h1
   unfold heavy
   omega
  have e : heavy (l.take (i + 1)) w = heavy (l.take i) w ++ (if w ≤ (arc l i).f4 then [arc l i] else []):=by
   unfold heavy
   rw [List.take_succ_eq_append_getElem hlt,List.filter_append,← arc_get hlt]
   congr 1
   by_cases c : w ≤ (arc l i).f4 <;> simp [c]
  refine Pv.go ?_ (fun k => by rw [impl_Net_loaded.l0]);rw [rda,up1 hlt (by simp only [maxLen]; omega)];refine Pv.pos (by omega) (Pv.pos (by omega) (Pv.pos (by omega) ?_))
  by_cases c : w ≤ (arc l i).f4
  case neg =>
   rw [if_neg c,List.append_nil] at e;refine Pv.neg c ?_;have:=ih (i + 1) x (by omega) (by omega) (by omega);rw [e] at this;exact this
  rw [if_pos c] at e;refine Pv.pos c (Pv.pos (by omega) (Pv.pos (by omega) ?_));have:=ih (i + 1) (x ++ [(i : Int)]) (by omega) (by omega) (by simp; omega);rw [e] at this;exact this
theorem loaded_pv {n : Int} {l : List Arc} (hg : NetGood n l) (w : Int) : Pv (fun k => impl_Net_loaded.f k n l w) (fun r => r.1 = n ∧ r.2.1 = heavy l w):=by
 have:=hg.len
 unfold impl_Net_loaded.f
 exact loaded_l n l w (by omega) _ 0 _ rfl (Nat.zero_le _) (by simp)
def LoadTo (N : Nat) (l : List Arc) (s v : Nat) (x : Int) : Prop:=x = -1 ∨ dst N (back (heavy l x)) s v ≠ none
section
variable {N : Nat} {l : List Arc} (hg : NetGood N l) {s : Nat} (hs : s < N)
include hg hs
theorem loads_l1 {w : Nat} (hw : w < 10) {P : List Int → Prop} (hk : ∀ x : List Int,x.length = N → (∀ v,v < N → LoadTo N l s v (nth x v)) → Pv (fun k => impl_Net_loads.l0 k (s : Int) x ((w + 1 : Nat) : Int) (N : Int) l) P) : ∀ (m i : Nat) (x : List Int),N - i = m → i ≤ N → x.length = N → (∀ v,v < N → LoadTo N l s v (nth x v)) → Pv (fun k => impl_Net_loads.l1 k (s : Int) x (w : Int) (w : Int) (lst N (fun v => far (dst N (back (heavy l (w : Int))) s v))) (N : Int) (i : Int) (N : Int) l) P:=by
 have h8:=hg.n8;intro m
 induction m with
 | zero =>
  intro i x hd hi hx hL;refine Pv.go ?_ (fun k => by rw [impl_Net_loads.l1]);rw [up1 (show w < 10 by omega) (by simp only [maxLen]; omega)];exact Pv.neg (by omega) (hk x hx hL)
 | succ m ih =>
  intro i x hd hi hx hL;have hlt : i < N:=by omega
  refine Pv.go ?_ (fun k => by rw [impl_Net_loads.l1]);rw [up1 hlt (by simp only [maxLen]; omega),lst_rd _ hlt,lst_len,Int.toNat_natCast];refine Pv.pos (by omega) (Pv.pos (by omega) (Pv.pos (by omega) ?_))
  by_cases c : far (dst N (back (heavy l (w : Int))) s i) = 99999
  case pos => exact Pv.pos c (ih (i + 1) x (by omega) (by omega) hx hL)
  refine Pv.neg c (Pv.pos (by omega) (ih (i + 1) _ (by omega) (by omega) (by simp [hx]) (fun v hv => ?_)))
  by_cases e : v = i
  case pos =>
   subst e;have e2 : nth (x.set v (w : Int)) v = (w : Int):=by
    rw [nth_get (by simp; omega)];simp
   rw [e2];exact .inr (fun h => c (by rw [h]; rfl))
  have e2 : nth (x.set i (w : Int)) v = nth x v:=by
   rw [nth_get (by simp; omega),nth_get (by omega)];simp [show ¬ i = v from fun h => e h.symm]
  rw [e2];exact hL v hv
theorem loads_l0 : ∀ (m w : Nat) (x : List Int),10 - w = m → w ≤ 10 → x.length = N → (∀ v,v < N → LoadTo N l s v (nth x v)) → Pv (fun k => impl_Net_loads.l0 k (s : Int) x (w : Int) (N : Int) l) (fun r => r.length = N ∧ ∀ v,v < N → LoadTo N l s v (nth r v)):=by
 intro m
 induction m with
 | zero =>
  intro w x hd hw hx hL;refine Pv.go ?_ (fun k => by rw [impl_Net_loads.l0]);exact Pv.neg (by omega) (Pv.now ⟨hx,hL⟩)
 | succ m ih =>
  intro w x hd hw hx hL;refine Pv.go ?_ (fun k => by rw [impl_Net_loads.l0]);refine Pv.pos (by omega) (Pv.bind (loaded_pv hg (w : Int)) (fun r ⟨e1,e2⟩ => ?_));rw [e1,e2];obtain ⟨r2,h2,h3⟩ : Pv (fun k => impl_Net_from.f k (N : Int) (heavy l (w : Int)) (s : Int)) (fun r => r = lst N (fun v => far (dst N (back (heavy l (w : Int))) s v))):=Pv.of (from_ev (heavy_good hg _) hs) rfl;subst h3;refine Pv.bind (Pv.of h2 (rfl : _ = _)) (fun r e => ?_);subst e;rw [lst_len];exact loads_l1 hg hs (w:=w) (by omega) (fun y hy hM => ih (w + 1) y (by omega) (by omega) hy hM) _ 0 x rfl (Nat.zero_le _) hx hL
theorem loadAll_pv : Pv (fun k => impl_LoadAll.f k (N : Int) l (s : Int)) (fun r => r.length = N ∧ ∀ v,v < N → LoadTo N l s v (nth r v)):=by
 have h8:=hg.n8
 unfold impl_LoadAll.f
 refine Pv.bind0 (b:=true) ?_ (Pv.pos rfl (Pv.bind (R:=fun r => r.length = N ∧ ∀ v,v < N → LoadTo N l s v (nth r v)) ?_ (fun r h => Pv.now h)))
 ·rw [nodesIn_eq,(netOkB_iff _ _).2 hg];simp [okN];omega
 unfold impl_Net_loads.f
 have e : slices_Repeat_int_int.f [-1] (N : Int) = some (List.replicate N (-1)):=by
  unfold slices_Repeat_int_int.f
  rw [if_pos (show [(-1 : Int)].length = 1 from rfl),if_pos (by omega),if_pos (by omega),Int.toNat_natCast];rfl
 refine Pv.bind0 e (loads_l0 hg hs 10 0 _ rfl (by omega) (by simp) (fun v hv => .inl ?_));rw [nth_get (by simpa using hv)];simp
end
section
variable {N : Nat} {l : List Arc} (hg : NetGood N l)
include hg
theorem cutTo_one (S : Nat) {j : Nat} (ho : outB S (arc l j) = true) : ∀ i,i ≤ l.length → j < i → (arc l j).f4 ≤ cutTo l S i:=by
 intro i
 induction i with
 | zero => intro _ h; omega
 | succ i ih =>
  intro hi hj;have h1:=(cutTo_bd hg S i (by omega)).1;have h2:=(hg.ok i (by omega)).2.2.2.2.2;simp only [cutTo]
  by_cases e : j = i
  case pos => subst e; rw [if_pos ho]; omega
  have:=ih (by omega) (by omega)
  split <;> omega
theorem walk_in {g : G} {S : Nat → Bool} {u v k : Nat} {c : Int} (w : Wk g u v k c) : S u = false → S v = true → ∃ i,i < g.m ∧ S (g.fr i) = false ∧ S (g.tw i) = true:=by
 clear hg
 induction w with
 | nil => intro h1 h2; rw [h1] at h2; cases h2
 | @cons i v k c hi hu w ih =>
  intro h1 h2;cases e : S (g.tw i) with
  | true => exact ⟨i,hi,h1,e⟩
  | false => exact ih e h2
theorem load_cut {s t : Nat} (hs : s < N) (ht : t < N) {x : Int} (h : LoadTo N l s t x) {S : Nat} (h1 : side S s = true) (h2 : side S t = false) : x ≤ cutOf l S:=by
 have h0:=(cutOf_bd hg S).1
 rcases h with e | h
 ·omega
 ·cases e : dst N (back (heavy l x)) s t with
  | none => exact absurd e h
  | some d =>
   obtain ⟨k,w⟩:=(dst_opt (back_good (heavy_good hg x)) hs t ht).1 d e;obtain ⟨i,hi,a1,a2⟩:=walk_in hg (S:=side S) w h2 h1;have hi : i < (back (heavy l x)).length:=hi;rw [back_len] at hi;have a1 : side S (arc (back (heavy l x)) i).f0.toNat = false:=a1;have a2 : side S (arc (back (heavy l x)) i).f1.toNat = true:=a2;rw [back_arc hi] at a1 a2;obtain ⟨j,hj,ej,hw⟩:=heavy_mem hi;rw [← ej] at a1 a2;have ho : outB S (arc l j) = true:=by
    unfold outB
    rw [show side S (arc l j).f0.toNat = true from a2,show side S (arc l j).f1.toNat = false from a1];rfl
   have:=cutTo_one hg S ho l.length (Nat.le_refl _) hj
   unfold cutOf
   omega
end
end Go.Proofs.Ytlhmljngjdfbpaa.Pure
end
section
set_option linter.unusedSimpArgs false
set_option linter.unusedVariables false
set_option linter.unusedSectionVars false
namespace Go.Proofs.Ytlhmljngjdfbpaa.Pure
open Go.RowKit Go.Proofs.Ytlhmljngjdfbpaa.Pr Go.Proofs.YtlhmljngjdfbpaaW.PrintWords Go.Proofs.YtlhmljngjdfbpaaW.PrintLast Go.Proofs.YtlhmljngjdfbpaaW.PrintMore
open Go.Proofs.Ytlhmljngjdfbpaa.Fl (ud net cut sm)
theorem bits_ex (p : Nat → Bool) : ∀ N : Nat,∃ S,S < 2 ^ N ∧ ∀ v,v < N → side S v = p v:=by
 intro N
 induction N with
 | zero => exact ⟨0,by simp,fun v hv => by omega⟩
 | succ N ih =>
  obtain ⟨S,h1,h2⟩:=ih;have e2 : 2 ^ (N + 1) = 2 ^ N + 2 ^ N:=by rw [Nat.pow_succ]; omega
  cases c : p N with
  | false =>
   refine ⟨S,by omega,fun v hv => ?_⟩
   by_cases e : v = N
   case neg => exact h2 v (by omega)
   subst e;rw [c];exact Nat.testBit_lt_two_pow h1
  | true =>
   refine ⟨2 ^ N + S,by omega,fun v hv => ?_⟩
   by_cases e : v = N
   case neg =>
    unfold side
    rw [Nat.testBit_two_pow_add_gt (by omega)];exact h2 v (by omega)
   subst e;rw [c]
   unfold side
   rw [Nat.testBit_two_pow_add_eq,Nat.testBit_lt_two_pow h1];rfl
theorem back_back2 (l : List Arc) : back (back l) = l:=by
 unfold back
 rw [List.map_map];exact (List.map_congr_left (fun a _ => rfl)).trans (List.map_id l)
section
variable {N : Nat} {l : List Arc} (hg : NetGood N l)
include hg
theorem cut_back {S T : Nat} (h : ∀ v,v < N → side T v = !side S v) : ∀ i,i ≤ l.length → cutTo (back l) T i = cutTo l S i:=by
 intro i
 induction i with
 | zero => exact fun _ => rfl
 | succ i ih =>
  intro hi;have ha:=arcF hg (show i < l.length by omega);simp only [cutTo];rw [ih (by omega),back_arc (show i < l.length by omega)]
  congr 1
  have e : outB T (flip (arc l i)) = outB S (arc l i):=by
   show (side T (twF l i) && !side T (frF l i)) = (side S (frF l i) && !side S (twF l i))
   rw [h _ ha.2.1.2,h _ ha.1.2,Bool.not_not,Bool.and_comm]
  rw [e];rfl
theorem most_back_le {s t : Nat} (hs : s < N) (ht : t < N) (hne : s ≠ t) : mostTo (back l) t s (2 ^ N) ≤ mostTo l s t (2 ^ N):=by
 have h0:=most_pos hg hs ht hne
 rcases most_from hg (a:=s) (b:=t) (2 ^ N) with e | ⟨S,h1,h2,h3,e⟩
 ·omega
 ·obtain ⟨T,k1,k2⟩:=bits_ex (fun v => !side S v) N;have:=(most_le (back_good hg) (a:=t) (b:=s) (2 ^ N) T k1 (by rw [k2 t ht,h3]; rfl) (by rw [k2 s hs,h2]; rfl)).2;have e3 : cutOf (back l) T = cutOf l S:=by
   unfold cutOf
   rw [back_len];exact cut_back hg k2 l.length (Nat.le_refl _)
  omega
theorem most_back {s t : Nat} (hs : s < N) (ht : t < N) (hne : s ≠ t) : mostTo (back l) t s (2 ^ N) = mostTo l s t (2 ^ N):=by
 have h1:=most_back_le hg hs ht hne;have h2:=most_back_le (back_good hg) ht hs (fun e => hne e.symm);rw [back_back2] at h2;omega
theorem flow_most {s t : Nat} (hs : s < N) (ht : t < N) (hne : s ≠ t) {g : Nat → Int} (h : FlowI N l s t g) (hc : t ∉ (come N l g s).2) : net l.length (frF l) (twF l) g s = mostTo l s t (2 ^ N):=by
 classical
 have h1:=value_most hg hs ht hne h;obtain ⟨hG,hS⟩:=come_good hg hs ht (f:=g);have hss : s ∈ (come N l g s).2:=hG.1.root;obtain ⟨S,k1,k2⟩:=bits_ex (fun v => decide (v ∈ (come N l g s).2)) N;have hv:=Fl.value_eq (cap:=capF l) (hfF hg hs ht) (htF hg hs ht) h.fits hs h.even (fun v => decide (v ∈ (come N l g s).2)) (by simp [hss]) (by simp [hc]) (fun i hi a b => ?_) (fun i hi a b => ?_)
 ·have h3:=(most_le hg (2 ^ N) S k1 (by rw [k2 s hs]; simp [hss]) (by rw [k2 t ht]; simp [hc])).2;have e : cutOf l S = cut l.length (frF l) (twF l) (capF l) (fun v => decide (v ∈ (come N l g s).2)):=by
   unfold cutOf
   rw [cutTo_sm]
   unfold cut
   refine Fl.sm_congr (fun i hi => ?_);simp only [k2 _ (arcF hg hi).1.2,k2 _ (arcF hg hi).2.1.2]
  omega
 ·have a:=of_decide_eq_true a;have b:=of_decide_eq_false b;have h4:=h.fits i hi;have h5:=(hS _ a i (Nat.zero_le _) hi).1 rfl
  by_cases c : g i < capF l i
  case neg => omega
  exact absurd (h5 c) b
 ·have a:=of_decide_eq_true a;have b:=of_decide_eq_false b;have h4:=h.fits i hi;have h5:=(hS _ a i (Nat.zero_le _) hi).2 rfl
  by_cases c : 0 < g i
  case neg => omega
  exact absurd (h5 c) b
end
section
variable {N : Nat} {l : List Arc} (hg : NetGood N l) {s t : Nat} (hs : s < N) (ht : t < N) (hne : s ≠ t)
include hg hs ht hne
theorem mostV_is : mostV (N : Int) l (s : Int) (t : Int) = mostTo l s t (2 ^ N):=by
 unfold mostV
 rw [if_pos ((mostB_iff _ _ _ _).2 ⟨hg,by omega,by omega,fun e => hne (by omega)⟩),Int.toNat_natCast,Int.toNat_natCast,Int.toNat_natCast]
theorem valueV_is {g : Nat → Int} (h : FlowI N l s t g) : valueV (N : Int) l (lst l.length g) (s : Int) (t : Int) = (net l.length (frF l) (twF l) g s,true):=by
 have hx : ∀ i,i < l.length → nth (lst l.length g) i = g i:=fun i hi => lst_nth g hi
 have hf : FitsFrom l (lst l.length g) 0:=fun i hi _ => by rw [hx i hi]; exact h.fits i hi
 have hnet:=netTo_lst hg hf l.length (Nat.le_refl _);have en : ∀ v,net l.length (frF l) (twF l) (nth (lst l.length g)) v = net l.length (frF l) (twF l) g v:=fun v => by
  unfold Fl.net
  refine Fl.sm_congr (fun i hi => ?_);rw [hx i hi]
 have hev : EvenFrom (netTo (N : Int) l (lst l.length g) l.length) (s : Int) (t : Int) 0:=fun v hv _ => by
  rw [netTo_len,Int.toNat_natCast] at hv;rw [hnet,lst_nth _ hv,en]
  by_cases e1 : v = s
  case pos => exact .inr (.inl (by omega))
  by_cases e2 : v = t
  case pos => exact .inr (.inr (by omega))
  exact .inl (h.even v hv e1 e2)
 unfold valueV
 rw [if_pos ⟨(mostB_iff _ _ _ _).2 ⟨hg,by omega,by omega,fun e => hne (by omega)⟩,lst_len _ _,hf,hev⟩,hnet,lst_rd _ hs,en]
end
end Go.Proofs.Ytlhmljngjdfbpaa.Pure
end
section
set_option linter.unusedSimpArgs false
set_option linter.unusedVariables false
set_option linter.unusedSectionVars false
namespace Go.Proofs.Ytlhmljngjdfbpaa.Pure
open Go.RowKit Go.Proofs.Ytlhmljngjdfbpaa.Pr Go.Proofs.YtlhmljngjdfbpaaW.PrintWords Go.Proofs.YtlhmljngjdfbpaaW.PrintLast Go.Proofs.YtlhmljngjdfbpaaW.PrintMore
open Go.Proofs.Ytlhmljngjdfbpaa.Fl (ud vis1 vis2 vis visAll bfs Tr Fit ap dl net cut Shut sm)
abbrev Stp:=S103
def dec (b : Int) : Int × Bool:=if 0 < b then (b - 1,true) else (-b - 1,false)
theorem dec_pos (i : Nat) : dec ((i : Int) + 1) = ((i : Int),true):=by
 unfold dec
 rw [if_pos (by omega),show (i : Int) + 1 - 1 = i by omega]
theorem dec_neg (i : Nat) : dec (-(i : Int) - 1) = ((i : Int),false):=by
 unfold dec
 rw [if_neg (by omega),show -(-(i : Int) - 1) - 1 = i by omega]
theorem iL_mem {L : List Nat} {v : Nat} : ((v : Nat) : Int) ∈ iL L ↔ v ∈ L:=by
 simp only [iL,List.mem_map];constructor
 ·rintro ⟨u,h,e⟩;rw [← Int.ofNat_inj.1 e];exact h
 ·exact fun h => ⟨v,h,rfl⟩
structure Rl (s : Nat) (x : StA) (st : Fl.St) : Prop where
 list : x.2 = iL st.2
 at_ : ∀ v ∈ st.2,v ≠ s → x.1 ((v : Nat) : Int) = dec (st.1 v)
section
variable {N : Nat} {l : List Arc} (hg : NetGood N l)
include hg
variable {f : Nat → Int} {s t : Nat} (hs : s < N) (ht : t < N)
include hs ht
theorem put_rl {x : StA} {st : Fl.St} (r : Rl s x st) (h : GoodF N l f s st) {v : Nat} (hv : v < N) (b : Int) : ∃ x',putA x ((v : Nat) : Int) (dec b) = some x' ∧ Rl s x' (if v ∉ st.2 then (ud st.1 v b,st.2 ++ [v]) else st):=by
 have h8:=hg.n8;have hl:=good_len hg hs ht h
 unfold putA
 rw [r.list,if_pos (by rw [iL_len]; omega)]
 by_cases c : v ∈ st.2
 case pos =>
  rw [if_pos (iL_mem.2 c),if_neg (fun h => h c)];exact ⟨x,rfl,r⟩
 rw [if_neg (fun h => c (iL_mem.1 h)),if_pos (by omega),if_pos c];refine ⟨_,rfl,⟨iL_snoc _ _,fun w hw hne => ?_⟩⟩
 by_cases e : w = v
 case pos =>
  subst e
  show (if ((w : Nat) : Int) = ((w : Nat) : Int) then dec b else x.1 _) = dec (ud st.1 w b w)
  rw [if_pos rfl,Fl.ud_at]
 show (if ((w : Nat) : Int) = ((v : Nat) : Int) then dec b else x.1 _) = dec (ud st.1 v b w)
 rw [if_neg (fun h => e (Int.ofNat_inj.1 h)),Fl.ud_off _ _ e]
 rcases List.mem_append.1 hw with h1 | h1
 ·exact r.at_ w h1 hne
 ·exact absurd (List.mem_singleton.1 h1) e
theorem arc_rl {x : StA} {st : Fl.St} (r : Rl s x st) (h : GoodF N l f s st) {i u : Nat} (hi : i < l.length) (hu : u ∈ st.2) : ∃ x',arcA l (lst l.length f) (u : Int) i x = some x' ∧ Rl s x' (visF l f u i st):=by
 have ha:=arcF hg hi;obtain ⟨g1,⟨x1,e1⟩⟩:=Fl.vis1_good (hfF hg hs ht) (htF hg hs ht) h (u:=u) (i:=i) hu hi;have hrd : rd (lst l.length f) (i : Int) = f i:=lst_rd _ hi
 unfold arcA
 rw [rda,← ha.1.1,← ha.2.1.1,hrd,lst_len];have one : ∃ x',(if ((frF l i : Nat) : Int) = (u : Int) then (if i < l.length then (if f i < (arc l i).f4 then putA x ((twF l i : Nat) : Int) ((i : Int),true) else some x) else none) else some x) = some x' ∧ Rl s x' (vis1 (frF l) (twF l) (capF l) f u i st):=by
  unfold vis1
  by_cases c1 : frF l i = u
  case neg =>
   rw [if_neg (fun h => c1 (Int.ofNat_inj.1 h)),if_neg (fun h => c1 h.1)];exact ⟨x,rfl,r⟩
  rw [if_pos (by rw [c1]),if_pos hi]
  by_cases c2 : f i < capF l i
  case neg =>
   rw [if_neg (show ¬ f i < (arc l i).f4 from c2),if_neg (fun h => c2 h.2.1)];exact ⟨x,rfl,r⟩
  rw [if_pos (show f i < (arc l i).f4 from c2),← dec_pos];obtain ⟨x',p,q⟩:=put_rl hg hs ht r h ha.2.1.2 ((i : Int) + 1);refine ⟨x',p,?_⟩
  by_cases c3 : twF l i ∉ st.2
  case pos => rw [if_pos ⟨c1,c2,c3⟩]; rw [if_pos c3] at q; exact q
  rw [if_neg (fun h => c3 h.2.2)]; rw [if_neg c3] at q; exact q
 obtain ⟨x',p,q⟩:=one;rw [p,Option.bind_some]
 show ∃ x'',_ = some x'' ∧ Rl s x'' (vis2 (frF l) (twF l) f u i (vis1 (frF l) (twF l) (capF l) f u i st))
 unfold vis2
 by_cases c1 : twF l i = u
 case neg =>
  rw [if_neg (fun h => c1 (Int.ofNat_inj.1 h)),if_neg (fun h => c1 h.1)];exact ⟨x',rfl,q⟩
 rw [if_pos (by rw [c1]),if_pos hi]
 by_cases c2 : 0 < f i
 case neg =>
  rw [if_neg (show ¬ f i > 0 from c2),if_neg (fun h => c2 h.2.1)];exact ⟨x',rfl,q⟩
 rw [if_pos (show f i > 0 from c2),← dec_neg];obtain ⟨x2,p,q⟩:=put_rl hg hs ht q g1 ha.1.2 (-(i : Int) - 1);refine ⟨x2,p,?_⟩
 by_cases c3 : frF l i ∉ (vis1 (frF l) (twF l) (capF l) f u i st).2
 case pos => rw [if_pos ⟨c1,c2,c3⟩]; rw [if_pos c3] at q; exact q
 rw [if_neg (fun h => c3 h.2.2)]; rw [if_neg c3] at q; exact q
theorem row_rl {u : Nat} : ∀ (d i : Nat) (x : StA) (st : Fl.St),i + d = l.length → Rl s x st → GoodF N l f s st → u ∈ st.2 → ∃ x',rowA l (lst l.length f) (u : Int) d x = some x' ∧ Rl s x' (visAll (frF l) (twF l) (capF l) f u i d st)
 | 0,i,x,st,_,r,_,_ => ⟨x,rfl,r⟩
 | d + 1,i,x,st,hd,r,h,hu => by
  obtain ⟨x1,p,q⟩:=arc_rl hg hs ht r h (i:=i) (by omega) hu;obtain ⟨g2,⟨y,e⟩,_⟩:=Fl.vis_good (hfF hg hs ht) (htF hg hs ht) h (u:=u) (i:=i) hu (by omega);obtain ⟨x2,p2,q2⟩:=row_rl d (i + 1) x1 _ (by omega) q g2 (by rw [e]; exact List.mem_append_left _ hu);refine ⟨x2,?_,q2⟩
  show (arcA l (lst l.length f) (u : Int) (l.length - (d + 1)) x).bind _ = _
  rw [show l.length - (d + 1) = i by omega,p];exact p2
theorem bfs_rl : ∀ (d q : Nat) (x : StA) (st : Fl.St),N ≤ d + q → Rl s x st → GoodF N l f s st → ∃ x',Ev (fun k => bfsA l (lst l.length f) k q x) x' ∧ Rl s x' (bfs (frF l) (twF l) (capF l) f l.length d q st):=by
 intro d
 induction d with
 | zero =>
  intro q x st hd r h;have:=Sp.nodup_len N st.2 h.1.nodup h.2;refine ⟨x,Ev.go ?_ (fun k => by rw [bfsA]),r⟩;exact Ev.neg (by rw [r.list,iL_len]; omega) (Ev.now _)
 | succ d ih =>
  intro q x st hd r h
  by_cases hq : q < st.2.length
  case neg =>
   refine ⟨x,Ev.go ?_ (fun k => by rw [bfsA]),?_⟩
   ·exact Ev.neg (by rw [r.list,iL_len]; exact hq) (Ev.now _)
   ·simp only [bfs];rw [dif_neg hq];exact r
  have hm:=List.getElem_mem hq;obtain ⟨x1,p1,r1⟩:=row_rl hg hs ht l.length 0 x st (by omega) r h hm;obtain ⟨g2,_,_⟩:=Fl.visAll_good (hfF hg hs ht) (htF hg hs ht) l.length 0 st h hm (by omega);obtain ⟨x2,p2,r2⟩:=ih (q + 1) x1 _ (by omega) r1 g2;refine ⟨x2,Ev.go ?_ (fun k => by rw [bfsA]),?_⟩
  ·refine Ev.pos (by rw [r.list,iL_len]; exact hq) ?_;rw [r.list,iL_rd hq];exact Ev.bind0 p1 p2
  ·simp only [bfs];rw [dif_pos hq];exact r2
def stepOf (x : Nat × Bool) : Stp:=⟨(x.1 : Int),x.2⟩
omit ht in
theorem way_rl {x : StA} {st : Fl.St} (r : Rl s x st) (hno : ∀ v,v ∉ st.2 ∨ v = s → st.1 v = 0) {v : Nat} {P : List (Nat × Bool)} (w : Fl.Way (frF l) (twF l) s st.1 v P) : ∀ (out : List Stp),v < N → (∀ y ∈ P,y.1 < l.length) → out.length + P.length ≤ 1000 → Ev (fun k => pathA l x.1 (s : Int) k (v : Int) out) (out ++ P.map stepOf):=by
 have h8:=hg.n8;have hx : ∀ v,v ≠ s → st.1 v ≠ 0 → x.1 ((v : Nat) : Int) = dec (st.1 v):=fun v h1 h2 =>
  r.at_ v (Classical.byContradiction fun h3 => h2 (hno v (.inl h3))) h1
 induction w with
 | nil =>
  intro out hv hP hlen;refine Ev.go ?_ (fun k => by rw [pathA]);exact Ev.pos rfl (Ev.is (by simp))
 | @fwd v i P hne eb e w ih =>
  intro out hv hP hlen;have hi:=hP _ (List.mem_cons_self ..);have ha:=arcF hg hi;have hd : x.1 ((v : Nat) : Int) = ((i : Int),true):=by rw [hx v hne (by rw [eb]; omega),eb,dec_pos]
  rw [List.length_cons] at hlen;have:=ih (out ++ [stepOf (i,true)]) ha.1.2 (fun y hy => hP y (List.mem_cons_of_mem _ hy)) (by rw [List.length_append,List.length_singleton]; omega);refine Ev.go ?_ (fun k => by rw [pathA]);refine Ev.neg (fun h => hne (Int.ofNat_inj.1 h)) (Ev.pos (by omega) (Ev.pos (by omega) ?_));rw [hd];refine Ev.pos ⟨Int.natCast_nonneg _,Int.ofNat_lt.2 hi⟩ ?_;rw [if_pos rfl,rda,← ha.1.1];rw [List.append_assoc] at this;exact this
 | @bck v i P hne eb e w ih =>
  intro out hv hP hlen;have hi:=hP _ (List.mem_cons_self ..);have ha:=arcF hg hi;have hd : x.1 ((v : Nat) : Int) = ((i : Int),false):=by rw [hx v hne (by rw [eb]; omega),eb,dec_neg]
  rw [List.length_cons] at hlen;have:=ih (out ++ [stepOf (i,false)]) ha.2.1.2 (fun y hy => hP y (List.mem_cons_of_mem _ hy)) (by rw [List.length_append,List.length_singleton]; omega);refine Ev.go ?_ (fun k => by rw [pathA]);refine Ev.neg (fun h => hne (Int.ofNat_inj.1 h)) (Ev.pos (by omega) (Ev.pos (by omega) ?_));rw [hd];refine Ev.pos ⟨Int.natCast_nonneg _,Int.ofNat_lt.2 hi⟩ ?_;rw [if_neg (by simp),rda,← ha.2.1.1];rw [List.append_assoc] at this;exact this
theorem augI_ev (R : List Stp × Bool) (h1 : t ∉ (come N l f s).2 → R = ([],false)) (h2 : t ∈ (come N l f s).2 → ∃ P,Fl.Way (frF l) (twF l) s (come N l f s).1 t P ∧ (P.map Prod.fst).Nodup ∧ (∀ x ∈ P,Fit l.length (capF l) f x) ∧ R = (P.map stepOf,true)) : Ev (fun k => impl_Net_augment.f k (N : Int) l (lst l.length f) (s : Int) (t : Int)) R:=by
 have h16:=hg.len
 unfold impl_Net_augment.f
 have r0 : Rl s ((fun _ => (0,false)),[((s : Nat) : Int)]) ((fun _ => 0),[s]):=⟨rfl,fun v hv hne => absurd (List.mem_singleton.1 hv) hne⟩
 obtain ⟨x,hx,r⟩:=bfs_rl hg hs ht (f:=f) N 0 _ _ (by omega) r0 (start_good hg hs);have hc:=(come_good hg hs ht (f:=f)).1;refine Ev.bind hx ?_;rw [r.list]
 by_cases c : t ∈ (come N l f s).2
 case neg =>
  rw [h1 c];exact Ev.neg (fun h => c (iL_mem.1 h)) (Ev.now _)
 obtain ⟨P,w,hn,hf,rfl⟩:=h2 c;have hlen:=Sp.nodup_len l.length (P.map Prod.fst) hn (fun y hy => by
  obtain ⟨z,hz,e⟩:=List.mem_map.1 hy;rw [← e];exact (hf z hz).1)
 rw [List.length_map] at hlen;refine Ev.pos (iL_mem.2 c) (Ev.bind (way_rl hg hs r hc.1.none w [] ht (fun y hy => (hf y hy).1) (by rw [List.length_nil]; omega)) ?_);rw [List.nil_append];exact Ev.now _
theorem add_ev {R : List Int} : ∀ (P : List (Nat × Bool)) (A : List (Nat × Bool)) (g : Nat → Int),(A ++ P).length ≤ 16 → (P.map Prod.fst).Nodup → (∀ x ∈ P,Fit l.length (capF l) g x) → (∀ i,i < l.length → 0 ≤ g i ∧ g i ≤ capF l i) → Ev (fun k => impl_FlowOf.l0 k (s : Int) (t : Int) (lst l.length (ap g P)) (N : Int) l) R → Ev (fun k => impl_FlowOf.l1 k (s : Int) (t : Int) (lst l.length g) ((A ++ P).map stepOf) (((A ++ P).length : Nat) : Int) (A.length : Int) (N : Int) l) R:=by
 intro P
 induction P with
 | nil =>
  intro A g hl hn hf hb hk;refine Ev.go ?_ (fun k => by rw [impl_FlowOf.l1]);exact Ev.neg (by simp) hk
 | cons x P ih =>
  intro A g hl hn hf hb hk;have hfi:=hf _ (List.mem_cons_self ..);have hi : x.1 < l.length:=hfi.1;have ha:=arcF hg hi;have hgi:=hb _ hi;have hlA : A.length < (A ++ x :: P).length:=by simp
  rw [List.map_cons,List.nodup_cons] at hn;have hstep:=Fl.ap_fit (m:=l.length) (cap:=capF l) [x] g (by simp) (fun y hy => by rw [List.mem_singleton.1 hy]; exact hfi) hb;have hrow : rd_T103 ((A ++ x :: P).map stepOf) (A.length : Int) = stepOf x:=by simp [rd_T103]
  have hgr : rd (lst l.length g) ((x.1 : Nat) : Int) = g x.1:=lst_rd _ hi;have ih:=ih (A ++ [x]) (ud g x.1 (g x.1 + dl x.2)) (by rw [List.append_assoc]; exact hl) hn.2 (fun y hy => by
   have hx2:=hf y (List.mem_cons_of_mem _ hy);have hne : y.1 ≠ x.1:=fun e => hn.1 (by rw [← e]; exact List.mem_map_of_mem hy)
   unfold Fl.Fit at hx2 ⊢
   rw [Fl.ud_off _ _ hne];exact hx2) hstep hk
  rw [show A ++ [x] ++ P = A ++ x :: P by simp,show (A ++ [x]).length = A.length + 1 by simp] at ih;refine Ev.go ?_ (fun k => by rw [impl_FlowOf.l1]);rw [hrow,up1 hlA (by simp only [maxLen]; omega)];refine Ev.pos (Int.ofNat_lt.2 hlA) (Ev.pos (Int.natCast_nonneg _) (Ev.pos (by rw [List.length_map]; exact Int.ofNat_lt.2 hlA) ?_));simp only [stepOf];rw [hgr,Int.toNat_natCast,lst_len]
  rcases Bool.eq_false_or_eq_true x.2 with hd | hd
  ·rw [hd] at ih;refine Ev.pos hd (Ev.pos (Int.natCast_nonneg _) (Ev.pos (Int.ofNat_lt.2 hi) ?_));rw [w64 (by omega) (by omega),set_ud];exact ih
  ·rw [hd] at ih;refine Ev.neg (by rw [hd]; simp) (Ev.pos (Int.natCast_nonneg _) (Ev.pos (Int.ofNat_lt.2 hi) ?_));rw [w64 (by omega) (by omega),set_ud];exact ih
end
section
variable {N : Nat} {l : List Arc} (hg : NetGood N l) {s t : Nat} (hs : s < N) (ht : t < N) (hne : s ≠ t)
include hg hs ht hne
theorem implAug_ev {f g : Nat → Int} (h : Aug N l s t f g) : FlowI N l s t f → Ev (fun k => impl_FlowOf.l0 k (s : Int) (t : Int) (lst l.length f) (N : Int) l) (lst l.length g):=by
 induction h with
 | @stop f c =>
  intro h;refine Ev.go ?_ (fun k => by rw [impl_FlowOf.l0]);exact Ev.bind (augI_ev hg hs ht ([],false) (fun _ => rfl) (fun h => absurd h c)) (Ev.neg (by simp) (Ev.now _))
 | @more f g P c w hn hf _ ih =>
  intro h;have hlen:=Sp.nodup_len l.length (P.map Prod.fst) hn (fun y hy => by
   obtain ⟨z,hz,e⟩:=List.mem_map.1 hy;rw [← e];exact (hf z hz).1)
  rw [List.length_map] at hlen;have h16:=hg.len;have hi:=ih (flow_ap hg hs ht hne h w hn hf).1;have ha:=add_ev hg hs ht P [] f (by rw [List.nil_append]; omega) hn hf h.fits hi;rw [List.nil_append] at ha;refine Ev.go ?_ (fun k => by rw [impl_FlowOf.l0]);refine Ev.bind (augI_ev hg hs ht (P.map stepOf,true) (fun h => absurd c h) (fun _ => ⟨P,w,hn,hf,rfl⟩)) (Ev.pos rfl ?_);rw [List.length_map];exact ha
theorem implFlowOf_ev {g : Nat → Int} (h : Aug N l s t (fun _ => 0) g) : Ev (fun k => impl_FlowOf.f k (N : Int) l (s : Int) (t : Int)) (lst l.length g):=by
 have h16:=hg.len;have hb : (netOkB (N : Int) l && (okN (N : Int) (s : Int) && (okN (N : Int) (t : Int) && ((s : Int) != (t : Int))))) = true:=by
  rw [(netOkB_iff _ _).2 hg];simp only [okN,Bool.true_and,Bool.and_eq_true,decide_eq_true_eq,bne_iff_ne];omega
 have ez : List.replicate (((l.length : Int)) : Int).toNat (0 : Int) = lst l.length (fun _ => 0):=by
  apply List.ext_getElem (by simp [lst])
  intro i h1 h2;simp [lst]
 unfold impl_FlowOf.f
 refine Ev.bind0 (apart_eq _ _ _ _) (Ev.pos hb (Ev.pos (by omega) (Ev.pos (by omega) ?_)));rw [ez];exact implAug_ev hg hs ht hne h (flow_zero hg hs ht hne)
end
end Go.Proofs.Ytlhmljngjdfbpaa.Pure
end
section
set_option linter.unusedSimpArgs false
set_option linter.unusedVariables false
namespace Go.Proofs.Ytlhmljngjdfbpaa.Pure
open Go.RowKit Go.Proofs.Ytlhmljngjdfbpaa.Pr Go.Proofs.YtlhmljngjdfbpaaW.PrintWords Go.Proofs.YtlhmljngjdfbpaaW.PrintLast Go.Proofs.YtlhmljngjdfbpaaW.PrintMore
structure Rdr (b : List Int) : Prop where
 len : b.length ≤ 2000
 rng : ∀ i,i < b.length → 0 ≤ nth b i ∧ nth b i ≤ 255
theorem Rdr.rd {b : List Int} (h : Rdr b) (i : Int) : 0 ≤ Go.Proofs.YtlhmljngjdfbpaaW.PrintWords.rd b i ∧ Go.Proofs.YtlhmljngjdfbpaaW.PrintWords.rd b i ≤ 255:=by
 have e : Go.Proofs.YtlhmljngjdfbpaaW.PrintWords.rd b i = nth b i.toNat:=rfl;rw [e]
 by_cases c : i.toNat < b.length
 case pos => exact h.rng _ c
 have c2 : b.length ≤ i.toNat:=by omega
 simp [nth,List.getElem?_eq_none c2]
theorem tm {x a : Int} (hx : 0 ≤ x) (ha : 0 < a) : 0 ≤ Int.tmod x a ∧ Int.tmod x a < a:=by
 rw [Int.tmod_eq_emod_of_nonneg hx];exact ⟨Int.emod_nonneg _ (by omega),Int.emod_lt_of_pos _ ha⟩
theorem td {x a : Int} (hx : 0 ≤ x) (ha : 0 < a) : 0 ≤ Int.tdiv x a ∧ Int.tdiv x a ≤ x:=by
 rw [Int.tdiv_eq_ediv_of_nonneg hx];exact ⟨Int.ediv_nonneg hx (by omega),Int.ediv_le_self _ hx⟩
theorem xor_nn {x y : Int} (hx : 0 ≤ x) (hx' : x < 4294967296) (hy : 0 ≤ y) (hy' : y < 4294967296) : 0 ≤ Go.bits .xor .i64 x y:=by
 obtain ⟨x,rfl⟩:=Int.eq_ofNat_of_zero_le hx;obtain ⟨y,rfl⟩:=Int.eq_ofNat_of_zero_le hy;have h1 : x ^^^ y < 2 ^ 32:=Nat.xor_lt_two_pow (by omega) (by omega);have e : Go.bits .xor .i64 ((x : Nat) : Int) ((y : Nat) : Int) = wrap64 (((BitVec.ofInt 64 ((x : Nat) : Int) ^^^ BitVec.ofInt 64 ((y : Nat) : Int)).toNat : Nat) : Int):=by
  unfold Go.bits
  simp only [i64_w];rfl
 rw [e,BitVec.toNat_xor,BitVec.ofInt_natCast,BitVec.ofInt_natCast,BitVec.toNat_ofNat,BitVec.toNat_ofNat,Nat.mod_eq_of_lt (by omega),Nat.mod_eq_of_lt (by omega),w64 (by omega) (by omega)];omega
theorem pick_pv {b : List Int} (h : Rdr b) {p a : Int} (hp : 0 ≤ p) (hp' : p ≤ 1000000) : Pv (fun k => spec_l30Rd_pick.f k b p a) (fun r => (0 ≤ r.1 ∧ (a < 1 → r.1 = 0) ∧ (1 ≤ a → r.1 < a)) ∧ r.2 = p + 1):=by
 have w1 : wrap64 (p + 1) = p + 1:=w64 (by omega) (by omega);have w2 : wrap64 (p + 1 - 1) = p:=by rw [w64 (by omega) (by omega)]; omega
 unfold spec_l30Rd_pick.f
 refine Pv.ite (fun c => ?_) (fun c => ?_)
 ·refine Pv.go ?_ (fun k => by rw [spec_l30Rd_pick.j0]);exact Pv.pos rfl (Pv.now ⟨⟨Int.le_refl _,fun _ => rfl,fun c2 => by omega⟩,w1⟩)
 ·refine Pv.go ?_ (fun k => by rw [spec_l30Rd_pick.j0]);refine Pv.ite (fun _ => Pv.now ⟨⟨Int.le_refl _,fun _ => rfl,fun c2 => by dsimp only; omega⟩,w1⟩) (fun c0 => ?_);have hb : 0 < (b.length : Int):=by
   have : (b.length : Int) ≠ 0:=by simpa using c0
   omega
  have hb2:=h.len;rw [w1,w2];have fin : ∀ X : Int,0 ≤ X → Pv (fun _ => some (Int.tmod X a,p + 1)) (fun r => (0 ≤ r.1 ∧ (a < 1 → r.1 = 0) ∧ (1 ≤ a → r.1 < a)) ∧ r.2 = p + 1):=by
   intro X hX;have:=tm hX (show 0 < a by omega);exact Pv.now ⟨⟨this.1,fun c2 => absurd c2 c,fun _ => this.2⟩,rfl⟩
  refine Pv.ite (fun c1 => Pv.pos hp (Pv.neg (by omega) ?_)) (fun c1 => ?_)
  ·have:=h.rd p;rw [w64 (n:=Go.Proofs.YtlhmljngjdfbpaaW.PrintWords.rd b p) (by omega) (by omega)];exact fin _ (by omega)
  ·have t1:=tm hp hb;have e1 : wrap64 (p * 7) = p * 7:=w64 (by omega) (by omega);have e2 : wrap64 (p * 7 + 3) = p * 7 + 3:=w64 (by omega) (by omega);rw [e1,e2];have t2:=tm (show 0 ≤ p * 7 + 3 by omega) hb;have r1:=h.rd (Int.tmod p b.length);have r2:=h.rd (Int.tmod (p * 7 + 3) b.length);have d1:=td hp hb;refine Pv.neg (by omega) (Pv.pos t1.1 (Pv.pos t1.2 (Pv.pos t2.1 (Pv.pos t2.2 (Pv.neg (by omega) ?_)))));generalize Go.Proofs.YtlhmljngjdfbpaaW.PrintWords.rd b (Int.tmod p b.length) = u at r1;generalize Go.Proofs.YtlhmljngjdfbpaaW.PrintWords.rd b (Int.tmod (p * 7 + 3) b.length) = v at r2;generalize Int.tdiv p b.length = q at d1;rw [w64 (n:=u) (by omega) (by omega),w64 (n:=v) (by omega) (by omega),w64 (n:=q) (by omega) (by omega),w64 (n:=u * 131) (by omega) (by omega),w64 (n:=v * 1117) (by omega) (by omega),w64 (n:=p * 29) (by omega) (by omega),w64 (n:=q * 53) (by omega) (by omega),w64 (n:=u * 131 + v * 1117) (by omega) (by omega),w64 (n:=u * 131 + v * 1117 + p * 29) (by omega) (by omega),w64 (n:=u * 131 + v * 1117 + p * 29 + q * 53) (by omega) (by omega)];have d2:=td (show 0 ≤ u * 131 + v * 1117 + p * 29 + q * 53 by omega) (show (0 : Int) < 64 by omega);generalize Int.tdiv (u * 131 + v * 1117 + p * 29 + q * 53) 64 = z at d2;rw [w64 (n:=z) (by omega) (by omega)];exact fin _ (xor_nn (by omega) (by omega) (by omega) (by omega))
theorem one_pv {b : List Int} (h : Rdr b) {p : Int} (hp : 0 ≤ p) (hp' : p ≤ 1000000) {l : List Int} (hl : 0 < l.length) : Pv (fun k => spec_l30Rd_one.f k b p l) (fun r => r.1 ∈ l ∧ r.2 = p + 1):=by
 unfold spec_l30Rd_one.f
 refine Pv.bind (pick_pv h hp hp') (fun r ⟨⟨h1,_,h2⟩,h3⟩ => ?_);have h2:=h2 (by omega);refine Pv.pos h1 (Pv.pos h2 (Pv.now ⟨?_,h3⟩));have e : Go.Proofs.YtlhmljngjdfbpaaW.PrintWords.rd l r.1 = nth l r.1.toNat:=rfl;dsimp only;rw [e];exact getD_mem (by omega)
theorem u8_range {x : Int} (h : (Lit.int .u8 x).wf = true) : 0 ≤ x ∧ x ≤ 255:=by
 simp only [Lit.wf] at h;have h2 : IntKind.u8.min ≤ x ∧ x ≤ IntKind.u8.max:=by simpa using h
 have e1 : IntKind.u8.min = 0:=by decide
 have e2 : IntKind.u8.max = 255:=by decide
 omega
theorem open_pv {l : List Int} (hl : ∀ x ∈ l,(Lit.int .u8 x).wf = true) : ∃ b,spec_l30Open.f l = some (b,0) ∧ Rdr b:=by
 have key : ∀ m : List Int,m.length ≤ 2000 → (∀ x ∈ m,x ∈ l) → Rdr m:=fun m h1 h2 => ⟨h1,fun i hi => u8_range (hl _ (h2 _ (getD_mem hi)))⟩
 unfold spec_l30Open.f
 by_cases c : (l.length : Int) > 2000
 case neg =>
  rw [if_neg c];exact ⟨_,rfl,key _ (by omega) (fun x hx => hx)⟩
 rw [if_pos c,if_pos (by omega)];exact ⟨_,rfl,key _ (by simp; omega) (fun x hx => List.mem_of_mem_take hx)⟩
def NetSz (p : Int) (r : Int × List Arc × Int) : Prop:=(0 ≤ r.1 ∧ r.1 ≤ 9) ∧ r.2.1.length ≤ 13 ∧ (p ≤ r.2.2 ∧ r.2.2 ≤ p + 100)
theorem net_l {b : List Int} (h : Rdr b) (n : Int) (hn : 1 ≤ n ∧ n ≤ 9) : ∀ (m : Nat) (p : Int) (l : List Arc),0 ≤ p → p + 6 * m ≤ 100000 → m ≤ 13 → l.length ≤ 13 - m → Pv (fun k => spec_l30Net.l0 k (m : Int) b p n l) (fun r => r.1 = n ∧ r.2.1.length ≤ 13 ∧ (p ≤ r.2.2 ∧ r.2.2 ≤ p + 6 * m)):=by
 intro m
 induction m with
 | zero =>
  intro p l hp hp' hm hl;refine Pv.go ?_ (fun k => by rw [spec_l30Net.l0]);exact Pv.neg (by omega) (Pv.now ⟨rfl,by dsimp only; omega,by dsimp only; omega⟩)
 | succ m ih =>
  intro p l hp hp' hm hl;have hw : wrap64 (((m + 1 : Nat) : Int) - 1) = (m : Int):=by rw [w64 (by omega) (by omega)]; omega
  refine Pv.go ?_ (fun k => by rw [spec_l30Net.l0]);rw [hw];refine Pv.pos (by omega) (Pv.bind (pick_pv h hp (by omega)) (fun r1 ⟨a1,e1⟩ => Pv.bind (pick_pv h (p:=r1.2) (by omega) (by omega)) (fun r2 ⟨a2,e2⟩ => Pv.bind (pick_pv h (p:=r2.2) (by omega) (by omega)) (fun r3 ⟨a3,e3⟩ => Pv.bind (one_pv h (p:=r3.2) (by omega) (by omega) (by simp)) (fun r4 ⟨a4,e4⟩ => Pv.bind (one_pv h (p:=r4.2) (by omega) (by omega) (by simp)) (fun r5 ⟨a5,e5⟩ => Pv.bind (pick_pv h (p:=r5.2) (by omega) (by omega)) (fun r6 ⟨a6,e6⟩ => ?_)))))));have step : ∀ x : Arc,Pv (fun k => spec_l30Net.l0 k (m : Int) b r6.2 n (l ++ [x])) (fun r => r.1 = n ∧ r.2.1.length ≤ 13 ∧ (p ≤ r.2.2 ∧ r.2.2 ≤ p + 6 * ((m + 1 : Nat) : Int))):=fun x => (ih r6.2 (l ++ [x]) (by omega) (by omega) (by omega) (by simp; omega)).mono (fun r hr => ⟨hr.1,hr.2.1,by omega,by omega⟩)
  refine Pv.ite (fun _ => Pv.neg (by omega) (Pv.pos (by omega) (step _))) (fun _ => Pv.pos (by omega) (step _))
theorem net_pv {b : List Int} (h : Rdr b) {p : Int} (hp : 0 ≤ p) (hp' : p ≤ 10000) : Pv (fun k => spec_l30Net.f k b p) (fun r => (2 ≤ r.1 ∧ r.1 ≤ 6) ∧ r.2.1.length ≤ 13 ∧ (p ≤ r.2.2 ∧ r.2.2 ≤ p + 90)):=by
 unfold spec_l30Net.f
 refine Pv.bind (pick_pv h hp (by omega)) (fun r1 ⟨a1,e1⟩ => Pv.bind (pick_pv h (p:=r1.2) (by omega) (by omega)) (fun r2 ⟨a2,e2⟩ => ?_));have b1:=a1.2.2 (by omega);have b2:=a2.2.2 (by omega);have hw : wrap64 (2 + r1.1) = 2 + r1.1:=w64 (by omega) (by omega);rw [hw];have:=net_l h (2 + r1.1) (by omega) r2.1.toNat r2.2 [] (by omega) (by omega) (by omega) (by simp);rw [Int.toNat_of_nonneg a2.1] at this;exact this.mono (fun r hr => ⟨⟨by omega,by omega⟩,hr.2.1,by omega,by omega⟩)
theorem anyNet_pv {b : List Int} (h : Rdr b) {p : Int} (hp : 0 ≤ p) (hp' : p ≤ 10000) : Pv (fun k => spec_l30AnyNet.f k b p) (NetSz p):=by
 unfold spec_l30AnyNet.f
 refine Pv.bind (net_pv h hp hp') (fun r0 ⟨a0,l0,e0⟩ => ?_);refine Pv.ite (fun c => ?_) (fun c => Pv.now ⟨by dsimp only; omega,l0,by dsimp only; omega⟩);refine Pv.bind (pick_pv h (p:=r0.2.2) (by omega) (by omega)) (fun r1 ⟨a1,e1⟩ => Pv.bind (pick_pv h (p:=r1.2) (by omega) (by omega)) (fun r2 ⟨a2,e2⟩ => ?_));have b1:=a1.2.2 (by omega);refine Pv.ite (fun c1 => Pv.pos a1.1 (Pv.pos b1 (Pv.bind (one_pv h (p:=r2.2) (by omega) (by omega) (by simp)) (fun r3 ⟨a3,e3⟩ => Pv.now ⟨by dsimp only; omega,by simpa using l0,by dsimp only; omega⟩)))) (fun c1 => ?_);refine Pv.ite (fun c2 => Pv.bind (one_pv h (p:=r2.2) (by omega) (by omega) (by simp)) (fun r3 ⟨a3,e3⟩ => Pv.pos a1.1 (Pv.pos b1 (Pv.now ⟨by dsimp only; omega,by simpa using l0,by dsimp only; omega⟩)))) (fun c2 => ?_);refine Pv.ite (fun c3 => Pv.bind (one_pv h (p:=r2.2) (by omega) (by omega) (by simp)) (fun r3 ⟨a3,e3⟩ => Pv.now ⟨?_,l0,by dsimp only; omega⟩)) (fun c3 => Pv.now ⟨by dsimp only; omega,l0,by dsimp only; omega⟩);simp only [List.mem_cons,List.not_mem_nil,or_false] at a3;dsimp only;omega
end Go.Proofs.Ytlhmljngjdfbpaa.Pure
end
section
set_option linter.unusedSimpArgs false
set_option linter.unusedVariables false
set_option linter.unusedSectionVars false
namespace Go.Proofs.Ytlhmljngjdfbpaa.Pure
open Go.RowKit Go.Proofs.Ytlhmljngjdfbpaa.Pr Go.Proofs.YtlhmljngjdfbpaaW.PrintWords Go.Proofs.YtlhmljngjdfbpaaW.PrintLast Go.Proofs.YtlhmljngjdfbpaaW.PrintMore
theorem nodeM_pv {b : List Int} (h : Rdr b) {p : Int} (hp : 0 ≤ p) (hp' : p ≤ 20000) (n : Int) (l : List Arc) : Pv (fun k => spec_l30Node.f k b p n l) (fun r => p ≤ r.2 ∧ r.2 ≤ p + 2):=by
 unfold spec_l30Node.f
 refine Pv.bind (pick_pv h hp (by omega)) (fun r1 ⟨a1,e1⟩ => Pv.ite (fun _ => ?_) (fun _ => ?_))
 ·exact Pv.bind (one_pv h (p:=r1.2) (by omega) (by omega) (by simp)) (fun r2 ⟨a2,e2⟩ => Pv.now (by dsimp only; omega))
 ·exact Pv.bind (pick_pv h (p:=r1.2) (by omega) (by omega)) (fun r2 ⟨a2,e2⟩ => Pv.now (by dsimp only; omega))
theorem FnFlowMost : laws_FnFlowMost.Asked:=by
 classical
 intro c hc;refine Pv.rounds ?_
 unfold laws_FnFlowMost.f
 refine Pv.ite (fun _ => Pv.now rfl) (fun _ => ?_)
 unfold spec_DrawFlowMost.f spec_DrawNearWalk.f
 obtain ⟨bb,e,hb⟩:=open_pv hc.2;refine Pv.bind (R:=fun r => r.2.1.length ≤ 13) (Pv.bind (R:=fun r => r.2.1.length ≤ 13) (Pv.bind0 e (Pv.bind (anyNet_pv hb (p:=0) (by omega) (by omega)) (fun r1 h1 => ?_))) (fun r h2 => Pv.now h2)) (fun r h2 => ?_)
 ·have h3:=h1.2.2;exact Pv.bind (nodeM_pv hb (p:=r1.2.2) (by omega) (by omega) _ _) (fun r2 e2 => Pv.bind (nodeM_pv hb (p:=r2.2) (by omega) (by omega) _ _) (fun r3 e3 => Pv.now h1.2.1))
 ·obtain ⟨n,l,a,b⟩:=r;dsimp only at h2 ⊢;have hm : l.length ≤ maxLen:=by simp only [maxLen]; omega
  refine Pv.bind (Pv.of (implMost_ev n l a b) (rfl : _ = _)) (fun r e => ?_);subst e;refine Pv.bind (Pv.of (specMost_ev n l a b hm) (rfl : _ = _)) (fun r e => ?_);subst e;refine Pv.pos rfl ?_
  by_cases hv : mostB n l a b = true
  case neg =>
   have e : mostV n l a b = -1:=by unfold mostV; rw [if_neg hv]
   rw [e];refine Pv.go ?_ (fun k => by rw [laws_FnFlowMost.j0]);refine Pv.pos rfl (Pv.bind (Pv.of (specMost_ev n l a b hm) (rfl : _ = _)) (fun r e2 => ?_));subst e2;rw [e];exact Pv.now rfl
  obtain ⟨hg,ha,hb,hab⟩:=(mostB_iff _ _ _ _).1 hv;obtain ⟨N,rfl⟩ : ∃ N : Nat,n = (N : Int):=⟨n.toNat,by have:=hg.n1; omega⟩
  obtain ⟨s,rfl⟩ : ∃ s : Nat,a = (s : Int):=⟨a.toNat,by omega⟩
  obtain ⟨t,rfl⟩ : ∃ t : Nat,b = (t : Int):=⟨b.toNat,by omega⟩
  have hs : s < N:=by omega
  have ht : t < N:=by omega
  have hne : s ≠ t:=fun h => hab (by rw [h])
  rw [mostV_is hg hs ht hne];have h0:=most_pos hg hs ht hne;rw [decide_eq_false (by omega)];obtain ⟨g,hA⟩:=aug_zero hg hs ht hne;obtain ⟨hF,hcm⟩:=aug_end hg hs ht hne hA (flow_zero hg hs ht hne);have e1:=flow_most hg hs ht hne hF hcm;refine Pv.go ?_ (fun k => by rw [laws_FnFlowMost.j0]);refine Pv.neg (by simp) (Pv.bind (Pv.of (implFlowOf_ev hg hs ht hne hA) (rfl : _ = _)) (fun r e => ?_));subst e;refine Pv.bind (Pv.of (implValue_ev _ _ _ _ _) (rfl : _ = _)) (fun r e => ?_);subst e;rw [valueV_is hg hs ht hne hF,e1];refine Pv.bind (loadAll_pv hg hs) (fun r ⟨hr,hL⟩ => ?_);refine Pv.pos (by omega) (Pv.pos (by omega) (Pv.pos rfl (Pv.pos rfl ?_)));refine Pv.bind (Pv.of (implNetBack_ev hg) (rfl : _ = _)) (fun r e => ?_);subst e;refine Pv.bind (Pv.of (implMost_ev _ _ _ _) (rfl : _ = _)) (fun r e => ?_);subst e;dsimp only;rw [mostV_is (back_good hg) ht hs (fun e => hne e.symm),most_back hg hs ht hne];refine Pv.pos rfl (Pv.now ?_);rw [decide_eq_true_eq,rdg]
  rcases most_from hg (a:=s) (b:=t) (2 ^ N) with e | ⟨S,_,k1,k2,e⟩
  ·omega
  ·rw [e];exact load_cut hg hs ht (hL t ht) k1 k2
end Go.Proofs.Ytlhmljngjdfbpaa.Pure
end
section
namespace Go.Proofs.Ytlhmljngjdfbpaa.fnFlowMost
open Go.ChangeShapes Go.WideShapes Go.ChangeAt Go.RowKit Go.Proofs.YtlhmljngjdfbpaaW.PrintWords Go.Proofs.Ytlhmljngjdfbpaa.Pr
open Go.ChangeMaps (open_string shut_string)
set_option linter.unusedVariables false
set_option linter.unusedSimpArgs false
theorem own : ownKnob Try.prog.godebug = none:=by kernel_rfl
theorem laidOut : laidOutB Try.prog = true:=by kernel_rfl
theorem opens0 : Opens Try.prog (Kd.slice 5 (Kd.int .u8)) 22 (fun l => l.length ≤ maxLen ∧ ∀ x ∈ l,(fun n => (Lit.int .u8 n).wf = true) x):=(opens_slice (P:=Try.prog) Try.underlying22 (by kernel_rfl) (opens_int (P:=Try.prog) (k:=.u8) Try.underlying5))
set_option maxRecDepth 100000 in
set_option maxHeartbeats 2000000 in
theorem lifted (os : Os) (started : os.Started) (H : Type) (enc : TypeId × Value → H) :
  ReturnsInHanded {} Try.checked os 9 .any (Rows.fnFlowMostSpec.pre6 enc Try.prog Try.f9 Rows.fnFlowMostRow.domain false) (Rows.fnFlowMostSpec.post enc Try.prog Try.f9 false true false false):=by
 refine returnsInHanded_of_change_sized (C:=Try.checked) own started (by kernel_rfl) Try.func9
  (ChangeSpec.witness6 (enc:=enc) (C:=Try.checked) false ⟨#[],#[(.slice none 0 0)],[]⟩ 8 (by kernel_rfl) (by kernel_rfl) (by kernel_rfl) (by kernel_rfl)) ?_
 intro W base args ds gs before hval0 hW hcnd hsz0 _;have hval : ∀ (j : Nat) t v,Try.f9.params[j]? = some t → args[j]? = some v → Value.okWide Try.prog W .any base t v:=hval0
 have hW':=hW;obtain ⟨p,q,hA0,hV,rfl,hfz,hnd⟩:=hW;have hA : DataW.TrodAll enc Try.prog W 0 (fun _ => true) true Try.f9.params.toList args.toList ds p:=hA0;rw [Try.params9] at hA hval;obtain ⟨v0,vs0,d0,ds0,p0,q0,hargs,rfl,rfl,h0,r0⟩:=trodAll_cons hA;obtain ⟨rfl,rfl,rfl⟩:=trodAll_nil r0;obtain rfl : args = #[v0]:=by cases args; simp_all
 obtain ⟨rfl,rfl⟩:=trodVars_none hV;have k0:=h0;have lt0 : ∀ x ∈ p0,x.block < W.heap.size:=by obtain ⟨m,hm⟩:=k0; exact DataW.trod_lt m _ _ _ hm
 obtain ⟨a0,len0,cap0,rfl⟩:=okWide_slice Try.underlying22 (hval 0 22 v0 rfl rfl);obtain ⟨fuel0,hf0⟩:=h0;obtain ⟨l0,⟨A0,c0,e0,hc0,hr0⟩,w0⟩:=opens0 hf0;have e0' : (Value.slice a0 len0 cap0) = .slice A0 l0.length c0:=(List.cons.inj e0).1;injection e0' with e0a e0b e0c
 subst e0a e0b e0c;obtain ⟨k,hh⟩:=Pure.FnFlowMost l0 w0;refine (laws_FnFlowMost.calls k _ _ l0 true W hr0 hc0 hh).mono fun e W' ⟨he,bel0⟩ => ?_
 have bel : Below W.heap.size W W':=bel0;subst he;exact ⟨_,rfl,_,_,_,[],_,[],hW',trodAll_mk1 (shut_bool Try.underlying4 _),(trodAll_cons_mk (Below.trod laidOut (by kernel_rfl) (of_decide_eq_true (by kernel_rfl)) k0 bel lt0) trodAll_mk0),rfl,bel.frame _,fun h => by cases h⟩
theorem over : Rows.fnFlowMostRow.holds Try.pinned (OpenSpec.ofChange Rows.fnFlowMostSpec) :=
 OpenClaim.holds_of_wide 9 Try.f9 rfl rfl rfl rfl rfl rfl rfl ⟨rfl,rfl,rfl,rfl,rfl⟩ rfl rfl rfl rfl rfl (by kernel_rfl) Try.func9 (by kernel_rfl)
  (of_decide_eq_true (by kernel_rfl)) (by unfold Func.isWrapper; first | (rw [if_pos (by decide +kernel)]; kernel_rfl) | (rw [if_neg (by decide +kernel)]; exact ⟨rfl,rfl⟩))
  (fun os started H enc _ => lifted os started H enc)
theorem proved : Rows.FnFlowMostSaid:=over
#print axioms proved
end Go.Proofs.Ytlhmljngjdfbpaa.fnFlowMost
namespace Go.Proofs.Ytlhmljngjdfbpaa
theorem fnFlowMost_holds : Rows.FnFlowMostSaid:=fnFlowMost.proved
end Go.Proofs.Ytlhmljngjdfbpaa
end
