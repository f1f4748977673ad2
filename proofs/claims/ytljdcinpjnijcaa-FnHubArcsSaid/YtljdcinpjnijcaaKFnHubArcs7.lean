/- For the statement FnHubArcs of this seat: it is proved here, with no further conditions (part 8 of its texts: words, walks of the functions, the plain law, the row). -/
import Derived.ChangeArms
import Derived.ChangeSlices
import Derived.Deep.Slices
import Derived.WideShapes
import Derived.DataReads
import Derived.Test.YtljdcinpjnijcaaKFnHubArcs6
section
namespace Go.Proofs.Ytljdcinpjnijcaa.Pr
open Go.RowKit Go.Proofs.YtljdcinpjnijcaaW.PrintWords Go.Proofs.YtljdcinpjnijcaaW.PrintLast Go.Proofs.YtljdcinpjnijcaaW.PrintMore
attribute [local go_sem] max2_int min2_int max_two min_two max_three min_three max_four min_four
set_option linter.unusedVariables false
set_option linter.unusedSimpArgs false
open List renaming setIfInBounds_toArray → U,set_cons_zero → V,set_cons_succ → Z
open Go.Proofs.YtljdcinpjnijcaaW.PrintWords.Aside0 renaming mk → zx
mutual
def laws_FnHubArcs.j0 : Nat → List Int → Bool → Int → List (S34) → Option (Bool)
 | 0,_,_,_,_ => none
 | k + 1,x4,x29,q4,q5 => if x29 = true then ((spec_HubArcs.f k q4 q5).bind fun t646 => ((laws_wkInts.f k x4 t646).bind fun t649 => (some t649))) else ((impl_HubCount.f k q4 q5).bind fun t650 => (laws_FnHubArcs.l0 k x4 t650 0 q4 q5))
def laws_FnHubArcs.l0 : Nat → List Int → List Int → Int → Int → List (S34) → Option (Bool)
 | 0,_,_,_,_,_ => none
 | k + 1,x4,x5,x6,q4,q5 => if x6 < (x4.length : Int) then (if 0 ≤ x6 then (if x6 < (q5.length : Int) then ((impl_NearWalk.f k q4 q5 ((rd_T34 q5 x6).f0) ((rd_T34 q5 x6).f1)).bind fun bt655 => (if (bt655.1.length : Int) = 1 then (if 0 < (bt655.1.length : Int) then (if ((decide ((rd x4 x6) > 0)) != ((rd bt655.1 0) == x6)) = true then (some false) else (if (rd x4 x6) > (wrap64 (q4 * q4)) then (some false) else (laws_FnHubArcs.l0 k x4 x5 (wrap64 (x6 + 1)) q4 q5))) else (none)) else (if ((decide ((rd x4 x6) > 0)) != false) = true then (some false) else (if (rd x4 x6) > (wrap64 (q4 * q4)) then (some false) else (laws_FnHubArcs.l0 k x4 x5 (wrap64 (x6 + 1)) q4 q5))))) else (none)) else (none)) else (if 0 ≤ q4 then (if (q4 : Int).toNat ≤ 35184372088832 then (laws_FnHubArcs.l1 k x4 x5 (List.replicate (q4 : Int).toNat 0) 0 q4 q5) else (none)) else (none))
def laws_FnHubArcs.l1 : Nat → List Int → List Int → List Int → Int → Int → List (S34) → Option (Bool)
 | 0,_,_,_,_,_,_ => none
 | k + 1,x4,x5,x10,x11,q4,q5 => if x11 < (x4.length : Int) then (if 0 ≤ x11 then (if x11 < (q5.length : Int) then (if 0 ≤ ((rd_T34 q5 x11).f1) then (if ((rd_T34 q5 x11).f1) < (x10.length : Int) then (laws_FnHubArcs.l1 k x4 x5 (x10.set (((rd_T34 q5 x11).f1) : Int).toNat (wrap64 ((rd x10 ((rd_T34 q5 x11).f1)) + (rd x4 x11)))) (wrap64 (x11 + 1)) q4 q5) else (none)) else (none)) else (none)) else (none)) else (laws_FnHubArcs.l2 k x5 x10 0 q4 q5)
def laws_FnHubArcs.l2 : Nat → List Int → List Int → Int → Int → List (S34) → Option (Bool)
 | 0,_,_,_,_,_ => none
 | k + 1,x5,x10,x12,q4,q5 => if x12 < q4 then (if 0 ≤ x12 then (if x12 < (x10.length : Int) then (if x12 < (x5.length : Int) then (if (rd x10 x12) < (rd x5 x12) then (some false) else (laws_FnHubArcs.l2 k x5 x10 (wrap64 (x12 + 1)) q4 q5)) else (none)) else (none)) else (none)) else (some true)
end
def laws_FnHubArcs.f (k : Nat) (l0 : List Int) : Option (Bool):=if (l0.length : Int) > 1048576 then (some true) else ((spec_DrawHubArcs.f k l0).bind fun bt634 => ((impl_HubArcs.f k bt634.1 bt634.2).bind fun t639 => ((spec_HubArcs.f k bt634.1 bt634.2).bind fun t642 => ((laws_wkInts.f k t639 t642).bind fun t645 => (if t645 = true then (laws_FnHubArcs.j0 k t639 ((t639.length : Int) == 0) bt634.1 bt634.2) else (laws_FnHubArcs.j0 k t639 true bt634.1 bt634.2))))))
def laws_FnHubArcs.T13 : Bool × List (List Nat × List Nat):=(true,[([],[]),([],[]),([0,1],[0,1]),([2],[2]),([3],[3]),([],[]),([5],[5]),([6],[6]),([7],[7]),([8],[8]),([9,8],[8,9]),([10,8],[8,10]),([8],[8]),([11,12,8],[8,11,12]),([8,13],[8,13]),([4,14],[4,14]),([15,8],[15]),([16],[16]),([16],[16]),([17,18,16],[16,17,18]),([19,16],[16,19]),([16],[16]),([21,16],[16,21]),([16],[16]),([23,16],[16,23]),([22,24,16],[16,22,24]),([20,25,16],[16,20,25]),([16,26],[16,26])])
def laws_FnHubArcs.B13 : List Nat:=[0,0,3,7,15,0,32,96,224,480,992,2016,480,8160,16352,32767,65535,131071,131071,524287,1048575,131071,2228223,131071,8519679,31588351,67108863,134217727]
theorem laws_FnHubArcs.tab13 : rtab .any (opsOf Try.f7 13) = laws_FnHubArcs.T13:=by kernel_rfl
theorem laws_FnHubArcs.bits13 : waitsOk laws_FnHubArcs.T13.2 laws_FnHubArcs.B13 = true:=by kernel_rfl
def laws_FnHubArcs.T19 : Bool × List (List Nat × List Nat):=(true,[([],[]),([],[]),([1],[1]),([],[]),([2,3],[2,3]),([4],[4]),([5],[5]),([],[]),([],[]),([8],[8]),([],[]),([9,10],[9,10]),([11],[11]),([12],[12]),([7,13],[7,13]),([14],[14]),([],[]),([],[]),([16,17],[16,17]),([18],[18]),([15,19],[15,19]),([0,6,0,1,2,3,4,5,6,7,8,9,10,11,12,13,14,15,16,17,18,19,20],[0,6]),([21,20,0,1,2,3,4,5,6,7,8,9,10,11,12,13,14,15,16,17,18,19,20],[20,21])])
def laws_FnHubArcs.B19 : List Nat:=[0,0,2,0,14,30,62,0,0,256,0,1792,3840,7936,16256,32640,0,0,196608,458752,1048448,2097151,4194303]
theorem laws_FnHubArcs.tab19 : rtab .any (opsOf Try.f7 19) = laws_FnHubArcs.T19:=by kernel_rfl
theorem laws_FnHubArcs.bits19 : waitsOk laws_FnHubArcs.T19.2 laws_FnHubArcs.B19 = true:=by kernel_rfl
def laws_FnHubArcs.T23 : Bool × List (List Nat × List Nat):=(true,[([],[]),([],[]),([0,1],[0,1]),([2],[2]),([],[]),([],[]),([4,5],[4,5]),([6],[6]),([3,7],[3,7])])
def laws_FnHubArcs.B23 : List Nat:=[0,0,3,7,0,0,48,112,255]
theorem laws_FnHubArcs.tab23 : rtab .any (opsOf Try.f7 23) = laws_FnHubArcs.T23:=by kernel_rfl
theorem laws_FnHubArcs.bits23 : waitsOk laws_FnHubArcs.T23.2 laws_FnHubArcs.B23 = true:=by kernel_rfl
set_option maxHeartbeats 8000000 in
set_option maxRecDepth 100000 in
theorem laws_FnHubArcs.calls (k : Nat) (A0 : Option Addr) (c0 : Nat) (l0 : List Int) (r : Bool) (w : World) (hr0 : Kd.C (Kd.int .u8) w A0 l0.length l0) (hc0 : l0.length ≤ c0) (h : laws_FnHubArcs.f k l0 = some r) :
  Calls Try.prog 7 #[.slice A0 l0.length c0] w fun e w' => e = .returned (.bool r) ∧ Below w.heap.size w w':=by
 have hu25:=Try.underlying25;have hu34:=Try.underlying34;have HR0:=zx hr0;have HC0:=zx hc0;clear hr0 hc0;have HB:=zx (Below.refl w.heap.size w);have H : (if (l0.length : Int) > 1048576 then (some true) else ((spec_DrawHubArcs.f k l0).bind fun bt634 => ((impl_HubArcs.f k bt634.1 bt634.2).bind fun t639 => ((spec_HubArcs.f k bt634.1 bt634.2).bind fun t642 => ((laws_wkInts.f k t639 t642).bind fun t645 => (if t645 = true then (laws_FnHubArcs.j0 k t639 ((t639.length : Int) == 0) bt634.1 bt634.2) else (laws_FnHubArcs.j0 k t639 true bt634.1 bt634.2))))))) = some r:=h;clear h
 by_cases c2 : (l0.length : Int) > 1048576
 case pos =>
  rw [if_pos c2] at H;have c2b0 : decide (1048576 < (l0.length : Int)) = true:=decide_eq_true c2;have c2b1 : decide (1048576 < l0.length) = true:=decide_eq_true (by omega);clear c2;obtain rfl:=Option.some.inj H
  go_enter Try.func7,Try.ntmps7
  go_wp2
  go_ret;exact ⟨by first | rfl | (simp [errW_none,errW_some] <;> rfl) | (simp [*,errW_none,errW_some] <;> rfl),by repeat (first | (with_reducible first | exact HB.out | apply below_alloc | apply pw_below_drewN | apply below_drew1) | exact HB.out)⟩
 rw [if_neg c2] at H;have c2b0 : decide (1048576 < (l0.length : Int)) = false:=decide_eq_false c2;have c2b1 : decide (1048576 < l0.length) = false:=decide_eq_false (by omega);clear c2;replace H:=Option.bind_eq_some_iff.mp H;obtain ⟨⟨t634,t635⟩,A30,H⟩:=H;replace H : ((impl_HubArcs.f k t634 t635).bind fun t639 => ((spec_HubArcs.f k t634 t635).bind fun t642 => ((laws_wkInts.f k t639 t642).bind fun t645 => (if t645 = true then (laws_FnHubArcs.j0 k t639 ((t639.length : Int) == 0) t634 t635) else (laws_FnHubArcs.j0 k t639 true t634 t635))))) = some r:=H;have A3:=zx A30;clear A30;replace H:=Option.bind_eq_some_iff.mp H;obtain ⟨t639,A40,H⟩:=H;replace H : ((spec_HubArcs.f k t634 t635).bind fun t642 => ((laws_wkInts.f k t639 t642).bind fun t645 => (if t645 = true then (laws_FnHubArcs.j0 k t639 ((t639.length : Int) == 0) t634 t635) else (laws_FnHubArcs.j0 k t639 true t634 t635)))) = some r:=H;have A4:=zx A40;clear A40;have HC5:=zx H;clear H
 go_enter Try.func7,Try.ntmps7
 go_upto_region 5 with (first | ((with_reducible refine gate_callee (f:=29) rfl ?_); refine goesL_ (some 17) rfl rfl Try.func29 (by kernel_rfl) rfl #[.slice A0 l0.length c0] rfl (by (try simp only [List.map_toArray,List.map_cons,List.map_nil]); first | done | rfl | (simp only [List.length_drop,List.length_take]; rfl)) ?_; (with_reducible refine (spec_DrawHubArcs.calls k _ _ l0 t634 t635 _ ?side1 ?side2 A3.out).mono ?_); (case side1 => repeat (first | exact HR0.out | (with_reducible refine Kd.C_alloc ?_ _) | (with_reducible refine Kd.C_drewN ?_ _) | (with_reducible refine Kd.C_drew ?_))); (case side2 => exact HC0.out); rintro e w6 ⟨v636,rfl,ho0,hb⟩; refine ⟨_,rfl,?_⟩; have n0_:=zx (Kd.R_lower ho0 (below_size (by repeat (first | (with_reducible first | exact HB.out | apply below_alloc | apply pw_below_drewN | apply below_drew1) | exact HB.out)))); have n1_:=zx (below_step (by repeat (first | (with_reducible first | exact HB.out | apply below_alloc | apply pw_below_drewN | apply below_drew1) | exact HB.out)) hb); clear HB; have HO637:=n0_; have HB:=n1_; clear n0_ n1_; (try clear hb); (try clear hb2); (try clear hk); (try clear hi); (try clear ho0)) | ((with_reducible refine gate_dst (N:=3) rfl ?_); (try (refine gate_guard (by rfl) ?_; dsimp only)); refine box_event ?hg (N:=3) ?hd (cs:=#[.int .i64 0,.slice none 0 0]) (t:=25) ?hr ?_; (case hd => rfl); (case hg => rfl); (case hr => first | (go_simp; done) | (go_simp; rfl)); intro p7 hg w7 hbox hb; have n0_:=zx (Kd.R_below (by exact HO637.out) hb); have n1_:=zx (below_step (by repeat (first | (with_reducible first | exact HB.out | apply below_alloc | apply pw_below_drewN | apply below_drew1) | exact HB.out)) hb); have n2_:=zx (hbox); have n3_:=zx ((by rw [hg]; exact (below_size (by repeat (first | (with_reducible first | exact HB.out | apply below_alloc | apply pw_below_drewN | apply below_drew1) | exact HB.out))) : w.heap.size ≤ p7)); have n4_:=zx ((by rw [hg]; exact (below_size (by repeat (first | (with_reducible first | exact HB.out | apply below_alloc | apply pw_below_drewN | apply below_drew1) | exact HB.out))) : w.heap.size ≤ p7)); clear HO637; clear HB; have HO637:=n0_; have HB:=n1_; have p4:=n2_; have GW638:=n3_; have q0:=n4_; clear n0_ n1_ n2_ n3_ n4_; clear hb hbox hg; have a8 : w7.cell? ⟨p7,0,none⟩ = some (.int .i64 0):=(blk_cell p4.out 0).trans rfl; have a9 : w7.cell? ⟨p7,1,none⟩ = some (.slice none 0 0):=(blk_cell p4.out 1).trans rfl; have b0:=blk_frozen p4.out 0; have b1:=blk_frozen p4.out 1; obtain ⟨Ao9,co9,eo9⟩:=Kd.R_slice HO637.out; subst eo9) | ((with_reducible refine gate_callee (f:=30) rfl ?_); refine goesL_ (some 19) rfl rfl Try.func30 (by kernel_rfl) rfl #[.agg #[.int .i64 t634,.slice Ao9 t635.length co9]] rfl (by (try simp only [List.map_toArray,List.map_cons,List.map_nil]); first | done | rfl | (simp only [List.length_drop,List.length_take]; rfl)) ?_; (with_reducible refine (impl_HubArcs.calls k t634 _ _ t635 t639 _ ?side1 ?side2 A4.out).mono ?_); (case side1 => refine (Kd.R_reads' (e:=34) (base:=w.heap.size) (ok:=fun k_ => True) (n:=t635.length) (c:=co9) ?_).2.2; exact (by exact (Kd.R_mono (Kd.R_far (p:=⟨p7,1,none⟩) (Kd.R_far (p:=⟨p7,0,none⟩) (Kd.R_types HO637.out p4.out (by decide)) (fun _ hk => hk.2) (.int .i64 t634)) (fun _ hk => hk.2) (.slice Ao9 t635.length co9)) (fun _ h_ => h_.1)))); (case side2 => exact (Kd.R_reads' HO637.out).2.1); rintro e w10 ⟨v640,rfl,ho0,hb⟩; refine ⟨_,rfl,?_⟩; have n0_:=zx (Kd.R_below (by exact (Kd.R_mono (Kd.R_far (p:=⟨p7,1,none⟩) (Kd.R_far (p:=⟨p7,0,none⟩) (Kd.R_types HO637.out p4.out (by decide)) (fun _ hk => hk.2) (.int .i64 t634)) (fun _ hk => hk.2) (.slice Ao9 t635.length co9)) (fun _ h_ => h_.1))) hb); have n1_:=zx (Kd.R_lower ho0 (below_size (by repeat (first | (with_reducible first | exact HB.out | apply below_alloc | apply pw_below_drewN | apply below_drew1 | refine below_set ?_ q0.out) | exact HB.out)))); have n2_:=zx (blk_below (g:=p7) (o:=.cells #[.int .i64 t634,.slice Ao9 t635.length co9] 25 (0,0)) (by refine blk_put (cs:=#[.int .i64 t634,.slice none 0 0]) ?_ 1 _ rfl; refine blk_put (cs:=#[.int .i64 0,.slice none 0 0]) ?_ 0 _ rfl; exact p4.out) hb); have n3_:=zx (below_step (by repeat (first | (with_reducible first | exact HB.out | apply below_alloc | apply pw_below_drewN | apply below_drew1 | refine below_set ?_ q0.out) | exact HB.out)) hb); clear HO637; clear p4; clear HB; have HO637:=n0_; have HO641:=n1_; have p4:=n2_; have HB:=n3_; clear n0_ n1_ n2_ n3_; (try clear hb); (try clear hb2); (try clear hk); (try clear hi); (try clear ho0)))
 (try simp only [Act.put,U,V,Z])
 go_cut [29] (fun v29 wc => ∃ (kq : Nat) (u9 : Bool),v29 = .bool u9 ∧ Aside0 (laws_FnHubArcs.j0 kq t639 u9 t634 t635 = some r) ∧ Aside0 (kq ≤ k) ∧ Aside0 (Kd.R (Kd.int .i64) 3 wc w.heap.size (fun _ => True) v640 t639) ∧ Aside0 (Kd.R k34 34 wc w.heap.size (fun _ => True) (.slice Ao9 t635.length co9) t635) ∧ Aside0 (wc.heap[p7]? = some (.cells #[.int .i64 t634,(.slice Ao9 t635.length co9)] 25 (0,0))) ∧ Aside0 (Below w.heap.size w wc))
 case first =>
  have H:=HC5.out;clear HC5;replace H:=Option.bind_eq_some_iff.mp H;obtain ⟨t642,A110,H⟩:=H;replace H : ((laws_wkInts.f k t639 t642).bind fun t645 => (if t645 = true then (laws_FnHubArcs.j0 k t639 ((t639.length : Int) == 0) t634 t635) else (laws_FnHubArcs.j0 k t639 true t634 t635))) = some r:=H;have A11:=zx A110;clear A110;replace H:=Option.bind_eq_some_iff.mp H;obtain ⟨t645,A120,H⟩:=H;replace H : (if t645 = true then (laws_FnHubArcs.j0 k t639 ((t639.length : Int) == 0) t634 t635) else (laws_FnHubArcs.j0 k t639 true t634 t635)) = some r:=H;have A12:=zx A120;clear A120
  by_cases c13 : t645 = true
  case pos =>
   subst c13;have H1 : (laws_FnHubArcs.j0 k t639 ((t639.length : Int) == 0) t634 t635) = some r:=by rw [if_pos rfl] at H; exact H
   clear H;have H:=H1;clear H1;have H':=zx H;clear H;have v0 : w10.cell? ⟨p7,0,none⟩ = some (.int .i64 t634):=(blk_cell p4.out 0).trans rfl;have v1 : w10.cell? ⟨p7,1,none⟩ = some (.slice Ao9 t635.length co9):=(blk_cell p4.out 1).trans rfl;have v2:=blk_frozen p4.out 0;have v3:=blk_frozen p4.out 1
   go_wp2_with (first | ((with_reducible refine gate_callee (f:=31) rfl ?_); refine goesL_ (some 22) rfl rfl Try.func31 (by kernel_rfl) rfl #[.agg #[.int .i64 t634,.slice Ao9 t635.length co9]] rfl (by (try simp only [List.map_toArray,List.map_cons,List.map_nil]); first | done | rfl | (simp only [List.length_drop,List.length_take]; rfl)) ?_; (with_reducible refine (spec_HubArcs.calls k t634 _ _ t635 t642 _ ?side1 ?side2 A11.out).mono ?_); (case side1 => repeat (first | exact (Kd.R_reads' HO637.out).2.2 | (with_reducible refine Kd.C_alloc ?_ _) | (with_reducible refine Kd.C_drewN ?_ _) | (with_reducible refine Kd.C_drew ?_))); (case side2 => exact (Kd.R_reads' HO637.out).2.1); rintro e w15 ⟨v643,rfl,ho0,hb⟩; refine ⟨_,rfl,?_⟩; have n0_:=zx (Kd.R_below (by exact HO637.out) hb); have n1_:=zx (Kd.R_elder' (by exact HO641.out) (Kd.R_base ho0) hb); have n2_:=zx (Kd.R_lower (Kd.R_new' ho0 (Kd.R_lt (by exact HO641.out))) (below_size (by repeat (first | (with_reducible first | exact HB.out | apply below_alloc | apply pw_below_drewN | apply below_drew1 | refine below_set ?_ q0.out) | exact HB.out)))); have n3_:=zx (blk_below (g:=p7) (o:=.cells #[.int .i64 t634,.slice Ao9 t635.length co9] 25 (0,0)) (by exact p4.out) hb); have n4_:=zx (below_step (by repeat (first | (with_reducible first | exact HB.out | apply below_alloc | apply pw_below_drewN | apply below_drew1 | refine below_set ?_ q0.out) | exact HB.out)) hb); clear HO637; clear HO641; clear p4; clear HB; have HO637:=n0_; have HO641:=n1_; have HO644:=n2_; have p4:=n3_; have HB:=n4_; clear n0_ n1_ n2_ n3_ n4_; (try clear hb); (try clear hb2); (try clear hk); (try clear hi); (try clear ho0); obtain ⟨Ao16,co16,eo16⟩:=Kd.R_slice HO641.out; subst eo16; obtain ⟨Ao17,co17,eo17⟩:=Kd.R_slice HO644.out; subst eo17) | ((with_reducible refine gate_callee (f:=27) rfl ?_); refine goesL_ (some 23) rfl rfl Try.func27 (by kernel_rfl) rfl #[.slice Ao16 t639.length co16,.slice Ao17 t642.length co17] rfl (by (try simp only [List.map_toArray,List.map_cons,List.map_nil]); first | done | rfl | (simp only [List.length_drop,List.length_take]; rfl)) ?_; (with_reducible refine (laws_wkInts.calls k _ _ t639 _ _ t642 true _ ?side1 ?side2 ?side3 ?side4 A12.out).mono ?_); (case side1 => repeat (first | exact (Kd.R_reads' HO641.out).2.2 | (with_reducible refine Kd.C_alloc ?_ _) | (with_reducible refine Kd.C_drewN ?_ _) | (with_reducible refine Kd.C_drew ?_))); (case side2 => exact (Kd.R_reads' HO641.out).2.1); (case side3 => repeat (first | exact (Kd.R_reads' HO644.out).2.2 | (with_reducible refine Kd.C_alloc ?_ _) | (with_reducible refine Kd.C_drewN ?_ _) | (with_reducible refine Kd.C_drew ?_))); (case side4 => exact (Kd.R_reads' HO644.out).2.1); rintro e w' ⟨rfl,⟨nd,rfl⟩⟩; refine ⟨_,rfl,?_⟩))
   go_meet
   case rel => exact ⟨_,(((t639.length : Int) == 0)),(by first | rfl | (simp; done) | (simp [*]; done)),H',⟨by first | omega | exact Nat.le_refl _⟩,⟨by exact Kd.R_mono HO641.out (fun _ hk => trivial)⟩,⟨by exact HO637.out⟩,⟨by exact p4.out⟩,⟨by repeat (first | (with_reducible first | exact HB.out | apply below_alloc | apply pw_below_drewN | apply below_drew1 | refine below_set ?_ q0.out) | exact HB.out)⟩⟩
  replace c13:=Bool.eq_false_iff.mpr c13;subst c13;have H1 : (laws_FnHubArcs.j0 k t639 true t634 t635) = some r:=by rw [if_neg (show ¬ (false = true) by decide)] at H; exact H
  clear H;have H:=H1;clear H1;have H':=zx H;clear H;have v4 : w10.cell? ⟨p7,0,none⟩ = some (.int .i64 t634):=(blk_cell p4.out 0).trans rfl;have v5 : w10.cell? ⟨p7,1,none⟩ = some (.slice Ao9 t635.length co9):=(blk_cell p4.out 1).trans rfl;have v7:=blk_frozen p4.out 0;have v8:=blk_frozen p4.out 1
  go_wp2_with (first | ((with_reducible refine gate_callee (f:=31) rfl ?_); refine goesL_ (some 22) rfl rfl Try.func31 (by kernel_rfl) rfl #[.agg #[.int .i64 t634,.slice Ao9 t635.length co9]] rfl (by (try simp only [List.map_toArray,List.map_cons,List.map_nil]); first | done | rfl | (simp only [List.length_drop,List.length_take]; rfl)) ?_; (with_reducible refine (spec_HubArcs.calls k t634 _ _ t635 t642 _ ?side1 ?side2 A11.out).mono ?_); (case side1 => repeat (first | exact (Kd.R_reads' HO637.out).2.2 | (with_reducible refine Kd.C_alloc ?_ _) | (with_reducible refine Kd.C_drewN ?_ _) | (with_reducible refine Kd.C_drew ?_))); (case side2 => exact (Kd.R_reads' HO637.out).2.1); rintro e w19 ⟨v643,rfl,ho0,hb⟩; refine ⟨_,rfl,?_⟩; have n0_:=zx (Kd.R_below (by exact HO637.out) hb); have n1_:=zx (Kd.R_elder' (by exact HO641.out) (Kd.R_base ho0) hb); have n2_:=zx (Kd.R_lower (Kd.R_new' ho0 (Kd.R_lt (by exact HO641.out))) (below_size (by repeat (first | (with_reducible first | exact HB.out | apply below_alloc | apply pw_below_drewN | apply below_drew1 | refine below_set ?_ q0.out) | exact HB.out)))); have n3_:=zx (blk_below (g:=p7) (o:=.cells #[.int .i64 t634,.slice Ao9 t635.length co9] 25 (0,0)) (by exact p4.out) hb); have n4_:=zx (below_step (by repeat (first | (with_reducible first | exact HB.out | apply below_alloc | apply pw_below_drewN | apply below_drew1 | refine below_set ?_ q0.out) | exact HB.out)) hb); clear HO637; clear HO641; clear p4; clear HB; have HO637:=n0_; have HO641:=n1_; have HO644:=n2_; have p4:=n3_; have HB:=n4_; clear n0_ n1_ n2_ n3_ n4_; (try clear hb); (try clear hb2); (try clear hk); (try clear hi); (try clear ho0); obtain ⟨Ao20,co20,eo20⟩:=Kd.R_slice HO641.out; subst eo20; obtain ⟨Ao21,co21,eo21⟩:=Kd.R_slice HO644.out; subst eo21) | ((with_reducible refine gate_callee (f:=27) rfl ?_); refine goesL_ (some 23) rfl rfl Try.func27 (by kernel_rfl) rfl #[.slice Ao20 t639.length co20,.slice Ao21 t642.length co21] rfl (by (try simp only [List.map_toArray,List.map_cons,List.map_nil]); first | done | rfl | (simp only [List.length_drop,List.length_take]; rfl)) ?_; (with_reducible refine (laws_wkInts.calls k _ _ t639 _ _ t642 false _ ?side1 ?side2 ?side3 ?side4 A12.out).mono ?_); (case side1 => repeat (first | exact (Kd.R_reads' HO641.out).2.2 | (with_reducible refine Kd.C_alloc ?_ _) | (with_reducible refine Kd.C_drewN ?_ _) | (with_reducible refine Kd.C_drew ?_))); (case side2 => exact (Kd.R_reads' HO641.out).2.1); (case side3 => repeat (first | exact (Kd.R_reads' HO644.out).2.2 | (with_reducible refine Kd.C_alloc ?_ _) | (with_reducible refine Kd.C_drewN ?_ _) | (with_reducible refine Kd.C_drew ?_))); (case side4 => exact (Kd.R_reads' HO644.out).2.1); rintro e w' ⟨rfl,⟨nd,rfl⟩⟩; refine ⟨_,rfl,?_⟩))
  go_meet
  case rel => exact ⟨_,(true),(by first | rfl | (simp; done) | (simp [*]; done)),H',⟨by first | omega | exact Nat.le_refl _⟩,⟨by exact Kd.R_mono HO641.out (fun _ hk => trivial)⟩,⟨by exact HO637.out⟩,⟨by exact p4.out⟩,⟨by repeat (first | (with_reducible first | exact HB.out | apply below_alloc | apply pw_below_drewN | apply below_drew1 | refine below_set ?_ q0.out) | exact HB.out)⟩⟩
 case rest =>
  clear HC5
  try clear c1
  try clear c2
  try clear c2b0
  try clear c2b1
  try clear p2
  try clear c3
  try clear c7
  try clear c13
  try clear v0
  try clear v1
  try clear v4
  try clear v5
  try clear a8
  try clear a9
  try clear v2
  try clear v3
  try clear v7
  try clear v8
  try clear b0
  try clear b1
  obtain ⟨kq,u9,rfl,HA,HJ4,HO_4,p0,p4,HB⟩:=hcut;cases kq with
  | zero => exact absurd HA.out (by simp [laws_FnHubArcs.j0])
  | succ kj4 =>
   have H:=HA.out;clear HA;simp only [laws_FnHubArcs.j0] at H
   by_cases c22 : u9 = true
   case pos =>
    subst c22;have H1 : ((spec_HubArcs.f kj4 t634 t635).bind fun t646 => ((laws_wkInts.f kj4 t639 t646).bind fun t649 => (some t649))) = some r:=by rw [if_pos rfl] at H; exact H
    clear H;have H:=H1;clear H1;replace H:=Option.bind_eq_some_iff.mp H;obtain ⟨t646,A230,H⟩:=H;replace H : ((laws_wkInts.f kj4 t639 t646).bind fun t649 => (some t649)) = some r:=H;have A23:=zx A230;clear A230;replace H:=Option.bind_eq_some_iff.mp H;obtain ⟨t649,A240,H⟩:=H;replace H : (some t649) = some r:=H;have A24:=zx A240;clear A240;obtain rfl:=Option.some.inj H;have b6 : wc.cell? ⟨p7,0,none⟩ = some (.int .i64 t634):=(blk_cell p4.out 0).trans rfl;have b7 : wc.cell? ⟨p7,1,none⟩ = some (.slice Ao9 t635.length co9):=(blk_cell p4.out 1).trans rfl;have b8:=blk_frozen p4.out 0;have b9:=blk_frozen p4.out 1
    go_wp2_with (first | ((with_reducible refine gate_callee (f:=31) rfl ?_); refine goesL_ (some 32) rfl rfl Try.func31 (by kernel_rfl) rfl #[.agg #[.int .i64 t634,.slice Ao9 t635.length co9]] rfl (by (try simp only [List.map_toArray,List.map_cons,List.map_nil]); first | done | rfl | (simp only [List.length_drop,List.length_take]; rfl)) ?_; (with_reducible refine (spec_HubArcs.calls kj4 t634 _ _ t635 t646 _ ?side1 ?side2 A23.out).mono ?_); (case side1 => repeat (first | exact (Kd.R_reads' p0.out).2.2 | (with_reducible refine Kd.C_alloc ?_ _) | (with_reducible refine Kd.C_drewN ?_ _) | (with_reducible refine Kd.C_drew ?_))); (case side2 => exact (Kd.R_reads' p0.out).2.1); rintro e w26 ⟨v647,rfl,ho0,hb⟩; refine ⟨_,rfl,?_⟩; have n0_:=zx (Kd.R_elder' (by exact HO_4.out) (Kd.R_base ho0) hb); have n1_:=zx (Kd.R_below (by exact p0.out) hb); have n2_:=zx (Kd.R_lower (Kd.R_new' ho0 (Kd.R_lt (by exact HO_4.out))) (below_size (by repeat (first | (with_reducible first | exact HB.out | apply below_alloc | apply pw_below_drewN | apply below_drew1 | refine below_set ?_ q0.out) | exact HB.out)))); have n3_:=zx (blk_below (g:=p7) (o:=.cells #[.int .i64 t634,.slice Ao9 t635.length co9] 25 (0,0)) (by exact p4.out) hb); have n4_:=zx (below_step (by repeat (first | (with_reducible first | exact HB.out | apply below_alloc | apply pw_below_drewN | apply below_drew1 | refine below_set ?_ q0.out) | exact HB.out)) hb); clear HO_4; clear p0; clear p4; clear HB; have HO_4:=n0_; have p0:=n1_; have HO648:=n2_; have p4:=n3_; have HB:=n4_; clear n0_ n1_ n2_ n3_ n4_; (try clear hb); (try clear hb2); (try clear hk); (try clear hi); (try clear ho0); obtain ⟨Ao27,co27,eo27⟩:=Kd.R_slice HO_4.out; subst eo27; obtain ⟨Ao28,co28,eo28⟩:=Kd.R_slice HO648.out; subst eo28) | ((with_reducible refine gate_callee (f:=27) rfl ?_); refine goesL_ (some 33) rfl rfl Try.func27 (by kernel_rfl) rfl #[.slice Ao27 t639.length co27,.slice Ao28 t646.length co28] rfl (by (try simp only [List.map_toArray,List.map_cons,List.map_nil]); first | done | rfl | (simp only [List.length_drop,List.length_take]; rfl)) ?_; (with_reducible refine (laws_wkInts.calls kj4 _ _ t639 _ _ t646 t649 _ ?side1 ?side2 ?side3 ?side4 A24.out).mono ?_); (case side1 => repeat (first | exact (Kd.R_reads' HO_4.out).2.2 | (with_reducible refine Kd.C_alloc ?_ _) | (with_reducible refine Kd.C_drewN ?_ _) | (with_reducible refine Kd.C_drew ?_))); (case side2 => exact (Kd.R_reads' HO_4.out).2.1); (case side3 => repeat (first | exact (Kd.R_reads' HO648.out).2.2 | (with_reducible refine Kd.C_alloc ?_ _) | (with_reducible refine Kd.C_drewN ?_ _) | (with_reducible refine Kd.C_drew ?_))); (case side4 => exact (Kd.R_reads' HO648.out).2.1); rintro e w' ⟨rfl,⟨nd,rfl⟩⟩; refine ⟨_,rfl,?_⟩))
    go_ret;exact ⟨by first | rfl | (simp [errW_none,errW_some] <;> rfl) | (simp [*,errW_none,errW_some] <;> rfl),by repeat (first | (with_reducible first | exact HB.out | apply below_alloc | apply pw_below_drewN | apply below_drew1 | refine below_set ?_ q0.out) | exact HB.out)⟩
   replace c22:=Bool.eq_false_iff.mpr c22;subst c22;have H1 : ((impl_HubCount.f kj4 t634 t635).bind fun t650 => (laws_FnHubArcs.l0 kj4 t639 t650 0 t634 t635)) = some r:=by rw [if_neg (show ¬ (false = true) by decide)] at H; exact H
   clear H;have H:=H1;clear H1;replace H:=Option.bind_eq_some_iff.mp H;obtain ⟨t650,A290,H⟩:=H;replace H : (laws_FnHubArcs.l0 kj4 t639 t650 0 t634 t635) = some r:=H;have A29:=zx A290;clear A290;have H':=zx H;clear H;have c4 : wc.cell? ⟨p7,0,none⟩ = some (.int .i64 t634):=(blk_cell p4.out 0).trans rfl;have c5 : wc.cell? ⟨p7,1,none⟩ = some (.slice Ao9 t635.length co9):=(blk_cell p4.out 1).trans rfl;have d0:=blk_frozen p4.out 0;have d1:=blk_frozen p4.out 1
   go_wp2_with (first | ((with_reducible refine gate_callee (f:=26) rfl ?_); refine goesL_ (some 35) rfl rfl Try.func26 (by kernel_rfl) rfl #[.agg #[.int .i64 t634,.slice Ao9 t635.length co9]] rfl (by (try simp only [List.map_toArray,List.map_cons,List.map_nil]); first | done | rfl | (simp only [List.length_drop,List.length_take]; rfl)) ?_; (with_reducible refine (impl_HubCount.calls kj4 t634 _ _ t635 t650 _ ?side1 ?side2 A29.out).mono ?_); (case side1 => repeat (first | exact (Kd.R_reads' p0.out).2.2 | (with_reducible refine Kd.C_alloc ?_ _) | (with_reducible refine Kd.C_drewN ?_ _) | (with_reducible refine Kd.C_drew ?_))); (case side2 => exact (Kd.R_reads' p0.out).2.1); rintro e w31 ⟨v651,rfl,ho0,hb⟩; refine ⟨_,rfl,?_⟩; have n0_:=zx (Kd.R_elder' (by exact HO_4.out) (Kd.R_base ho0) hb); have n1_:=zx (Kd.R_below (by exact p0.out) hb); have n2_:=zx (Kd.R_lower (Kd.R_new' ho0 (Kd.R_lt (by exact HO_4.out))) (below_size (by repeat (first | (with_reducible first | exact HB.out | apply below_alloc | apply pw_below_drewN | apply below_drew1 | refine below_set ?_ q0.out) | exact HB.out)))); have n3_:=zx (blk_below (g:=p7) (o:=.cells #[.int .i64 t634,.slice Ao9 t635.length co9] 25 (0,0)) (by exact p4.out) hb); have n4_:=zx (below_step (by repeat (first | (with_reducible first | exact HB.out | apply below_alloc | apply pw_below_drewN | apply below_drew1 | refine below_set ?_ q0.out) | exact HB.out)) hb); clear HO_4; clear p0; clear p4; clear HB; have HO_4:=n0_; have p0:=n1_; have HO652:=n2_; have p4:=n3_; have HB:=n4_; clear n0_ n1_ n2_ n3_ n4_; (try clear hb); (try clear hb2); (try clear hk); (try clear hi); (try clear ho0)))
   go_loopg [6] kj4 (fun kq v6 w' => ∃ (x6_2 : Int),v6 = .int .i64 x6_2 ∧ Aside0 (laws_FnHubArcs.l0 kq t639 t650 x6_2 t634 t635 = some r) ∧ Aside0 (kq ≤ kj4) ∧ Aside0 (Kd.R (Kd.int .i64) 3 w' w.heap.size (fun k_ => some k_ ≠ (v651 : Value).ownBlock) v640 t639) ∧ Aside0 (Kd.R (Kd.int .i64) 3 w' w.heap.size (fun k_ => some k_ ≠ (v640 : Value).ownBlock) v651 t650) ∧ Aside0 (Kd.R k34 34 w' w.heap.size (fun _ => True) (.slice Ao9 t635.length co9) t635) ∧ Aside0 (w'.heap[p7]? = some (.cells #[.int .i64 t634,(.slice Ao9 t635.length co9)] 25 (0,0))) ∧ Aside0 (Below w.heap.size w w'))
   case atStart => exact ⟨(0),(by first | rfl | (simp; done) | (simp [*]; done)),H',⟨Nat.le_refl _⟩,⟨by exact Kd.R_mono HO_4.out (fun _ hk => hk.2)⟩,⟨by exact Kd.R_mono HO652.out (fun _ hk => hk.2)⟩,⟨by exact p0.out⟩,⟨by exact p4.out⟩,⟨by repeat (first | (with_reducible first | exact HB.out | apply below_alloc | apply pw_below_drewN | apply below_drew1 | refine below_set ?_ q0.out) | exact HB.out)⟩⟩
   case round =>
    clear H'
    try clear c1
    try clear c2
    try clear c2b0
    try clear c2b1
    try clear p2
    try clear c3
    try clear c7
    try clear c13
    try clear c22
    try clear c26
    try clear c27
    try clear c29
    try clear c30
    try clear c31
    try clear v0
    try clear v1
    try clear v4
    try clear v5
    try clear b6
    try clear b7
    try clear c4
    try clear c5
    try clear a8
    try clear a9
    try clear v2
    try clear v3
    try clear v7
    try clear v8
    try clear b8
    try clear b9
    try clear d0
    try clear d1
    try clear b0
    try clear b1
    try clear p2
    obtain ⟨x6_2,rfl,HA,HK2,HO_4,HO_5,p0,p4,HB⟩:=hrel;cases gk with
    | zero => exact absurd HA.out (by simp [laws_FnHubArcs.l0])
    | succ k2 =>
     have H:=HA.out;clear HA;simp only [laws_FnHubArcs.l0] at H
     by_cases c32 : x6_2 < (t639.length : Int)
     case neg =>
      rw [if_neg c32] at H;have c32b0 : decide (x6_2 < (t639.length : Int)) = false:=decide_eq_false c32;clear c32
      by_cases c96 : 0 ≤ t634
      case neg =>
       rw [if_neg c96] at H;exact absurd H (by simp)
      rw [if_pos c96] at H;have c96b0:=eq_true c96;have c96b1 : decide (0 ≤ t634) = true:=decide_eq_true c96;clear c96
      by_cases c97 : (t634 : Int).toNat ≤ 35184372088832
      case neg =>
       rw [if_neg c97] at H;exact absurd H (by simp)
      rw [if_pos c97] at H;have c97b0:=eq_true c97;have c97b1 : decide ((t634 : Int).toNat ≤ 35184372088832) = true:=decide_eq_true c97;clear c97;obtain ⟨y663,hy663⟩ : ∃ y_ : List Int,y_ = (List.replicate (t634 : Int).toNat 0):=⟨_,rfl⟩
      replace H : (laws_FnHubArcs.l1 k2 t639 t650 y663 0 t634 t635) = some r:=by first | (rw [hy663]; with_reducible exact H) | (have H2_:=(Option.bind_some _ _).symm.trans H; rw [hy663]; with_reducible exact H2_) | (have H2_:=(Option.bind_some _ _).symm.trans H; with_reducible exact H2_) | with_reducible exact H | (rw [hy663]; exact H) | exact H
      have Ny663:=zx hy663;clear hy663;have H':=zx H;clear H;obtain ⟨Ao98,co98,eo98⟩:=Kd.R_slice HO_4.out;subst eo98;have a3 : wr.cell? ⟨p7,0,none⟩ = some (.int .i64 t634):=(blk_cell p4.out 0).trans rfl;have a4 : wr.cell? ⟨p7,1,none⟩ = some (.slice Ao9 t635.length co9):=(blk_cell p4.out 1).trans rfl;have a5:=blk_frozen p4.out 0;have a6:=blk_frozen p4.out 1
      go_wp2_with (first | ((with_reducible refine gate_dst (N:=86) rfl ?_); (try (refine gate_guard (by rfl) ?_; dsimp only)); refine Kd.R_make (Kd.int .i64) _ 3 rfl (N:=86) rfl 29 _ _ rfl t634 (by first | rfl | (go_simp; done) | (go_simp; rfl)) (by first | rfl | (go_simp; done) | (go_simp; rfl)) Try.underlying29 (.int .i64 0) 8 info3 rfl (by decide) (by omega) 0 (ok:=fun _ => True) (okp:=fun _ => True) rfl (fun _ hk => hk) trivial (of_decide_eq_true (by first | (with_reducible assumption) | assumption)) (Nat.le_trans (Nat.mul_le_mul_right _ (of_decide_eq_true (by first | (with_reducible assumption) | assumption) : t634.toNat ≤ 35184372088832)) (by omega)) (Below.refl _ _) (Nat.le_refl _) ?_; intro v664 w100 ho101 hb hg_ hnew_; clear hg_ hnew_; (first | rw [← Ny663.out] at ho101 | (simp only [Int.reduceToNat] at ho101; rw [← Ny663.out] at ho101)); have n0_:=zx (Kd.R_elder' (by exact HO_4.out) (Kd.R_base ho101) hb); have n1_:=zx (Kd.R_elder' (by exact HO_5.out) (Kd.R_base ho101) hb); have n2_:=zx (Kd.R_below (by exact p0.out) hb); have n3_:=zx (Kd.R_lower (Kd.R_new' (Kd.R_new' ho101 (Kd.R_lt (by exact HO_4.out))) (Kd.R_lt (by exact HO_5.out))) (below_size (by repeat (first | (with_reducible first | exact HB.out | apply below_alloc | apply pw_below_drewN | apply below_drew1 | refine below_set ?_ q0.out) | exact HB.out)))); have n4_:=zx (blk_below (g:=p7) (o:=.cells #[.int .i64 t634,.slice Ao9 t635.length co9] 25 (0,0)) (by exact p4.out) hb); have n5_:=zx (below_step (by repeat (first | (with_reducible first | exact HB.out | apply below_alloc | apply pw_below_drewN | apply below_drew1 | refine below_set ?_ q0.out) | exact HB.out)) hb); clear HO_4; clear HO_5; clear p0; clear p4; clear HB; have HO_4:=n0_; have HO_5:=n1_; have p0:=n2_; have HO665:=n3_; have p4:=n4_; have HB:=n5_; clear n0_ n1_ n2_ n3_ n4_ n5_; clear hb ho101))
      go_loopg [11] k2 (fun kq v11 w' => ∃ (q9 : List Int) (p9 : Int),v11 = .int .i64 p9 ∧ Aside0 (laws_FnHubArcs.l1 kq t639 t650 q9 p9 t634 t635 = some r) ∧ Aside0 (kq ≤ k2) ∧ Aside0 (Kd.R (Kd.int .i64) 3 w' w.heap.size (fun k_ => some k_ ≠ (v651 : Value).ownBlock ∧ some k_ ≠ (v664 : Value).ownBlock) (.slice Ao98 t639.length co98) t639) ∧ Aside0 (Kd.R (Kd.int .i64) 3 w' w.heap.size (fun k_ => some k_ ≠ ((.slice Ao98 t639.length co98) : Value).ownBlock ∧ some k_ ≠ (v664 : Value).ownBlock) v651 t650) ∧ Aside0 (Kd.R (Kd.int .i64) 3 w' w.heap.size (fun k_ => some k_ ≠ ((.slice Ao98 t639.length co98) : Value).ownBlock ∧ some k_ ≠ (v651 : Value).ownBlock) v664 q9) ∧ Aside0 (Kd.R k34 34 w' w.heap.size (fun _ => True) (.slice Ao9 t635.length co9) t635) ∧ Aside0 (w'.heap[p7]? = some (.cells #[.int .i64 t634,(.slice Ao9 t635.length co9)] 25 (0,0))) ∧ Aside0 (Below w.heap.size w w'))
      case atStart => exact ⟨(y663),(0),(by first | rfl | (simp; done) | (simp [*]; done)),H',⟨Nat.le_refl _⟩,⟨by exact HO_4.out⟩,⟨by exact HO_5.out⟩,⟨by exact Kd.R_mono HO665.out (fun _ hk => ⟨hk.1.2,hk.2⟩)⟩,⟨by exact p0.out⟩,⟨by exact p4.out⟩,⟨by repeat (first | (with_reducible first | exact HB.out | apply below_alloc | apply pw_below_drewN | apply below_drew1 | refine below_set ?_ q0.out) | exact HB.out)⟩⟩
      case round =>
       clear H'
       try clear c1
       try clear p2
       try clear c3
       try clear c6
       try clear p6
       try clear q6
       try clear hx6
       try clear c7
       try clear c8
       try clear c9
       try clear c18
       try clear c32
       try clear c32b0
       try clear c33
       try clear c34
       try clear p64
       try clear p65
       try clear q65
       try clear hx65
       try clear p66
       try clear q66
       try clear hx66
       try clear c67
       try clear c67b0
       try clear c67b1
       try clear c67b2
       try clear c77
       try clear c77b0
       try clear c81
       try clear c90
       try clear c96
       try clear c96b0
       try clear c96b1
       try clear c97
       try clear c97b0
       try clear c97b1
       try clear v9
       try clear y6
       try clear y9
       try clear z1
       try clear z2
       try clear z3
       try clear z4
       try clear m0
       try clear m1
       try clear m4
       try clear m5
       try clear m8
       try clear m9
       try clear n0
       try clear n1
       try clear n2
       try clear n8
       try clear n9
       try clear a3
       try clear a4
       try clear y7
       try clear y8
       try clear z5
       try clear z6
       try clear z7
       try clear z8
       try clear z9
       try clear m2
       try clear m3
       try clear m6
       try clear m7
       try clear n3
       try clear n4
       try clear n5
       try clear n6
       try clear n7
       try clear a1
       try clear a2
       try clear a5
       try clear a6
       try clear r5
       try clear r6
       try clear r7
       try clear r8
       try clear r9
       try clear q7
       try clear t0
       try clear p653
       try clear p659
       try clear p662
       try clear q653
       try clear q659
       try clear q662
       obtain ⟨q9,p9,rfl,HA,HK3,HO_4,HO_5,r0,p0,p4,HB⟩:=hrel;cases gk with
       | zero => exact absurd HA.out (by simp [laws_FnHubArcs.l1])
       | succ k3 =>
        have H:=HA.out;clear HA;simp only [laws_FnHubArcs.l1] at H
        by_cases c102 : p9 < (t639.length : Int)
        case pos =>
         rw [if_pos c102] at H;have c102b0 : decide (p9 < (t639.length : Int)) = true:=decide_eq_true c102;clear c102
         by_cases c103 : 0 ≤ p9
         case neg =>
          rw [if_neg c103] at H;exact absurd H (by simp)
         rw [if_pos c103] at H;have c103b0 : decide (0 ≤ p9) = true:=decide_eq_true c103;clear c103
         by_cases c104 : p9 < (t635.length : Int)
         case neg =>
          rw [if_neg c104] at H;exact absurd H (by simp)
         rw [if_pos c104] at H;have c104b0 : decide (p9 < (t635.length : Int)) = true:=decide_eq_true c104;clear c104
         by_cases c105 : 0 ≤ ((rd_T34 t635 p9).f1)
         case neg =>
          rw [if_neg c105] at H;exact absurd H (by simp)
         rw [if_pos c105] at H;have c105b0 : decide (0 ≤ ((rd_T34 t635 p9).f1)) = true:=decide_eq_true c105;clear c105
         by_cases c106 : ((rd_T34 t635 p9).f1) < (q9.length : Int)
         case neg =>
          rw [if_neg c106] at H;exact absurd H (by simp)
         rw [if_pos c106] at H;have c106b0 : decide (((rd_T34 t635 p9).f1) < (q9.length : Int)) = true:=decide_eq_true c106;clear c106;obtain ⟨y670,hy670⟩ : ∃ y_ : List Int,y_ = (q9.set (((rd_T34 t635 p9).f1) : Int).toNat (wrap64 ((rd q9 ((rd_T34 t635 p9).f1)) + (rd t639 p9)))):=⟨_,rfl⟩
         replace H : (laws_FnHubArcs.l1 k3 t639 t650 y670 (wrap64 (p9 + 1)) t634 t635) = some r:=by first | (rw [hy670]; with_reducible exact H) | (have H2_:=(Option.bind_some _ _).symm.trans H; rw [hy670]; with_reducible exact H2_) | (have H2_:=(Option.bind_some _ _).symm.trans H; with_reducible exact H2_) | with_reducible exact H | (rw [hy670]; exact H) | exact H
         have Ny670:=zx hy670;clear hy670;have H':=zx H;clear H
         try go_wp2
         have n0_:=zx (Kd.R_drew HO_4.out);have n1_:=zx (Kd.R_drew HO_5.out);have n2_:=zx (Kd.R_drew r0.out);have n3_:=zx (Kd.R_drew p0.out);have n4_:=zx (blk_drew p4.out);have n5_:=zx (below_drew1 HB.out);clear HO_4;clear HO_5;clear r0;clear p0;clear p4;clear HB;have HO_4:=n0_;have HO_5:=n1_;have r0:=n2_;have p0:=n3_;have p4:=n4_;have HB:=n5_;clear n0_ n1_ n2_ n3_ n4_ n5_;have p666 : 0 ≤ (p9 : Int):=of_decide_eq_true (by first | (with_reducible assumption) | assumption);have q666 : p9 < (t635.length : Int):=of_decide_eq_true (by first | (with_reducible assumption) | assumption);obtain ⟨r3,e666,t5,t6,t7,t8,t9⟩:=at_T34 (Kd.R_reads' p0.out).2.2 p9 p666 q666;cases e666;replace p666:=eq_true p666;replace q666:=eq_true q666;have p667 : 0 ≤ (p9 : Int):=of_decide_eq_true (by first | (with_reducible assumption) | assumption);have q667 : p9 < (t635.length : Int):=of_decide_eq_true (by first | (with_reducible assumption) | assumption);obtain ⟨ad667,e667,u0,u1,u2,u3,u4⟩:=at_T34 (Kd.R_reads' p0.out).2.2 p9 p667 q667;obtain rfl : r3 = ad667:=(by injection e667)
         replace p667:=eq_true p667;replace q667:=eq_true q667;obtain ⟨Ao109,co109,eo109⟩:=Kd.R_slice r0.out
         (first | subst eo109 | (injection eo109 with f1_ f2_ f3_; have f4_:=f1_.symm; have f5_:=f3_.symm; clear f1_ f2_ f3_; subst f4_; subst f5_))
         have p668 : 0 ≤ (((rd_T34 t635 p9).f1) : Int):=of_decide_eq_true (by first | (with_reducible assumption) | assumption);have q668 : ((rd_T34 t635 p9).f1) < (q9.length : Int):=of_decide_eq_true (by first | (with_reducible assumption) | assumption);obtain ⟨ad668,e668,t4⟩:=Kd.at_int (Kd.R_reads' r0.out).2.2 ((rd_T34 t635 p9).f1) p668 q668;cases e668;replace p668:=eq_true p668;replace q668:=eq_true q668;have p669 : 0 ≤ (p9 : Int):=of_decide_eq_true (by first | (with_reducible assumption) | assumption);have q669 : p9 < (t639.length : Int):=of_decide_eq_true (by first | (with_reducible assumption) | assumption);obtain ⟨ad669,e669,u5⟩:=Kd.at_int (Kd.R_reads' HO_4.out).2.2 p9 p669 q669;cases e669;replace p669:=eq_true p669;replace q669:=eq_true q669;have p107 : 0 ≤ (((rd_T34 t635 p9).f1) : Int):=of_decide_eq_true (by first | (with_reducible assumption) | assumption);have q107 : (((rd_T34 t635 p9).f1) : Int) < ((q9.length : Int) : Int):=of_decide_eq_true (by first | (with_reducible assumption) | assumption);obtain ⟨go107,co107,eo107,gb107,gl107,cl107,HG107⟩:=Kd.R_form r0.out (by omega)
         (first | cases eo107 | (injection eo107 with ea_ en_ ec_; (first | subst ea_ | (injection ea_ with ea_; subst ea_)); subst ec_; clear en_))
         have GB107:=zx gb107;have GG107:=zx HG107;clear gb107 gl107 HG107
         (first | simp only [add_plain] at t4 | skip)
         obtain ⟨a7,hf107_0⟩:=Kd.R_celln 0 r0.out (((rd_T34 t635 p9).f1) : Int) p107 q107;replace p107:=eq_true p107;replace q107:=eq_true q107;have HP110:=Kd.R_putn r0.out (((rd_T34 t635 p9).f1) : Int) (wrap64 ((rd q9 ((rd_T34 t635 p9).f1)) + (rd t639 p9)));rw [← Ny670.out] at HP110;have HQ110:=zx HP110;clear HP110;refine start_ (n:=23) (S:=fun w' => w'.cell? ⟨p7,0,none⟩ = some (.int .i64 t634) ∧ w'.cell? ⟨p7,1,none⟩ = some (.slice (some r3) t635.length co9) ∧ w'.cell? (r3.add ((p9).toNat * 5)) = some (.int .i64 ((rd_T34 t635 p9).f0)) ∧ w'.cell? ⟨(r3.add ((p9).toNat * 5)).block,(r3.add ((p9).toNat * 5)).off + 1,none⟩ = some (.int .i64 ((rd_T34 t635 p9).f1)) ∧ w'.cell? ⟨(r3.add ((p9).toNat * 5)).block,(r3.add ((p9).toNat * 5)).off + 2,none⟩ = some (.int .i64 ((rd_T34 t635 p9).f2)) ∧ w'.cell? ⟨(r3.add ((p9).toNat * 5)).block,(r3.add ((p9).toNat * 5)).off + 3,none⟩ = some (.int .i64 ((rd_T34 t635 p9).f3)) ∧ w'.cell? ⟨(r3.add ((p9).toNat * 5)).block,(r3.add ((p9).toNat * 5)).off + 4,none⟩ = some (.int .i64 ((rd_T34 t635 p9).f4)) ∧ w'.cell? (r3.add ((p9).toNat * 5)) = some (.int .i64 ((rd_T34 t635 p9).f0)) ∧ w'.cell? ⟨(r3.add ((p9).toNat * 5)).block,(r3.add ((p9).toNat * 5)).off + 1,none⟩ = some (.int .i64 ((rd_T34 t635 p9).f1)) ∧ w'.cell? ⟨(r3.add ((p9).toNat * 5)).block,(r3.add ((p9).toNat * 5)).off + 2,none⟩ = some (.int .i64 ((rd_T34 t635 p9).f2)) ∧ w'.cell? ⟨(r3.add ((p9).toNat * 5)).block,(r3.add ((p9).toNat * 5)).off + 3,none⟩ = some (.int .i64 ((rd_T34 t635 p9).f3)) ∧ w'.cell? ⟨(r3.add ((p9).toNat * 5)).block,(r3.add ((p9).toNat * 5)).off + 4,none⟩ = some (.int .i64 ((rd_T34 t635 p9).f4)) ∧ w'.cell? ⟨go107,(((rd_T34 t635 p9).f1)).toNat,none⟩ = some (.int .i64 (rd q9 ((rd_T34 t635 p9).f1))) ∧ w'.cell? (ad669.add (p9).toNat) = some (.int .i64 (rd t639 p9))) (ds:=[22]) #[J,J,J,J,J,J,J,J,J,J,J,J,J,J,J,J,J,J,J,J,J,J,J] (by kernel_rfl) rfl rfl ⟨(blk_cell p4.out 0).trans rfl,(blk_cell p4.out 1).trans rfl,t5,t6,t7,t8,t9,u0,u1,u2,u3,u4,t4,u5⟩ (fun hHeld => ?_); refine with_tabW laws_FnHubArcs.tab19 laws_FnHubArcs.bits19 (fun HT_ HW_ => ?_);generalize wr.drew = w108 at HO_4 HO_5 r0 p0 p4 HB GG107 HQ110 hf107_0 a7 t5 t6 t7 t8 t9 u0 u1 u2 u3 u4 t4 u5 hHeld ⊢;refine pure_ (i:=0) (N:=some 93) (v:=?_) (a':=?_) #[Y,J,J,J,J,J,J,J,J,J,J,J,J,J,J,J,J,J,J,J,J,J,J] rfl rfl (any_of HT_.out (by kernel_rfl)) (fun _ _ _ h => h) (Or.inl ⟨by rfl,?_⟩) ?_ ?_;rotate_left
         ·intro w';go_simp;with_reducible rfl
         rotate_left
         ·simp only [Act.put,U,V,Z,i64_w,i32_w];rfl
         refine pure_ (i:=1) (N:=some 94) (v:=?_) (a':=?_) #[Y,Y,J,J,J,J,J,J,J,J,J,J,J,J,J,J,J,J,J,J,J,J,J] rfl rfl (any_of HT_.out (by kernel_rfl)) (fun _ _ _ h => h) (Or.inl ⟨by rfl,?_⟩) ?_ ?_;rotate_left
         ·intro w';go_simp;with_reducible rfl
         rotate_left
         ·simp only [Act.put,U,V,Z,i64_w,i32_w];rfl
         refine pure_ (i:=3) (N:=some 96) (v:=?_) (a':=?_) #[Y,Y,J,Y,J,J,J,J,J,J,J,J,J,J,J,J,J,J,J,J,J,J,J] rfl rfl (any_of HT_.out (by kernel_rfl)) (fun _ _ _ h => h) (Or.inl ⟨by rfl,?_⟩) ?_ ?_;rotate_left
         ·intro w';go_simp;with_reducible rfl
         rotate_left
         ·simp only [Act.put,U,V,Z,i64_w,i32_w];rfl
         refine pure_ (i:=7) (N:=some 100) (v:=?_) (a':=?_) #[Y,Y,J,Y,J,J,J,Y,J,J,J,J,J,J,J,J,J,J,J,J,J,J,J] rfl rfl (any_of HT_.out (by kernel_rfl)) (fun _ _ _ h => h) (Or.inl ⟨by rfl,?_⟩) ?_ ?_;rotate_left
         ·intro w';go_simp;with_reducible rfl
         rotate_left
         ·simp only [Act.put,U,V,Z,i64_w,i32_w];rfl
         refine pure_ (i:=8) (N:=some 101) (v:=?_) (a':=?_) #[Y,Y,J,Y,J,J,J,Y,Y,J,J,J,J,J,J,J,J,J,J,J,J,J,J] rfl rfl (any_of HT_.out (by kernel_rfl)) (fun _ _ _ h => h) (Or.inl ⟨by rfl,?_⟩) ?_ ?_;rotate_left
         ·intro w';go_simp;with_reducible rfl
         rotate_left
         ·simp only [Act.put,U,V,Z,i64_w,i32_w];rfl
         refine pure_ (i:=10) (N:=some 103) (v:=?_) (a':=?_) #[Y,Y,J,Y,J,J,J,Y,Y,J,Y,J,J,J,J,J,J,J,J,J,J,J,J] rfl rfl (any_of HT_.out (by kernel_rfl)) (fun _ _ _ h => h) (Or.inl ⟨by rfl,?_⟩) ?_ ?_;rotate_left
         ·intro w';go_simp;with_reducible rfl
         rotate_left
         ·simp only [Act.put,U,V,Z,i64_w,i32_w];rfl
         refine pure_ (i:=16) (N:=some 109) (v:=?_) (a':=?_) #[Y,Y,J,Y,J,J,J,Y,Y,J,Y,J,J,J,J,J,Y,J,J,J,J,J,J] rfl rfl (any_of HT_.out (by kernel_rfl)) (fun _ _ _ h => h) (Or.inl ⟨by rfl,?_⟩) ?_ ?_;rotate_left
         ·intro w';go_simp;with_reducible rfl
         rotate_left
         ·simp only [Act.put,U,V,Z,i64_w,i32_w];rfl
         refine pure_ (i:=17) (N:=some 110) (v:=?_) (a':=?_) #[Y,Y,J,Y,J,J,J,Y,Y,J,Y,J,J,J,J,J,Y,Y,J,J,J,J,J] rfl rfl (any_of HT_.out (by kernel_rfl)) (fun _ _ _ h => h) (Or.inl ⟨by rfl,?_⟩) ?_ ?_;rotate_left
         ·intro w';go_simp;with_reducible rfl
         rotate_left
         ·simp only [Act.put,U,V,Z,i64_w,i32_w];rfl
         refine pure_ (i:=18) (N:=some 111) (v:=?_) (a':=?_) #[Y,Y,J,Y,J,J,J,Y,Y,J,Y,J,J,J,J,J,Y,Y,Y,J,J,J,J] rfl rfl (any_of HT_.out (by kernel_rfl)) (fun _ _ _ h => h) (Or.inl ⟨by rfl,?_⟩) ?_ ?_;rotate_left
         ·intro w';go_simp;with_reducible rfl
         rotate_left
         ·simp only [Act.put,U,V,Z,i64_w,i32_w];rfl
         refine take_ (i:=2) (N:=some 95) (v:=?_) (a':=?_) #[Y,Y,Y,Y,J,J,J,Y,Y,J,Y,J,J,J,J,J,Y,Y,Y,J,J,J,J] rfl rfl (take_ofW HT_.out HW_.out (by kernel_rfl)) (fun _ _ _ h => h) (Or.inl ⟨by rfl,?_⟩) hHeld ?_ ?_;rotate_left
         ·rintro w' ⟨s0,s1,s2,s3,s4,s5,s6,s7,s8,s9,s10,s11,s12,s13⟩;go_simp;with_reducible rfl
         rotate_left
         ·simp only [Act.put,U,V,Z,i64_w,i32_w];rfl
         refine pure_ (i:=4) (N:=some 97) (v:=?_) (a':=?_) #[Y,Y,Y,Y,Y,J,J,Y,Y,J,Y,J,J,J,J,J,Y,Y,Y,J,J,J,J] rfl rfl (any_of HT_.out (by kernel_rfl)) (fun _ _ _ h => h) (Or.inl ⟨by rfl,?_⟩) ?_ ?_;rotate_left
         ·intro w';go_simp;with_reducible rfl
         rotate_left
         ·simp only [Act.put,U,V,Z,i64_w,i32_w];rfl
         refine pure_ (i:=5) (N:=some 98) (v:=?_) (a':=?_) #[Y,Y,Y,Y,Y,Y,J,Y,Y,J,Y,J,J,J,J,J,Y,Y,Y,J,J,J,J] rfl rfl (any_of HT_.out (by kernel_rfl)) (fun _ _ _ h => h) (Or.inl ⟨by rfl,?_⟩) ?_ ?_;rotate_left
         ·intro w';go_simp;with_reducible rfl
         rotate_left
         ·simp only [Act.put,U,V,Z,i64_w,i32_w];rfl
         refine take_ (i:=6) (N:=some 99) (v:=?_) (a':=?_) #[Y,Y,Y,Y,Y,Y,Y,Y,Y,J,Y,J,J,J,J,J,Y,Y,Y,J,J,J,J] rfl rfl (take_ofW HT_.out HW_.out (by kernel_rfl)) (fun _ _ _ h => h) (Or.inl ⟨by rfl,?_⟩) hHeld ?_ ?_;rotate_left
         ·rintro w' ⟨s0,s1,s2,s3,s4,s5,s6,s7,s8,s9,s10,s11,s12,s13⟩;go_simp;with_reducible rfl
         rotate_left
         ·simp only [Act.put,U,V,Z,i64_w,i32_w];rfl
         refine take_ (i:=9) (N:=some 102) (v:=?_) (a':=?_) #[Y,Y,Y,Y,Y,Y,Y,Y,Y,Y,Y,J,J,J,J,J,Y,Y,Y,J,J,J,J] rfl rfl (take_ofW HT_.out HW_.out (by kernel_rfl)) (fun _ _ _ h => h) (Or.inl ⟨by rfl,?_⟩) hHeld ?_ ?_;rotate_left
         ·rintro w' ⟨s0,s1,s2,s3,s4,s5,s6,s7,s8,s9,s10,s11,s12,s13⟩;go_simp;with_reducible rfl
         rotate_left
         ·simp only [Act.put,U,V,Z,i64_w,i32_w];rfl
         refine pure_ (i:=11) (N:=some 104) (v:=?_) (a':=?_) #[Y,Y,Y,Y,Y,Y,Y,Y,Y,Y,Y,Y,J,J,J,J,Y,Y,Y,J,J,J,J] rfl rfl (any_of HT_.out (by kernel_rfl)) (fun _ _ _ h => h) (Or.inl ⟨by rfl,?_⟩) ?_ ?_;rotate_left
         ·intro w';go_simp;with_reducible rfl
         rotate_left
         ·simp only [Act.put,U,V,Z,i64_w,i32_w];rfl
         refine pure_ (i:=12) (N:=some 105) (v:=?_) (a':=?_) #[Y,Y,Y,Y,Y,Y,Y,Y,Y,Y,Y,Y,Y,J,J,J,Y,Y,Y,J,J,J,J] rfl rfl (any_of HT_.out (by kernel_rfl)) (fun _ _ _ h => h) (Or.inl ⟨by rfl,?_⟩) ?_ ?_;rotate_left
         ·intro w';go_simp;with_reducible rfl
         rotate_left
         ·simp only [Act.put,U,V,Z,i64_w,i32_w];rfl
         refine take_ (i:=13) (N:=some 106) (v:=?_) (a':=?_) #[Y,Y,Y,Y,Y,Y,Y,Y,Y,Y,Y,Y,Y,Y,J,J,Y,Y,Y,J,J,J,J] rfl rfl (take_ofW HT_.out HW_.out (by kernel_rfl)) (fun _ _ _ h => h) (Or.inl ⟨by rfl,?_⟩) hHeld ?_ ?_;rotate_left
         ·rintro w' ⟨s0,s1,s2,s3,s4,s5,s6,s7,s8,s9,s10,s11,s12,s13⟩;go_simp;with_reducible rfl
         rotate_left
         ·simp only [Act.put,U,V,Z,i64_w,i32_w];rfl
         refine pure_ (i:=14) (N:=some 107) (v:=?_) (a':=?_) #[Y,Y,Y,Y,Y,Y,Y,Y,Y,Y,Y,Y,Y,Y,Y,J,Y,Y,Y,J,J,J,J] rfl rfl (any_of HT_.out (by kernel_rfl)) (fun _ _ _ h => h) (Or.inl ⟨by rfl,?_⟩) ?_ ?_;rotate_left
         ·intro w';go_simp;with_reducible rfl
         rotate_left
         ·simp only [Act.put,U,V,Z,i64_w,i32_w];rfl
         refine take_ (i:=15) (N:=some 108) (v:=?_) (a':=?_) #[Y,Y,Y,Y,Y,Y,Y,Y,Y,Y,Y,Y,Y,Y,Y,Y,Y,Y,Y,J,J,J,J] rfl rfl (take_ofW HT_.out HW_.out (by kernel_rfl)) (fun _ _ _ h => h) (Or.inl ⟨by rfl,?_⟩) hHeld ?_ ?_;rotate_left
         ·rintro w' ⟨s0,s1,s2,s3,s4,s5,s6,s7,s8,s9,s10,s11,s12,s13⟩;go_simp;with_reducible rfl
         rotate_left
         ·simp only [Act.put,U,V,Z,i64_w,i32_w];rfl
         refine take_ (i:=19) (N:=some 112) (v:=?_) (a':=?_) #[Y,Y,Y,Y,Y,Y,Y,Y,Y,Y,Y,Y,Y,Y,Y,Y,Y,Y,Y,Y,J,J,J] rfl rfl (take_ofW HT_.out HW_.out (by kernel_rfl)) (fun _ _ _ h => h) (Or.inl ⟨by rfl,?_⟩) hHeld ?_ ?_;rotate_left
         ·rintro w' ⟨s0,s1,s2,s3,s4,s5,s6,s7,s8,s9,s10,s11,s12,s13⟩;go_simp;with_reducible rfl
         rotate_left
         ·simp only [Act.put,U,V,Z,i64_w,i32_w];rfl
         refine pure_ (i:=20) (N:=some 113) (v:=?_) (a':=?_) #[Y,Y,Y,Y,Y,Y,Y,Y,Y,Y,Y,Y,Y,Y,Y,Y,Y,Y,Y,Y,Y,J,J] rfl rfl (any_of HT_.out (by kernel_rfl)) (fun _ _ _ h => h) (Or.inl ⟨by rfl,?_⟩) ?_ ?_;rotate_left
         ·intro w';go_simp;with_reducible rfl
         rotate_left
         ·simp only [Act.put,U,V,Z,i64_w,i32_w];rfl
         refine pure_ (i:=21) (N:=some 114) (v:=?_) (a':=?_) #[Y,Y,Y,Y,Y,Y,Y,Y,Y,Y,Y,Y,Y,Y,Y,Y,Y,Y,Y,Y,Y,Y,J] rfl rfl (any_of HT_.out (by kernel_rfl)) (fun _ _ _ h => h) (Or.inl ⟨by rfl,?_⟩) ?_ ?_;rotate_left
         ·intro w';go_simp;with_reducible rfl
         rotate_left
         ·simp only [Act.put,U,V,Z,i64_w,i32_w];rfl
         refine last_ (i:=22) (N:=none) #[true,true,true,true,true,true,true,true,true,true,true,true,true,true,true,true,true,true,true,true,true,true,true] rfl rfl (one_of HT_.out (by kernel_rfl)) (by decide) (fun K hK => ?_);refine skip_ (w1:=?_) (by rfl) rfl ?_ ?_;rotate_left
         ·go_simp;rfl
         refine hK.out _ _ ?_;clear hK K;refine done_ (done_of HT_.out (by kernel_rfl)) ?_
         try go_wp2
         go_roundg k3
         case measure => have:=HJ4.out; have:=HK2.out; have:=HK3.out; omega
         case rel => exact ⟨(y670),(wrap64 (p9 + 1)),(by first | rfl | (simp; done) | (simp [*]; done)),H',⟨by have:=HJ4.out; have:=HK2.out; have:=HK3.out; omega⟩,⟨by exact Kd.R_mono (Kd.R_far (p:=⟨go107,(((rd_T34 t635 p9).f1) : Int).toNat,none⟩) (Kd.R_mono HO_4.out (fun k_ hk => (⟨hk,fun e_ => hk.2 (by rw [e_]; rfl)⟩ : _ ∧ k_ ≠ go107))) (fun _ hk => hk.2) (.int .i64 (wrap64 ((rd q9 ((rd_T34 t635 p9).f1)) + (rd t639 p9))))) (fun _ hk => ⟨hk.1.1,hk.1.2⟩)⟩,⟨by exact Kd.R_mono (Kd.R_far (p:=⟨go107,(((rd_T34 t635 p9).f1) : Int).toNat,none⟩) (Kd.R_mono HO_5.out (fun k_ hk => (⟨hk,fun e_ => hk.2 (by rw [e_]; rfl)⟩ : _ ∧ k_ ≠ go107))) (fun _ hk => hk.2) (.int .i64 (wrap64 ((rd q9 ((rd_T34 t635 p9).f1)) + (rd t639 p9))))) (fun _ hk => ⟨hk.1.1,hk.1.2⟩)⟩,⟨by exact HQ110.out⟩,⟨by exact Kd.R_mono (Kd.R_far (p:=⟨go107,(((rd_T34 t635 p9).f1) : Int).toNat,none⟩) (Kd.R_types p0.out GG107.out (by decide)) (fun _ hk => hk.2) (.int .i64 (wrap64 ((rd q9 ((rd_T34 t635 p9).f1)) + (rd t639 p9))))) (fun _ hk => trivial)⟩,⟨by refine blk_far ?_ (by have h_:=Kd.R_ne r0.out p4.out (by decide); intro e_; exact h_ (by rw [e_]; rfl)) _; exact p4.out⟩,⟨by repeat (first | (with_reducible first | exact HB.out | apply below_alloc | apply pw_below_drewN | apply below_drew1 | refine below_set ?_ GB107.out | refine below_set ?_ q0.out) | exact HB.out)⟩⟩
        rw [if_neg c102] at H;have c102b0 : decide (p9 < (t639.length : Int)) = false:=decide_eq_false c102;clear c102;have H':=zx H;clear H
        go_wp2
        go_loopg [12] k3 (fun kq v12 w' => ∃ (q3 : Int),v12 = .int .i64 q3 ∧ Aside0 (laws_FnHubArcs.l2 kq t650 q9 q3 t634 t635 = some r) ∧ Aside0 (kq ≤ k3) ∧ Aside0 (Kd.R (Kd.int .i64) 3 w' w.heap.size (fun k_ => some k_ ≠ (v664 : Value).ownBlock) v651 t650) ∧ Aside0 (Kd.R (Kd.int .i64) 3 w' w.heap.size (fun k_ => some k_ ≠ (v651 : Value).ownBlock) v664 q9) ∧ Aside0 (Kd.R k34 34 w' w.heap.size (fun _ => True) (.slice Ao9 t635.length co9) t635) ∧ Aside0 (w'.heap[p7]? = some (.cells #[.int .i64 t634,(.slice Ao9 t635.length co9)] 25 (0,0))) ∧ Aside0 (Below w.heap.size w w'))
        case atStart => exact ⟨(0),(by first | rfl | (simp; done) | (simp [*]; done)),H',⟨Nat.le_refl _⟩,⟨by exact Kd.R_mono HO_5.out (fun _ hk => hk.2)⟩,⟨by exact Kd.R_mono r0.out (fun _ hk => hk.2)⟩,⟨by exact p0.out⟩,⟨by exact p4.out⟩,⟨by repeat (first | (with_reducible first | exact HB.out | apply below_alloc | apply pw_below_drewN | apply below_drew1 | refine below_set ?_ q0.out) | exact HB.out)⟩⟩
        case round =>
         clear H'
         try clear c1
         try clear p1
         try clear q1
         try clear hx1
         try clear hf1
         try clear p2
         try clear c3
         try clear c6
         try clear p6
         try clear q6
         try clear hx6
         try clear c7
         try clear c8
         try clear c9
         try clear c10
         try clear p10
         try clear q10
         try clear hx10
         try clear hf10
         try clear c18
         try clear c32
         try clear c32b0
         try clear c33
         try clear c34
         try clear p64
         try clear p65
         try clear q65
         try clear hx65
         try clear p66
         try clear q66
         try clear hx66
         try clear c67
         try clear c67b0
         try clear c67b1
         try clear c67b2
         try clear c77
         try clear c77b0
         try clear c81
         try clear c90
         try clear c96
         try clear c96b0
         try clear c96b1
         try clear c97
         try clear c97b0
         try clear c97b1
         try clear c102
         try clear c102b0
         try clear c103
         try clear c103b0
         try clear c104
         try clear c104b0
         try clear c105
         try clear c105b0
         try clear c106
         try clear c106b0
         try clear p107
         try clear q107
         try clear hx107
         try clear hf107
         try clear v9
         try clear y6
         try clear y9
         try clear z1
         try clear z2
         try clear z3
         try clear z4
         try clear m0
         try clear m1
         try clear m4
         try clear m5
         try clear m8
         try clear m9
         try clear n0
         try clear n1
         try clear n2
         try clear n8
         try clear n9
         try clear a3
         try clear a4
         try clear y7
         try clear y8
         try clear z5
         try clear z6
         try clear z7
         try clear z8
         try clear z9
         try clear m2
         try clear m3
         try clear m6
         try clear m7
         try clear n3
         try clear n4
         try clear n5
         try clear n6
         try clear n7
         try clear a1
         try clear a2
         try clear a5
         try clear a6
         try clear a7
         try clear r5
         try clear r6
         try clear r7
         try clear r8
         try clear r9
         try clear q7
         try clear t0
         try clear t5
         try clear t6
         try clear t7
         try clear t8
         try clear t9
         try clear u0
         try clear u1
         try clear u2
         try clear u3
         try clear u4
         try clear t4
         try clear u5
         try clear p107
         try clear p2
         try clear p6
         try clear p64
         try clear p65
         try clear p653
         try clear p659
         try clear p66
         try clear p662
         try clear p666
         try clear p667
         try clear p668
         try clear p669
         try clear q107
         try clear q6
         try clear q65
         try clear q653
         try clear q659
         try clear q66
         try clear q662
         try clear q666
         try clear q667
         try clear q668
         try clear q669
         obtain ⟨q3,rfl,HA,HK4,HO_5,r0,p0,p4,HB⟩:=hrel;cases gk with
         | zero => exact absurd HA.out (by simp [laws_FnHubArcs.l2])
         | succ k4 =>
          have H:=HA.out;clear HA;simp only [laws_FnHubArcs.l2] at H
          by_cases c111 : q3 < t634
          case neg =>
           rw [if_neg c111] at H;have c111b0 : decide (q3 < t634) = false:=decide_eq_false c111;clear c111;obtain rfl:=Option.some.inj H;have hcz124_0 : wr.cell? ⟨p7,0,none⟩ = some (.int .i64 t634):=(blk_cell p4.out 0).trans rfl;have hcz124_1 : wr.cell? ⟨p7,1,none⟩ = some (.slice Ao9 t635.length co9):=(blk_cell p4.out 1).trans rfl;have hfz124_0:=blk_frozen p4.out 0;have hfz124_1:=blk_frozen p4.out 1
           go_wp2
           go_ret;exact ⟨by first | rfl | (simp [errW_none,errW_some] <;> rfl) | (simp [*,errW_none,errW_some] <;> rfl),by repeat (first | (with_reducible first | exact HB.out | apply below_alloc | apply pw_below_drewN | apply below_drew1 | refine below_set ?_ q0.out) | exact HB.out)⟩
          rw [if_pos c111] at H;have c111b0 : decide (q3 < t634) = true:=decide_eq_true c111;clear c111
          by_cases c112 : 0 ≤ q3
          case neg =>
           rw [if_neg c112] at H;exact absurd H (by simp)
          rw [if_pos c112] at H;have c112b0 : decide (0 ≤ q3) = true:=decide_eq_true c112;clear c112
          by_cases c113 : q3 < (q9.length : Int)
          case neg =>
           rw [if_neg c113] at H;exact absurd H (by simp)
          rw [if_pos c113] at H;have c113b0 : decide (q3 < (q9.length : Int)) = true:=decide_eq_true c113;clear c113
          by_cases c114 : q3 < (t650.length : Int)
          case neg =>
           rw [if_neg c114] at H;exact absurd H (by simp)
          rw [if_pos c114] at H;have c114b0 : decide (q3 < (t650.length : Int)) = true:=decide_eq_true c114;clear c114
          by_cases c115 : (rd q9 q3) < (rd t650 q3)
          case pos =>
           rw [if_pos c115] at H;have c115b0 : decide ((rd q9 q3) < (rd t650 q3)) = true:=decide_eq_true c115;clear c115;obtain rfl:=Option.some.inj H;have hcz116_0 : wr.cell? ⟨p7,0,none⟩ = some (.int .i64 t634):=(blk_cell p4.out 0).trans rfl;have hcz116_1 : wr.cell? ⟨p7,1,none⟩ = some (.slice Ao9 t635.length co9):=(blk_cell p4.out 1).trans rfl;have hfz116_0:=blk_frozen p4.out 0;have hfz116_1:=blk_frozen p4.out 1
           try go_wp2
           have n0_:=zx (Kd.R_drew HO_5.out);have n1_:=zx (Kd.R_drew r0.out);have n2_:=zx (Kd.R_drew p0.out);have n3_:=zx (blk_drew p4.out);have n4_:=zx (below_drew1 HB.out);clear HO_5;clear r0;clear p0;clear p4;clear HB;have HO_5:=n0_;have r0:=n1_;have p0:=n2_;have p4:=n3_;have HB:=n4_;clear n0_ n1_ n2_ n3_ n4_;obtain ⟨Ao118,co118,eo118⟩:=Kd.R_slice r0.out
           (first | subst eo118 | (injection eo118 with f1_ f2_ f3_; have f4_:=f1_.symm; have f5_:=f3_.symm; clear f1_ f2_ f3_; subst f4_; subst f5_))
           have p671 : 0 ≤ (q3 : Int):=of_decide_eq_true (by first | (with_reducible assumption) | assumption);have q671 : q3 < (q9.length : Int):=of_decide_eq_true (by first | (with_reducible assumption) | assumption);obtain ⟨b4,e671,t2⟩:=Kd.at_int (Kd.R_reads' r0.out).2.2 q3 p671 q671;cases e671;replace p671:=eq_true p671;replace q671:=eq_true q671;obtain ⟨Ao119,co119,eo119⟩:=Kd.R_slice HO_5.out
           (first | subst eo119 | (injection eo119 with f1_ f2_ f3_; have f4_:=f1_.symm; have f5_:=f3_.symm; clear f1_ f2_ f3_; subst f4_; subst f5_))
           have p672 : 0 ≤ (q3 : Int):=of_decide_eq_true (by first | (with_reducible assumption) | assumption);have q672 : q3 < (t650.length : Int):=of_decide_eq_true (by first | (with_reducible assumption) | assumption);obtain ⟨b5,e672,t3⟩:=Kd.at_int (Kd.R_reads' HO_5.out).2.2 q3 p672 q672;cases e672;replace p672:=eq_true p672;replace q672:=eq_true q672;refine start_ (n:=9) (S:=fun w' => w'.cell? (b4.add (q3).toNat) = some (.int .i64 (rd q9 q3)) ∧ w'.cell? (b5.add (q3).toNat) = some (.int .i64 (rd t650 q3))) (ds:=[]) #[J,J,J,J,J,J,J,J,J] (by kernel_rfl) rfl rfl ⟨t2,t3⟩ (fun hHeld => ?_); refine with_tabW laws_FnHubArcs.tab23 laws_FnHubArcs.bits23 (fun HT_ HW_ => ?_);generalize wr.drew = w117 at HO_5 r0 p0 p4 HB t2 t3 hHeld ⊢;refine pure_ (i:=0) (N:=some 121) (v:=?_) (a':=?_) #[Y,J,J,J,J,J,J,J,J] rfl rfl (any_of HT_.out (by kernel_rfl)) (fun _ _ _ h => h) (Or.inl ⟨by rfl,?_⟩) ?_ ?_;rotate_left
           ·intro w';go_simp;with_reducible rfl
           rotate_left
           ·simp only [Act.put,U,V,Z,i64_w,i32_w];rfl
           refine pure_ (i:=1) (N:=some 122) (v:=?_) (a':=?_) #[Y,Y,J,J,J,J,J,J,J] rfl rfl (any_of HT_.out (by kernel_rfl)) (fun _ _ _ h => h) (Or.inl ⟨by rfl,?_⟩) ?_ ?_;rotate_left
           ·intro w';go_simp;with_reducible rfl
           rotate_left
           ·simp only [Act.put,U,V,Z,i64_w,i32_w];rfl
           refine pure_ (i:=2) (N:=some 123) (v:=?_) (a':=?_) #[Y,Y,Y,J,J,J,J,J,J] rfl rfl (any_of HT_.out (by kernel_rfl)) (fun _ _ _ h => h) (Or.inl ⟨by rfl,?_⟩) ?_ ?_;rotate_left
           ·intro w';go_simp;with_reducible rfl
           rotate_left
           ·simp only [Act.put,U,V,Z,i64_w,i32_w];rfl
           refine pure_ (i:=4) (N:=some 125) (v:=?_) (a':=?_) #[Y,Y,Y,J,Y,J,J,J,J] rfl rfl (any_of HT_.out (by kernel_rfl)) (fun _ _ _ h => h) (Or.inl ⟨by rfl,?_⟩) ?_ ?_;rotate_left
           ·intro w';go_simp;with_reducible rfl
           rotate_left
           ·simp only [Act.put,U,V,Z,i64_w,i32_w];rfl
           refine pure_ (i:=5) (N:=some 126) (v:=?_) (a':=?_) #[Y,Y,Y,J,Y,Y,J,J,J] rfl rfl (any_of HT_.out (by kernel_rfl)) (fun _ _ _ h => h) (Or.inl ⟨by rfl,?_⟩) ?_ ?_;rotate_left
           ·intro w';go_simp;with_reducible rfl
           rotate_left
           ·simp only [Act.put,U,V,Z,i64_w,i32_w];rfl
           refine pure_ (i:=6) (N:=some 127) (v:=?_) (a':=?_) #[Y,Y,Y,J,Y,Y,Y,J,J] rfl rfl (any_of HT_.out (by kernel_rfl)) (fun _ _ _ h => h) (Or.inl ⟨by rfl,?_⟩) ?_ ?_;rotate_left
           ·intro w';go_simp;with_reducible rfl
           rotate_left
           ·simp only [Act.put,U,V,Z,i64_w,i32_w];rfl
           refine take_ (i:=3) (N:=some 124) (v:=?_) (a':=?_) #[Y,Y,Y,Y,Y,Y,Y,J,J] rfl rfl (take_ofW HT_.out HW_.out (by kernel_rfl)) (fun _ _ _ h => h) (Or.inl ⟨by rfl,?_⟩) hHeld ?_ ?_;rotate_left
           ·rintro w' ⟨s0,s1⟩;go_simp;with_reducible rfl
           rotate_left
           ·simp only [Act.put,U,V,Z,i64_w,i32_w];rfl
           refine take_ (i:=7) (N:=some 128) (v:=?_) (a':=?_) #[Y,Y,Y,Y,Y,Y,Y,Y,J] rfl rfl (take_ofW HT_.out HW_.out (by kernel_rfl)) (fun _ _ _ h => h) (Or.inl ⟨by rfl,?_⟩) hHeld ?_ ?_;rotate_left
           ·rintro w' ⟨s0,s1⟩;go_simp;with_reducible rfl
           rotate_left
           ·simp only [Act.put,U,V,Z,i64_w,i32_w];rfl
           refine pure_ (i:=8) (N:=some 129) (v:=?_) (a':=?_) #[Y,Y,Y,Y,Y,Y,Y,Y,Y] rfl rfl (any_of HT_.out (by kernel_rfl)) (fun _ _ _ h => h) (Or.inl ⟨by rfl,?_⟩) ?_ ?_;rotate_left
           ·intro w';go_simp;with_reducible rfl
           rotate_left
           ·simp only [Act.put,U,V,Z,i64_w,i32_w];rfl
           refine done_ (done_of HT_.out (by kernel_rfl)) ?_
           try go_wp2
           go_ret;exact ⟨by first | rfl | (simp [errW_none,errW_some] <;> rfl) | (simp [*,errW_none,errW_some] <;> rfl),by repeat (first | (with_reducible first | exact HB.out | apply below_alloc | apply pw_below_drewN | apply below_drew1 | refine below_set ?_ q0.out) | exact HB.out)⟩
          rw [if_neg c115] at H;have c115b0 : decide ((rd q9 q3) < (rd t650 q3)) = false:=decide_eq_false c115;clear c115;have H':=zx H;clear H;have hcz120_0 : wr.cell? ⟨p7,0,none⟩ = some (.int .i64 t634):=(blk_cell p4.out 0).trans rfl;have hcz120_1 : wr.cell? ⟨p7,1,none⟩ = some (.slice Ao9 t635.length co9):=(blk_cell p4.out 1).trans rfl;have hfz120_0:=blk_frozen p4.out 0;have hfz120_1:=blk_frozen p4.out 1
          try go_wp2
          have n0_:=zx (Kd.R_drew HO_5.out);have n1_:=zx (Kd.R_drew r0.out);have n2_:=zx (Kd.R_drew p0.out);have n3_:=zx (blk_drew p4.out);have n4_:=zx (below_drew1 HB.out);clear HO_5;clear r0;clear p0;clear p4;clear HB;have HO_5:=n0_;have r0:=n1_;have p0:=n2_;have p4:=n3_;have HB:=n4_;clear n0_ n1_ n2_ n3_ n4_;obtain ⟨Ao122,co122,eo122⟩:=Kd.R_slice r0.out
          (first | subst eo122 | (injection eo122 with f1_ f2_ f3_; have f4_:=f1_.symm; have f5_:=f3_.symm; clear f1_ f2_ f3_; subst f4_; subst f5_))
          have p671 : 0 ≤ (q3 : Int):=of_decide_eq_true (by first | (with_reducible assumption) | assumption);have q671 : q3 < (q9.length : Int):=of_decide_eq_true (by first | (with_reducible assumption) | assumption);obtain ⟨b4,e671,t2⟩:=Kd.at_int (Kd.R_reads' r0.out).2.2 q3 p671 q671;cases e671;replace p671:=eq_true p671;replace q671:=eq_true q671;obtain ⟨Ao123,co123,eo123⟩:=Kd.R_slice HO_5.out
          (first | subst eo123 | (injection eo123 with f1_ f2_ f3_; have f4_:=f1_.symm; have f5_:=f3_.symm; clear f1_ f2_ f3_; subst f4_; subst f5_))
          have p672 : 0 ≤ (q3 : Int):=of_decide_eq_true (by first | (with_reducible assumption) | assumption);have q672 : q3 < (t650.length : Int):=of_decide_eq_true (by first | (with_reducible assumption) | assumption);obtain ⟨b5,e672,t3⟩:=Kd.at_int (Kd.R_reads' HO_5.out).2.2 q3 p672 q672;cases e672;replace p672:=eq_true p672;replace q672:=eq_true q672;refine start_ (n:=9) (S:=fun w' => w'.cell? (b4.add (q3).toNat) = some (.int .i64 (rd q9 q3)) ∧ w'.cell? (b5.add (q3).toNat) = some (.int .i64 (rd t650 q3))) (ds:=[]) #[J,J,J,J,J,J,J,J,J] (by kernel_rfl) rfl rfl ⟨t2,t3⟩ (fun hHeld => ?_); refine with_tabW laws_FnHubArcs.tab23 laws_FnHubArcs.bits23 (fun HT_ HW_ => ?_);generalize wr.drew = w121 at HO_5 r0 p0 p4 HB t2 t3 hHeld ⊢;refine pure_ (i:=0) (N:=some 121) (v:=?_) (a':=?_) #[Y,J,J,J,J,J,J,J,J] rfl rfl (any_of HT_.out (by kernel_rfl)) (fun _ _ _ h => h) (Or.inl ⟨by rfl,?_⟩) ?_ ?_;rotate_left
          ·intro w';go_simp;with_reducible rfl
          rotate_left
          ·simp only [Act.put,U,V,Z,i64_w,i32_w];rfl
          refine pure_ (i:=1) (N:=some 122) (v:=?_) (a':=?_) #[Y,Y,J,J,J,J,J,J,J] rfl rfl (any_of HT_.out (by kernel_rfl)) (fun _ _ _ h => h) (Or.inl ⟨by rfl,?_⟩) ?_ ?_;rotate_left
          ·intro w';go_simp;with_reducible rfl
          rotate_left
          ·simp only [Act.put,U,V,Z,i64_w,i32_w];rfl
          refine pure_ (i:=2) (N:=some 123) (v:=?_) (a':=?_) #[Y,Y,Y,J,J,J,J,J,J] rfl rfl (any_of HT_.out (by kernel_rfl)) (fun _ _ _ h => h) (Or.inl ⟨by rfl,?_⟩) ?_ ?_;rotate_left
          ·intro w';go_simp;with_reducible rfl
          rotate_left
          ·simp only [Act.put,U,V,Z,i64_w,i32_w];rfl
          refine pure_ (i:=4) (N:=some 125) (v:=?_) (a':=?_) #[Y,Y,Y,J,Y,J,J,J,J] rfl rfl (any_of HT_.out (by kernel_rfl)) (fun _ _ _ h => h) (Or.inl ⟨by rfl,?_⟩) ?_ ?_;rotate_left
          ·intro w';go_simp;with_reducible rfl
          rotate_left
          ·simp only [Act.put,U,V,Z,i64_w,i32_w];rfl
          refine pure_ (i:=5) (N:=some 126) (v:=?_) (a':=?_) #[Y,Y,Y,J,Y,Y,J,J,J] rfl rfl (any_of HT_.out (by kernel_rfl)) (fun _ _ _ h => h) (Or.inl ⟨by rfl,?_⟩) ?_ ?_;rotate_left
          ·intro w';go_simp;with_reducible rfl
          rotate_left
          ·simp only [Act.put,U,V,Z,i64_w,i32_w];rfl
          refine pure_ (i:=6) (N:=some 127) (v:=?_) (a':=?_) #[Y,Y,Y,J,Y,Y,Y,J,J] rfl rfl (any_of HT_.out (by kernel_rfl)) (fun _ _ _ h => h) (Or.inl ⟨by rfl,?_⟩) ?_ ?_;rotate_left
          ·intro w';go_simp;with_reducible rfl
          rotate_left
          ·simp only [Act.put,U,V,Z,i64_w,i32_w];rfl
          refine take_ (i:=3) (N:=some 124) (v:=?_) (a':=?_) #[Y,Y,Y,Y,Y,Y,Y,J,J] rfl rfl (take_ofW HT_.out HW_.out (by kernel_rfl)) (fun _ _ _ h => h) (Or.inl ⟨by rfl,?_⟩) hHeld ?_ ?_;rotate_left
          ·rintro w' ⟨s0,s1⟩;go_simp;with_reducible rfl
          rotate_left
          ·simp only [Act.put,U,V,Z,i64_w,i32_w];rfl
          refine take_ (i:=7) (N:=some 128) (v:=?_) (a':=?_) #[Y,Y,Y,Y,Y,Y,Y,Y,J] rfl rfl (take_ofW HT_.out HW_.out (by kernel_rfl)) (fun _ _ _ h => h) (Or.inl ⟨by rfl,?_⟩) hHeld ?_ ?_;rotate_left
          ·rintro w' ⟨s0,s1⟩;go_simp;with_reducible rfl
          rotate_left
          ·simp only [Act.put,U,V,Z,i64_w,i32_w];rfl
          refine pure_ (i:=8) (N:=some 129) (v:=?_) (a':=?_) #[Y,Y,Y,Y,Y,Y,Y,Y,Y] rfl rfl (any_of HT_.out (by kernel_rfl)) (fun _ _ _ h => h) (Or.inl ⟨by rfl,?_⟩) ?_ ?_;rotate_left
          ·intro w';go_simp;with_reducible rfl
          rotate_left
          ·simp only [Act.put,U,V,Z,i64_w,i32_w];rfl
          refine done_ (done_of HT_.out (by kernel_rfl)) ?_
          try go_wp2
          go_roundg k4
          case measure => have:=HJ4.out; have:=HK2.out; have:=HK3.out; have:=HK4.out; omega
          case rel => exact ⟨(wrap64 (q3 + 1)),(by first | rfl | (simp; done) | (simp [*]; done)),H',⟨by have:=HJ4.out; have:=HK2.out; have:=HK3.out; have:=HK4.out; omega⟩,⟨by exact HO_5.out⟩,⟨by exact r0.out⟩,⟨by exact p0.out⟩,⟨by exact p4.out⟩,⟨by repeat (first | (with_reducible first | exact HB.out | apply below_alloc | apply pw_below_drewN | apply below_drew1 | refine below_set ?_ q0.out) | exact HB.out)⟩⟩
     rw [if_pos c32] at H;have c32b0 : decide (x6_2 < (t639.length : Int)) = true:=decide_eq_true c32;clear c32
     by_cases c33 : 0 ≤ x6_2
     case neg =>
      rw [if_neg c33] at H;exact absurd H (by simp)
     rw [if_pos c33] at H;have c33b0 : decide (0 ≤ x6_2) = true:=decide_eq_true c33;clear c33
     by_cases c34 : x6_2 < (t635.length : Int)
     case neg =>
      rw [if_neg c34] at H;exact absurd H (by simp)
     rw [if_pos c34] at H;have c34b0 : decide (x6_2 < (t635.length : Int)) = true:=decide_eq_true c34;clear c34;replace H:=Option.bind_eq_some_iff.mp H;obtain ⟨⟨t655,t658⟩,A350,H⟩:=H;replace H : (if (t655.length : Int) = 1 then (if 0 < (t655.length : Int) then (if ((decide ((rd t639 x6_2) > 0)) != ((rd t655 0) == x6_2)) = true then (some false) else (if (rd t639 x6_2) > (wrap64 (t634 * t634)) then (some false) else (laws_FnHubArcs.l0 k2 t639 t650 (wrap64 (x6_2 + 1)) t634 t635))) else (none)) else (if ((decide ((rd t639 x6_2) > 0)) != false) = true then (some false) else (if (rd t639 x6_2) > (wrap64 (t634 * t634)) then (some false) else (laws_FnHubArcs.l0 k2 t639 t650 (wrap64 (x6_2 + 1)) t634 t635)))) = some r:=H;have A35:=zx A350;clear A350
     by_cases c36 : (t655.length : Int) = 1
     case neg =>
      rw [if_neg c36] at H;have c36b0 : ((t655.length : Int) == 1) = false:=beq_eq_false_iff_ne.mpr c36;have c36b1 : ((t655.length : Int) != 1) = true:=bne_iff_ne.mpr c36
      by_cases c67 : ((decide ((rd t639 x6_2) > 0)) != false) = true
      case pos =>
       rw [if_pos c67] at H;have c67b0 : ((decide ((rd t639 x6_2) > 0)) != false) = true:=c67
       (try (have c67b1 : decide ((decide ((rd t639 x6_2) > 0)) = false) = false:=by simpa using c67))
       (try (have c67b2 : ((decide ((rd t639 x6_2) > 0)) == false) = false:=by simpa using c67))
       (try (have c67b3 : ¬ ((decide ((rd t639 x6_2) > 0)) = false):=by simpa using c67))
       clear c67;obtain rfl:=Option.some.inj H;obtain ⟨Ao68,co68,eo68⟩:=Kd.R_slice HO_4.out;subst eo68;have hcz69_0 : wr.cell? ⟨p7,0,none⟩ = some (.int .i64 t634):=(blk_cell p4.out 0).trans rfl;have hcz69_1 : wr.cell? ⟨p7,1,none⟩ = some (.slice Ao9 t635.length co9):=(blk_cell p4.out 1).trans rfl;have hfz69_0:=blk_frozen p4.out 0;have hfz69_1:=blk_frozen p4.out 1;have p653 : 0 ≤ (x6_2 : Int):=of_decide_eq_true (by first | (with_reducible assumption) | assumption);have q653 : x6_2 < (t635.length : Int):=of_decide_eq_true (by first | (with_reducible assumption) | assumption);obtain ⟨q2,e653,r5,r6,r7,r8,r9⟩:=at_T34 (Kd.R_reads' p0.out).2.2 x6_2 p653 q653;cases e653;replace p653:=eq_true p653;replace q653:=eq_true q653
       try go_wp2_with (first | ((with_reducible refine gate_dst (N:=7) rfl ?_); (try (refine gate_guard (by rfl) ?_; dsimp only)); refine box_event ?hg (N:=7) ?hd (cs:=#[.int .i64 0,.int .i64 0,.int .i64 0,.int .i64 0,.int .i64 0]) (t:=34) ?hr ?_; (case hd => rfl); (case hg => rfl); (case hr => first | (go_simp; done) | (go_simp; rfl)); intro p3 hg w70 hbox hb; have n0_:=zx (Kd.R_below (by exact HO_4.out) hb); have n1_:=zx (Kd.R_below (by exact HO_5.out) hb); have n2_:=zx (Kd.R_below (Kd.R_elderB (by exact p0.out) p3 (Nat.le_of_eq hg.symm)) hb); have n3_:=zx (blk_below (g:=p7) (o:=.cells #[.int .i64 t634,.slice (some q2) t635.length co9] 25 (0,0)) (by exact p4.out) hb); have n4_:=zx (below_step (by repeat (first | (with_reducible first | exact HB.out | apply below_alloc | apply pw_below_drewN | apply below_drew1 | refine below_set ?_ q0.out) | exact HB.out)) hb); have n5_:=zx (hbox); have n6_:=zx ((by rw [hg]; exact (below_size (by repeat (first | (with_reducible first | exact HB.out | apply below_alloc | apply pw_below_drewN | apply below_drew1 | refine below_set ?_ q0.out) | exact HB.out))) : w.heap.size ≤ p3)); have n7_:=zx ((by rw [hg]; exact (below_size (by repeat (first | (with_reducible first | exact HB.out | apply below_alloc | apply pw_below_drewN | apply below_drew1 | refine below_set ?_ q0.out) | exact HB.out))) : w.heap.size ≤ p3)); have n8_:=zx ((by rw [hg]; exact Nat.ne_of_lt (blk_lt (g:=p7) (o:=.cells #[.int .i64 t634,.slice (some q2) t635.length co9] 25 (0,0)) (by exact p4.out)) : p7 ≠ p3)); have n9_:=zx ((by rw [hg]; exact Nat.ne_of_gt (blk_lt (g:=p7) (o:=.cells #[.int .i64 t634,.slice (some q2) t635.length co9] 25 (0,0)) (by exact p4.out)) : p3 ≠ p7)); clear HO_4; clear HO_5; clear p0; clear p4; clear HB; have HO_4:=n0_; have HO_5:=n1_; have p0:=n2_; have p4:=n3_; have HB:=n4_; have p5:=n5_; have u6:=n6_; have r2:=n7_; have p8:=n8_; have q8:=n9_; clear n0_ n1_ n2_ n3_ n4_ n5_ n6_ n7_ n8_ n9_; clear hb hbox hg; have hnb71:=q8.out; have hnc71:=p8.out; have hcz72_0 : w70.cell? ⟨p3,0,none⟩ = some (.int .i64 0):=(blk_cell p5.out 0).trans rfl; have hcz72_1 : w70.cell? ⟨p3,1,none⟩ = some (.int .i64 0):=(blk_cell p5.out 1).trans rfl; have hcz72_2 : w70.cell? ⟨p3,2,none⟩ = some (.int .i64 0):=(blk_cell p5.out 2).trans rfl; have hcz72_3 : w70.cell? ⟨p3,3,none⟩ = some (.int .i64 0):=(blk_cell p5.out 3).trans rfl; have hcz72_4 : w70.cell? ⟨p3,4,none⟩ = some (.int .i64 0):=(blk_cell p5.out 4).trans rfl; have hfz72_0:=blk_frozen p5.out 0; have hfz72_1:=blk_frozen p5.out 1; have hfz72_2:=blk_frozen p5.out 2; have hfz72_3:=blk_frozen p5.out 3; have hfz72_4:=blk_frozen p5.out 4; have hcz73_0 : w70.cell? ⟨p7,0,none⟩ = some (.int .i64 t634):=(blk_cell p4.out 0).trans rfl; have hcz73_1 : w70.cell? ⟨p7,1,none⟩ = some (.slice (some q2) t635.length co9):=(blk_cell p4.out 1).trans rfl; have hfz73_0:=blk_frozen p4.out 0; have hfz73_1:=blk_frozen p4.out 1) | ((with_reducible refine gate_callee (f:=18) rfl ?_); refine goesL_ (some 53) rfl rfl Try.func18 (by kernel_rfl) rfl #[.agg #[.int .i64 t634,.slice (some q2) t635.length co9],.int .i64 ((rd_T34 t635 x6_2).f0),.int .i64 ((rd_T34 t635 x6_2).f1)] rfl (by (try simp only [List.map_toArray,List.map_cons,List.map_nil]); first | done | rfl | (simp only [List.length_drop,List.length_take]; rfl)) ?_; (with_reducible refine (impl_NearWalk.calls k2 t634 _ _ t635 ((rd_T34 t635 x6_2).f0) ((rd_T34 t635 x6_2).f1) t655 t658 _ ?side1 ?side2 A35.out).mono ?_); (case side1 => refine (Kd.R_reads' (e:=34) (base:=w.heap.size) (ok:=fun k_ => (True ∧ k_ ≠ p3)) (n:=t635.length) (c:=co9) ?_).2.2; exact (by exact (Kd.R_mono (Kd.R_far (p:=⟨p3,4,none⟩) (Kd.R_far (p:=⟨p3,3,none⟩) (Kd.R_far (p:=⟨p3,2,none⟩) (Kd.R_far (p:=⟨p3,1,none⟩) (Kd.R_far (p:=⟨p3,0,none⟩) (Kd.R_mono p0.out (fun k_ hk => (⟨hk,hk.2⟩ : _ ∧ k_ ≠ p3))) (fun _ hk => hk.2) (.int .i64 ((rd_T34 t635 x6_2).f0))) (fun _ hk => hk.2) (.int .i64 ((rd_T34 t635 x6_2).f1))) (fun _ hk => hk.2) (.int .i64 ((rd_T34 t635 x6_2).f2))) (fun _ hk => hk.2) (.int .i64 ((rd_T34 t635 x6_2).f3))) (fun _ hk => hk.2) (.int .i64 ((rd_T34 t635 x6_2).f4))) (fun _ h_ => h_.1)))); (case side2 => exact (Kd.R_reads' p0.out).2.1); rintro e w74 ⟨v656,rfl,ho0,hb⟩; refine ⟨_,rfl,?_⟩; have n0_:=zx (Kd.R_elder' (by exact (Kd.R_mono (Kd.R_far (p:=⟨p3,4,none⟩) (Kd.R_far (p:=⟨p3,3,none⟩) (Kd.R_far (p:=⟨p3,2,none⟩) (Kd.R_far (p:=⟨p3,1,none⟩) (Kd.R_far (p:=⟨p3,0,none⟩) (Kd.R_types HO_4.out p5.out (by decide)) (fun _ hk => hk.2) (.int .i64 ((rd_T34 t635 x6_2).f0))) (fun _ hk => hk.2) (.int .i64 ((rd_T34 t635 x6_2).f1))) (fun _ hk => hk.2) (.int .i64 ((rd_T34 t635 x6_2).f2))) (fun _ hk => hk.2) (.int .i64 ((rd_T34 t635 x6_2).f3))) (fun _ hk => hk.2) (.int .i64 ((rd_T34 t635 x6_2).f4))) (fun _ h_ => h_.1))) (Kd.R_base ho0) hb); have n1_:=zx (Kd.R_elder' (by exact (Kd.R_mono (Kd.R_far (p:=⟨p3,4,none⟩) (Kd.R_far (p:=⟨p3,3,none⟩) (Kd.R_far (p:=⟨p3,2,none⟩) (Kd.R_far (p:=⟨p3,1,none⟩) (Kd.R_far (p:=⟨p3,0,none⟩) (Kd.R_types HO_5.out p5.out (by decide)) (fun _ hk => hk.2) (.int .i64 ((rd_T34 t635 x6_2).f0))) (fun _ hk => hk.2) (.int .i64 ((rd_T34 t635 x6_2).f1))) (fun _ hk => hk.2) (.int .i64 ((rd_T34 t635 x6_2).f2))) (fun _ hk => hk.2) (.int .i64 ((rd_T34 t635 x6_2).f3))) (fun _ hk => hk.2) (.int .i64 ((rd_T34 t635 x6_2).f4))) (fun _ h_ => h_.1))) (Kd.R_base ho0) hb); have n2_:=zx (Kd.R_below (by exact (Kd.R_mono (Kd.R_far (p:=⟨p3,4,none⟩) (Kd.R_far (p:=⟨p3,3,none⟩) (Kd.R_far (p:=⟨p3,2,none⟩) (Kd.R_far (p:=⟨p3,1,none⟩) (Kd.R_far (p:=⟨p3,0,none⟩) (Kd.R_mono p0.out (fun k_ hk => (⟨hk,hk.2⟩ : _ ∧ k_ ≠ p3))) (fun _ hk => hk.2) (.int .i64 ((rd_T34 t635 x6_2).f0))) (fun _ hk => hk.2) (.int .i64 ((rd_T34 t635 x6_2).f1))) (fun _ hk => hk.2) (.int .i64 ((rd_T34 t635 x6_2).f2))) (fun _ hk => hk.2) (.int .i64 ((rd_T34 t635 x6_2).f3))) (fun _ hk => hk.2) (.int .i64 ((rd_T34 t635 x6_2).f4))) (fun _ h_ => h_.1))) hb); have n3_:=zx (Kd.R_lower (Kd.R_new' (Kd.R_new' ho0 (Kd.R_lt (by exact (Kd.R_mono (Kd.R_far (p:=⟨p3,4,none⟩) (Kd.R_far (p:=⟨p3,3,none⟩) (Kd.R_far (p:=⟨p3,2,none⟩) (Kd.R_far (p:=⟨p3,1,none⟩) (Kd.R_far (p:=⟨p3,0,none⟩) (Kd.R_types HO_4.out p5.out (by decide)) (fun _ hk => hk.2) (.int .i64 ((rd_T34 t635 x6_2).f0))) (fun _ hk => hk.2) (.int .i64 ((rd_T34 t635 x6_2).f1))) (fun _ hk => hk.2) (.int .i64 ((rd_T34 t635 x6_2).f2))) (fun _ hk => hk.2) (.int .i64 ((rd_T34 t635 x6_2).f3))) (fun _ hk => hk.2) (.int .i64 ((rd_T34 t635 x6_2).f4))) (fun _ h_ => h_.1))))) (Kd.R_lt (by exact (Kd.R_mono (Kd.R_far (p:=⟨p3,4,none⟩) (Kd.R_far (p:=⟨p3,3,none⟩) (Kd.R_far (p:=⟨p3,2,none⟩) (Kd.R_far (p:=⟨p3,1,none⟩) (Kd.R_far (p:=⟨p3,0,none⟩) (Kd.R_types HO_5.out p5.out (by decide)) (fun _ hk => hk.2) (.int .i64 ((rd_T34 t635 x6_2).f0))) (fun _ hk => hk.2) (.int .i64 ((rd_T34 t635 x6_2).f1))) (fun _ hk => hk.2) (.int .i64 ((rd_T34 t635 x6_2).f2))) (fun _ hk => hk.2) (.int .i64 ((rd_T34 t635 x6_2).f3))) (fun _ hk => hk.2) (.int .i64 ((rd_T34 t635 x6_2).f4))) (fun _ h_ => h_.1))))) (below_size (by repeat (first | (with_reducible first | exact HB.out | apply below_alloc | apply pw_below_drewN | apply below_drew1 | refine below_set ?_ q0.out | refine below_set ?_ r2.out) | exact HB.out)))); have n4_:=zx (blk_below (g:=p7) (o:=.cells #[.int .i64 t634,.slice (some q2) t635.length co9] 25 (0,0)) (by refine blk_far ?_ p8.out _; refine blk_far ?_ p8.out _; refine blk_far ?_ p8.out _; refine blk_far ?_ p8.out _; refine blk_far ?_ p8.out _; exact p4.out) hb); have n5_:=zx (blk_below (g:=p3) (o:=.cells #[.int .i64 ((rd_T34 t635 x6_2).f0),.int .i64 ((rd_T34 t635 x6_2).f1),.int .i64 ((rd_T34 t635 x6_2).f2),.int .i64 ((rd_T34 t635 x6_2).f3),.int .i64 ((rd_T34 t635 x6_2).f4)] 34 (0,0)) (by refine blk_put (cs:=#[.int .i64 ((rd_T34 t635 x6_2).f0),.int .i64 ((rd_T34 t635 x6_2).f1),.int .i64 ((rd_T34 t635 x6_2).f2),.int .i64 ((rd_T34 t635 x6_2).f3),.int .i64 0]) ?_ 4 _ rfl; refine blk_put (cs:=#[.int .i64 ((rd_T34 t635 x6_2).f0),.int .i64 ((rd_T34 t635 x6_2).f1),.int .i64 ((rd_T34 t635 x6_2).f2),.int .i64 0,.int .i64 0]) ?_ 3 _ rfl; refine blk_put (cs:=#[.int .i64 ((rd_T34 t635 x6_2).f0),.int .i64 ((rd_T34 t635 x6_2).f1),.int .i64 0,.int .i64 0,.int .i64 0]) ?_ 2 _ rfl; refine blk_put (cs:=#[.int .i64 ((rd_T34 t635 x6_2).f0),.int .i64 0,.int .i64 0,.int .i64 0,.int .i64 0]) ?_ 1 _ rfl; refine blk_put (cs:=#[.int .i64 0,.int .i64 0,.int .i64 0,.int .i64 0,.int .i64 0]) ?_ 0 _ rfl; exact p5.out) hb); have n6_:=zx (below_step (by repeat (first | (with_reducible first | exact HB.out | apply below_alloc | apply pw_below_drewN | apply below_drew1 | refine below_set ?_ q0.out | refine below_set ?_ r2.out) | exact HB.out)) hb); clear HO_4; clear HO_5; clear p0; clear p4; clear p5; clear HB; have HO_4:=n0_; have HO_5:=n1_; have p0:=n2_; have HO657:=n3_; have p4:=n4_; have p5:=n5_; have HB:=n6_; clear n0_ n1_ n2_ n3_ n4_ n5_ n6_; (try clear hb); (try clear hb2); (try clear hk); (try clear hi); (try clear ho0)))
       have n0_:=zx (Kd.R_drew HO_4.out);have n1_:=zx (Kd.R_drew HO_5.out);have n2_:=zx (Kd.R_drew p0.out);have n3_:=zx (Kd.R_drew HO657.out);have n4_:=zx (blk_drew p4.out);have n5_:=zx (blk_drew p5.out);have n6_:=zx (below_drew1 HB.out);clear HO_4;clear HO_5;clear p0;clear HO657;clear p4;clear p5;clear HB;have HO_4:=n0_;have HO_5:=n1_;have p0:=n2_;have HO657:=n3_;have p4:=n4_;have p5:=n5_;have HB:=n6_;clear n0_ n1_ n2_ n3_ n4_ n5_ n6_;have p659 : 0 ≤ (x6_2 : Int):=of_decide_eq_true (by first | (with_reducible assumption) | assumption);have q659 : x6_2 < (t639.length : Int):=of_decide_eq_true (by first | (with_reducible assumption) | assumption);obtain ⟨r4,e659,q7⟩:=Kd.at_int (Kd.R_reads' HO_4.out).2.2 x6_2 p659 q659;cases e659;replace p659:=eq_true p659;replace q659:=eq_true q659;obtain ⟨Ao76,co76,eo76⟩:=Kd.R_slice HO657.out
       (first | subst eo76 | (injection eo76 with f1_ f2_ f3_; have f4_:=f1_.symm; have f5_:=f3_.symm; clear f1_ f2_ f3_; subst f4_; subst f5_))
       refine start_ (n:=28) (S:=fun w' => w'.cell? (r4.add (x6_2).toNat) = some (.int .i64 (rd t639 x6_2))) (ds:=[]) #[J,J,J,J,J,J,J,J,J,J,J,J,J,J,J,J,J,J,J,J,J,J,J,J,J,J,J,J] (by kernel_rfl) rfl rfl (q7) (fun hHeld => ?_); refine with_tabW laws_FnHubArcs.tab13 laws_FnHubArcs.bits13 (fun HT_ HW_ => ?_);generalize w74.drew = w75 at HO_4 HO_5 p0 HO657 p4 p5 HB q7 hHeld ⊢;refine pure_ (i:=0) (N:=some 56) (v:=?_) (a':=?_) #[Y,J,J,J,J,J,J,J,J,J,J,J,J,J,J,J,J,J,J,J,J,J,J,J,J,J,J,J] rfl rfl (any_of HT_.out (by kernel_rfl)) (fun _ _ _ h => h) (Or.inl ⟨by rfl,?_⟩) ?_ ?_;rotate_left
       ·intro w';go_simp;with_reducible rfl
       rotate_left
       ·simp only [Act.put,U,V,Z,i64_w,i32_w];rfl
       refine pure_ (i:=1) (N:=some 57) (v:=?_) (a':=?_) #[Y,Y,J,J,J,J,J,J,J,J,J,J,J,J,J,J,J,J,J,J,J,J,J,J,J,J,J,J] rfl rfl (any_of HT_.out (by kernel_rfl)) (fun _ _ _ h => h) (Or.inl ⟨by rfl,?_⟩) ?_ ?_;rotate_left
       ·intro w';go_simp;with_reducible rfl
       rotate_left
       ·simp only [Act.put,U,V,Z,i64_w,i32_w];rfl
       refine pure_ (i:=2) (N:=some 58) (v:=?_) (a':=?_) #[Y,Y,Y,J,J,J,J,J,J,J,J,J,J,J,J,J,J,J,J,J,J,J,J,J,J,J,J,J] rfl rfl (any_of HT_.out (by kernel_rfl)) (fun _ _ _ h => h) (Or.inl ⟨by rfl,?_⟩) ?_ ?_;rotate_left
       ·intro w';go_simp;with_reducible rfl
       rotate_left
       ·simp only [Act.put,U,V,Z,i64_w,i32_w];rfl
       refine pure_ (i:=5) (N:=some 61) (v:=?_) (a':=?_) #[Y,Y,Y,J,J,Y,J,J,J,J,J,J,J,J,J,J,J,J,J,J,J,J,J,J,J,J,J,J] rfl rfl (any_of HT_.out (by kernel_rfl)) (fun _ _ _ h => h) (Or.inl ⟨by rfl,?_⟩) ?_ ?_;rotate_left
       ·intro w';go_simp;with_reducible rfl
       rotate_left
       ·simp only [Act.put,U,V,Z,i64_w,i32_w];rfl
       refine pure_ (i:=6) (N:=some 62) (v:=?_) (a':=?_) #[Y,Y,Y,J,J,Y,Y,J,J,J,J,J,J,J,J,J,J,J,J,J,J,J,J,J,J,J,J,J] rfl rfl (any_of HT_.out (by kernel_rfl)) (fun _ _ _ h => h) (Or.inl ⟨by rfl,?_⟩) ?_ ?_;rotate_left
       ·intro w';go_simp;with_reducible rfl
       rotate_left
       ·simp only [Act.put,U,V,Z,i64_w,i32_w];rfl
       refine pure_ (i:=7) (N:=some 63) (v:=?_) (a':=?_) #[Y,Y,Y,J,J,Y,Y,Y,J,J,J,J,J,J,J,J,J,J,J,J,J,J,J,J,J,J,J,J] rfl rfl (any_of HT_.out (by kernel_rfl)) (fun _ _ _ h => h) (Or.inl ⟨by rfl,?_⟩) ?_ ?_;rotate_left
       ·intro w';go_simp;with_reducible rfl
       rotate_left
       ·simp only [Act.put,U,V,Z,i64_w,i32_w];rfl
       refine pure_ (i:=8) (N:=some 64) (v:=?_) (a':=?_) #[Y,Y,Y,J,J,Y,Y,Y,Y,J,J,J,J,J,J,J,J,J,J,J,J,J,J,J,J,J,J,J] rfl rfl (any_of HT_.out (by kernel_rfl)) (fun _ _ _ h => h) (Or.inl ⟨by rfl,?_⟩) ?_ ?_;rotate_left
       ·intro w';go_simp;with_reducible rfl
       rotate_left
       ·simp only [Act.put,U,V,Z,i64_w,i32_w];rfl
       refine pure_ (i:=9) (N:=some 65) (v:=undef) (a':=?_) #[Y,Y,Y,J,J,Y,Y,Y,Y,Y,J,J,J,J,J,J,J,J,J,J,J,J,J,J,J,J,J,J] rfl rfl (any_of HT_.out (by kernel_rfl)) (fun _ _ _ h => h) (Or.inr ⟨by rfl,rfl⟩) ?_ ?_;rotate_left
       ·simp only [Act.put,U,V,Z,i64_w,i32_w];rfl
       refine pure_ (i:=10) (N:=some 66) (v:=undef) (a':=?_) #[Y,Y,Y,J,J,Y,Y,Y,Y,Y,Y,J,J,J,J,J,J,J,J,J,J,J,J,J,J,J,J,J] rfl rfl (any_of HT_.out (by kernel_rfl)) (fun _ _ _ h => h) (Or.inr ⟨by rfl,rfl⟩) ?_ ?_;rotate_left
       ·simp only [Act.put,U,V,Z,i64_w,i32_w];rfl
       refine pure_ (i:=11) (N:=some 67) (v:=undef) (a':=?_) #[Y,Y,Y,J,J,Y,Y,Y,Y,Y,Y,Y,J,J,J,J,J,J,J,J,J,J,J,J,J,J,J,J] rfl rfl (any_of HT_.out (by kernel_rfl)) (fun _ _ _ h => h) (Or.inr ⟨by rfl,rfl⟩) ?_ ?_;rotate_left
       ·simp only [Act.put,U,V,Z,i64_w,i32_w];rfl
       refine pure_ (i:=12) (N:=some 68) (v:=undef) (a':=?_) #[Y,Y,Y,J,J,Y,Y,Y,Y,Y,Y,Y,Y,J,J,J,J,J,J,J,J,J,J,J,J,J,J,J] rfl rfl (any_of HT_.out (by kernel_rfl)) (fun _ _ _ h => h) (Or.inr ⟨by rfl,rfl⟩) ?_ ?_;rotate_left
       ·simp only [Act.put,U,V,Z,i64_w,i32_w];rfl
       refine pure_ (i:=13) (N:=some 69) (v:=undef) (a':=?_) #[Y,Y,Y,J,J,Y,Y,Y,Y,Y,Y,Y,Y,Y,J,J,J,J,J,J,J,J,J,J,J,J,J,J] rfl rfl (any_of HT_.out (by kernel_rfl)) (fun _ _ _ h => h) (Or.inr ⟨by rfl,rfl⟩) ?_ ?_;rotate_left
       ·simp only [Act.put,U,V,Z,i64_w,i32_w];rfl
       refine pure_ (i:=14) (N:=some 70) (v:=?_) (a':=?_) #[Y,Y,Y,J,J,Y,Y,Y,Y,Y,Y,Y,Y,Y,Y,J,J,J,J,J,J,J,J,J,J,J,J,J] rfl rfl (any_of HT_.out (by kernel_rfl)) (fun _ _ _ h => h) (Or.inl ⟨by rfl,?_⟩) ?_ ?_;rotate_left
       ·intro w';go_simp;with_reducible rfl
       rotate_left
       ·simp only [Act.put,U,V,Z,i64_w,i32_w];rfl
       refine take_ (i:=3) (N:=some 59) (v:=?_) (a':=?_) #[Y,Y,Y,Y,J,Y,Y,Y,Y,Y,Y,Y,Y,Y,Y,J,J,J,J,J,J,J,J,J,J,J,J,J] rfl rfl (take_ofW HT_.out HW_.out (by kernel_rfl)) (fun _ _ _ h => h) (Or.inl ⟨by rfl,?_⟩) hHeld ?_ ?_;rotate_left
       ·intro w' s0;go_simp;with_reducible rfl
       rotate_left
       ·simp only [Act.put,U,V,Z,i64_w,i32_w];rfl
       refine pure_ (i:=4) (N:=some 60) (v:=?_) (a':=?_) #[Y,Y,Y,Y,Y,Y,Y,Y,Y,Y,Y,Y,Y,Y,Y,J,J,J,J,J,J,J,J,J,J,J,J,J] rfl rfl (any_of HT_.out (by kernel_rfl)) (fun _ _ _ h => h) (Or.inl ⟨by rfl,?_⟩) ?_ ?_;rotate_left
       ·intro w';go_simp;with_reducible rfl
       rotate_left
       ·simp only [Act.put,U,V,Z,i64_w,i32_w];rfl
       refine pure_ (i:=15) (N:=some 71) (v:=?_) (a':=?_) #[Y,Y,Y,Y,Y,Y,Y,Y,Y,Y,Y,Y,Y,Y,Y,Y,J,J,J,J,J,J,J,J,J,J,J,J] rfl rfl (any_of HT_.out (by kernel_rfl)) (fun _ _ _ h => h) (Or.inl ⟨by rfl,?_⟩) ?_ ?_;rotate_left
       ·intro w';go_simp;with_reducible rfl
       rotate_left
       ·simp only [Act.put,U,V,Z,i64_w,i32_w];rfl
       refine pure_ (i:=16) (N:=some 72) (v:=?_) (a':=?_) #[Y,Y,Y,Y,Y,Y,Y,Y,Y,Y,Y,Y,Y,Y,Y,Y,Y,J,J,J,J,J,J,J,J,J,J,J] rfl rfl (any_of HT_.out (by kernel_rfl)) (fun _ _ _ h => h) (Or.inl ⟨by rfl,?_⟩) ?_ ?_;rotate_left
       ·intro w';go_simp;with_reducible rfl
       rotate_left
       ·simp only [Act.put,U,V,Z,i64_w,i32_w];rfl
       refine pure_ (i:=17) (N:=some 73) (v:=undef) (a':=?_) #[Y,Y,Y,Y,Y,Y,Y,Y,Y,Y,Y,Y,Y,Y,Y,Y,Y,Y,J,J,J,J,J,J,J,J,J,J] rfl rfl (any_of HT_.out (by kernel_rfl)) (fun _ _ _ h => h) (Or.inr ⟨by rfl,rfl⟩) ?_ ?_;rotate_left
       ·simp only [Act.put,U,V,Z,i64_w,i32_w];rfl
       refine pure_ (i:=18) (N:=some 74) (v:=undef) (a':=?_) #[Y,Y,Y,Y,Y,Y,Y,Y,Y,Y,Y,Y,Y,Y,Y,Y,Y,Y,Y,J,J,J,J,J,J,J,J,J] rfl rfl (any_of HT_.out (by kernel_rfl)) (fun _ _ _ h => h) (Or.inr ⟨by rfl,rfl⟩) ?_ ?_;rotate_left
       ·simp only [Act.put,U,V,Z,i64_w,i32_w];rfl
       refine pure_ (i:=19) (N:=some 75) (v:=undef) (a':=?_) #[Y,Y,Y,Y,Y,Y,Y,Y,Y,Y,Y,Y,Y,Y,Y,Y,Y,Y,Y,Y,J,J,J,J,J,J,J,J] rfl rfl (any_of HT_.out (by kernel_rfl)) (fun _ _ _ h => h) (Or.inr ⟨by rfl,rfl⟩) ?_ ?_;rotate_left
       ·simp only [Act.put,U,V,Z,i64_w,i32_w];rfl
       refine pure_ (i:=20) (N:=some 76) (v:=undef) (a':=?_) #[Y,Y,Y,Y,Y,Y,Y,Y,Y,Y,Y,Y,Y,Y,Y,Y,Y,Y,Y,Y,Y,J,J,J,J,J,J,J] rfl rfl (any_of HT_.out (by kernel_rfl)) (fun _ _ _ h => h) (Or.inr ⟨by rfl,rfl⟩) ?_ ?_;rotate_left
       ·simp only [Act.put,U,V,Z,i64_w,i32_w];rfl
       refine pure_ (i:=21) (N:=some 77) (v:=undef) (a':=?_) #[Y,Y,Y,Y,Y,Y,Y,Y,Y,Y,Y,Y,Y,Y,Y,Y,Y,Y,Y,Y,Y,Y,J,J,J,J,J,J] rfl rfl (any_of HT_.out (by kernel_rfl)) (fun _ _ _ h => h) (Or.inr ⟨by rfl,rfl⟩) ?_ ?_;rotate_left
       ·simp only [Act.put,U,V,Z,i64_w,i32_w];rfl
       refine pure_ (i:=22) (N:=some 78) (v:=undef) (a':=?_) #[Y,Y,Y,Y,Y,Y,Y,Y,Y,Y,Y,Y,Y,Y,Y,Y,Y,Y,Y,Y,Y,Y,Y,J,J,J,J,J] rfl rfl (any_of HT_.out (by kernel_rfl)) (fun _ _ _ h => h) (Or.inr ⟨by rfl,rfl⟩) ?_ ?_;rotate_left
       ·simp only [Act.put,U,V,Z,i64_w,i32_w];rfl
       refine pure_ (i:=23) (N:=some 79) (v:=undef) (a':=?_) #[Y,Y,Y,Y,Y,Y,Y,Y,Y,Y,Y,Y,Y,Y,Y,Y,Y,Y,Y,Y,Y,Y,Y,Y,J,J,J,J] rfl rfl (any_of HT_.out (by kernel_rfl)) (fun _ _ _ h => h) (Or.inr ⟨by rfl,rfl⟩) ?_ ?_;rotate_left
       ·simp only [Act.put,U,V,Z,i64_w,i32_w];rfl
       refine pure_ (i:=24) (N:=some 80) (v:=undef) (a':=?_) #[Y,Y,Y,Y,Y,Y,Y,Y,Y,Y,Y,Y,Y,Y,Y,Y,Y,Y,Y,Y,Y,Y,Y,Y,Y,J,J,J] rfl rfl (any_of HT_.out (by kernel_rfl)) (fun _ _ _ h => h) (Or.inr ⟨by rfl,rfl⟩) ?_ ?_;rotate_left
       ·simp only [Act.put,U,V,Z,i64_w,i32_w];rfl
       refine pure_ (i:=25) (N:=some 81) (v:=undef) (a':=?_) #[Y,Y,Y,Y,Y,Y,Y,Y,Y,Y,Y,Y,Y,Y,Y,Y,Y,Y,Y,Y,Y,Y,Y,Y,Y,Y,J,J] rfl rfl (any_of HT_.out (by kernel_rfl)) (fun _ _ _ h => h) (Or.inr ⟨by rfl,rfl⟩) ?_ ?_;rotate_left
       ·simp only [Act.put,U,V,Z,i64_w,i32_w];rfl
       refine pure_ (i:=26) (N:=some 82) (v:=undef) (a':=?_) #[Y,Y,Y,Y,Y,Y,Y,Y,Y,Y,Y,Y,Y,Y,Y,Y,Y,Y,Y,Y,Y,Y,Y,Y,Y,Y,Y,J] rfl rfl (any_of HT_.out (by kernel_rfl)) (fun _ _ _ h => h) (Or.inr ⟨by rfl,rfl⟩) ?_ ?_;rotate_left
       ·simp only [Act.put,U,V,Z,i64_w,i32_w];rfl
       refine pure_ (i:=27) (N:=some 83) (v:=?_) (a':=?_) #[Y,Y,Y,Y,Y,Y,Y,Y,Y,Y,Y,Y,Y,Y,Y,Y,Y,Y,Y,Y,Y,Y,Y,Y,Y,Y,Y,Y] rfl rfl (any_of HT_.out (by kernel_rfl)) (fun _ _ _ h => h) (Or.inl ⟨by rfl,?_⟩) ?_ ?_;rotate_left
       ·intro w';go_simp;with_reducible rfl
       rotate_left
       ·simp only [Act.put,U,V,Z,i64_w,i32_w];rfl
       refine done_ (done_of HT_.out (by kernel_rfl)) ?_
       try go_wp2
       go_ret;exact ⟨by first | rfl | (simp [errW_none,errW_some] <;> rfl) | (simp [*,errW_none,errW_some] <;> rfl),by repeat (first | (with_reducible first | exact HB.out | apply below_alloc | apply pw_below_drewN | apply below_drew1 | refine below_set ?_ q0.out | refine below_set ?_ r2.out) | exact HB.out)⟩
      rw [if_neg c67] at H;have c67b0 : ((decide ((rd t639 x6_2) > 0)) != false) = false:=by simpa using c67
      (try (have c67b1 : decide ((decide ((rd t639 x6_2) > 0)) = false) = true:=by simpa using c67))
      (try (have c67b2 : ((decide ((rd t639 x6_2) > 0)) == false) = true:=by simpa using c67))
      clear c67
      by_cases c77 : (rd t639 x6_2) > (wrap64 (t634 * t634))
      case pos =>
       rw [if_pos c77] at H;have c77b0 : decide ((wrap64 (t634 * t634)) < (rd t639 x6_2)) = true:=decide_eq_true c77;clear c77;obtain rfl:=Option.some.inj H;obtain ⟨Ao78,co78,eo78⟩:=Kd.R_slice HO_4.out;subst eo78;have v9 : wr.cell? ⟨p7,0,none⟩ = some (.int .i64 t634):=(blk_cell p4.out 0).trans rfl;have y6 : wr.cell? ⟨p7,1,none⟩ = some (.slice Ao9 t635.length co9):=(blk_cell p4.out 1).trans rfl;have y7:=blk_frozen p4.out 0;have y8:=blk_frozen p4.out 1;have p653 : 0 ≤ (x6_2 : Int):=of_decide_eq_true (by first | (with_reducible assumption) | assumption);have q653 : x6_2 < (t635.length : Int):=of_decide_eq_true (by first | (with_reducible assumption) | assumption);obtain ⟨q2,e653,r5,r6,r7,r8,r9⟩:=at_T34 (Kd.R_reads' p0.out).2.2 x6_2 p653 q653;cases e653;replace p653:=eq_true p653;replace q653:=eq_true q653
       try go_wp2_with (first | ((with_reducible refine gate_dst (N:=7) rfl ?_); (try (refine gate_guard (by rfl) ?_; dsimp only)); refine box_event ?hg (N:=7) ?hd (cs:=#[.int .i64 0,.int .i64 0,.int .i64 0,.int .i64 0,.int .i64 0]) (t:=34) ?hr ?_; (case hd => rfl); (case hg => rfl); (case hr => first | (go_simp; done) | (go_simp; rfl)); intro p3 hg w80 hbox hb; have n0_:=zx (Kd.R_below (by exact HO_4.out) hb); have n1_:=zx (Kd.R_below (by exact HO_5.out) hb); have n2_:=zx (Kd.R_below (Kd.R_elderB (by exact p0.out) p3 (Nat.le_of_eq hg.symm)) hb); have n3_:=zx (blk_below (g:=p7) (o:=.cells #[.int .i64 t634,.slice (some q2) t635.length co9] 25 (0,0)) (by exact p4.out) hb); have n4_:=zx (below_step (by repeat (first | (with_reducible first | exact HB.out | apply below_alloc | apply pw_below_drewN | apply below_drew1 | refine below_set ?_ q0.out) | exact HB.out)) hb); have n5_:=zx (hbox); have n6_:=zx ((by rw [hg]; exact (below_size (by repeat (first | (with_reducible first | exact HB.out | apply below_alloc | apply pw_below_drewN | apply below_drew1 | refine below_set ?_ q0.out) | exact HB.out))) : w.heap.size ≤ p3)); have n7_:=zx ((by rw [hg]; exact (below_size (by repeat (first | (with_reducible first | exact HB.out | apply below_alloc | apply pw_below_drewN | apply below_drew1 | refine below_set ?_ q0.out) | exact HB.out))) : w.heap.size ≤ p3)); have n8_:=zx ((by rw [hg]; exact Nat.ne_of_lt (blk_lt (g:=p7) (o:=.cells #[.int .i64 t634,.slice (some q2) t635.length co9] 25 (0,0)) (by exact p4.out)) : p7 ≠ p3)); have n9_:=zx ((by rw [hg]; exact Nat.ne_of_gt (blk_lt (g:=p7) (o:=.cells #[.int .i64 t634,.slice (some q2) t635.length co9] 25 (0,0)) (by exact p4.out)) : p3 ≠ p7)); clear HO_4; clear HO_5; clear p0; clear p4; clear HB; have HO_4:=n0_; have HO_5:=n1_; have p0:=n2_; have p4:=n3_; have HB:=n4_; have p5:=n5_; have u6:=n6_; have r2:=n7_; have p8:=n8_; have q8:=n9_; clear n0_ n1_ n2_ n3_ n4_ n5_ n6_ n7_ n8_ n9_; clear hb hbox hg; have hnb81:=q8.out; have hnc81:=p8.out; have y9 : w80.cell? ⟨p3,0,none⟩ = some (.int .i64 0):=(blk_cell p5.out 0).trans rfl; have z1 : w80.cell? ⟨p3,1,none⟩ = some (.int .i64 0):=(blk_cell p5.out 1).trans rfl; have z2 : w80.cell? ⟨p3,2,none⟩ = some (.int .i64 0):=(blk_cell p5.out 2).trans rfl; have z3 : w80.cell? ⟨p3,3,none⟩ = some (.int .i64 0):=(blk_cell p5.out 3).trans rfl; have z4 : w80.cell? ⟨p3,4,none⟩ = some (.int .i64 0):=(blk_cell p5.out 4).trans rfl; have z5:=blk_frozen p5.out 0; have z6:=blk_frozen p5.out 1; have z7:=blk_frozen p5.out 2; have z8:=blk_frozen p5.out 3; have z9:=blk_frozen p5.out 4; have m0 : w80.cell? ⟨p7,0,none⟩ = some (.int .i64 t634):=(blk_cell p4.out 0).trans rfl; have m1 : w80.cell? ⟨p7,1,none⟩ = some (.slice (some q2) t635.length co9):=(blk_cell p4.out 1).trans rfl; have m2:=blk_frozen p4.out 0; have m3:=blk_frozen p4.out 1) | ((with_reducible refine gate_callee (f:=18) rfl ?_); refine goesL_ (some 53) rfl rfl Try.func18 (by kernel_rfl) rfl #[.agg #[.int .i64 t634,.slice (some q2) t635.length co9],.int .i64 ((rd_T34 t635 x6_2).f0),.int .i64 ((rd_T34 t635 x6_2).f1)] rfl (by (try simp only [List.map_toArray,List.map_cons,List.map_nil]); first | done | rfl | (simp only [List.length_drop,List.length_take]; rfl)) ?_; (with_reducible refine (impl_NearWalk.calls k2 t634 _ _ t635 ((rd_T34 t635 x6_2).f0) ((rd_T34 t635 x6_2).f1) t655 t658 _ ?side1 ?side2 A35.out).mono ?_); (case side1 => refine (Kd.R_reads' (e:=34) (base:=w.heap.size) (ok:=fun k_ => (True ∧ k_ ≠ p3)) (n:=t635.length) (c:=co9) ?_).2.2; exact (by exact (Kd.R_mono (Kd.R_far (p:=⟨p3,4,none⟩) (Kd.R_far (p:=⟨p3,3,none⟩) (Kd.R_far (p:=⟨p3,2,none⟩) (Kd.R_far (p:=⟨p3,1,none⟩) (Kd.R_far (p:=⟨p3,0,none⟩) (Kd.R_mono p0.out (fun k_ hk => (⟨hk,hk.2⟩ : _ ∧ k_ ≠ p3))) (fun _ hk => hk.2) (.int .i64 ((rd_T34 t635 x6_2).f0))) (fun _ hk => hk.2) (.int .i64 ((rd_T34 t635 x6_2).f1))) (fun _ hk => hk.2) (.int .i64 ((rd_T34 t635 x6_2).f2))) (fun _ hk => hk.2) (.int .i64 ((rd_T34 t635 x6_2).f3))) (fun _ hk => hk.2) (.int .i64 ((rd_T34 t635 x6_2).f4))) (fun _ h_ => h_.1)))); (case side2 => exact (Kd.R_reads' p0.out).2.1); rintro e w84 ⟨v656,rfl,ho0,hb⟩; refine ⟨_,rfl,?_⟩; have n0_:=zx (Kd.R_elder' (by exact (Kd.R_mono (Kd.R_far (p:=⟨p3,4,none⟩) (Kd.R_far (p:=⟨p3,3,none⟩) (Kd.R_far (p:=⟨p3,2,none⟩) (Kd.R_far (p:=⟨p3,1,none⟩) (Kd.R_far (p:=⟨p3,0,none⟩) (Kd.R_types HO_4.out p5.out (by decide)) (fun _ hk => hk.2) (.int .i64 ((rd_T34 t635 x6_2).f0))) (fun _ hk => hk.2) (.int .i64 ((rd_T34 t635 x6_2).f1))) (fun _ hk => hk.2) (.int .i64 ((rd_T34 t635 x6_2).f2))) (fun _ hk => hk.2) (.int .i64 ((rd_T34 t635 x6_2).f3))) (fun _ hk => hk.2) (.int .i64 ((rd_T34 t635 x6_2).f4))) (fun _ h_ => h_.1))) (Kd.R_base ho0) hb); have n1_:=zx (Kd.R_elder' (by exact (Kd.R_mono (Kd.R_far (p:=⟨p3,4,none⟩) (Kd.R_far (p:=⟨p3,3,none⟩) (Kd.R_far (p:=⟨p3,2,none⟩) (Kd.R_far (p:=⟨p3,1,none⟩) (Kd.R_far (p:=⟨p3,0,none⟩) (Kd.R_types HO_5.out p5.out (by decide)) (fun _ hk => hk.2) (.int .i64 ((rd_T34 t635 x6_2).f0))) (fun _ hk => hk.2) (.int .i64 ((rd_T34 t635 x6_2).f1))) (fun _ hk => hk.2) (.int .i64 ((rd_T34 t635 x6_2).f2))) (fun _ hk => hk.2) (.int .i64 ((rd_T34 t635 x6_2).f3))) (fun _ hk => hk.2) (.int .i64 ((rd_T34 t635 x6_2).f4))) (fun _ h_ => h_.1))) (Kd.R_base ho0) hb); have n2_:=zx (Kd.R_below (by exact (Kd.R_mono (Kd.R_far (p:=⟨p3,4,none⟩) (Kd.R_far (p:=⟨p3,3,none⟩) (Kd.R_far (p:=⟨p3,2,none⟩) (Kd.R_far (p:=⟨p3,1,none⟩) (Kd.R_far (p:=⟨p3,0,none⟩) (Kd.R_mono p0.out (fun k_ hk => (⟨hk,hk.2⟩ : _ ∧ k_ ≠ p3))) (fun _ hk => hk.2) (.int .i64 ((rd_T34 t635 x6_2).f0))) (fun _ hk => hk.2) (.int .i64 ((rd_T34 t635 x6_2).f1))) (fun _ hk => hk.2) (.int .i64 ((rd_T34 t635 x6_2).f2))) (fun _ hk => hk.2) (.int .i64 ((rd_T34 t635 x6_2).f3))) (fun _ hk => hk.2) (.int .i64 ((rd_T34 t635 x6_2).f4))) (fun _ h_ => h_.1))) hb); have n3_:=zx (Kd.R_lower (Kd.R_new' (Kd.R_new' ho0 (Kd.R_lt (by exact (Kd.R_mono (Kd.R_far (p:=⟨p3,4,none⟩) (Kd.R_far (p:=⟨p3,3,none⟩) (Kd.R_far (p:=⟨p3,2,none⟩) (Kd.R_far (p:=⟨p3,1,none⟩) (Kd.R_far (p:=⟨p3,0,none⟩) (Kd.R_types HO_4.out p5.out (by decide)) (fun _ hk => hk.2) (.int .i64 ((rd_T34 t635 x6_2).f0))) (fun _ hk => hk.2) (.int .i64 ((rd_T34 t635 x6_2).f1))) (fun _ hk => hk.2) (.int .i64 ((rd_T34 t635 x6_2).f2))) (fun _ hk => hk.2) (.int .i64 ((rd_T34 t635 x6_2).f3))) (fun _ hk => hk.2) (.int .i64 ((rd_T34 t635 x6_2).f4))) (fun _ h_ => h_.1))))) (Kd.R_lt (by exact (Kd.R_mono (Kd.R_far (p:=⟨p3,4,none⟩) (Kd.R_far (p:=⟨p3,3,none⟩) (Kd.R_far (p:=⟨p3,2,none⟩) (Kd.R_far (p:=⟨p3,1,none⟩) (Kd.R_far (p:=⟨p3,0,none⟩) (Kd.R_types HO_5.out p5.out (by decide)) (fun _ hk => hk.2) (.int .i64 ((rd_T34 t635 x6_2).f0))) (fun _ hk => hk.2) (.int .i64 ((rd_T34 t635 x6_2).f1))) (fun _ hk => hk.2) (.int .i64 ((rd_T34 t635 x6_2).f2))) (fun _ hk => hk.2) (.int .i64 ((rd_T34 t635 x6_2).f3))) (fun _ hk => hk.2) (.int .i64 ((rd_T34 t635 x6_2).f4))) (fun _ h_ => h_.1))))) (below_size (by repeat (first | (with_reducible first | exact HB.out | apply below_alloc | apply pw_below_drewN | apply below_drew1 | refine below_set ?_ q0.out | refine below_set ?_ r2.out) | exact HB.out)))); have n4_:=zx (blk_below (g:=p7) (o:=.cells #[.int .i64 t634,.slice (some q2) t635.length co9] 25 (0,0)) (by refine blk_far ?_ p8.out _; refine blk_far ?_ p8.out _; refine blk_far ?_ p8.out _; refine blk_far ?_ p8.out _; refine blk_far ?_ p8.out _; exact p4.out) hb); have n5_:=zx (blk_below (g:=p3) (o:=.cells #[.int .i64 ((rd_T34 t635 x6_2).f0),.int .i64 ((rd_T34 t635 x6_2).f1),.int .i64 ((rd_T34 t635 x6_2).f2),.int .i64 ((rd_T34 t635 x6_2).f3),.int .i64 ((rd_T34 t635 x6_2).f4)] 34 (0,0)) (by refine blk_put (cs:=#[.int .i64 ((rd_T34 t635 x6_2).f0),.int .i64 ((rd_T34 t635 x6_2).f1),.int .i64 ((rd_T34 t635 x6_2).f2),.int .i64 ((rd_T34 t635 x6_2).f3),.int .i64 0]) ?_ 4 _ rfl; refine blk_put (cs:=#[.int .i64 ((rd_T34 t635 x6_2).f0),.int .i64 ((rd_T34 t635 x6_2).f1),.int .i64 ((rd_T34 t635 x6_2).f2),.int .i64 0,.int .i64 0]) ?_ 3 _ rfl; refine blk_put (cs:=#[.int .i64 ((rd_T34 t635 x6_2).f0),.int .i64 ((rd_T34 t635 x6_2).f1),.int .i64 0,.int .i64 0,.int .i64 0]) ?_ 2 _ rfl; refine blk_put (cs:=#[.int .i64 ((rd_T34 t635 x6_2).f0),.int .i64 0,.int .i64 0,.int .i64 0,.int .i64 0]) ?_ 1 _ rfl; refine blk_put (cs:=#[.int .i64 0,.int .i64 0,.int .i64 0,.int .i64 0,.int .i64 0]) ?_ 0 _ rfl; exact p5.out) hb); have n6_:=zx (below_step (by repeat (first | (with_reducible first | exact HB.out | apply below_alloc | apply pw_below_drewN | apply below_drew1 | refine below_set ?_ q0.out | refine below_set ?_ r2.out) | exact HB.out)) hb); clear HO_4; clear HO_5; clear p0; clear p4; clear p5; clear HB; have HO_4:=n0_; have HO_5:=n1_; have p0:=n2_; have HO657:=n3_; have p4:=n4_; have p5:=n5_; have HB:=n6_; clear n0_ n1_ n2_ n3_ n4_ n5_ n6_; (try clear hb); (try clear hb2); (try clear hk); (try clear hi); (try clear ho0)))
       have n0_:=zx (Kd.R_drew HO_4.out);have n1_:=zx (Kd.R_drew HO_5.out);have n2_:=zx (Kd.R_drew p0.out);have n3_:=zx (Kd.R_drew HO657.out);have n4_:=zx (blk_drew p4.out);have n5_:=zx (blk_drew p5.out);have n6_:=zx (below_drew1 HB.out);clear HO_4;clear HO_5;clear p0;clear HO657;clear p4;clear p5;clear HB;have HO_4:=n0_;have HO_5:=n1_;have p0:=n2_;have HO657:=n3_;have p4:=n4_;have p5:=n5_;have HB:=n6_;clear n0_ n1_ n2_ n3_ n4_ n5_ n6_;have p659 : 0 ≤ (x6_2 : Int):=of_decide_eq_true (by first | (with_reducible assumption) | assumption);have q659 : x6_2 < (t639.length : Int):=of_decide_eq_true (by first | (with_reducible assumption) | assumption);obtain ⟨r4,e659,q7⟩:=Kd.at_int (Kd.R_reads' HO_4.out).2.2 x6_2 p659 q659;cases e659;replace p659:=eq_true p659;replace q659:=eq_true q659;obtain ⟨Ao86,co86,eo86⟩:=Kd.R_slice HO657.out
       (first | subst eo86 | (injection eo86 with f1_ f2_ f3_; have f4_:=f1_.symm; have f5_:=f3_.symm; clear f1_ f2_ f3_; subst f4_; subst f5_))
       have p662 : 0 ≤ (x6_2 : Int):=of_decide_eq_true (by first | (with_reducible assumption) | assumption);have q662 : x6_2 < (t639.length : Int):=of_decide_eq_true (by first | (with_reducible assumption) | assumption);obtain ⟨b3,e662,t0⟩:=Kd.at_int (Kd.R_reads' HO_4.out).2.2 x6_2 p662 q662;obtain rfl : r4 = b3:=(by injection e662)
       replace p662:=eq_true p662;replace q662:=eq_true q662;refine start_ (n:=28) (S:=fun w' => w'.cell? ⟨p7,0,none⟩ = some (.int .i64 t634) ∧ w'.cell? ⟨p7,1,none⟩ = some (.slice (some q2) t635.length co9) ∧ w'.cell? (r4.add (x6_2).toNat) = some (.int .i64 (rd t639 x6_2)) ∧ w'.cell? (r4.add (x6_2).toNat) = some (.int .i64 (rd t639 x6_2))) (ds:=[]) #[J,J,J,J,J,J,J,J,J,J,J,J,J,J,J,J,J,J,J,J,J,J,J,J,J,J,J,J] (by kernel_rfl) rfl rfl ⟨(blk_cell p4.out 0).trans rfl,(blk_cell p4.out 1).trans rfl,q7,t0⟩ (fun hHeld => ?_); refine with_tabW laws_FnHubArcs.tab13 laws_FnHubArcs.bits13 (fun HT_ HW_ => ?_);generalize w84.drew = w85 at HO_4 HO_5 p0 HO657 p4 p5 HB q7 t0 hHeld ⊢;refine pure_ (i:=0) (N:=some 56) (v:=?_) (a':=?_) #[Y,J,J,J,J,J,J,J,J,J,J,J,J,J,J,J,J,J,J,J,J,J,J,J,J,J,J,J] rfl rfl (any_of HT_.out (by kernel_rfl)) (fun _ _ _ h => h) (Or.inl ⟨by rfl,?_⟩) ?_ ?_;rotate_left
       ·intro w';go_simp;with_reducible rfl
       rotate_left
       ·simp only [Act.put,U,V,Z,i64_w,i32_w];rfl
       refine pure_ (i:=1) (N:=some 57) (v:=?_) (a':=?_) #[Y,Y,J,J,J,J,J,J,J,J,J,J,J,J,J,J,J,J,J,J,J,J,J,J,J,J,J,J] rfl rfl (any_of HT_.out (by kernel_rfl)) (fun _ _ _ h => h) (Or.inl ⟨by rfl,?_⟩) ?_ ?_;rotate_left
       ·intro w';go_simp;with_reducible rfl
       rotate_left
       ·simp only [Act.put,U,V,Z,i64_w,i32_w];rfl
       refine pure_ (i:=2) (N:=some 58) (v:=?_) (a':=?_) #[Y,Y,Y,J,J,J,J,J,J,J,J,J,J,J,J,J,J,J,J,J,J,J,J,J,J,J,J,J] rfl rfl (any_of HT_.out (by kernel_rfl)) (fun _ _ _ h => h) (Or.inl ⟨by rfl,?_⟩) ?_ ?_;rotate_left
       ·intro w';go_simp;with_reducible rfl
       rotate_left
       ·simp only [Act.put,U,V,Z,i64_w,i32_w];rfl
       refine pure_ (i:=5) (N:=some 61) (v:=?_) (a':=?_) #[Y,Y,Y,J,J,Y,J,J,J,J,J,J,J,J,J,J,J,J,J,J,J,J,J,J,J,J,J,J] rfl rfl (any_of HT_.out (by kernel_rfl)) (fun _ _ _ h => h) (Or.inl ⟨by rfl,?_⟩) ?_ ?_;rotate_left
       ·intro w';go_simp;with_reducible rfl
       rotate_left
       ·simp only [Act.put,U,V,Z,i64_w,i32_w];rfl
       refine pure_ (i:=6) (N:=some 62) (v:=?_) (a':=?_) #[Y,Y,Y,J,J,Y,Y,J,J,J,J,J,J,J,J,J,J,J,J,J,J,J,J,J,J,J,J,J] rfl rfl (any_of HT_.out (by kernel_rfl)) (fun _ _ _ h => h) (Or.inl ⟨by rfl,?_⟩) ?_ ?_;rotate_left
       ·intro w';go_simp;with_reducible rfl
       rotate_left
       ·simp only [Act.put,U,V,Z,i64_w,i32_w];rfl
       refine pure_ (i:=7) (N:=some 63) (v:=?_) (a':=?_) #[Y,Y,Y,J,J,Y,Y,Y,J,J,J,J,J,J,J,J,J,J,J,J,J,J,J,J,J,J,J,J] rfl rfl (any_of HT_.out (by kernel_rfl)) (fun _ _ _ h => h) (Or.inl ⟨by rfl,?_⟩) ?_ ?_;rotate_left
       ·intro w';go_simp;with_reducible rfl
       rotate_left
       ·simp only [Act.put,U,V,Z,i64_w,i32_w];rfl
       refine pure_ (i:=8) (N:=some 64) (v:=?_) (a':=?_) #[Y,Y,Y,J,J,Y,Y,Y,Y,J,J,J,J,J,J,J,J,J,J,J,J,J,J,J,J,J,J,J] rfl rfl (any_of HT_.out (by kernel_rfl)) (fun _ _ _ h => h) (Or.inl ⟨by rfl,?_⟩) ?_ ?_;rotate_left
       ·intro w';go_simp;with_reducible rfl
       rotate_left
       ·simp only [Act.put,U,V,Z,i64_w,i32_w];rfl
       refine pure_ (i:=9) (N:=some 65) (v:=undef) (a':=?_) #[Y,Y,Y,J,J,Y,Y,Y,Y,Y,J,J,J,J,J,J,J,J,J,J,J,J,J,J,J,J,J,J] rfl rfl (any_of HT_.out (by kernel_rfl)) (fun _ _ _ h => h) (Or.inr ⟨by rfl,rfl⟩) ?_ ?_;rotate_left
       ·simp only [Act.put,U,V,Z,i64_w,i32_w];rfl
       refine pure_ (i:=10) (N:=some 66) (v:=undef) (a':=?_) #[Y,Y,Y,J,J,Y,Y,Y,Y,Y,Y,J,J,J,J,J,J,J,J,J,J,J,J,J,J,J,J,J] rfl rfl (any_of HT_.out (by kernel_rfl)) (fun _ _ _ h => h) (Or.inr ⟨by rfl,rfl⟩) ?_ ?_;rotate_left
       ·simp only [Act.put,U,V,Z,i64_w,i32_w];rfl
       refine pure_ (i:=11) (N:=some 67) (v:=undef) (a':=?_) #[Y,Y,Y,J,J,Y,Y,Y,Y,Y,Y,Y,J,J,J,J,J,J,J,J,J,J,J,J,J,J,J,J] rfl rfl (any_of HT_.out (by kernel_rfl)) (fun _ _ _ h => h) (Or.inr ⟨by rfl,rfl⟩) ?_ ?_;rotate_left
       ·simp only [Act.put,U,V,Z,i64_w,i32_w];rfl
       refine pure_ (i:=12) (N:=some 68) (v:=undef) (a':=?_) #[Y,Y,Y,J,J,Y,Y,Y,Y,Y,Y,Y,Y,J,J,J,J,J,J,J,J,J,J,J,J,J,J,J] rfl rfl (any_of HT_.out (by kernel_rfl)) (fun _ _ _ h => h) (Or.inr ⟨by rfl,rfl⟩) ?_ ?_;rotate_left
       ·simp only [Act.put,U,V,Z,i64_w,i32_w];rfl
       refine pure_ (i:=13) (N:=some 69) (v:=undef) (a':=?_) #[Y,Y,Y,J,J,Y,Y,Y,Y,Y,Y,Y,Y,Y,J,J,J,J,J,J,J,J,J,J,J,J,J,J] rfl rfl (any_of HT_.out (by kernel_rfl)) (fun _ _ _ h => h) (Or.inr ⟨by rfl,rfl⟩) ?_ ?_;rotate_left
       ·simp only [Act.put,U,V,Z,i64_w,i32_w];rfl
       refine pure_ (i:=14) (N:=some 70) (v:=?_) (a':=?_) #[Y,Y,Y,J,J,Y,Y,Y,Y,Y,Y,Y,Y,Y,Y,J,J,J,J,J,J,J,J,J,J,J,J,J] rfl rfl (any_of HT_.out (by kernel_rfl)) (fun _ _ _ h => h) (Or.inl ⟨by rfl,?_⟩) ?_ ?_;rotate_left
       ·intro w';go_simp;with_reducible rfl
       rotate_left
       ·simp only [Act.put,U,V,Z,i64_w,i32_w];rfl
       refine take_ (i:=3) (N:=some 59) (v:=?_) (a':=?_) #[Y,Y,Y,Y,J,Y,Y,Y,Y,Y,Y,Y,Y,Y,Y,J,J,J,J,J,J,J,J,J,J,J,J,J] rfl rfl (take_ofW HT_.out HW_.out (by kernel_rfl)) (fun _ _ _ h => h) (Or.inl ⟨by rfl,?_⟩) hHeld ?_ ?_;rotate_left
       ·rintro w' ⟨s0,s1,s2,s3⟩;go_simp;with_reducible rfl
       rotate_left
       ·simp only [Act.put,U,V,Z,i64_w,i32_w];rfl
       refine pure_ (i:=4) (N:=some 60) (v:=?_) (a':=?_) #[Y,Y,Y,Y,Y,Y,Y,Y,Y,Y,Y,Y,Y,Y,Y,J,J,J,J,J,J,J,J,J,J,J,J,J] rfl rfl (any_of HT_.out (by kernel_rfl)) (fun _ _ _ h => h) (Or.inl ⟨by rfl,?_⟩) ?_ ?_;rotate_left
       ·intro w';go_simp;with_reducible rfl
       rotate_left
       ·simp only [Act.put,U,V,Z,i64_w,i32_w];rfl
       refine pure_ (i:=15) (N:=some 71) (v:=?_) (a':=?_) #[Y,Y,Y,Y,Y,Y,Y,Y,Y,Y,Y,Y,Y,Y,Y,Y,J,J,J,J,J,J,J,J,J,J,J,J] rfl rfl (any_of HT_.out (by kernel_rfl)) (fun _ _ _ h => h) (Or.inl ⟨by rfl,?_⟩) ?_ ?_;rotate_left
       ·intro w';go_simp;with_reducible rfl
       rotate_left
       ·simp only [Act.put,U,V,Z,i64_w,i32_w];rfl
       refine pure_ (i:=16) (N:=some 72) (v:=?_) (a':=?_) #[Y,Y,Y,Y,Y,Y,Y,Y,Y,Y,Y,Y,Y,Y,Y,Y,Y,J,J,J,J,J,J,J,J,J,J,J] rfl rfl (any_of HT_.out (by kernel_rfl)) (fun _ _ _ h => h) (Or.inl ⟨by rfl,?_⟩) ?_ ?_;rotate_left
       ·intro w';go_simp;with_reducible rfl
       rotate_left
       ·simp only [Act.put,U,V,Z,i64_w,i32_w];rfl
       refine pure_ (i:=17) (N:=some 73) (v:=?_) (a':=?_) #[Y,Y,Y,Y,Y,Y,Y,Y,Y,Y,Y,Y,Y,Y,Y,Y,Y,Y,J,J,J,J,J,J,J,J,J,J] rfl rfl (any_of HT_.out (by kernel_rfl)) (fun _ _ _ h => h) (Or.inl ⟨by rfl,?_⟩) ?_ ?_;rotate_left
       ·intro w';go_simp;with_reducible rfl
       rotate_left
       ·simp only [Act.put,U,V,Z,i64_w,i32_w];rfl
       refine pure_ (i:=18) (N:=some 74) (v:=?_) (a':=?_) #[Y,Y,Y,Y,Y,Y,Y,Y,Y,Y,Y,Y,Y,Y,Y,Y,Y,Y,Y,J,J,J,J,J,J,J,J,J] rfl rfl (any_of HT_.out (by kernel_rfl)) (fun _ _ _ h => h) (Or.inl ⟨by rfl,?_⟩) ?_ ?_;rotate_left
       ·intro w';go_simp;with_reducible rfl
       rotate_left
       ·simp only [Act.put,U,V,Z,i64_w,i32_w];rfl
       refine pure_ (i:=19) (N:=some 75) (v:=?_) (a':=?_) #[Y,Y,Y,Y,Y,Y,Y,Y,Y,Y,Y,Y,Y,Y,Y,Y,Y,Y,Y,Y,J,J,J,J,J,J,J,J] rfl rfl (any_of HT_.out (by kernel_rfl)) (fun _ _ _ h => h) (Or.inl ⟨by rfl,?_⟩) ?_ ?_;rotate_left
       ·intro w';go_simp;with_reducible rfl
       rotate_left
       ·simp only [Act.put,U,V,Z,i64_w,i32_w];rfl
       refine pure_ (i:=21) (N:=some 77) (v:=?_) (a':=?_) #[Y,Y,Y,Y,Y,Y,Y,Y,Y,Y,Y,Y,Y,Y,Y,Y,Y,Y,Y,Y,J,Y,J,J,J,J,J,J] rfl rfl (any_of HT_.out (by kernel_rfl)) (fun _ _ _ h => h) (Or.inl ⟨by rfl,?_⟩) ?_ ?_;rotate_left
       ·intro w';go_simp;with_reducible rfl
       rotate_left
       ·simp only [Act.put,U,V,Z,i64_w,i32_w];rfl
       refine pure_ (i:=23) (N:=some 79) (v:=?_) (a':=?_) #[Y,Y,Y,Y,Y,Y,Y,Y,Y,Y,Y,Y,Y,Y,Y,Y,Y,Y,Y,Y,J,Y,J,Y,J,J,J,J] rfl rfl (any_of HT_.out (by kernel_rfl)) (fun _ _ _ h => h) (Or.inl ⟨by rfl,?_⟩) ?_ ?_;rotate_left
       ·intro w';go_simp;with_reducible rfl
       rotate_left
       ·simp only [Act.put,U,V,Z,i64_w,i32_w];rfl
       refine take_ (i:=20) (N:=some 76) (v:=?_) (a':=?_) #[Y,Y,Y,Y,Y,Y,Y,Y,Y,Y,Y,Y,Y,Y,Y,Y,Y,Y,Y,Y,Y,Y,J,Y,J,J,J,J] rfl rfl (take_ofW HT_.out HW_.out (by kernel_rfl)) (fun _ _ _ h => h) (Or.inl ⟨by rfl,?_⟩) hHeld ?_ ?_;rotate_left
       ·rintro w' ⟨s0,s1,s2,s3⟩;go_simp;with_reducible rfl
       rotate_left
       ·simp only [Act.put,U,V,Z,i64_w,i32_w];rfl
       refine take_ (i:=22) (N:=some 78) (v:=?_) (a':=?_) #[Y,Y,Y,Y,Y,Y,Y,Y,Y,Y,Y,Y,Y,Y,Y,Y,Y,Y,Y,Y,Y,Y,Y,Y,J,J,J,J] rfl rfl (take_ofW HT_.out HW_.out (by kernel_rfl)) (fun _ _ _ h => h) (Or.inl ⟨by rfl,?_⟩) hHeld ?_ ?_;rotate_left
       ·rintro w' ⟨s0,s1,s2,s3⟩;go_simp;with_reducible rfl
       rotate_left
       ·simp only [Act.put,U,V,Z,i64_w,i32_w];rfl
       refine take_ (i:=24) (N:=some 80) (v:=?_) (a':=?_) #[Y,Y,Y,Y,Y,Y,Y,Y,Y,Y,Y,Y,Y,Y,Y,Y,Y,Y,Y,Y,Y,Y,Y,Y,Y,J,J,J] rfl rfl (take_ofW HT_.out HW_.out (by kernel_rfl)) (fun _ _ _ h => h) (Or.inl ⟨by rfl,?_⟩) hHeld ?_ ?_;rotate_left
       ·rintro w' ⟨s0,s1,s2,s3⟩;go_simp;with_reducible rfl
       rotate_left
       ·simp only [Act.put,U,V,Z,i64_w,i32_w];rfl
       refine pure_ (i:=25) (N:=some 81) (v:=?_) (a':=?_) #[Y,Y,Y,Y,Y,Y,Y,Y,Y,Y,Y,Y,Y,Y,Y,Y,Y,Y,Y,Y,Y,Y,Y,Y,Y,Y,J,J] rfl rfl (any_of HT_.out (by kernel_rfl)) (fun _ _ _ h => h) (Or.inl ⟨by rfl,?_⟩) ?_ ?_;rotate_left
       ·intro w';go_simp;with_reducible rfl
       rotate_left
       ·simp only [Act.put,U,V,Z,i64_w,i32_w];rfl
       refine pure_ (i:=26) (N:=some 82) (v:=?_) (a':=?_) #[Y,Y,Y,Y,Y,Y,Y,Y,Y,Y,Y,Y,Y,Y,Y,Y,Y,Y,Y,Y,Y,Y,Y,Y,Y,Y,Y,J] rfl rfl (any_of HT_.out (by kernel_rfl)) (fun _ _ _ h => h) (Or.inl ⟨by rfl,?_⟩) ?_ ?_;rotate_left
       ·intro w';go_simp;with_reducible rfl
       rotate_left
       ·simp only [Act.put,U,V,Z,i64_w,i32_w];rfl
       refine pure_ (i:=27) (N:=some 83) (v:=?_) (a':=?_) #[Y,Y,Y,Y,Y,Y,Y,Y,Y,Y,Y,Y,Y,Y,Y,Y,Y,Y,Y,Y,Y,Y,Y,Y,Y,Y,Y,Y] rfl rfl (any_of HT_.out (by kernel_rfl)) (fun _ _ _ h => h) (Or.inl ⟨by rfl,?_⟩) ?_ ?_;rotate_left
       ·intro w';go_simp;with_reducible rfl
       rotate_left
       ·simp only [Act.put,U,V,Z,i64_w,i32_w];rfl
       refine done_ (done_of HT_.out (by kernel_rfl)) ?_
       try go_wp2
       go_ret;exact ⟨by first | rfl | (simp [errW_none,errW_some] <;> rfl) | (simp [*,errW_none,errW_some] <;> rfl),by repeat (first | (with_reducible first | exact HB.out | apply below_alloc | apply pw_below_drewN | apply below_drew1 | refine below_set ?_ q0.out | refine below_set ?_ r2.out) | exact HB.out)⟩
      rw [if_neg c77] at H;have c77b0 : decide ((wrap64 (t634 * t634)) < (rd t639 x6_2)) = false:=decide_eq_false c77;clear c77;have H':=zx H;clear H;obtain ⟨Ao87,co87,eo87⟩:=Kd.R_slice HO_4.out;subst eo87;have m4 : wr.cell? ⟨p7,0,none⟩ = some (.int .i64 t634):=(blk_cell p4.out 0).trans rfl;have m5 : wr.cell? ⟨p7,1,none⟩ = some (.slice Ao9 t635.length co9):=(blk_cell p4.out 1).trans rfl;have m6:=blk_frozen p4.out 0;have m7:=blk_frozen p4.out 1;have p653 : 0 ≤ (x6_2 : Int):=of_decide_eq_true (by first | (with_reducible assumption) | assumption);have q653 : x6_2 < (t635.length : Int):=of_decide_eq_true (by first | (with_reducible assumption) | assumption);obtain ⟨q2,e653,r5,r6,r7,r8,r9⟩:=at_T34 (Kd.R_reads' p0.out).2.2 x6_2 p653 q653;cases e653;replace p653:=eq_true p653;replace q653:=eq_true q653
      try go_wp2_with (first | ((with_reducible refine gate_dst (N:=7) rfl ?_); (try (refine gate_guard (by rfl) ?_; dsimp only)); refine box_event ?hg (N:=7) ?hd (cs:=#[.int .i64 0,.int .i64 0,.int .i64 0,.int .i64 0,.int .i64 0]) (t:=34) ?hr ?_; (case hd => rfl); (case hg => rfl); (case hr => first | (go_simp; done) | (go_simp; rfl)); intro p3 hg w89 hbox hb; have n0_:=zx (Kd.R_below (by exact HO_4.out) hb); have n1_:=zx (Kd.R_below (by exact HO_5.out) hb); have n2_:=zx (Kd.R_below (Kd.R_elderB (by exact p0.out) p3 (Nat.le_of_eq hg.symm)) hb); have n3_:=zx (blk_below (g:=p7) (o:=.cells #[.int .i64 t634,.slice (some q2) t635.length co9] 25 (0,0)) (by exact p4.out) hb); have n4_:=zx (below_step (by repeat (first | (with_reducible first | exact HB.out | apply below_alloc | apply pw_below_drewN | apply below_drew1 | refine below_set ?_ q0.out) | exact HB.out)) hb); have n5_:=zx (hbox); have n6_:=zx ((by rw [hg]; exact (below_size (by repeat (first | (with_reducible first | exact HB.out | apply below_alloc | apply pw_below_drewN | apply below_drew1 | refine below_set ?_ q0.out) | exact HB.out))) : w.heap.size ≤ p3)); have n7_:=zx ((by rw [hg]; exact (below_size (by repeat (first | (with_reducible first | exact HB.out | apply below_alloc | apply pw_below_drewN | apply below_drew1 | refine below_set ?_ q0.out) | exact HB.out))) : w.heap.size ≤ p3)); have n8_:=zx ((by rw [hg]; exact Nat.ne_of_lt (blk_lt (g:=p7) (o:=.cells #[.int .i64 t634,.slice (some q2) t635.length co9] 25 (0,0)) (by exact p4.out)) : p7 ≠ p3)); have n9_:=zx ((by rw [hg]; exact Nat.ne_of_gt (blk_lt (g:=p7) (o:=.cells #[.int .i64 t634,.slice (some q2) t635.length co9] 25 (0,0)) (by exact p4.out)) : p3 ≠ p7)); clear HO_4; clear HO_5; clear p0; clear p4; clear HB; have HO_4:=n0_; have HO_5:=n1_; have p0:=n2_; have p4:=n3_; have HB:=n4_; have p5:=n5_; have u6:=n6_; have r2:=n7_; have p8:=n8_; have q8:=n9_; clear n0_ n1_ n2_ n3_ n4_ n5_ n6_ n7_ n8_ n9_; clear hb hbox hg; have hnb90:=q8.out; have hnc90:=p8.out; have m8 : w89.cell? ⟨p3,0,none⟩ = some (.int .i64 0):=(blk_cell p5.out 0).trans rfl; have m9 : w89.cell? ⟨p3,1,none⟩ = some (.int .i64 0):=(blk_cell p5.out 1).trans rfl; have n0 : w89.cell? ⟨p3,2,none⟩ = some (.int .i64 0):=(blk_cell p5.out 2).trans rfl; have n1 : w89.cell? ⟨p3,3,none⟩ = some (.int .i64 0):=(blk_cell p5.out 3).trans rfl; have n2 : w89.cell? ⟨p3,4,none⟩ = some (.int .i64 0):=(blk_cell p5.out 4).trans rfl; have n3:=blk_frozen p5.out 0; have n4:=blk_frozen p5.out 1; have n5:=blk_frozen p5.out 2; have n6:=blk_frozen p5.out 3; have n7:=blk_frozen p5.out 4; have n8 : w89.cell? ⟨p7,0,none⟩ = some (.int .i64 t634):=(blk_cell p4.out 0).trans rfl; have n9 : w89.cell? ⟨p7,1,none⟩ = some (.slice (some q2) t635.length co9):=(blk_cell p4.out 1).trans rfl; have a1:=blk_frozen p4.out 0; have a2:=blk_frozen p4.out 1) | ((with_reducible refine gate_callee (f:=18) rfl ?_); refine goesL_ (some 53) rfl rfl Try.func18 (by kernel_rfl) rfl #[.agg #[.int .i64 t634,.slice (some q2) t635.length co9],.int .i64 ((rd_T34 t635 x6_2).f0),.int .i64 ((rd_T34 t635 x6_2).f1)] rfl (by (try simp only [List.map_toArray,List.map_cons,List.map_nil]); first | done | rfl | (simp only [List.length_drop,List.length_take]; rfl)) ?_; (with_reducible refine (impl_NearWalk.calls k2 t634 _ _ t635 ((rd_T34 t635 x6_2).f0) ((rd_T34 t635 x6_2).f1) t655 t658 _ ?side1 ?side2 A35.out).mono ?_); (case side1 => refine (Kd.R_reads' (e:=34) (base:=w.heap.size) (ok:=fun k_ => (True ∧ k_ ≠ p3)) (n:=t635.length) (c:=co9) ?_).2.2; exact (by exact (Kd.R_mono (Kd.R_far (p:=⟨p3,4,none⟩) (Kd.R_far (p:=⟨p3,3,none⟩) (Kd.R_far (p:=⟨p3,2,none⟩) (Kd.R_far (p:=⟨p3,1,none⟩) (Kd.R_far (p:=⟨p3,0,none⟩) (Kd.R_mono p0.out (fun k_ hk => (⟨hk,hk.2⟩ : _ ∧ k_ ≠ p3))) (fun _ hk => hk.2) (.int .i64 ((rd_T34 t635 x6_2).f0))) (fun _ hk => hk.2) (.int .i64 ((rd_T34 t635 x6_2).f1))) (fun _ hk => hk.2) (.int .i64 ((rd_T34 t635 x6_2).f2))) (fun _ hk => hk.2) (.int .i64 ((rd_T34 t635 x6_2).f3))) (fun _ hk => hk.2) (.int .i64 ((rd_T34 t635 x6_2).f4))) (fun _ h_ => h_.1)))); (case side2 => exact (Kd.R_reads' p0.out).2.1); rintro e w93 ⟨v656,rfl,ho0,hb⟩; refine ⟨_,rfl,?_⟩; have n0_:=zx (Kd.R_elder' (by exact (Kd.R_mono (Kd.R_far (p:=⟨p3,4,none⟩) (Kd.R_far (p:=⟨p3,3,none⟩) (Kd.R_far (p:=⟨p3,2,none⟩) (Kd.R_far (p:=⟨p3,1,none⟩) (Kd.R_far (p:=⟨p3,0,none⟩) (Kd.R_types HO_4.out p5.out (by decide)) (fun _ hk => hk.2) (.int .i64 ((rd_T34 t635 x6_2).f0))) (fun _ hk => hk.2) (.int .i64 ((rd_T34 t635 x6_2).f1))) (fun _ hk => hk.2) (.int .i64 ((rd_T34 t635 x6_2).f2))) (fun _ hk => hk.2) (.int .i64 ((rd_T34 t635 x6_2).f3))) (fun _ hk => hk.2) (.int .i64 ((rd_T34 t635 x6_2).f4))) (fun _ h_ => h_.1))) (Kd.R_base ho0) hb); have n1_:=zx (Kd.R_elder' (by exact (Kd.R_mono (Kd.R_far (p:=⟨p3,4,none⟩) (Kd.R_far (p:=⟨p3,3,none⟩) (Kd.R_far (p:=⟨p3,2,none⟩) (Kd.R_far (p:=⟨p3,1,none⟩) (Kd.R_far (p:=⟨p3,0,none⟩) (Kd.R_types HO_5.out p5.out (by decide)) (fun _ hk => hk.2) (.int .i64 ((rd_T34 t635 x6_2).f0))) (fun _ hk => hk.2) (.int .i64 ((rd_T34 t635 x6_2).f1))) (fun _ hk => hk.2) (.int .i64 ((rd_T34 t635 x6_2).f2))) (fun _ hk => hk.2) (.int .i64 ((rd_T34 t635 x6_2).f3))) (fun _ hk => hk.2) (.int .i64 ((rd_T34 t635 x6_2).f4))) (fun _ h_ => h_.1))) (Kd.R_base ho0) hb); have n2_:=zx (Kd.R_below (by exact (Kd.R_mono (Kd.R_far (p:=⟨p3,4,none⟩) (Kd.R_far (p:=⟨p3,3,none⟩) (Kd.R_far (p:=⟨p3,2,none⟩) (Kd.R_far (p:=⟨p3,1,none⟩) (Kd.R_far (p:=⟨p3,0,none⟩) (Kd.R_mono p0.out (fun k_ hk => (⟨hk,hk.2⟩ : _ ∧ k_ ≠ p3))) (fun _ hk => hk.2) (.int .i64 ((rd_T34 t635 x6_2).f0))) (fun _ hk => hk.2) (.int .i64 ((rd_T34 t635 x6_2).f1))) (fun _ hk => hk.2) (.int .i64 ((rd_T34 t635 x6_2).f2))) (fun _ hk => hk.2) (.int .i64 ((rd_T34 t635 x6_2).f3))) (fun _ hk => hk.2) (.int .i64 ((rd_T34 t635 x6_2).f4))) (fun _ h_ => h_.1))) hb); have n3_:=zx (Kd.R_lower (Kd.R_new' (Kd.R_new' ho0 (Kd.R_lt (by exact (Kd.R_mono (Kd.R_far (p:=⟨p3,4,none⟩) (Kd.R_far (p:=⟨p3,3,none⟩) (Kd.R_far (p:=⟨p3,2,none⟩) (Kd.R_far (p:=⟨p3,1,none⟩) (Kd.R_far (p:=⟨p3,0,none⟩) (Kd.R_types HO_4.out p5.out (by decide)) (fun _ hk => hk.2) (.int .i64 ((rd_T34 t635 x6_2).f0))) (fun _ hk => hk.2) (.int .i64 ((rd_T34 t635 x6_2).f1))) (fun _ hk => hk.2) (.int .i64 ((rd_T34 t635 x6_2).f2))) (fun _ hk => hk.2) (.int .i64 ((rd_T34 t635 x6_2).f3))) (fun _ hk => hk.2) (.int .i64 ((rd_T34 t635 x6_2).f4))) (fun _ h_ => h_.1))))) (Kd.R_lt (by exact (Kd.R_mono (Kd.R_far (p:=⟨p3,4,none⟩) (Kd.R_far (p:=⟨p3,3,none⟩) (Kd.R_far (p:=⟨p3,2,none⟩) (Kd.R_far (p:=⟨p3,1,none⟩) (Kd.R_far (p:=⟨p3,0,none⟩) (Kd.R_types HO_5.out p5.out (by decide)) (fun _ hk => hk.2) (.int .i64 ((rd_T34 t635 x6_2).f0))) (fun _ hk => hk.2) (.int .i64 ((rd_T34 t635 x6_2).f1))) (fun _ hk => hk.2) (.int .i64 ((rd_T34 t635 x6_2).f2))) (fun _ hk => hk.2) (.int .i64 ((rd_T34 t635 x6_2).f3))) (fun _ hk => hk.2) (.int .i64 ((rd_T34 t635 x6_2).f4))) (fun _ h_ => h_.1))))) (below_size (by repeat (first | (with_reducible first | exact HB.out | apply below_alloc | apply pw_below_drewN | apply below_drew1 | refine below_set ?_ q0.out | refine below_set ?_ r2.out) | exact HB.out)))); have n4_:=zx (blk_below (g:=p7) (o:=.cells #[.int .i64 t634,.slice (some q2) t635.length co9] 25 (0,0)) (by refine blk_far ?_ p8.out _; refine blk_far ?_ p8.out _; refine blk_far ?_ p8.out _; refine blk_far ?_ p8.out _; refine blk_far ?_ p8.out _; exact p4.out) hb); have n5_:=zx (blk_below (g:=p3) (o:=.cells #[.int .i64 ((rd_T34 t635 x6_2).f0),.int .i64 ((rd_T34 t635 x6_2).f1),.int .i64 ((rd_T34 t635 x6_2).f2),.int .i64 ((rd_T34 t635 x6_2).f3),.int .i64 ((rd_T34 t635 x6_2).f4)] 34 (0,0)) (by refine blk_put (cs:=#[.int .i64 ((rd_T34 t635 x6_2).f0),.int .i64 ((rd_T34 t635 x6_2).f1),.int .i64 ((rd_T34 t635 x6_2).f2),.int .i64 ((rd_T34 t635 x6_2).f3),.int .i64 0]) ?_ 4 _ rfl; refine blk_put (cs:=#[.int .i64 ((rd_T34 t635 x6_2).f0),.int .i64 ((rd_T34 t635 x6_2).f1),.int .i64 ((rd_T34 t635 x6_2).f2),.int .i64 0,.int .i64 0]) ?_ 3 _ rfl; refine blk_put (cs:=#[.int .i64 ((rd_T34 t635 x6_2).f0),.int .i64 ((rd_T34 t635 x6_2).f1),.int .i64 0,.int .i64 0,.int .i64 0]) ?_ 2 _ rfl; refine blk_put (cs:=#[.int .i64 ((rd_T34 t635 x6_2).f0),.int .i64 0,.int .i64 0,.int .i64 0,.int .i64 0]) ?_ 1 _ rfl; refine blk_put (cs:=#[.int .i64 0,.int .i64 0,.int .i64 0,.int .i64 0,.int .i64 0]) ?_ 0 _ rfl; exact p5.out) hb); have n6_:=zx (below_step (by repeat (first | (with_reducible first | exact HB.out | apply below_alloc | apply pw_below_drewN | apply below_drew1 | refine below_set ?_ q0.out | refine below_set ?_ r2.out) | exact HB.out)) hb); clear HO_4; clear HO_5; clear p0; clear p4; clear p5; clear HB; have HO_4:=n0_; have HO_5:=n1_; have p0:=n2_; have HO657:=n3_; have p4:=n4_; have p5:=n5_; have HB:=n6_; clear n0_ n1_ n2_ n3_ n4_ n5_ n6_; (try clear hb); (try clear hb2); (try clear hk); (try clear hi); (try clear ho0)))
      have n0_:=zx (Kd.R_drew HO_4.out);have n1_:=zx (Kd.R_drew HO_5.out);have n2_:=zx (Kd.R_drew p0.out);have n3_:=zx (Kd.R_drew HO657.out);have n4_:=zx (blk_drew p4.out);have n5_:=zx (blk_drew p5.out);have n6_:=zx (below_drew1 HB.out);clear HO_4;clear HO_5;clear p0;clear HO657;clear p4;clear p5;clear HB;have HO_4:=n0_;have HO_5:=n1_;have p0:=n2_;have HO657:=n3_;have p4:=n4_;have p5:=n5_;have HB:=n6_;clear n0_ n1_ n2_ n3_ n4_ n5_ n6_;have p659 : 0 ≤ (x6_2 : Int):=of_decide_eq_true (by first | (with_reducible assumption) | assumption);have q659 : x6_2 < (t639.length : Int):=of_decide_eq_true (by first | (with_reducible assumption) | assumption);obtain ⟨r4,e659,q7⟩:=Kd.at_int (Kd.R_reads' HO_4.out).2.2 x6_2 p659 q659;cases e659;replace p659:=eq_true p659;replace q659:=eq_true q659;obtain ⟨Ao95,co95,eo95⟩:=Kd.R_slice HO657.out
      (first | subst eo95 | (injection eo95 with f1_ f2_ f3_; have f4_:=f1_.symm; have f5_:=f3_.symm; clear f1_ f2_ f3_; subst f4_; subst f5_))
      have p662 : 0 ≤ (x6_2 : Int):=of_decide_eq_true (by first | (with_reducible assumption) | assumption);have q662 : x6_2 < (t639.length : Int):=of_decide_eq_true (by first | (with_reducible assumption) | assumption);obtain ⟨b3,e662,t0⟩:=Kd.at_int (Kd.R_reads' HO_4.out).2.2 x6_2 p662 q662;obtain rfl : r4 = b3:=(by injection e662)
      replace p662:=eq_true p662;replace q662:=eq_true q662;refine start_ (n:=28) (S:=fun w' => w'.cell? ⟨p7,0,none⟩ = some (.int .i64 t634) ∧ w'.cell? ⟨p7,1,none⟩ = some (.slice (some q2) t635.length co9) ∧ w'.cell? (r4.add (x6_2).toNat) = some (.int .i64 (rd t639 x6_2)) ∧ w'.cell? (r4.add (x6_2).toNat) = some (.int .i64 (rd t639 x6_2))) (ds:=[]) #[J,J,J,J,J,J,J,J,J,J,J,J,J,J,J,J,J,J,J,J,J,J,J,J,J,J,J,J] (by kernel_rfl) rfl rfl ⟨(blk_cell p4.out 0).trans rfl,(blk_cell p4.out 1).trans rfl,q7,t0⟩ (fun hHeld => ?_); refine with_tabW laws_FnHubArcs.tab13 laws_FnHubArcs.bits13 (fun HT_ HW_ => ?_);generalize w93.drew = w94 at HO_4 HO_5 p0 HO657 p4 p5 HB q7 t0 hHeld ⊢;refine pure_ (i:=0) (N:=some 56) (v:=?_) (a':=?_) #[Y,J,J,J,J,J,J,J,J,J,J,J,J,J,J,J,J,J,J,J,J,J,J,J,J,J,J,J] rfl rfl (any_of HT_.out (by kernel_rfl)) (fun _ _ _ h => h) (Or.inl ⟨by rfl,?_⟩) ?_ ?_;rotate_left
      ·intro w';go_simp;with_reducible rfl
      rotate_left
      ·simp only [Act.put,U,V,Z,i64_w,i32_w];rfl
      refine pure_ (i:=1) (N:=some 57) (v:=?_) (a':=?_) #[Y,Y,J,J,J,J,J,J,J,J,J,J,J,J,J,J,J,J,J,J,J,J,J,J,J,J,J,J] rfl rfl (any_of HT_.out (by kernel_rfl)) (fun _ _ _ h => h) (Or.inl ⟨by rfl,?_⟩) ?_ ?_;rotate_left
      ·intro w';go_simp;with_reducible rfl
      rotate_left
      ·simp only [Act.put,U,V,Z,i64_w,i32_w];rfl
      refine pure_ (i:=2) (N:=some 58) (v:=?_) (a':=?_) #[Y,Y,Y,J,J,J,J,J,J,J,J,J,J,J,J,J,J,J,J,J,J,J,J,J,J,J,J,J] rfl rfl (any_of HT_.out (by kernel_rfl)) (fun _ _ _ h => h) (Or.inl ⟨by rfl,?_⟩) ?_ ?_;rotate_left
      ·intro w';go_simp;with_reducible rfl
      rotate_left
      ·simp only [Act.put,U,V,Z,i64_w,i32_w];rfl
      refine pure_ (i:=5) (N:=some 61) (v:=?_) (a':=?_) #[Y,Y,Y,J,J,Y,J,J,J,J,J,J,J,J,J,J,J,J,J,J,J,J,J,J,J,J,J,J] rfl rfl (any_of HT_.out (by kernel_rfl)) (fun _ _ _ h => h) (Or.inl ⟨by rfl,?_⟩) ?_ ?_;rotate_left
      ·intro w';go_simp;with_reducible rfl
      rotate_left
      ·simp only [Act.put,U,V,Z,i64_w,i32_w];rfl
      refine pure_ (i:=6) (N:=some 62) (v:=?_) (a':=?_) #[Y,Y,Y,J,J,Y,Y,J,J,J,J,J,J,J,J,J,J,J,J,J,J,J,J,J,J,J,J,J] rfl rfl (any_of HT_.out (by kernel_rfl)) (fun _ _ _ h => h) (Or.inl ⟨by rfl,?_⟩) ?_ ?_;rotate_left
      ·intro w';go_simp;with_reducible rfl
      rotate_left
      ·simp only [Act.put,U,V,Z,i64_w,i32_w];rfl
      refine pure_ (i:=7) (N:=some 63) (v:=?_) (a':=?_) #[Y,Y,Y,J,J,Y,Y,Y,J,J,J,J,J,J,J,J,J,J,J,J,J,J,J,J,J,J,J,J] rfl rfl (any_of HT_.out (by kernel_rfl)) (fun _ _ _ h => h) (Or.inl ⟨by rfl,?_⟩) ?_ ?_;rotate_left
      ·intro w';go_simp;with_reducible rfl
      rotate_left
      ·simp only [Act.put,U,V,Z,i64_w,i32_w];rfl
      refine pure_ (i:=8) (N:=some 64) (v:=?_) (a':=?_) #[Y,Y,Y,J,J,Y,Y,Y,Y,J,J,J,J,J,J,J,J,J,J,J,J,J,J,J,J,J,J,J] rfl rfl (any_of HT_.out (by kernel_rfl)) (fun _ _ _ h => h) (Or.inl ⟨by rfl,?_⟩) ?_ ?_;rotate_left
      ·intro w';go_simp;with_reducible rfl
      rotate_left
      ·simp only [Act.put,U,V,Z,i64_w,i32_w];rfl
      refine pure_ (i:=9) (N:=some 65) (v:=undef) (a':=?_) #[Y,Y,Y,J,J,Y,Y,Y,Y,Y,J,J,J,J,J,J,J,J,J,J,J,J,J,J,J,J,J,J] rfl rfl (any_of HT_.out (by kernel_rfl)) (fun _ _ _ h => h) (Or.inr ⟨by rfl,rfl⟩) ?_ ?_;rotate_left
      ·simp only [Act.put,U,V,Z,i64_w,i32_w];rfl
      refine pure_ (i:=10) (N:=some 66) (v:=undef) (a':=?_) #[Y,Y,Y,J,J,Y,Y,Y,Y,Y,Y,J,J,J,J,J,J,J,J,J,J,J,J,J,J,J,J,J] rfl rfl (any_of HT_.out (by kernel_rfl)) (fun _ _ _ h => h) (Or.inr ⟨by rfl,rfl⟩) ?_ ?_;rotate_left
      ·simp only [Act.put,U,V,Z,i64_w,i32_w];rfl
      refine pure_ (i:=11) (N:=some 67) (v:=undef) (a':=?_) #[Y,Y,Y,J,J,Y,Y,Y,Y,Y,Y,Y,J,J,J,J,J,J,J,J,J,J,J,J,J,J,J,J] rfl rfl (any_of HT_.out (by kernel_rfl)) (fun _ _ _ h => h) (Or.inr ⟨by rfl,rfl⟩) ?_ ?_;rotate_left
      ·simp only [Act.put,U,V,Z,i64_w,i32_w];rfl
      refine pure_ (i:=12) (N:=some 68) (v:=undef) (a':=?_) #[Y,Y,Y,J,J,Y,Y,Y,Y,Y,Y,Y,Y,J,J,J,J,J,J,J,J,J,J,J,J,J,J,J] rfl rfl (any_of HT_.out (by kernel_rfl)) (fun _ _ _ h => h) (Or.inr ⟨by rfl,rfl⟩) ?_ ?_;rotate_left
      ·simp only [Act.put,U,V,Z,i64_w,i32_w];rfl
      refine pure_ (i:=13) (N:=some 69) (v:=undef) (a':=?_) #[Y,Y,Y,J,J,Y,Y,Y,Y,Y,Y,Y,Y,Y,J,J,J,J,J,J,J,J,J,J,J,J,J,J] rfl rfl (any_of HT_.out (by kernel_rfl)) (fun _ _ _ h => h) (Or.inr ⟨by rfl,rfl⟩) ?_ ?_;rotate_left
      ·simp only [Act.put,U,V,Z,i64_w,i32_w];rfl
      refine pure_ (i:=14) (N:=some 70) (v:=?_) (a':=?_) #[Y,Y,Y,J,J,Y,Y,Y,Y,Y,Y,Y,Y,Y,Y,J,J,J,J,J,J,J,J,J,J,J,J,J] rfl rfl (any_of HT_.out (by kernel_rfl)) (fun _ _ _ h => h) (Or.inl ⟨by rfl,?_⟩) ?_ ?_;rotate_left
      ·intro w';go_simp;with_reducible rfl
      rotate_left
      ·simp only [Act.put,U,V,Z,i64_w,i32_w];rfl
      refine take_ (i:=3) (N:=some 59) (v:=?_) (a':=?_) #[Y,Y,Y,Y,J,Y,Y,Y,Y,Y,Y,Y,Y,Y,Y,J,J,J,J,J,J,J,J,J,J,J,J,J] rfl rfl (take_ofW HT_.out HW_.out (by kernel_rfl)) (fun _ _ _ h => h) (Or.inl ⟨by rfl,?_⟩) hHeld ?_ ?_;rotate_left
      ·rintro w' ⟨s0,s1,s2,s3⟩;go_simp;with_reducible rfl
      rotate_left
      ·simp only [Act.put,U,V,Z,i64_w,i32_w];rfl
      refine pure_ (i:=4) (N:=some 60) (v:=?_) (a':=?_) #[Y,Y,Y,Y,Y,Y,Y,Y,Y,Y,Y,Y,Y,Y,Y,J,J,J,J,J,J,J,J,J,J,J,J,J] rfl rfl (any_of HT_.out (by kernel_rfl)) (fun _ _ _ h => h) (Or.inl ⟨by rfl,?_⟩) ?_ ?_;rotate_left
      ·intro w';go_simp;with_reducible rfl
      rotate_left
      ·simp only [Act.put,U,V,Z,i64_w,i32_w];rfl
      refine pure_ (i:=15) (N:=some 71) (v:=?_) (a':=?_) #[Y,Y,Y,Y,Y,Y,Y,Y,Y,Y,Y,Y,Y,Y,Y,Y,J,J,J,J,J,J,J,J,J,J,J,J] rfl rfl (any_of HT_.out (by kernel_rfl)) (fun _ _ _ h => h) (Or.inl ⟨by rfl,?_⟩) ?_ ?_;rotate_left
      ·intro w';go_simp;with_reducible rfl
      rotate_left
      ·simp only [Act.put,U,V,Z,i64_w,i32_w];rfl
      refine pure_ (i:=16) (N:=some 72) (v:=?_) (a':=?_) #[Y,Y,Y,Y,Y,Y,Y,Y,Y,Y,Y,Y,Y,Y,Y,Y,Y,J,J,J,J,J,J,J,J,J,J,J] rfl rfl (any_of HT_.out (by kernel_rfl)) (fun _ _ _ h => h) (Or.inl ⟨by rfl,?_⟩) ?_ ?_;rotate_left
      ·intro w';go_simp;with_reducible rfl
      rotate_left
      ·simp only [Act.put,U,V,Z,i64_w,i32_w];rfl
      refine pure_ (i:=17) (N:=some 73) (v:=?_) (a':=?_) #[Y,Y,Y,Y,Y,Y,Y,Y,Y,Y,Y,Y,Y,Y,Y,Y,Y,Y,J,J,J,J,J,J,J,J,J,J] rfl rfl (any_of HT_.out (by kernel_rfl)) (fun _ _ _ h => h) (Or.inl ⟨by rfl,?_⟩) ?_ ?_;rotate_left
      ·intro w';go_simp;with_reducible rfl
      rotate_left
      ·simp only [Act.put,U,V,Z,i64_w,i32_w];rfl
      refine pure_ (i:=18) (N:=some 74) (v:=?_) (a':=?_) #[Y,Y,Y,Y,Y,Y,Y,Y,Y,Y,Y,Y,Y,Y,Y,Y,Y,Y,Y,J,J,J,J,J,J,J,J,J] rfl rfl (any_of HT_.out (by kernel_rfl)) (fun _ _ _ h => h) (Or.inl ⟨by rfl,?_⟩) ?_ ?_;rotate_left
      ·intro w';go_simp;with_reducible rfl
      rotate_left
      ·simp only [Act.put,U,V,Z,i64_w,i32_w];rfl
      refine pure_ (i:=19) (N:=some 75) (v:=?_) (a':=?_) #[Y,Y,Y,Y,Y,Y,Y,Y,Y,Y,Y,Y,Y,Y,Y,Y,Y,Y,Y,Y,J,J,J,J,J,J,J,J] rfl rfl (any_of HT_.out (by kernel_rfl)) (fun _ _ _ h => h) (Or.inl ⟨by rfl,?_⟩) ?_ ?_;rotate_left
      ·intro w';go_simp;with_reducible rfl
      rotate_left
      ·simp only [Act.put,U,V,Z,i64_w,i32_w];rfl
      refine pure_ (i:=21) (N:=some 77) (v:=?_) (a':=?_) #[Y,Y,Y,Y,Y,Y,Y,Y,Y,Y,Y,Y,Y,Y,Y,Y,Y,Y,Y,Y,J,Y,J,J,J,J,J,J] rfl rfl (any_of HT_.out (by kernel_rfl)) (fun _ _ _ h => h) (Or.inl ⟨by rfl,?_⟩) ?_ ?_;rotate_left
      ·intro w';go_simp;with_reducible rfl
      rotate_left
      ·simp only [Act.put,U,V,Z,i64_w,i32_w];rfl
      refine pure_ (i:=23) (N:=some 79) (v:=?_) (a':=?_) #[Y,Y,Y,Y,Y,Y,Y,Y,Y,Y,Y,Y,Y,Y,Y,Y,Y,Y,Y,Y,J,Y,J,Y,J,J,J,J] rfl rfl (any_of HT_.out (by kernel_rfl)) (fun _ _ _ h => h) (Or.inl ⟨by rfl,?_⟩) ?_ ?_;rotate_left
      ·intro w';go_simp;with_reducible rfl
      rotate_left
      ·simp only [Act.put,U,V,Z,i64_w,i32_w];rfl
      refine take_ (i:=20) (N:=some 76) (v:=?_) (a':=?_) #[Y,Y,Y,Y,Y,Y,Y,Y,Y,Y,Y,Y,Y,Y,Y,Y,Y,Y,Y,Y,Y,Y,J,Y,J,J,J,J] rfl rfl (take_ofW HT_.out HW_.out (by kernel_rfl)) (fun _ _ _ h => h) (Or.inl ⟨by rfl,?_⟩) hHeld ?_ ?_;rotate_left
      ·rintro w' ⟨s0,s1,s2,s3⟩;go_simp;with_reducible rfl
      rotate_left
      ·simp only [Act.put,U,V,Z,i64_w,i32_w];rfl
      refine take_ (i:=22) (N:=some 78) (v:=?_) (a':=?_) #[Y,Y,Y,Y,Y,Y,Y,Y,Y,Y,Y,Y,Y,Y,Y,Y,Y,Y,Y,Y,Y,Y,Y,Y,J,J,J,J] rfl rfl (take_ofW HT_.out HW_.out (by kernel_rfl)) (fun _ _ _ h => h) (Or.inl ⟨by rfl,?_⟩) hHeld ?_ ?_;rotate_left
      ·rintro w' ⟨s0,s1,s2,s3⟩;go_simp;with_reducible rfl
      rotate_left
      ·simp only [Act.put,U,V,Z,i64_w,i32_w];rfl
      refine take_ (i:=24) (N:=some 80) (v:=?_) (a':=?_) #[Y,Y,Y,Y,Y,Y,Y,Y,Y,Y,Y,Y,Y,Y,Y,Y,Y,Y,Y,Y,Y,Y,Y,Y,Y,J,J,J] rfl rfl (take_ofW HT_.out HW_.out (by kernel_rfl)) (fun _ _ _ h => h) (Or.inl ⟨by rfl,?_⟩) hHeld ?_ ?_;rotate_left
      ·rintro w' ⟨s0,s1,s2,s3⟩;go_simp;with_reducible rfl
      rotate_left
      ·simp only [Act.put,U,V,Z,i64_w,i32_w];rfl
      refine pure_ (i:=25) (N:=some 81) (v:=?_) (a':=?_) #[Y,Y,Y,Y,Y,Y,Y,Y,Y,Y,Y,Y,Y,Y,Y,Y,Y,Y,Y,Y,Y,Y,Y,Y,Y,Y,J,J] rfl rfl (any_of HT_.out (by kernel_rfl)) (fun _ _ _ h => h) (Or.inl ⟨by rfl,?_⟩) ?_ ?_;rotate_left
      ·intro w';go_simp;with_reducible rfl
      rotate_left
      ·simp only [Act.put,U,V,Z,i64_w,i32_w];rfl
      refine pure_ (i:=26) (N:=some 82) (v:=?_) (a':=?_) #[Y,Y,Y,Y,Y,Y,Y,Y,Y,Y,Y,Y,Y,Y,Y,Y,Y,Y,Y,Y,Y,Y,Y,Y,Y,Y,Y,J] rfl rfl (any_of HT_.out (by kernel_rfl)) (fun _ _ _ h => h) (Or.inl ⟨by rfl,?_⟩) ?_ ?_;rotate_left
      ·intro w';go_simp;with_reducible rfl
      rotate_left
      ·simp only [Act.put,U,V,Z,i64_w,i32_w];rfl
      refine pure_ (i:=27) (N:=some 83) (v:=?_) (a':=?_) #[Y,Y,Y,Y,Y,Y,Y,Y,Y,Y,Y,Y,Y,Y,Y,Y,Y,Y,Y,Y,Y,Y,Y,Y,Y,Y,Y,Y] rfl rfl (any_of HT_.out (by kernel_rfl)) (fun _ _ _ h => h) (Or.inl ⟨by rfl,?_⟩) ?_ ?_;rotate_left
      ·intro w';go_simp;with_reducible rfl
      rotate_left
      ·simp only [Act.put,U,V,Z,i64_w,i32_w];rfl
      refine done_ (done_of HT_.out (by kernel_rfl)) ?_
      try go_wp2
      go_roundg k2
      case measure => have:=HJ4.out; have:=HK2.out; omega
      case rel => exact ⟨(wrap64 (x6_2 + 1)),(by first | rfl | (simp; done) | (simp [*]; done)),H',⟨by have:=HJ4.out; have:=HK2.out; omega⟩,⟨by exact Kd.R_mono HO_4.out (fun _ hk => hk.1)⟩,⟨by exact Kd.R_mono HO_5.out (fun _ hk => hk.1)⟩,⟨by exact Kd.R_mono p0.out (fun _ hk => trivial)⟩,⟨by exact p4.out⟩,⟨by repeat (first | (with_reducible first | exact HB.out | apply below_alloc | apply pw_below_drewN | apply below_drew1 | refine below_set ?_ q0.out | refine below_set ?_ r2.out) | exact HB.out)⟩⟩
     rw [if_pos c36] at H;have c36b0 : ((t655.length : Int) == 1) = true:=beq_iff_eq.mpr c36;have c36b1 : ((t655.length : Int) != 1) = false:=bne_eq_false_iff_eq.mpr c36;clear c36
     by_cases c37 : 0 < (t655.length : Int)
     case neg =>
      rw [if_neg c37] at H;exact absurd H (by simp)
     rw [if_pos c37] at H;have c37b0 : decide (0 < (t655.length : Int)) = true:=decide_eq_true c37;have c37b1 : decide (0 < t655.length) = true:=decide_eq_true (by omega);clear c37
     by_cases c38 : ((decide ((rd t639 x6_2) > 0)) != ((rd t655 0) == x6_2)) = true
     case pos =>
      rw [if_pos c38] at H;have c38b0 : ((decide ((rd t639 x6_2) > 0)) != ((rd t655 0) == x6_2)) = true:=c38
      (try (have c38b1 : decide ((decide ((rd t639 x6_2) > 0)) = ((rd t655 0) == x6_2)) = false:=by simpa using c38))
      (try (have c38b2 : ((decide ((rd t639 x6_2) > 0)) == ((rd t655 0) == x6_2)) = false:=by simpa using c38))
      (try (have c38b3 : ¬ ((decide ((rd t639 x6_2) > 0)) = ((rd t655 0) == x6_2)):=by simpa using c38))
      clear c38;obtain rfl:=Option.some.inj H;obtain ⟨Ao39,co39,eo39⟩:=Kd.R_slice HO_4.out;subst eo39;have hcz40_0 : wr.cell? ⟨p7,0,none⟩ = some (.int .i64 t634):=(blk_cell p4.out 0).trans rfl;have hcz40_1 : wr.cell? ⟨p7,1,none⟩ = some (.slice Ao9 t635.length co9):=(blk_cell p4.out 1).trans rfl;have hfz40_0:=blk_frozen p4.out 0;have hfz40_1:=blk_frozen p4.out 1;have p653 : 0 ≤ (x6_2 : Int):=of_decide_eq_true (by first | (with_reducible assumption) | assumption);have q653 : x6_2 < (t635.length : Int):=of_decide_eq_true (by first | (with_reducible assumption) | assumption);obtain ⟨q2,e653,r5,r6,r7,r8,r9⟩:=at_T34 (Kd.R_reads' p0.out).2.2 x6_2 p653 q653;cases e653;replace p653:=eq_true p653;replace q653:=eq_true q653
      try go_wp2_with (first | ((with_reducible refine gate_dst (N:=7) rfl ?_); (try (refine gate_guard (by rfl) ?_; dsimp only)); refine box_event ?hg (N:=7) ?hd (cs:=#[.int .i64 0,.int .i64 0,.int .i64 0,.int .i64 0,.int .i64 0]) (t:=34) ?hr ?_; (case hd => rfl); (case hg => rfl); (case hr => first | (go_simp; done) | (go_simp; rfl)); intro p3 hg w41 hbox hb; have n0_:=zx (Kd.R_below (by exact HO_4.out) hb); have n1_:=zx (Kd.R_below (by exact HO_5.out) hb); have n2_:=zx (Kd.R_below (Kd.R_elderB (by exact p0.out) p3 (Nat.le_of_eq hg.symm)) hb); have n3_:=zx (blk_below (g:=p7) (o:=.cells #[.int .i64 t634,.slice (some q2) t635.length co9] 25 (0,0)) (by exact p4.out) hb); have n4_:=zx (below_step (by repeat (first | (with_reducible first | exact HB.out | apply below_alloc | apply pw_below_drewN | apply below_drew1 | refine below_set ?_ q0.out) | exact HB.out)) hb); have n5_:=zx (hbox); have n6_:=zx ((by rw [hg]; exact (below_size (by repeat (first | (with_reducible first | exact HB.out | apply below_alloc | apply pw_below_drewN | apply below_drew1 | refine below_set ?_ q0.out) | exact HB.out))) : w.heap.size ≤ p3)); have n7_:=zx ((by rw [hg]; exact (below_size (by repeat (first | (with_reducible first | exact HB.out | apply below_alloc | apply pw_below_drewN | apply below_drew1 | refine below_set ?_ q0.out) | exact HB.out))) : w.heap.size ≤ p3)); have n8_:=zx ((by rw [hg]; exact Nat.ne_of_lt (blk_lt (g:=p7) (o:=.cells #[.int .i64 t634,.slice (some q2) t635.length co9] 25 (0,0)) (by exact p4.out)) : p7 ≠ p3)); have n9_:=zx ((by rw [hg]; exact Nat.ne_of_gt (blk_lt (g:=p7) (o:=.cells #[.int .i64 t634,.slice (some q2) t635.length co9] 25 (0,0)) (by exact p4.out)) : p3 ≠ p7)); clear HO_4; clear HO_5; clear p0; clear p4; clear HB; have HO_4:=n0_; have HO_5:=n1_; have p0:=n2_; have p4:=n3_; have HB:=n4_; have p5:=n5_; have u6:=n6_; have r2:=n7_; have p8:=n8_; have q8:=n9_; clear n0_ n1_ n2_ n3_ n4_ n5_ n6_ n7_ n8_ n9_; clear hb hbox hg; have hnb42:=q8.out; have hnc42:=p8.out; have hcz43_0 : w41.cell? ⟨p3,0,none⟩ = some (.int .i64 0):=(blk_cell p5.out 0).trans rfl; have hcz43_1 : w41.cell? ⟨p3,1,none⟩ = some (.int .i64 0):=(blk_cell p5.out 1).trans rfl; have hcz43_2 : w41.cell? ⟨p3,2,none⟩ = some (.int .i64 0):=(blk_cell p5.out 2).trans rfl; have hcz43_3 : w41.cell? ⟨p3,3,none⟩ = some (.int .i64 0):=(blk_cell p5.out 3).trans rfl; have hcz43_4 : w41.cell? ⟨p3,4,none⟩ = some (.int .i64 0):=(blk_cell p5.out 4).trans rfl; have hfz43_0:=blk_frozen p5.out 0; have hfz43_1:=blk_frozen p5.out 1; have hfz43_2:=blk_frozen p5.out 2; have hfz43_3:=blk_frozen p5.out 3; have hfz43_4:=blk_frozen p5.out 4; have hcz44_0 : w41.cell? ⟨p7,0,none⟩ = some (.int .i64 t634):=(blk_cell p4.out 0).trans rfl; have hcz44_1 : w41.cell? ⟨p7,1,none⟩ = some (.slice (some q2) t635.length co9):=(blk_cell p4.out 1).trans rfl; have hfz44_0:=blk_frozen p4.out 0; have hfz44_1:=blk_frozen p4.out 1) | ((with_reducible refine gate_callee (f:=18) rfl ?_); refine goesL_ (some 53) rfl rfl Try.func18 (by kernel_rfl) rfl #[.agg #[.int .i64 t634,.slice (some q2) t635.length co9],.int .i64 ((rd_T34 t635 x6_2).f0),.int .i64 ((rd_T34 t635 x6_2).f1)] rfl (by (try simp only [List.map_toArray,List.map_cons,List.map_nil]); first | done | rfl | (simp only [List.length_drop,List.length_take]; rfl)) ?_; (with_reducible refine (impl_NearWalk.calls k2 t634 _ _ t635 ((rd_T34 t635 x6_2).f0) ((rd_T34 t635 x6_2).f1) t655 t658 _ ?side1 ?side2 A35.out).mono ?_); (case side1 => refine (Kd.R_reads' (e:=34) (base:=w.heap.size) (ok:=fun k_ => (True ∧ k_ ≠ p3)) (n:=t635.length) (c:=co9) ?_).2.2; exact (by exact (Kd.R_mono (Kd.R_far (p:=⟨p3,4,none⟩) (Kd.R_far (p:=⟨p3,3,none⟩) (Kd.R_far (p:=⟨p3,2,none⟩) (Kd.R_far (p:=⟨p3,1,none⟩) (Kd.R_far (p:=⟨p3,0,none⟩) (Kd.R_mono p0.out (fun k_ hk => (⟨hk,hk.2⟩ : _ ∧ k_ ≠ p3))) (fun _ hk => hk.2) (.int .i64 ((rd_T34 t635 x6_2).f0))) (fun _ hk => hk.2) (.int .i64 ((rd_T34 t635 x6_2).f1))) (fun _ hk => hk.2) (.int .i64 ((rd_T34 t635 x6_2).f2))) (fun _ hk => hk.2) (.int .i64 ((rd_T34 t635 x6_2).f3))) (fun _ hk => hk.2) (.int .i64 ((rd_T34 t635 x6_2).f4))) (fun _ h_ => h_.1)))); (case side2 => exact (Kd.R_reads' p0.out).2.1); rintro e w45 ⟨v656,rfl,ho0,hb⟩; refine ⟨_,rfl,?_⟩; have n0_:=zx (Kd.R_elder' (by exact (Kd.R_mono (Kd.R_far (p:=⟨p3,4,none⟩) (Kd.R_far (p:=⟨p3,3,none⟩) (Kd.R_far (p:=⟨p3,2,none⟩) (Kd.R_far (p:=⟨p3,1,none⟩) (Kd.R_far (p:=⟨p3,0,none⟩) (Kd.R_types HO_4.out p5.out (by decide)) (fun _ hk => hk.2) (.int .i64 ((rd_T34 t635 x6_2).f0))) (fun _ hk => hk.2) (.int .i64 ((rd_T34 t635 x6_2).f1))) (fun _ hk => hk.2) (.int .i64 ((rd_T34 t635 x6_2).f2))) (fun _ hk => hk.2) (.int .i64 ((rd_T34 t635 x6_2).f3))) (fun _ hk => hk.2) (.int .i64 ((rd_T34 t635 x6_2).f4))) (fun _ h_ => h_.1))) (Kd.R_base ho0) hb); have n1_:=zx (Kd.R_elder' (by exact (Kd.R_mono (Kd.R_far (p:=⟨p3,4,none⟩) (Kd.R_far (p:=⟨p3,3,none⟩) (Kd.R_far (p:=⟨p3,2,none⟩) (Kd.R_far (p:=⟨p3,1,none⟩) (Kd.R_far (p:=⟨p3,0,none⟩) (Kd.R_types HO_5.out p5.out (by decide)) (fun _ hk => hk.2) (.int .i64 ((rd_T34 t635 x6_2).f0))) (fun _ hk => hk.2) (.int .i64 ((rd_T34 t635 x6_2).f1))) (fun _ hk => hk.2) (.int .i64 ((rd_T34 t635 x6_2).f2))) (fun _ hk => hk.2) (.int .i64 ((rd_T34 t635 x6_2).f3))) (fun _ hk => hk.2) (.int .i64 ((rd_T34 t635 x6_2).f4))) (fun _ h_ => h_.1))) (Kd.R_base ho0) hb); have n2_:=zx (Kd.R_below (by exact (Kd.R_mono (Kd.R_far (p:=⟨p3,4,none⟩) (Kd.R_far (p:=⟨p3,3,none⟩) (Kd.R_far (p:=⟨p3,2,none⟩) (Kd.R_far (p:=⟨p3,1,none⟩) (Kd.R_far (p:=⟨p3,0,none⟩) (Kd.R_mono p0.out (fun k_ hk => (⟨hk,hk.2⟩ : _ ∧ k_ ≠ p3))) (fun _ hk => hk.2) (.int .i64 ((rd_T34 t635 x6_2).f0))) (fun _ hk => hk.2) (.int .i64 ((rd_T34 t635 x6_2).f1))) (fun _ hk => hk.2) (.int .i64 ((rd_T34 t635 x6_2).f2))) (fun _ hk => hk.2) (.int .i64 ((rd_T34 t635 x6_2).f3))) (fun _ hk => hk.2) (.int .i64 ((rd_T34 t635 x6_2).f4))) (fun _ h_ => h_.1))) hb); have n3_:=zx (Kd.R_lower (Kd.R_new' (Kd.R_new' ho0 (Kd.R_lt (by exact (Kd.R_mono (Kd.R_far (p:=⟨p3,4,none⟩) (Kd.R_far (p:=⟨p3,3,none⟩) (Kd.R_far (p:=⟨p3,2,none⟩) (Kd.R_far (p:=⟨p3,1,none⟩) (Kd.R_far (p:=⟨p3,0,none⟩) (Kd.R_types HO_4.out p5.out (by decide)) (fun _ hk => hk.2) (.int .i64 ((rd_T34 t635 x6_2).f0))) (fun _ hk => hk.2) (.int .i64 ((rd_T34 t635 x6_2).f1))) (fun _ hk => hk.2) (.int .i64 ((rd_T34 t635 x6_2).f2))) (fun _ hk => hk.2) (.int .i64 ((rd_T34 t635 x6_2).f3))) (fun _ hk => hk.2) (.int .i64 ((rd_T34 t635 x6_2).f4))) (fun _ h_ => h_.1))))) (Kd.R_lt (by exact (Kd.R_mono (Kd.R_far (p:=⟨p3,4,none⟩) (Kd.R_far (p:=⟨p3,3,none⟩) (Kd.R_far (p:=⟨p3,2,none⟩) (Kd.R_far (p:=⟨p3,1,none⟩) (Kd.R_far (p:=⟨p3,0,none⟩) (Kd.R_types HO_5.out p5.out (by decide)) (fun _ hk => hk.2) (.int .i64 ((rd_T34 t635 x6_2).f0))) (fun _ hk => hk.2) (.int .i64 ((rd_T34 t635 x6_2).f1))) (fun _ hk => hk.2) (.int .i64 ((rd_T34 t635 x6_2).f2))) (fun _ hk => hk.2) (.int .i64 ((rd_T34 t635 x6_2).f3))) (fun _ hk => hk.2) (.int .i64 ((rd_T34 t635 x6_2).f4))) (fun _ h_ => h_.1))))) (below_size (by repeat (first | (with_reducible first | exact HB.out | apply below_alloc | apply pw_below_drewN | apply below_drew1 | refine below_set ?_ q0.out | refine below_set ?_ r2.out) | exact HB.out)))); have n4_:=zx (blk_below (g:=p7) (o:=.cells #[.int .i64 t634,.slice (some q2) t635.length co9] 25 (0,0)) (by refine blk_far ?_ p8.out _; refine blk_far ?_ p8.out _; refine blk_far ?_ p8.out _; refine blk_far ?_ p8.out _; refine blk_far ?_ p8.out _; exact p4.out) hb); have n5_:=zx (blk_below (g:=p3) (o:=.cells #[.int .i64 ((rd_T34 t635 x6_2).f0),.int .i64 ((rd_T34 t635 x6_2).f1),.int .i64 ((rd_T34 t635 x6_2).f2),.int .i64 ((rd_T34 t635 x6_2).f3),.int .i64 ((rd_T34 t635 x6_2).f4)] 34 (0,0)) (by refine blk_put (cs:=#[.int .i64 ((rd_T34 t635 x6_2).f0),.int .i64 ((rd_T34 t635 x6_2).f1),.int .i64 ((rd_T34 t635 x6_2).f2),.int .i64 ((rd_T34 t635 x6_2).f3),.int .i64 0]) ?_ 4 _ rfl; refine blk_put (cs:=#[.int .i64 ((rd_T34 t635 x6_2).f0),.int .i64 ((rd_T34 t635 x6_2).f1),.int .i64 ((rd_T34 t635 x6_2).f2),.int .i64 0,.int .i64 0]) ?_ 3 _ rfl; refine blk_put (cs:=#[.int .i64 ((rd_T34 t635 x6_2).f0),.int .i64 ((rd_T34 t635 x6_2).f1),.int .i64 0,.int .i64 0,.int .i64 0]) ?_ 2 _ rfl; refine blk_put (cs:=#[.int .i64 ((rd_T34 t635 x6_2).f0),.int .i64 0,.int .i64 0,.int .i64 0,.int .i64 0]) ?_ 1 _ rfl; refine blk_put (cs:=#[.int .i64 0,.int .i64 0,.int .i64 0,.int .i64 0,.int .i64 0]) ?_ 0 _ rfl; exact p5.out) hb); have n6_:=zx (below_step (by repeat (first | (with_reducible first | exact HB.out | apply below_alloc | apply pw_below_drewN | apply below_drew1 | refine below_set ?_ q0.out | refine below_set ?_ r2.out) | exact HB.out)) hb); clear HO_4; clear HO_5; clear p0; clear p4; clear p5; clear HB; have HO_4:=n0_; have HO_5:=n1_; have p0:=n2_; have HO657:=n3_; have p4:=n4_; have p5:=n5_; have HB:=n6_; clear n0_ n1_ n2_ n3_ n4_ n5_ n6_; (try clear hb); (try clear hb2); (try clear hk); (try clear hi); (try clear ho0)))
      have n0_:=zx (Kd.R_drew HO_4.out);have n1_:=zx (Kd.R_drew HO_5.out);have n2_:=zx (Kd.R_drew p0.out);have n3_:=zx (Kd.R_drew HO657.out);have n4_:=zx (blk_drew p4.out);have n5_:=zx (blk_drew p5.out);have n6_:=zx (below_drew1 HB.out);clear HO_4;clear HO_5;clear p0;clear HO657;clear p4;clear p5;clear HB;have HO_4:=n0_;have HO_5:=n1_;have p0:=n2_;have HO657:=n3_;have p4:=n4_;have p5:=n5_;have HB:=n6_;clear n0_ n1_ n2_ n3_ n4_ n5_ n6_;have p659 : 0 ≤ (x6_2 : Int):=of_decide_eq_true (by first | (with_reducible assumption) | assumption);have q659 : x6_2 < (t639.length : Int):=of_decide_eq_true (by first | (with_reducible assumption) | assumption);obtain ⟨r4,e659,q7⟩:=Kd.at_int (Kd.R_reads' HO_4.out).2.2 x6_2 p659 q659;cases e659;replace p659:=eq_true p659;replace q659:=eq_true q659;obtain ⟨Ao47,co47,eo47⟩:=Kd.R_slice HO657.out
      (first | subst eo47 | (injection eo47 with f1_ f2_ f3_; have f4_:=f1_.symm; have f5_:=f3_.symm; clear f1_ f2_ f3_; subst f4_; subst f5_))
      have p660 : 0 ≤ (0 : Int):=(by omega)
      have q660 : 0 < (t655.length : Int):=of_decide_eq_true (by first | (with_reducible assumption) | assumption);obtain ⟨u7,e660,r1⟩:=Kd.at_int (Kd.R_reads' HO657.out).2.2 0 p660 q660;cases e660;have qi660 : (0 < t655.length) = True:=eq_true (by omega)
      (try rw [show ((0 : Int)).toNat = 0 from rfl] at r1)
      (try rw [Addr.add_zero'] at r1)
      replace p660:=eq_true p660;replace q660:=eq_true q660;refine start_ (n:=28) (S:=fun w' => w'.cell? (r4.add (x6_2).toNat) = some (.int .i64 (rd t639 x6_2)) ∧ w'.cell? u7 = some (.int .i64 (rd t655 0))) (ds:=[]) #[J,J,J,J,J,J,J,J,J,J,J,J,J,J,J,J,J,J,J,J,J,J,J,J,J,J,J,J] (by kernel_rfl) rfl rfl ⟨q7,r1⟩ (fun hHeld => ?_); refine with_tabW laws_FnHubArcs.tab13 laws_FnHubArcs.bits13 (fun HT_ HW_ => ?_);generalize w45.drew = w46 at HO_4 HO_5 p0 HO657 p4 p5 HB q7 r1 hHeld ⊢;refine pure_ (i:=0) (N:=some 56) (v:=?_) (a':=?_) #[Y,J,J,J,J,J,J,J,J,J,J,J,J,J,J,J,J,J,J,J,J,J,J,J,J,J,J,J] rfl rfl (any_of HT_.out (by kernel_rfl)) (fun _ _ _ h => h) (Or.inl ⟨by rfl,?_⟩) ?_ ?_;rotate_left
      ·intro w';go_simp;with_reducible rfl
      rotate_left
      ·simp only [Act.put,U,V,Z,i64_w,i32_w];rfl
      refine pure_ (i:=1) (N:=some 57) (v:=?_) (a':=?_) #[Y,Y,J,J,J,J,J,J,J,J,J,J,J,J,J,J,J,J,J,J,J,J,J,J,J,J,J,J] rfl rfl (any_of HT_.out (by kernel_rfl)) (fun _ _ _ h => h) (Or.inl ⟨by rfl,?_⟩) ?_ ?_;rotate_left
      ·intro w';go_simp;with_reducible rfl
      rotate_left
      ·simp only [Act.put,U,V,Z,i64_w,i32_w];rfl
      refine pure_ (i:=2) (N:=some 58) (v:=?_) (a':=?_) #[Y,Y,Y,J,J,J,J,J,J,J,J,J,J,J,J,J,J,J,J,J,J,J,J,J,J,J,J,J] rfl rfl (any_of HT_.out (by kernel_rfl)) (fun _ _ _ h => h) (Or.inl ⟨by rfl,?_⟩) ?_ ?_;rotate_left
      ·intro w';go_simp;with_reducible rfl
      rotate_left
      ·simp only [Act.put,U,V,Z,i64_w,i32_w];rfl
      refine pure_ (i:=5) (N:=some 61) (v:=?_) (a':=?_) #[Y,Y,Y,J,J,Y,J,J,J,J,J,J,J,J,J,J,J,J,J,J,J,J,J,J,J,J,J,J] rfl rfl (any_of HT_.out (by kernel_rfl)) (fun _ _ _ h => h) (Or.inl ⟨by rfl,?_⟩) ?_ ?_;rotate_left
      ·intro w';go_simp;with_reducible rfl
      rotate_left
      ·simp only [Act.put,U,V,Z,i64_w,i32_w];rfl
      refine pure_ (i:=6) (N:=some 62) (v:=?_) (a':=?_) #[Y,Y,Y,J,J,Y,Y,J,J,J,J,J,J,J,J,J,J,J,J,J,J,J,J,J,J,J,J,J] rfl rfl (any_of HT_.out (by kernel_rfl)) (fun _ _ _ h => h) (Or.inl ⟨by rfl,?_⟩) ?_ ?_;rotate_left
      ·intro w';go_simp;with_reducible rfl
      rotate_left
      ·simp only [Act.put,U,V,Z,i64_w,i32_w];rfl
      refine pure_ (i:=7) (N:=some 63) (v:=?_) (a':=?_) #[Y,Y,Y,J,J,Y,Y,Y,J,J,J,J,J,J,J,J,J,J,J,J,J,J,J,J,J,J,J,J] rfl rfl (any_of HT_.out (by kernel_rfl)) (fun _ _ _ h => h) (Or.inl ⟨by rfl,?_⟩) ?_ ?_;rotate_left
      ·intro w';go_simp;with_reducible rfl
      rotate_left
      ·simp only [Act.put,U,V,Z,i64_w,i32_w];rfl
      refine pure_ (i:=8) (N:=some 64) (v:=?_) (a':=?_) #[Y,Y,Y,J,J,Y,Y,Y,Y,J,J,J,J,J,J,J,J,J,J,J,J,J,J,J,J,J,J,J] rfl rfl (any_of HT_.out (by kernel_rfl)) (fun _ _ _ h => h) (Or.inl ⟨by rfl,?_⟩) ?_ ?_;rotate_left
      ·intro w';go_simp;with_reducible rfl
      rotate_left
      ·simp only [Act.put,U,V,Z,i64_w,i32_w];rfl
      refine pure_ (i:=9) (N:=some 65) (v:=?_) (a':=?_) #[Y,Y,Y,J,J,Y,Y,Y,Y,Y,J,J,J,J,J,J,J,J,J,J,J,J,J,J,J,J,J,J] rfl rfl (any_of HT_.out (by kernel_rfl)) (fun _ _ _ h => h) (Or.inl ⟨by rfl,?_⟩) ?_ ?_;rotate_left
      ·intro w';go_simp;with_reducible rfl
      rotate_left
      ·simp only [Act.put,U,V,Z,i64_w,i32_w];rfl
      refine pure_ (i:=10) (N:=some 66) (v:=?_) (a':=?_) #[Y,Y,Y,J,J,Y,Y,Y,Y,Y,Y,J,J,J,J,J,J,J,J,J,J,J,J,J,J,J,J,J] rfl rfl (any_of HT_.out (by kernel_rfl)) (fun _ _ _ h => h) (Or.inl ⟨by rfl,?_⟩) ?_ ?_;rotate_left
      ·intro w';go_simp;with_reducible rfl
      rotate_left
      ·simp only [Act.put,U,V,Z,i64_w,i32_w];rfl
      refine pure_ (i:=12) (N:=some 68) (v:=?_) (a':=?_) #[Y,Y,Y,J,J,Y,Y,Y,Y,Y,Y,J,Y,J,J,J,J,J,J,J,J,J,J,J,J,J,J,J] rfl rfl (any_of HT_.out (by kernel_rfl)) (fun _ _ _ h => h) (Or.inl ⟨by rfl,?_⟩) ?_ ?_;rotate_left
      ·intro w';go_simp;with_reducible rfl
      rotate_left
      ·simp only [Act.put,U,V,Z,i64_w,i32_w];rfl
      refine take_ (i:=3) (N:=some 59) (v:=?_) (a':=?_) #[Y,Y,Y,Y,J,Y,Y,Y,Y,Y,Y,J,Y,J,J,J,J,J,J,J,J,J,J,J,J,J,J,J] rfl rfl (take_ofW HT_.out HW_.out (by kernel_rfl)) (fun _ _ _ h => h) (Or.inl ⟨by rfl,?_⟩) hHeld ?_ ?_;rotate_left
      ·rintro w' ⟨s0,s1⟩;go_simp;with_reducible rfl
      rotate_left
      ·simp only [Act.put,U,V,Z,i64_w,i32_w];rfl
      refine pure_ (i:=4) (N:=some 60) (v:=?_) (a':=?_) #[Y,Y,Y,Y,Y,Y,Y,Y,Y,Y,Y,J,Y,J,J,J,J,J,J,J,J,J,J,J,J,J,J,J] rfl rfl (any_of HT_.out (by kernel_rfl)) (fun _ _ _ h => h) (Or.inl ⟨by rfl,?_⟩) ?_ ?_;rotate_left
      ·intro w';go_simp;with_reducible rfl
      rotate_left
      ·simp only [Act.put,U,V,Z,i64_w,i32_w];rfl
      refine take_ (i:=11) (N:=some 67) (v:=?_) (a':=?_) #[Y,Y,Y,Y,Y,Y,Y,Y,Y,Y,Y,Y,Y,J,J,J,J,J,J,J,J,J,J,J,J,J,J,J] rfl rfl (take_ofW HT_.out HW_.out (by kernel_rfl)) (fun _ _ _ h => h) (Or.inl ⟨by rfl,?_⟩) hHeld ?_ ?_;rotate_left
      ·rintro w' ⟨s0,s1⟩;go_simp;with_reducible rfl
      rotate_left
      ·simp only [Act.put,U,V,Z,i64_w,i32_w];rfl
      refine pure_ (i:=13) (N:=some 69) (v:=?_) (a':=?_) #[Y,Y,Y,Y,Y,Y,Y,Y,Y,Y,Y,Y,Y,Y,J,J,J,J,J,J,J,J,J,J,J,J,J,J] rfl rfl (any_of HT_.out (by kernel_rfl)) (fun _ _ _ h => h) (Or.inl ⟨by rfl,?_⟩) ?_ ?_;rotate_left
      ·intro w';go_simp;with_reducible rfl
      rotate_left
      ·simp only [Act.put,U,V,Z,i64_w,i32_w];rfl
      refine pure_ (i:=14) (N:=some 70) (v:=?_) (a':=?_) #[Y,Y,Y,Y,Y,Y,Y,Y,Y,Y,Y,Y,Y,Y,Y,J,J,J,J,J,J,J,J,J,J,J,J,J] rfl rfl (any_of HT_.out (by kernel_rfl)) (fun _ _ _ h => h) (Or.inl ⟨by rfl,?_⟩) ?_ ?_;rotate_left
      ·intro w';go_simp;with_reducible rfl
      rotate_left
      ·simp only [Act.put,U,V,Z,i64_w,i32_w];rfl
      refine pure_ (i:=15) (N:=some 71) (v:=?_) (a':=?_) #[Y,Y,Y,Y,Y,Y,Y,Y,Y,Y,Y,Y,Y,Y,Y,Y,J,J,J,J,J,J,J,J,J,J,J,J] rfl rfl (any_of HT_.out (by kernel_rfl)) (fun _ _ _ h => h) (Or.inl ⟨by rfl,?_⟩) ?_ ?_;rotate_left
      ·intro w';go_simp;with_reducible rfl
      rotate_left
      ·simp only [Act.put,U,V,Z,i64_w,i32_w];rfl
      refine pure_ (i:=16) (N:=some 72) (v:=?_) (a':=?_) #[Y,Y,Y,Y,Y,Y,Y,Y,Y,Y,Y,Y,Y,Y,Y,Y,Y,J,J,J,J,J,J,J,J,J,J,J] rfl rfl (any_of HT_.out (by kernel_rfl)) (fun _ _ _ h => h) (Or.inl ⟨by rfl,?_⟩) ?_ ?_;rotate_left
      ·intro w';go_simp;with_reducible rfl
      rotate_left
      ·simp only [Act.put,U,V,Z,i64_w,i32_w];rfl
      refine pure_ (i:=17) (N:=some 73) (v:=undef) (a':=?_) #[Y,Y,Y,Y,Y,Y,Y,Y,Y,Y,Y,Y,Y,Y,Y,Y,Y,Y,J,J,J,J,J,J,J,J,J,J] rfl rfl (any_of HT_.out (by kernel_rfl)) (fun _ _ _ h => h) (Or.inr ⟨by rfl,rfl⟩) ?_ ?_;rotate_left
      ·simp only [Act.put,U,V,Z,i64_w,i32_w];rfl
      refine pure_ (i:=18) (N:=some 74) (v:=undef) (a':=?_) #[Y,Y,Y,Y,Y,Y,Y,Y,Y,Y,Y,Y,Y,Y,Y,Y,Y,Y,Y,J,J,J,J,J,J,J,J,J] rfl rfl (any_of HT_.out (by kernel_rfl)) (fun _ _ _ h => h) (Or.inr ⟨by rfl,rfl⟩) ?_ ?_;rotate_left
      ·simp only [Act.put,U,V,Z,i64_w,i32_w];rfl
      refine pure_ (i:=19) (N:=some 75) (v:=undef) (a':=?_) #[Y,Y,Y,Y,Y,Y,Y,Y,Y,Y,Y,Y,Y,Y,Y,Y,Y,Y,Y,Y,J,J,J,J,J,J,J,J] rfl rfl (any_of HT_.out (by kernel_rfl)) (fun _ _ _ h => h) (Or.inr ⟨by rfl,rfl⟩) ?_ ?_;rotate_left
      ·simp only [Act.put,U,V,Z,i64_w,i32_w];rfl
      refine pure_ (i:=20) (N:=some 76) (v:=undef) (a':=?_) #[Y,Y,Y,Y,Y,Y,Y,Y,Y,Y,Y,Y,Y,Y,Y,Y,Y,Y,Y,Y,Y,J,J,J,J,J,J,J] rfl rfl (any_of HT_.out (by kernel_rfl)) (fun _ _ _ h => h) (Or.inr ⟨by rfl,rfl⟩) ?_ ?_;rotate_left
      ·simp only [Act.put,U,V,Z,i64_w,i32_w];rfl
      refine pure_ (i:=21) (N:=some 77) (v:=undef) (a':=?_) #[Y,Y,Y,Y,Y,Y,Y,Y,Y,Y,Y,Y,Y,Y,Y,Y,Y,Y,Y,Y,Y,Y,J,J,J,J,J,J] rfl rfl (any_of HT_.out (by kernel_rfl)) (fun _ _ _ h => h) (Or.inr ⟨by rfl,rfl⟩) ?_ ?_;rotate_left
      ·simp only [Act.put,U,V,Z,i64_w,i32_w];rfl
      refine pure_ (i:=22) (N:=some 78) (v:=undef) (a':=?_) #[Y,Y,Y,Y,Y,Y,Y,Y,Y,Y,Y,Y,Y,Y,Y,Y,Y,Y,Y,Y,Y,Y,Y,J,J,J,J,J] rfl rfl (any_of HT_.out (by kernel_rfl)) (fun _ _ _ h => h) (Or.inr ⟨by rfl,rfl⟩) ?_ ?_;rotate_left
      ·simp only [Act.put,U,V,Z,i64_w,i32_w];rfl
      refine pure_ (i:=23) (N:=some 79) (v:=undef) (a':=?_) #[Y,Y,Y,Y,Y,Y,Y,Y,Y,Y,Y,Y,Y,Y,Y,Y,Y,Y,Y,Y,Y,Y,Y,Y,J,J,J,J] rfl rfl (any_of HT_.out (by kernel_rfl)) (fun _ _ _ h => h) (Or.inr ⟨by rfl,rfl⟩) ?_ ?_;rotate_left
      ·simp only [Act.put,U,V,Z,i64_w,i32_w];rfl
      refine pure_ (i:=24) (N:=some 80) (v:=undef) (a':=?_) #[Y,Y,Y,Y,Y,Y,Y,Y,Y,Y,Y,Y,Y,Y,Y,Y,Y,Y,Y,Y,Y,Y,Y,Y,Y,J,J,J] rfl rfl (any_of HT_.out (by kernel_rfl)) (fun _ _ _ h => h) (Or.inr ⟨by rfl,rfl⟩) ?_ ?_;rotate_left
      ·simp only [Act.put,U,V,Z,i64_w,i32_w];rfl
      refine pure_ (i:=25) (N:=some 81) (v:=undef) (a':=?_) #[Y,Y,Y,Y,Y,Y,Y,Y,Y,Y,Y,Y,Y,Y,Y,Y,Y,Y,Y,Y,Y,Y,Y,Y,Y,Y,J,J] rfl rfl (any_of HT_.out (by kernel_rfl)) (fun _ _ _ h => h) (Or.inr ⟨by rfl,rfl⟩) ?_ ?_;rotate_left
      ·simp only [Act.put,U,V,Z,i64_w,i32_w];rfl
      refine pure_ (i:=26) (N:=some 82) (v:=undef) (a':=?_) #[Y,Y,Y,Y,Y,Y,Y,Y,Y,Y,Y,Y,Y,Y,Y,Y,Y,Y,Y,Y,Y,Y,Y,Y,Y,Y,Y,J] rfl rfl (any_of HT_.out (by kernel_rfl)) (fun _ _ _ h => h) (Or.inr ⟨by rfl,rfl⟩) ?_ ?_;rotate_left
      ·simp only [Act.put,U,V,Z,i64_w,i32_w];rfl
      refine pure_ (i:=27) (N:=some 83) (v:=?_) (a':=?_) #[Y,Y,Y,Y,Y,Y,Y,Y,Y,Y,Y,Y,Y,Y,Y,Y,Y,Y,Y,Y,Y,Y,Y,Y,Y,Y,Y,Y] rfl rfl (any_of HT_.out (by kernel_rfl)) (fun _ _ _ h => h) (Or.inl ⟨by rfl,?_⟩) ?_ ?_;rotate_left
      ·intro w';go_simp;with_reducible rfl
      rotate_left
      ·simp only [Act.put,U,V,Z,i64_w,i32_w];rfl
      refine done_ (done_of HT_.out (by kernel_rfl)) ?_
      try go_wp2
      go_ret;exact ⟨by first | rfl | (simp [errW_none,errW_some] <;> rfl) | (simp [*,errW_none,errW_some] <;> rfl),by repeat (first | (with_reducible first | exact HB.out | apply below_alloc | apply pw_below_drewN | apply below_drew1 | refine below_set ?_ q0.out | refine below_set ?_ r2.out) | exact HB.out)⟩
     rw [if_neg c38] at H;have c38b0 : ((decide ((rd t639 x6_2) > 0)) != ((rd t655 0) == x6_2)) = false:=by simpa using c38
     (try (have c38b1 : decide ((decide ((rd t639 x6_2) > 0)) = ((rd t655 0) == x6_2)) = true:=by simpa using c38))
     (try (have c38b2 : ((decide ((rd t639 x6_2) > 0)) == ((rd t655 0) == x6_2)) = true:=by simpa using c38))
     clear c38
     by_cases c48 : (rd t639 x6_2) > (wrap64 (t634 * t634))
     case pos =>
      rw [if_pos c48] at H;have c48b0 : decide ((wrap64 (t634 * t634)) < (rd t639 x6_2)) = true:=decide_eq_true c48;clear c48;obtain rfl:=Option.some.inj H;obtain ⟨Ao49,co49,eo49⟩:=Kd.R_slice HO_4.out;subst eo49;have hcz50_0 : wr.cell? ⟨p7,0,none⟩ = some (.int .i64 t634):=(blk_cell p4.out 0).trans rfl;have hcz50_1 : wr.cell? ⟨p7,1,none⟩ = some (.slice Ao9 t635.length co9):=(blk_cell p4.out 1).trans rfl;have hfz50_0:=blk_frozen p4.out 0;have hfz50_1:=blk_frozen p4.out 1;have p653 : 0 ≤ (x6_2 : Int):=of_decide_eq_true (by first | (with_reducible assumption) | assumption);have q653 : x6_2 < (t635.length : Int):=of_decide_eq_true (by first | (with_reducible assumption) | assumption);obtain ⟨q2,e653,r5,r6,r7,r8,r9⟩:=at_T34 (Kd.R_reads' p0.out).2.2 x6_2 p653 q653;cases e653;replace p653:=eq_true p653;replace q653:=eq_true q653
      try go_wp2_with (first | ((with_reducible refine gate_dst (N:=7) rfl ?_); (try (refine gate_guard (by rfl) ?_; dsimp only)); refine box_event ?hg (N:=7) ?hd (cs:=#[.int .i64 0,.int .i64 0,.int .i64 0,.int .i64 0,.int .i64 0]) (t:=34) ?hr ?_; (case hd => rfl); (case hg => rfl); (case hr => first | (go_simp; done) | (go_simp; rfl)); intro p3 hg w51 hbox hb; have n0_:=zx (Kd.R_below (by exact HO_4.out) hb); have n1_:=zx (Kd.R_below (by exact HO_5.out) hb); have n2_:=zx (Kd.R_below (Kd.R_elderB (by exact p0.out) p3 (Nat.le_of_eq hg.symm)) hb); have n3_:=zx (blk_below (g:=p7) (o:=.cells #[.int .i64 t634,.slice (some q2) t635.length co9] 25 (0,0)) (by exact p4.out) hb); have n4_:=zx (below_step (by repeat (first | (with_reducible first | exact HB.out | apply below_alloc | apply pw_below_drewN | apply below_drew1 | refine below_set ?_ q0.out) | exact HB.out)) hb); have n5_:=zx (hbox); have n6_:=zx ((by rw [hg]; exact (below_size (by repeat (first | (with_reducible first | exact HB.out | apply below_alloc | apply pw_below_drewN | apply below_drew1 | refine below_set ?_ q0.out) | exact HB.out))) : w.heap.size ≤ p3)); have n7_:=zx ((by rw [hg]; exact (below_size (by repeat (first | (with_reducible first | exact HB.out | apply below_alloc | apply pw_below_drewN | apply below_drew1 | refine below_set ?_ q0.out) | exact HB.out))) : w.heap.size ≤ p3)); have n8_:=zx ((by rw [hg]; exact Nat.ne_of_lt (blk_lt (g:=p7) (o:=.cells #[.int .i64 t634,.slice (some q2) t635.length co9] 25 (0,0)) (by exact p4.out)) : p7 ≠ p3)); have n9_:=zx ((by rw [hg]; exact Nat.ne_of_gt (blk_lt (g:=p7) (o:=.cells #[.int .i64 t634,.slice (some q2) t635.length co9] 25 (0,0)) (by exact p4.out)) : p3 ≠ p7)); clear HO_4; clear HO_5; clear p0; clear p4; clear HB; have HO_4:=n0_; have HO_5:=n1_; have p0:=n2_; have p4:=n3_; have HB:=n4_; have p5:=n5_; have u6:=n6_; have r2:=n7_; have p8:=n8_; have q8:=n9_; clear n0_ n1_ n2_ n3_ n4_ n5_ n6_ n7_ n8_ n9_; clear hb hbox hg; have hnb52:=q8.out; have hnc52:=p8.out; have hcz53_0 : w51.cell? ⟨p3,0,none⟩ = some (.int .i64 0):=(blk_cell p5.out 0).trans rfl; have hcz53_1 : w51.cell? ⟨p3,1,none⟩ = some (.int .i64 0):=(blk_cell p5.out 1).trans rfl; have hcz53_2 : w51.cell? ⟨p3,2,none⟩ = some (.int .i64 0):=(blk_cell p5.out 2).trans rfl; have hcz53_3 : w51.cell? ⟨p3,3,none⟩ = some (.int .i64 0):=(blk_cell p5.out 3).trans rfl; have hcz53_4 : w51.cell? ⟨p3,4,none⟩ = some (.int .i64 0):=(blk_cell p5.out 4).trans rfl; have hfz53_0:=blk_frozen p5.out 0; have hfz53_1:=blk_frozen p5.out 1; have hfz53_2:=blk_frozen p5.out 2; have hfz53_3:=blk_frozen p5.out 3; have hfz53_4:=blk_frozen p5.out 4; have hcz54_0 : w51.cell? ⟨p7,0,none⟩ = some (.int .i64 t634):=(blk_cell p4.out 0).trans rfl; have hcz54_1 : w51.cell? ⟨p7,1,none⟩ = some (.slice (some q2) t635.length co9):=(blk_cell p4.out 1).trans rfl; have hfz54_0:=blk_frozen p4.out 0; have hfz54_1:=blk_frozen p4.out 1) | ((with_reducible refine gate_callee (f:=18) rfl ?_); refine goesL_ (some 53) rfl rfl Try.func18 (by kernel_rfl) rfl #[.agg #[.int .i64 t634,.slice (some q2) t635.length co9],.int .i64 ((rd_T34 t635 x6_2).f0),.int .i64 ((rd_T34 t635 x6_2).f1)] rfl (by (try simp only [List.map_toArray,List.map_cons,List.map_nil]); first | done | rfl | (simp only [List.length_drop,List.length_take]; rfl)) ?_; (with_reducible refine (impl_NearWalk.calls k2 t634 _ _ t635 ((rd_T34 t635 x6_2).f0) ((rd_T34 t635 x6_2).f1) t655 t658 _ ?side1 ?side2 A35.out).mono ?_); (case side1 => refine (Kd.R_reads' (e:=34) (base:=w.heap.size) (ok:=fun k_ => (True ∧ k_ ≠ p3)) (n:=t635.length) (c:=co9) ?_).2.2; exact (by exact (Kd.R_mono (Kd.R_far (p:=⟨p3,4,none⟩) (Kd.R_far (p:=⟨p3,3,none⟩) (Kd.R_far (p:=⟨p3,2,none⟩) (Kd.R_far (p:=⟨p3,1,none⟩) (Kd.R_far (p:=⟨p3,0,none⟩) (Kd.R_mono p0.out (fun k_ hk => (⟨hk,hk.2⟩ : _ ∧ k_ ≠ p3))) (fun _ hk => hk.2) (.int .i64 ((rd_T34 t635 x6_2).f0))) (fun _ hk => hk.2) (.int .i64 ((rd_T34 t635 x6_2).f1))) (fun _ hk => hk.2) (.int .i64 ((rd_T34 t635 x6_2).f2))) (fun _ hk => hk.2) (.int .i64 ((rd_T34 t635 x6_2).f3))) (fun _ hk => hk.2) (.int .i64 ((rd_T34 t635 x6_2).f4))) (fun _ h_ => h_.1)))); (case side2 => exact (Kd.R_reads' p0.out).2.1); rintro e w55 ⟨v656,rfl,ho0,hb⟩; refine ⟨_,rfl,?_⟩; have n0_:=zx (Kd.R_elder' (by exact (Kd.R_mono (Kd.R_far (p:=⟨p3,4,none⟩) (Kd.R_far (p:=⟨p3,3,none⟩) (Kd.R_far (p:=⟨p3,2,none⟩) (Kd.R_far (p:=⟨p3,1,none⟩) (Kd.R_far (p:=⟨p3,0,none⟩) (Kd.R_types HO_4.out p5.out (by decide)) (fun _ hk => hk.2) (.int .i64 ((rd_T34 t635 x6_2).f0))) (fun _ hk => hk.2) (.int .i64 ((rd_T34 t635 x6_2).f1))) (fun _ hk => hk.2) (.int .i64 ((rd_T34 t635 x6_2).f2))) (fun _ hk => hk.2) (.int .i64 ((rd_T34 t635 x6_2).f3))) (fun _ hk => hk.2) (.int .i64 ((rd_T34 t635 x6_2).f4))) (fun _ h_ => h_.1))) (Kd.R_base ho0) hb); have n1_:=zx (Kd.R_elder' (by exact (Kd.R_mono (Kd.R_far (p:=⟨p3,4,none⟩) (Kd.R_far (p:=⟨p3,3,none⟩) (Kd.R_far (p:=⟨p3,2,none⟩) (Kd.R_far (p:=⟨p3,1,none⟩) (Kd.R_far (p:=⟨p3,0,none⟩) (Kd.R_types HO_5.out p5.out (by decide)) (fun _ hk => hk.2) (.int .i64 ((rd_T34 t635 x6_2).f0))) (fun _ hk => hk.2) (.int .i64 ((rd_T34 t635 x6_2).f1))) (fun _ hk => hk.2) (.int .i64 ((rd_T34 t635 x6_2).f2))) (fun _ hk => hk.2) (.int .i64 ((rd_T34 t635 x6_2).f3))) (fun _ hk => hk.2) (.int .i64 ((rd_T34 t635 x6_2).f4))) (fun _ h_ => h_.1))) (Kd.R_base ho0) hb); have n2_:=zx (Kd.R_below (by exact (Kd.R_mono (Kd.R_far (p:=⟨p3,4,none⟩) (Kd.R_far (p:=⟨p3,3,none⟩) (Kd.R_far (p:=⟨p3,2,none⟩) (Kd.R_far (p:=⟨p3,1,none⟩) (Kd.R_far (p:=⟨p3,0,none⟩) (Kd.R_mono p0.out (fun k_ hk => (⟨hk,hk.2⟩ : _ ∧ k_ ≠ p3))) (fun _ hk => hk.2) (.int .i64 ((rd_T34 t635 x6_2).f0))) (fun _ hk => hk.2) (.int .i64 ((rd_T34 t635 x6_2).f1))) (fun _ hk => hk.2) (.int .i64 ((rd_T34 t635 x6_2).f2))) (fun _ hk => hk.2) (.int .i64 ((rd_T34 t635 x6_2).f3))) (fun _ hk => hk.2) (.int .i64 ((rd_T34 t635 x6_2).f4))) (fun _ h_ => h_.1))) hb); have n3_:=zx (Kd.R_lower (Kd.R_new' (Kd.R_new' ho0 (Kd.R_lt (by exact (Kd.R_mono (Kd.R_far (p:=⟨p3,4,none⟩) (Kd.R_far (p:=⟨p3,3,none⟩) (Kd.R_far (p:=⟨p3,2,none⟩) (Kd.R_far (p:=⟨p3,1,none⟩) (Kd.R_far (p:=⟨p3,0,none⟩) (Kd.R_types HO_4.out p5.out (by decide)) (fun _ hk => hk.2) (.int .i64 ((rd_T34 t635 x6_2).f0))) (fun _ hk => hk.2) (.int .i64 ((rd_T34 t635 x6_2).f1))) (fun _ hk => hk.2) (.int .i64 ((rd_T34 t635 x6_2).f2))) (fun _ hk => hk.2) (.int .i64 ((rd_T34 t635 x6_2).f3))) (fun _ hk => hk.2) (.int .i64 ((rd_T34 t635 x6_2).f4))) (fun _ h_ => h_.1))))) (Kd.R_lt (by exact (Kd.R_mono (Kd.R_far (p:=⟨p3,4,none⟩) (Kd.R_far (p:=⟨p3,3,none⟩) (Kd.R_far (p:=⟨p3,2,none⟩) (Kd.R_far (p:=⟨p3,1,none⟩) (Kd.R_far (p:=⟨p3,0,none⟩) (Kd.R_types HO_5.out p5.out (by decide)) (fun _ hk => hk.2) (.int .i64 ((rd_T34 t635 x6_2).f0))) (fun _ hk => hk.2) (.int .i64 ((rd_T34 t635 x6_2).f1))) (fun _ hk => hk.2) (.int .i64 ((rd_T34 t635 x6_2).f2))) (fun _ hk => hk.2) (.int .i64 ((rd_T34 t635 x6_2).f3))) (fun _ hk => hk.2) (.int .i64 ((rd_T34 t635 x6_2).f4))) (fun _ h_ => h_.1))))) (below_size (by repeat (first | (with_reducible first | exact HB.out | apply below_alloc | apply pw_below_drewN | apply below_drew1 | refine below_set ?_ q0.out | refine below_set ?_ r2.out) | exact HB.out)))); have n4_:=zx (blk_below (g:=p7) (o:=.cells #[.int .i64 t634,.slice (some q2) t635.length co9] 25 (0,0)) (by refine blk_far ?_ p8.out _; refine blk_far ?_ p8.out _; refine blk_far ?_ p8.out _; refine blk_far ?_ p8.out _; refine blk_far ?_ p8.out _; exact p4.out) hb); have n5_:=zx (blk_below (g:=p3) (o:=.cells #[.int .i64 ((rd_T34 t635 x6_2).f0),.int .i64 ((rd_T34 t635 x6_2).f1),.int .i64 ((rd_T34 t635 x6_2).f2),.int .i64 ((rd_T34 t635 x6_2).f3),.int .i64 ((rd_T34 t635 x6_2).f4)] 34 (0,0)) (by refine blk_put (cs:=#[.int .i64 ((rd_T34 t635 x6_2).f0),.int .i64 ((rd_T34 t635 x6_2).f1),.int .i64 ((rd_T34 t635 x6_2).f2),.int .i64 ((rd_T34 t635 x6_2).f3),.int .i64 0]) ?_ 4 _ rfl; refine blk_put (cs:=#[.int .i64 ((rd_T34 t635 x6_2).f0),.int .i64 ((rd_T34 t635 x6_2).f1),.int .i64 ((rd_T34 t635 x6_2).f2),.int .i64 0,.int .i64 0]) ?_ 3 _ rfl; refine blk_put (cs:=#[.int .i64 ((rd_T34 t635 x6_2).f0),.int .i64 ((rd_T34 t635 x6_2).f1),.int .i64 0,.int .i64 0,.int .i64 0]) ?_ 2 _ rfl; refine blk_put (cs:=#[.int .i64 ((rd_T34 t635 x6_2).f0),.int .i64 0,.int .i64 0,.int .i64 0,.int .i64 0]) ?_ 1 _ rfl; refine blk_put (cs:=#[.int .i64 0,.int .i64 0,.int .i64 0,.int .i64 0,.int .i64 0]) ?_ 0 _ rfl; exact p5.out) hb); have n6_:=zx (below_step (by repeat (first | (with_reducible first | exact HB.out | apply below_alloc | apply pw_below_drewN | apply below_drew1 | refine below_set ?_ q0.out | refine below_set ?_ r2.out) | exact HB.out)) hb); clear HO_4; clear HO_5; clear p0; clear p4; clear p5; clear HB; have HO_4:=n0_; have HO_5:=n1_; have p0:=n2_; have HO657:=n3_; have p4:=n4_; have p5:=n5_; have HB:=n6_; clear n0_ n1_ n2_ n3_ n4_ n5_ n6_; (try clear hb); (try clear hb2); (try clear hk); (try clear hi); (try clear ho0)))
      have n0_:=zx (Kd.R_drew HO_4.out);have n1_:=zx (Kd.R_drew HO_5.out);have n2_:=zx (Kd.R_drew p0.out);have n3_:=zx (Kd.R_drew HO657.out);have n4_:=zx (blk_drew p4.out);have n5_:=zx (blk_drew p5.out);have n6_:=zx (below_drew1 HB.out);clear HO_4;clear HO_5;clear p0;clear HO657;clear p4;clear p5;clear HB;have HO_4:=n0_;have HO_5:=n1_;have p0:=n2_;have HO657:=n3_;have p4:=n4_;have p5:=n5_;have HB:=n6_;clear n0_ n1_ n2_ n3_ n4_ n5_ n6_;have p659 : 0 ≤ (x6_2 : Int):=of_decide_eq_true (by first | (with_reducible assumption) | assumption);have q659 : x6_2 < (t639.length : Int):=of_decide_eq_true (by first | (with_reducible assumption) | assumption);obtain ⟨r4,e659,q7⟩:=Kd.at_int (Kd.R_reads' HO_4.out).2.2 x6_2 p659 q659;cases e659;replace p659:=eq_true p659;replace q659:=eq_true q659;obtain ⟨Ao57,co57,eo57⟩:=Kd.R_slice HO657.out
      (first | subst eo57 | (injection eo57 with f1_ f2_ f3_; have f4_:=f1_.symm; have f5_:=f3_.symm; clear f1_ f2_ f3_; subst f4_; subst f5_))
      have p660 : 0 ≤ (0 : Int):=(by omega)
      have q660 : 0 < (t655.length : Int):=of_decide_eq_true (by first | (with_reducible assumption) | assumption);obtain ⟨u7,e660,r1⟩:=Kd.at_int (Kd.R_reads' HO657.out).2.2 0 p660 q660;cases e660;have qi660 : (0 < t655.length) = True:=eq_true (by omega)
      (try rw [show ((0 : Int)).toNat = 0 from rfl] at r1)
      (try rw [Addr.add_zero'] at r1)
      replace p660:=eq_true p660;replace q660:=eq_true q660;have p661 : 0 ≤ (x6_2 : Int):=of_decide_eq_true (by first | (with_reducible assumption) | assumption);have q661 : x6_2 < (t639.length : Int):=of_decide_eq_true (by first | (with_reducible assumption) | assumption);obtain ⟨b2,e661,t1⟩:=Kd.at_int (Kd.R_reads' HO_4.out).2.2 x6_2 p661 q661;obtain rfl : r4 = b2:=(by injection e661)
      replace p661:=eq_true p661;replace q661:=eq_true q661;refine start_ (n:=28) (S:=fun w' => w'.cell? ⟨p7,0,none⟩ = some (.int .i64 t634) ∧ w'.cell? ⟨p7,1,none⟩ = some (.slice (some q2) t635.length co9) ∧ w'.cell? (r4.add (x6_2).toNat) = some (.int .i64 (rd t639 x6_2)) ∧ w'.cell? u7 = some (.int .i64 (rd t655 0)) ∧ w'.cell? (r4.add (x6_2).toNat) = some (.int .i64 (rd t639 x6_2))) (ds:=[]) #[J,J,J,J,J,J,J,J,J,J,J,J,J,J,J,J,J,J,J,J,J,J,J,J,J,J,J,J] (by kernel_rfl) rfl rfl ⟨(blk_cell p4.out 0).trans rfl,(blk_cell p4.out 1).trans rfl,q7,r1,t1⟩ (fun hHeld => ?_); refine with_tabW laws_FnHubArcs.tab13 laws_FnHubArcs.bits13 (fun HT_ HW_ => ?_);generalize w55.drew = w56 at HO_4 HO_5 p0 HO657 p4 p5 HB q7 r1 t1 hHeld ⊢;refine pure_ (i:=0) (N:=some 56) (v:=?_) (a':=?_) #[Y,J,J,J,J,J,J,J,J,J,J,J,J,J,J,J,J,J,J,J,J,J,J,J,J,J,J,J] rfl rfl (any_of HT_.out (by kernel_rfl)) (fun _ _ _ h => h) (Or.inl ⟨by rfl,?_⟩) ?_ ?_;rotate_left
      ·intro w';go_simp;with_reducible rfl
      rotate_left
      ·simp only [Act.put,U,V,Z,i64_w,i32_w];rfl
      refine pure_ (i:=1) (N:=some 57) (v:=?_) (a':=?_) #[Y,Y,J,J,J,J,J,J,J,J,J,J,J,J,J,J,J,J,J,J,J,J,J,J,J,J,J,J] rfl rfl (any_of HT_.out (by kernel_rfl)) (fun _ _ _ h => h) (Or.inl ⟨by rfl,?_⟩) ?_ ?_;rotate_left
      ·intro w';go_simp;with_reducible rfl
      rotate_left
      ·simp only [Act.put,U,V,Z,i64_w,i32_w];rfl
      refine pure_ (i:=2) (N:=some 58) (v:=?_) (a':=?_) #[Y,Y,Y,J,J,J,J,J,J,J,J,J,J,J,J,J,J,J,J,J,J,J,J,J,J,J,J,J] rfl rfl (any_of HT_.out (by kernel_rfl)) (fun _ _ _ h => h) (Or.inl ⟨by rfl,?_⟩) ?_ ?_;rotate_left
      ·intro w';go_simp;with_reducible rfl
      rotate_left
      ·simp only [Act.put,U,V,Z,i64_w,i32_w];rfl
      refine pure_ (i:=5) (N:=some 61) (v:=?_) (a':=?_) #[Y,Y,Y,J,J,Y,J,J,J,J,J,J,J,J,J,J,J,J,J,J,J,J,J,J,J,J,J,J] rfl rfl (any_of HT_.out (by kernel_rfl)) (fun _ _ _ h => h) (Or.inl ⟨by rfl,?_⟩) ?_ ?_;rotate_left
      ·intro w';go_simp;with_reducible rfl
      rotate_left
      ·simp only [Act.put,U,V,Z,i64_w,i32_w];rfl
      refine pure_ (i:=6) (N:=some 62) (v:=?_) (a':=?_) #[Y,Y,Y,J,J,Y,Y,J,J,J,J,J,J,J,J,J,J,J,J,J,J,J,J,J,J,J,J,J] rfl rfl (any_of HT_.out (by kernel_rfl)) (fun _ _ _ h => h) (Or.inl ⟨by rfl,?_⟩) ?_ ?_;rotate_left
      ·intro w';go_simp;with_reducible rfl
      rotate_left
      ·simp only [Act.put,U,V,Z,i64_w,i32_w];rfl
      refine pure_ (i:=7) (N:=some 63) (v:=?_) (a':=?_) #[Y,Y,Y,J,J,Y,Y,Y,J,J,J,J,J,J,J,J,J,J,J,J,J,J,J,J,J,J,J,J] rfl rfl (any_of HT_.out (by kernel_rfl)) (fun _ _ _ h => h) (Or.inl ⟨by rfl,?_⟩) ?_ ?_;rotate_left
      ·intro w';go_simp;with_reducible rfl
      rotate_left
      ·simp only [Act.put,U,V,Z,i64_w,i32_w];rfl
      refine pure_ (i:=8) (N:=some 64) (v:=?_) (a':=?_) #[Y,Y,Y,J,J,Y,Y,Y,Y,J,J,J,J,J,J,J,J,J,J,J,J,J,J,J,J,J,J,J] rfl rfl (any_of HT_.out (by kernel_rfl)) (fun _ _ _ h => h) (Or.inl ⟨by rfl,?_⟩) ?_ ?_;rotate_left
      ·intro w';go_simp;with_reducible rfl
      rotate_left
      ·simp only [Act.put,U,V,Z,i64_w,i32_w];rfl
      refine pure_ (i:=9) (N:=some 65) (v:=?_) (a':=?_) #[Y,Y,Y,J,J,Y,Y,Y,Y,Y,J,J,J,J,J,J,J,J,J,J,J,J,J,J,J,J,J,J] rfl rfl (any_of HT_.out (by kernel_rfl)) (fun _ _ _ h => h) (Or.inl ⟨by rfl,?_⟩) ?_ ?_;rotate_left
      ·intro w';go_simp;with_reducible rfl
      rotate_left
      ·simp only [Act.put,U,V,Z,i64_w,i32_w];rfl
      refine pure_ (i:=10) (N:=some 66) (v:=?_) (a':=?_) #[Y,Y,Y,J,J,Y,Y,Y,Y,Y,Y,J,J,J,J,J,J,J,J,J,J,J,J,J,J,J,J,J] rfl rfl (any_of HT_.out (by kernel_rfl)) (fun _ _ _ h => h) (Or.inl ⟨by rfl,?_⟩) ?_ ?_;rotate_left
      ·intro w';go_simp;with_reducible rfl
      rotate_left
      ·simp only [Act.put,U,V,Z,i64_w,i32_w];rfl
      refine pure_ (i:=12) (N:=some 68) (v:=?_) (a':=?_) #[Y,Y,Y,J,J,Y,Y,Y,Y,Y,Y,J,Y,J,J,J,J,J,J,J,J,J,J,J,J,J,J,J] rfl rfl (any_of HT_.out (by kernel_rfl)) (fun _ _ _ h => h) (Or.inl ⟨by rfl,?_⟩) ?_ ?_;rotate_left
      ·intro w';go_simp;with_reducible rfl
      rotate_left
      ·simp only [Act.put,U,V,Z,i64_w,i32_w];rfl
      refine take_ (i:=3) (N:=some 59) (v:=?_) (a':=?_) #[Y,Y,Y,Y,J,Y,Y,Y,Y,Y,Y,J,Y,J,J,J,J,J,J,J,J,J,J,J,J,J,J,J] rfl rfl (take_ofW HT_.out HW_.out (by kernel_rfl)) (fun _ _ _ h => h) (Or.inl ⟨by rfl,?_⟩) hHeld ?_ ?_;rotate_left
      ·rintro w' ⟨s0,s1,s2,s3,s4⟩;go_simp;with_reducible rfl
      rotate_left
      ·simp only [Act.put,U,V,Z,i64_w,i32_w];rfl
      refine pure_ (i:=4) (N:=some 60) (v:=?_) (a':=?_) #[Y,Y,Y,Y,Y,Y,Y,Y,Y,Y,Y,J,Y,J,J,J,J,J,J,J,J,J,J,J,J,J,J,J] rfl rfl (any_of HT_.out (by kernel_rfl)) (fun _ _ _ h => h) (Or.inl ⟨by rfl,?_⟩) ?_ ?_;rotate_left
      ·intro w';go_simp;with_reducible rfl
      rotate_left
      ·simp only [Act.put,U,V,Z,i64_w,i32_w];rfl
      refine take_ (i:=11) (N:=some 67) (v:=?_) (a':=?_) #[Y,Y,Y,Y,Y,Y,Y,Y,Y,Y,Y,Y,Y,J,J,J,J,J,J,J,J,J,J,J,J,J,J,J] rfl rfl (take_ofW HT_.out HW_.out (by kernel_rfl)) (fun _ _ _ h => h) (Or.inl ⟨by rfl,?_⟩) hHeld ?_ ?_;rotate_left
      ·rintro w' ⟨s0,s1,s2,s3,s4⟩;go_simp;with_reducible rfl
      rotate_left
      ·simp only [Act.put,U,V,Z,i64_w,i32_w];rfl
      refine pure_ (i:=13) (N:=some 69) (v:=?_) (a':=?_) #[Y,Y,Y,Y,Y,Y,Y,Y,Y,Y,Y,Y,Y,Y,J,J,J,J,J,J,J,J,J,J,J,J,J,J] rfl rfl (any_of HT_.out (by kernel_rfl)) (fun _ _ _ h => h) (Or.inl ⟨by rfl,?_⟩) ?_ ?_;rotate_left
      ·intro w';go_simp;with_reducible rfl
      rotate_left
      ·simp only [Act.put,U,V,Z,i64_w,i32_w];rfl
      refine pure_ (i:=14) (N:=some 70) (v:=?_) (a':=?_) #[Y,Y,Y,Y,Y,Y,Y,Y,Y,Y,Y,Y,Y,Y,Y,J,J,J,J,J,J,J,J,J,J,J,J,J] rfl rfl (any_of HT_.out (by kernel_rfl)) (fun _ _ _ h => h) (Or.inl ⟨by rfl,?_⟩) ?_ ?_;rotate_left
      ·intro w';go_simp;with_reducible rfl
      rotate_left
      ·simp only [Act.put,U,V,Z,i64_w,i32_w];rfl
      refine pure_ (i:=15) (N:=some 71) (v:=?_) (a':=?_) #[Y,Y,Y,Y,Y,Y,Y,Y,Y,Y,Y,Y,Y,Y,Y,Y,J,J,J,J,J,J,J,J,J,J,J,J] rfl rfl (any_of HT_.out (by kernel_rfl)) (fun _ _ _ h => h) (Or.inl ⟨by rfl,?_⟩) ?_ ?_;rotate_left
      ·intro w';go_simp;with_reducible rfl
      rotate_left
      ·simp only [Act.put,U,V,Z,i64_w,i32_w];rfl
      refine pure_ (i:=16) (N:=some 72) (v:=?_) (a':=?_) #[Y,Y,Y,Y,Y,Y,Y,Y,Y,Y,Y,Y,Y,Y,Y,Y,Y,J,J,J,J,J,J,J,J,J,J,J] rfl rfl (any_of HT_.out (by kernel_rfl)) (fun _ _ _ h => h) (Or.inl ⟨by rfl,?_⟩) ?_ ?_;rotate_left
      ·intro w';go_simp;with_reducible rfl
      rotate_left
      ·simp only [Act.put,U,V,Z,i64_w,i32_w];rfl
      refine pure_ (i:=17) (N:=some 73) (v:=?_) (a':=?_) #[Y,Y,Y,Y,Y,Y,Y,Y,Y,Y,Y,Y,Y,Y,Y,Y,Y,Y,J,J,J,J,J,J,J,J,J,J] rfl rfl (any_of HT_.out (by kernel_rfl)) (fun _ _ _ h => h) (Or.inl ⟨by rfl,?_⟩) ?_ ?_;rotate_left
      ·intro w';go_simp;with_reducible rfl
      rotate_left
      ·simp only [Act.put,U,V,Z,i64_w,i32_w];rfl
      refine pure_ (i:=18) (N:=some 74) (v:=?_) (a':=?_) #[Y,Y,Y,Y,Y,Y,Y,Y,Y,Y,Y,Y,Y,Y,Y,Y,Y,Y,Y,J,J,J,J,J,J,J,J,J] rfl rfl (any_of HT_.out (by kernel_rfl)) (fun _ _ _ h => h) (Or.inl ⟨by rfl,?_⟩) ?_ ?_;rotate_left
      ·intro w';go_simp;with_reducible rfl
      rotate_left
      ·simp only [Act.put,U,V,Z,i64_w,i32_w];rfl
      refine pure_ (i:=19) (N:=some 75) (v:=?_) (a':=?_) #[Y,Y,Y,Y,Y,Y,Y,Y,Y,Y,Y,Y,Y,Y,Y,Y,Y,Y,Y,Y,J,J,J,J,J,J,J,J] rfl rfl (any_of HT_.out (by kernel_rfl)) (fun _ _ _ h => h) (Or.inl ⟨by rfl,?_⟩) ?_ ?_;rotate_left
      ·intro w';go_simp;with_reducible rfl
      rotate_left
      ·simp only [Act.put,U,V,Z,i64_w,i32_w];rfl
      refine pure_ (i:=21) (N:=some 77) (v:=?_) (a':=?_) #[Y,Y,Y,Y,Y,Y,Y,Y,Y,Y,Y,Y,Y,Y,Y,Y,Y,Y,Y,Y,J,Y,J,J,J,J,J,J] rfl rfl (any_of HT_.out (by kernel_rfl)) (fun _ _ _ h => h) (Or.inl ⟨by rfl,?_⟩) ?_ ?_;rotate_left
      ·intro w';go_simp;with_reducible rfl
      rotate_left
      ·simp only [Act.put,U,V,Z,i64_w,i32_w];rfl
      refine pure_ (i:=23) (N:=some 79) (v:=?_) (a':=?_) #[Y,Y,Y,Y,Y,Y,Y,Y,Y,Y,Y,Y,Y,Y,Y,Y,Y,Y,Y,Y,J,Y,J,Y,J,J,J,J] rfl rfl (any_of HT_.out (by kernel_rfl)) (fun _ _ _ h => h) (Or.inl ⟨by rfl,?_⟩) ?_ ?_;rotate_left
      ·intro w';go_simp;with_reducible rfl
      rotate_left
      ·simp only [Act.put,U,V,Z,i64_w,i32_w];rfl
      refine take_ (i:=20) (N:=some 76) (v:=?_) (a':=?_) #[Y,Y,Y,Y,Y,Y,Y,Y,Y,Y,Y,Y,Y,Y,Y,Y,Y,Y,Y,Y,Y,Y,J,Y,J,J,J,J] rfl rfl (take_ofW HT_.out HW_.out (by kernel_rfl)) (fun _ _ _ h => h) (Or.inl ⟨by rfl,?_⟩) hHeld ?_ ?_;rotate_left
      ·rintro w' ⟨s0,s1,s2,s3,s4⟩;go_simp;with_reducible rfl
      rotate_left
      ·simp only [Act.put,U,V,Z,i64_w,i32_w];rfl
      refine take_ (i:=22) (N:=some 78) (v:=?_) (a':=?_) #[Y,Y,Y,Y,Y,Y,Y,Y,Y,Y,Y,Y,Y,Y,Y,Y,Y,Y,Y,Y,Y,Y,Y,Y,J,J,J,J] rfl rfl (take_ofW HT_.out HW_.out (by kernel_rfl)) (fun _ _ _ h => h) (Or.inl ⟨by rfl,?_⟩) hHeld ?_ ?_;rotate_left
      ·rintro w' ⟨s0,s1,s2,s3,s4⟩;go_simp;with_reducible rfl
      rotate_left
      ·simp only [Act.put,U,V,Z,i64_w,i32_w];rfl
      refine take_ (i:=24) (N:=some 80) (v:=?_) (a':=?_) #[Y,Y,Y,Y,Y,Y,Y,Y,Y,Y,Y,Y,Y,Y,Y,Y,Y,Y,Y,Y,Y,Y,Y,Y,Y,J,J,J] rfl rfl (take_ofW HT_.out HW_.out (by kernel_rfl)) (fun _ _ _ h => h) (Or.inl ⟨by rfl,?_⟩) hHeld ?_ ?_;rotate_left
      ·rintro w' ⟨s0,s1,s2,s3,s4⟩;go_simp;with_reducible rfl
      rotate_left
      ·simp only [Act.put,U,V,Z,i64_w,i32_w];rfl
      refine pure_ (i:=25) (N:=some 81) (v:=?_) (a':=?_) #[Y,Y,Y,Y,Y,Y,Y,Y,Y,Y,Y,Y,Y,Y,Y,Y,Y,Y,Y,Y,Y,Y,Y,Y,Y,Y,J,J] rfl rfl (any_of HT_.out (by kernel_rfl)) (fun _ _ _ h => h) (Or.inl ⟨by rfl,?_⟩) ?_ ?_;rotate_left
      ·intro w';go_simp;with_reducible rfl
      rotate_left
      ·simp only [Act.put,U,V,Z,i64_w,i32_w];rfl
      refine pure_ (i:=26) (N:=some 82) (v:=?_) (a':=?_) #[Y,Y,Y,Y,Y,Y,Y,Y,Y,Y,Y,Y,Y,Y,Y,Y,Y,Y,Y,Y,Y,Y,Y,Y,Y,Y,Y,J] rfl rfl (any_of HT_.out (by kernel_rfl)) (fun _ _ _ h => h) (Or.inl ⟨by rfl,?_⟩) ?_ ?_;rotate_left
      ·intro w';go_simp;with_reducible rfl
      rotate_left
      ·simp only [Act.put,U,V,Z,i64_w,i32_w];rfl
      refine pure_ (i:=27) (N:=some 83) (v:=?_) (a':=?_) #[Y,Y,Y,Y,Y,Y,Y,Y,Y,Y,Y,Y,Y,Y,Y,Y,Y,Y,Y,Y,Y,Y,Y,Y,Y,Y,Y,Y] rfl rfl (any_of HT_.out (by kernel_rfl)) (fun _ _ _ h => h) (Or.inl ⟨by rfl,?_⟩) ?_ ?_;rotate_left
      ·intro w';go_simp;with_reducible rfl
      rotate_left
      ·simp only [Act.put,U,V,Z,i64_w,i32_w];rfl
      refine done_ (done_of HT_.out (by kernel_rfl)) ?_
      try go_wp2
      go_ret;exact ⟨by first | rfl | (simp [errW_none,errW_some] <;> rfl) | (simp [*,errW_none,errW_some] <;> rfl),by repeat (first | (with_reducible first | exact HB.out | apply below_alloc | apply pw_below_drewN | apply below_drew1 | refine below_set ?_ q0.out | refine below_set ?_ r2.out) | exact HB.out)⟩
     rw [if_neg c48] at H;have c48b0 : decide ((wrap64 (t634 * t634)) < (rd t639 x6_2)) = false:=decide_eq_false c48;clear c48;have H':=zx H;clear H;obtain ⟨Ao58,co58,eo58⟩:=Kd.R_slice HO_4.out;subst eo58;have hcz59_0 : wr.cell? ⟨p7,0,none⟩ = some (.int .i64 t634):=(blk_cell p4.out 0).trans rfl;have hcz59_1 : wr.cell? ⟨p7,1,none⟩ = some (.slice Ao9 t635.length co9):=(blk_cell p4.out 1).trans rfl;have hfz59_0:=blk_frozen p4.out 0;have hfz59_1:=blk_frozen p4.out 1;have p653 : 0 ≤ (x6_2 : Int):=of_decide_eq_true (by first | (with_reducible assumption) | assumption);have q653 : x6_2 < (t635.length : Int):=of_decide_eq_true (by first | (with_reducible assumption) | assumption);obtain ⟨q2,e653,r5,r6,r7,r8,r9⟩:=at_T34 (Kd.R_reads' p0.out).2.2 x6_2 p653 q653;cases e653;replace p653:=eq_true p653;replace q653:=eq_true q653
     try go_wp2_with (first | ((with_reducible refine gate_dst (N:=7) rfl ?_); (try (refine gate_guard (by rfl) ?_; dsimp only)); refine box_event ?hg (N:=7) ?hd (cs:=#[.int .i64 0,.int .i64 0,.int .i64 0,.int .i64 0,.int .i64 0]) (t:=34) ?hr ?_; (case hd => rfl); (case hg => rfl); (case hr => first | (go_simp; done) | (go_simp; rfl)); intro p3 hg w60 hbox hb; have n0_:=zx (Kd.R_below (by exact HO_4.out) hb); have n1_:=zx (Kd.R_below (by exact HO_5.out) hb); have n2_:=zx (Kd.R_below (Kd.R_elderB (by exact p0.out) p3 (Nat.le_of_eq hg.symm)) hb); have n3_:=zx (blk_below (g:=p7) (o:=.cells #[.int .i64 t634,.slice (some q2) t635.length co9] 25 (0,0)) (by exact p4.out) hb); have n4_:=zx (below_step (by repeat (first | (with_reducible first | exact HB.out | apply below_alloc | apply pw_below_drewN | apply below_drew1 | refine below_set ?_ q0.out) | exact HB.out)) hb); have n5_:=zx (hbox); have n6_:=zx ((by rw [hg]; exact (below_size (by repeat (first | (with_reducible first | exact HB.out | apply below_alloc | apply pw_below_drewN | apply below_drew1 | refine below_set ?_ q0.out) | exact HB.out))) : w.heap.size ≤ p3)); have n7_:=zx ((by rw [hg]; exact (below_size (by repeat (first | (with_reducible first | exact HB.out | apply below_alloc | apply pw_below_drewN | apply below_drew1 | refine below_set ?_ q0.out) | exact HB.out))) : w.heap.size ≤ p3)); have n8_:=zx ((by rw [hg]; exact Nat.ne_of_lt (blk_lt (g:=p7) (o:=.cells #[.int .i64 t634,.slice (some q2) t635.length co9] 25 (0,0)) (by exact p4.out)) : p7 ≠ p3)); have n9_:=zx ((by rw [hg]; exact Nat.ne_of_gt (blk_lt (g:=p7) (o:=.cells #[.int .i64 t634,.slice (some q2) t635.length co9] 25 (0,0)) (by exact p4.out)) : p3 ≠ p7)); clear HO_4; clear HO_5; clear p0; clear p4; clear HB; have HO_4:=n0_; have HO_5:=n1_; have p0:=n2_; have p4:=n3_; have HB:=n4_; have p5:=n5_; have u6:=n6_; have r2:=n7_; have p8:=n8_; have q8:=n9_; clear n0_ n1_ n2_ n3_ n4_ n5_ n6_ n7_ n8_ n9_; clear hb hbox hg; have hnb61:=q8.out; have hnc61:=p8.out; have hcz62_0 : w60.cell? ⟨p3,0,none⟩ = some (.int .i64 0):=(blk_cell p5.out 0).trans rfl; have hcz62_1 : w60.cell? ⟨p3,1,none⟩ = some (.int .i64 0):=(blk_cell p5.out 1).trans rfl; have hcz62_2 : w60.cell? ⟨p3,2,none⟩ = some (.int .i64 0):=(blk_cell p5.out 2).trans rfl; have hcz62_3 : w60.cell? ⟨p3,3,none⟩ = some (.int .i64 0):=(blk_cell p5.out 3).trans rfl; have hcz62_4 : w60.cell? ⟨p3,4,none⟩ = some (.int .i64 0):=(blk_cell p5.out 4).trans rfl; have hfz62_0:=blk_frozen p5.out 0; have hfz62_1:=blk_frozen p5.out 1; have hfz62_2:=blk_frozen p5.out 2; have hfz62_3:=blk_frozen p5.out 3; have hfz62_4:=blk_frozen p5.out 4; have hcz63_0 : w60.cell? ⟨p7,0,none⟩ = some (.int .i64 t634):=(blk_cell p4.out 0).trans rfl; have hcz63_1 : w60.cell? ⟨p7,1,none⟩ = some (.slice (some q2) t635.length co9):=(blk_cell p4.out 1).trans rfl; have hfz63_0:=blk_frozen p4.out 0; have hfz63_1:=blk_frozen p4.out 1) | ((with_reducible refine gate_callee (f:=18) rfl ?_); refine goesL_ (some 53) rfl rfl Try.func18 (by kernel_rfl) rfl #[.agg #[.int .i64 t634,.slice (some q2) t635.length co9],.int .i64 ((rd_T34 t635 x6_2).f0),.int .i64 ((rd_T34 t635 x6_2).f1)] rfl (by (try simp only [List.map_toArray,List.map_cons,List.map_nil]); first | done | rfl | (simp only [List.length_drop,List.length_take]; rfl)) ?_; (with_reducible refine (impl_NearWalk.calls k2 t634 _ _ t635 ((rd_T34 t635 x6_2).f0) ((rd_T34 t635 x6_2).f1) t655 t658 _ ?side1 ?side2 A35.out).mono ?_); (case side1 => refine (Kd.R_reads' (e:=34) (base:=w.heap.size) (ok:=fun k_ => (True ∧ k_ ≠ p3)) (n:=t635.length) (c:=co9) ?_).2.2; exact (by exact (Kd.R_mono (Kd.R_far (p:=⟨p3,4,none⟩) (Kd.R_far (p:=⟨p3,3,none⟩) (Kd.R_far (p:=⟨p3,2,none⟩) (Kd.R_far (p:=⟨p3,1,none⟩) (Kd.R_far (p:=⟨p3,0,none⟩) (Kd.R_mono p0.out (fun k_ hk => (⟨hk,hk.2⟩ : _ ∧ k_ ≠ p3))) (fun _ hk => hk.2) (.int .i64 ((rd_T34 t635 x6_2).f0))) (fun _ hk => hk.2) (.int .i64 ((rd_T34 t635 x6_2).f1))) (fun _ hk => hk.2) (.int .i64 ((rd_T34 t635 x6_2).f2))) (fun _ hk => hk.2) (.int .i64 ((rd_T34 t635 x6_2).f3))) (fun _ hk => hk.2) (.int .i64 ((rd_T34 t635 x6_2).f4))) (fun _ h_ => h_.1)))); (case side2 => exact (Kd.R_reads' p0.out).2.1); rintro e w64 ⟨v656,rfl,ho0,hb⟩; refine ⟨_,rfl,?_⟩; have n0_:=zx (Kd.R_elder' (by exact (Kd.R_mono (Kd.R_far (p:=⟨p3,4,none⟩) (Kd.R_far (p:=⟨p3,3,none⟩) (Kd.R_far (p:=⟨p3,2,none⟩) (Kd.R_far (p:=⟨p3,1,none⟩) (Kd.R_far (p:=⟨p3,0,none⟩) (Kd.R_types HO_4.out p5.out (by decide)) (fun _ hk => hk.2) (.int .i64 ((rd_T34 t635 x6_2).f0))) (fun _ hk => hk.2) (.int .i64 ((rd_T34 t635 x6_2).f1))) (fun _ hk => hk.2) (.int .i64 ((rd_T34 t635 x6_2).f2))) (fun _ hk => hk.2) (.int .i64 ((rd_T34 t635 x6_2).f3))) (fun _ hk => hk.2) (.int .i64 ((rd_T34 t635 x6_2).f4))) (fun _ h_ => h_.1))) (Kd.R_base ho0) hb); have n1_:=zx (Kd.R_elder' (by exact (Kd.R_mono (Kd.R_far (p:=⟨p3,4,none⟩) (Kd.R_far (p:=⟨p3,3,none⟩) (Kd.R_far (p:=⟨p3,2,none⟩) (Kd.R_far (p:=⟨p3,1,none⟩) (Kd.R_far (p:=⟨p3,0,none⟩) (Kd.R_types HO_5.out p5.out (by decide)) (fun _ hk => hk.2) (.int .i64 ((rd_T34 t635 x6_2).f0))) (fun _ hk => hk.2) (.int .i64 ((rd_T34 t635 x6_2).f1))) (fun _ hk => hk.2) (.int .i64 ((rd_T34 t635 x6_2).f2))) (fun _ hk => hk.2) (.int .i64 ((rd_T34 t635 x6_2).f3))) (fun _ hk => hk.2) (.int .i64 ((rd_T34 t635 x6_2).f4))) (fun _ h_ => h_.1))) (Kd.R_base ho0) hb); have n2_:=zx (Kd.R_below (by exact (Kd.R_mono (Kd.R_far (p:=⟨p3,4,none⟩) (Kd.R_far (p:=⟨p3,3,none⟩) (Kd.R_far (p:=⟨p3,2,none⟩) (Kd.R_far (p:=⟨p3,1,none⟩) (Kd.R_far (p:=⟨p3,0,none⟩) (Kd.R_mono p0.out (fun k_ hk => (⟨hk,hk.2⟩ : _ ∧ k_ ≠ p3))) (fun _ hk => hk.2) (.int .i64 ((rd_T34 t635 x6_2).f0))) (fun _ hk => hk.2) (.int .i64 ((rd_T34 t635 x6_2).f1))) (fun _ hk => hk.2) (.int .i64 ((rd_T34 t635 x6_2).f2))) (fun _ hk => hk.2) (.int .i64 ((rd_T34 t635 x6_2).f3))) (fun _ hk => hk.2) (.int .i64 ((rd_T34 t635 x6_2).f4))) (fun _ h_ => h_.1))) hb); have n3_:=zx (Kd.R_lower (Kd.R_new' (Kd.R_new' ho0 (Kd.R_lt (by exact (Kd.R_mono (Kd.R_far (p:=⟨p3,4,none⟩) (Kd.R_far (p:=⟨p3,3,none⟩) (Kd.R_far (p:=⟨p3,2,none⟩) (Kd.R_far (p:=⟨p3,1,none⟩) (Kd.R_far (p:=⟨p3,0,none⟩) (Kd.R_types HO_4.out p5.out (by decide)) (fun _ hk => hk.2) (.int .i64 ((rd_T34 t635 x6_2).f0))) (fun _ hk => hk.2) (.int .i64 ((rd_T34 t635 x6_2).f1))) (fun _ hk => hk.2) (.int .i64 ((rd_T34 t635 x6_2).f2))) (fun _ hk => hk.2) (.int .i64 ((rd_T34 t635 x6_2).f3))) (fun _ hk => hk.2) (.int .i64 ((rd_T34 t635 x6_2).f4))) (fun _ h_ => h_.1))))) (Kd.R_lt (by exact (Kd.R_mono (Kd.R_far (p:=⟨p3,4,none⟩) (Kd.R_far (p:=⟨p3,3,none⟩) (Kd.R_far (p:=⟨p3,2,none⟩) (Kd.R_far (p:=⟨p3,1,none⟩) (Kd.R_far (p:=⟨p3,0,none⟩) (Kd.R_types HO_5.out p5.out (by decide)) (fun _ hk => hk.2) (.int .i64 ((rd_T34 t635 x6_2).f0))) (fun _ hk => hk.2) (.int .i64 ((rd_T34 t635 x6_2).f1))) (fun _ hk => hk.2) (.int .i64 ((rd_T34 t635 x6_2).f2))) (fun _ hk => hk.2) (.int .i64 ((rd_T34 t635 x6_2).f3))) (fun _ hk => hk.2) (.int .i64 ((rd_T34 t635 x6_2).f4))) (fun _ h_ => h_.1))))) (below_size (by repeat (first | (with_reducible first | exact HB.out | apply below_alloc | apply pw_below_drewN | apply below_drew1 | refine below_set ?_ q0.out | refine below_set ?_ r2.out) | exact HB.out)))); have n4_:=zx (blk_below (g:=p7) (o:=.cells #[.int .i64 t634,.slice (some q2) t635.length co9] 25 (0,0)) (by refine blk_far ?_ p8.out _; refine blk_far ?_ p8.out _; refine blk_far ?_ p8.out _; refine blk_far ?_ p8.out _; refine blk_far ?_ p8.out _; exact p4.out) hb); have n5_:=zx (blk_below (g:=p3) (o:=.cells #[.int .i64 ((rd_T34 t635 x6_2).f0),.int .i64 ((rd_T34 t635 x6_2).f1),.int .i64 ((rd_T34 t635 x6_2).f2),.int .i64 ((rd_T34 t635 x6_2).f3),.int .i64 ((rd_T34 t635 x6_2).f4)] 34 (0,0)) (by refine blk_put (cs:=#[.int .i64 ((rd_T34 t635 x6_2).f0),.int .i64 ((rd_T34 t635 x6_2).f1),.int .i64 ((rd_T34 t635 x6_2).f2),.int .i64 ((rd_T34 t635 x6_2).f3),.int .i64 0]) ?_ 4 _ rfl; refine blk_put (cs:=#[.int .i64 ((rd_T34 t635 x6_2).f0),.int .i64 ((rd_T34 t635 x6_2).f1),.int .i64 ((rd_T34 t635 x6_2).f2),.int .i64 0,.int .i64 0]) ?_ 3 _ rfl; refine blk_put (cs:=#[.int .i64 ((rd_T34 t635 x6_2).f0),.int .i64 ((rd_T34 t635 x6_2).f1),.int .i64 0,.int .i64 0,.int .i64 0]) ?_ 2 _ rfl; refine blk_put (cs:=#[.int .i64 ((rd_T34 t635 x6_2).f0),.int .i64 0,.int .i64 0,.int .i64 0,.int .i64 0]) ?_ 1 _ rfl; refine blk_put (cs:=#[.int .i64 0,.int .i64 0,.int .i64 0,.int .i64 0,.int .i64 0]) ?_ 0 _ rfl; exact p5.out) hb); have n6_:=zx (below_step (by repeat (first | (with_reducible first | exact HB.out | apply below_alloc | apply pw_below_drewN | apply below_drew1 | refine below_set ?_ q0.out | refine below_set ?_ r2.out) | exact HB.out)) hb); clear HO_4; clear HO_5; clear p0; clear p4; clear p5; clear HB; have HO_4:=n0_; have HO_5:=n1_; have p0:=n2_; have HO657:=n3_; have p4:=n4_; have p5:=n5_; have HB:=n6_; clear n0_ n1_ n2_ n3_ n4_ n5_ n6_; (try clear hb); (try clear hb2); (try clear hk); (try clear hi); (try clear ho0)))
     have n0_:=zx (Kd.R_drew HO_4.out);have n1_:=zx (Kd.R_drew HO_5.out);have n2_:=zx (Kd.R_drew p0.out);have n3_:=zx (Kd.R_drew HO657.out);have n4_:=zx (blk_drew p4.out);have n5_:=zx (blk_drew p5.out);have n6_:=zx (below_drew1 HB.out);clear HO_4;clear HO_5;clear p0;clear HO657;clear p4;clear p5;clear HB;have HO_4:=n0_;have HO_5:=n1_;have p0:=n2_;have HO657:=n3_;have p4:=n4_;have p5:=n5_;have HB:=n6_;clear n0_ n1_ n2_ n3_ n4_ n5_ n6_;have p659 : 0 ≤ (x6_2 : Int):=of_decide_eq_true (by first | (with_reducible assumption) | assumption);have q659 : x6_2 < (t639.length : Int):=of_decide_eq_true (by first | (with_reducible assumption) | assumption);obtain ⟨r4,e659,q7⟩:=Kd.at_int (Kd.R_reads' HO_4.out).2.2 x6_2 p659 q659;cases e659;replace p659:=eq_true p659;replace q659:=eq_true q659;obtain ⟨Ao66,co66,eo66⟩:=Kd.R_slice HO657.out
     (first | subst eo66 | (injection eo66 with f1_ f2_ f3_; have f4_:=f1_.symm; have f5_:=f3_.symm; clear f1_ f2_ f3_; subst f4_; subst f5_))
     have p660 : 0 ≤ (0 : Int):=(by omega)
     have q660 : 0 < (t655.length : Int):=of_decide_eq_true (by first | (with_reducible assumption) | assumption);obtain ⟨u7,e660,r1⟩:=Kd.at_int (Kd.R_reads' HO657.out).2.2 0 p660 q660;cases e660;have qi660 : (0 < t655.length) = True:=eq_true (by omega)
     (try rw [show ((0 : Int)).toNat = 0 from rfl] at r1)
     (try rw [Addr.add_zero'] at r1)
     replace p660:=eq_true p660;replace q660:=eq_true q660;have p661 : 0 ≤ (x6_2 : Int):=of_decide_eq_true (by first | (with_reducible assumption) | assumption);have q661 : x6_2 < (t639.length : Int):=of_decide_eq_true (by first | (with_reducible assumption) | assumption);obtain ⟨b2,e661,t1⟩:=Kd.at_int (Kd.R_reads' HO_4.out).2.2 x6_2 p661 q661;obtain rfl : r4 = b2:=(by injection e661)
     replace p661:=eq_true p661;replace q661:=eq_true q661;refine start_ (n:=28) (S:=fun w' => w'.cell? ⟨p7,0,none⟩ = some (.int .i64 t634) ∧ w'.cell? ⟨p7,1,none⟩ = some (.slice (some q2) t635.length co9) ∧ w'.cell? (r4.add (x6_2).toNat) = some (.int .i64 (rd t639 x6_2)) ∧ w'.cell? u7 = some (.int .i64 (rd t655 0)) ∧ w'.cell? (r4.add (x6_2).toNat) = some (.int .i64 (rd t639 x6_2))) (ds:=[]) #[J,J,J,J,J,J,J,J,J,J,J,J,J,J,J,J,J,J,J,J,J,J,J,J,J,J,J,J] (by kernel_rfl) rfl rfl ⟨(blk_cell p4.out 0).trans rfl,(blk_cell p4.out 1).trans rfl,q7,r1,t1⟩ (fun hHeld => ?_); refine with_tabW laws_FnHubArcs.tab13 laws_FnHubArcs.bits13 (fun HT_ HW_ => ?_);generalize w64.drew = w65 at HO_4 HO_5 p0 HO657 p4 p5 HB q7 r1 t1 hHeld ⊢;refine pure_ (i:=0) (N:=some 56) (v:=?_) (a':=?_) #[Y,J,J,J,J,J,J,J,J,J,J,J,J,J,J,J,J,J,J,J,J,J,J,J,J,J,J,J] rfl rfl (any_of HT_.out (by kernel_rfl)) (fun _ _ _ h => h) (Or.inl ⟨by rfl,?_⟩) ?_ ?_;rotate_left
     ·intro w';go_simp;with_reducible rfl
     rotate_left
     ·simp only [Act.put,U,V,Z,i64_w,i32_w];rfl
     refine pure_ (i:=1) (N:=some 57) (v:=?_) (a':=?_) #[Y,Y,J,J,J,J,J,J,J,J,J,J,J,J,J,J,J,J,J,J,J,J,J,J,J,J,J,J] rfl rfl (any_of HT_.out (by kernel_rfl)) (fun _ _ _ h => h) (Or.inl ⟨by rfl,?_⟩) ?_ ?_;rotate_left
     ·intro w';go_simp;with_reducible rfl
     rotate_left
     ·simp only [Act.put,U,V,Z,i64_w,i32_w];rfl
     refine pure_ (i:=2) (N:=some 58) (v:=?_) (a':=?_) #[Y,Y,Y,J,J,J,J,J,J,J,J,J,J,J,J,J,J,J,J,J,J,J,J,J,J,J,J,J] rfl rfl (any_of HT_.out (by kernel_rfl)) (fun _ _ _ h => h) (Or.inl ⟨by rfl,?_⟩) ?_ ?_;rotate_left
     ·intro w';go_simp;with_reducible rfl
     rotate_left
     ·simp only [Act.put,U,V,Z,i64_w,i32_w];rfl
     refine pure_ (i:=5) (N:=some 61) (v:=?_) (a':=?_) #[Y,Y,Y,J,J,Y,J,J,J,J,J,J,J,J,J,J,J,J,J,J,J,J,J,J,J,J,J,J] rfl rfl (any_of HT_.out (by kernel_rfl)) (fun _ _ _ h => h) (Or.inl ⟨by rfl,?_⟩) ?_ ?_;rotate_left
     ·intro w';go_simp;with_reducible rfl
     rotate_left
     ·simp only [Act.put,U,V,Z,i64_w,i32_w];rfl
     refine pure_ (i:=6) (N:=some 62) (v:=?_) (a':=?_) #[Y,Y,Y,J,J,Y,Y,J,J,J,J,J,J,J,J,J,J,J,J,J,J,J,J,J,J,J,J,J] rfl rfl (any_of HT_.out (by kernel_rfl)) (fun _ _ _ h => h) (Or.inl ⟨by rfl,?_⟩) ?_ ?_;rotate_left
     ·intro w';go_simp;with_reducible rfl
     rotate_left
     ·simp only [Act.put,U,V,Z,i64_w,i32_w];rfl
     refine pure_ (i:=7) (N:=some 63) (v:=?_) (a':=?_) #[Y,Y,Y,J,J,Y,Y,Y,J,J,J,J,J,J,J,J,J,J,J,J,J,J,J,J,J,J,J,J] rfl rfl (any_of HT_.out (by kernel_rfl)) (fun _ _ _ h => h) (Or.inl ⟨by rfl,?_⟩) ?_ ?_;rotate_left
     ·intro w';go_simp;with_reducible rfl
     rotate_left
     ·simp only [Act.put,U,V,Z,i64_w,i32_w];rfl
     refine pure_ (i:=8) (N:=some 64) (v:=?_) (a':=?_) #[Y,Y,Y,J,J,Y,Y,Y,Y,J,J,J,J,J,J,J,J,J,J,J,J,J,J,J,J,J,J,J] rfl rfl (any_of HT_.out (by kernel_rfl)) (fun _ _ _ h => h) (Or.inl ⟨by rfl,?_⟩) ?_ ?_;rotate_left
     ·intro w';go_simp;with_reducible rfl
     rotate_left
     ·simp only [Act.put,U,V,Z,i64_w,i32_w];rfl
     refine pure_ (i:=9) (N:=some 65) (v:=?_) (a':=?_) #[Y,Y,Y,J,J,Y,Y,Y,Y,Y,J,J,J,J,J,J,J,J,J,J,J,J,J,J,J,J,J,J] rfl rfl (any_of HT_.out (by kernel_rfl)) (fun _ _ _ h => h) (Or.inl ⟨by rfl,?_⟩) ?_ ?_;rotate_left
     ·intro w';go_simp;with_reducible rfl
     rotate_left
     ·simp only [Act.put,U,V,Z,i64_w,i32_w];rfl
     refine pure_ (i:=10) (N:=some 66) (v:=?_) (a':=?_) #[Y,Y,Y,J,J,Y,Y,Y,Y,Y,Y,J,J,J,J,J,J,J,J,J,J,J,J,J,J,J,J,J] rfl rfl (any_of HT_.out (by kernel_rfl)) (fun _ _ _ h => h) (Or.inl ⟨by rfl,?_⟩) ?_ ?_;rotate_left
     ·intro w';go_simp;with_reducible rfl
     rotate_left
     ·simp only [Act.put,U,V,Z,i64_w,i32_w];rfl
     refine pure_ (i:=12) (N:=some 68) (v:=?_) (a':=?_) #[Y,Y,Y,J,J,Y,Y,Y,Y,Y,Y,J,Y,J,J,J,J,J,J,J,J,J,J,J,J,J,J,J] rfl rfl (any_of HT_.out (by kernel_rfl)) (fun _ _ _ h => h) (Or.inl ⟨by rfl,?_⟩) ?_ ?_;rotate_left
     ·intro w';go_simp;with_reducible rfl
     rotate_left
     ·simp only [Act.put,U,V,Z,i64_w,i32_w];rfl
     refine take_ (i:=3) (N:=some 59) (v:=?_) (a':=?_) #[Y,Y,Y,Y,J,Y,Y,Y,Y,Y,Y,J,Y,J,J,J,J,J,J,J,J,J,J,J,J,J,J,J] rfl rfl (take_ofW HT_.out HW_.out (by kernel_rfl)) (fun _ _ _ h => h) (Or.inl ⟨by rfl,?_⟩) hHeld ?_ ?_;rotate_left
     ·rintro w' ⟨s0,s1,s2,s3,s4⟩;go_simp;with_reducible rfl
     rotate_left
     ·simp only [Act.put,U,V,Z,i64_w,i32_w];rfl
     refine pure_ (i:=4) (N:=some 60) (v:=?_) (a':=?_) #[Y,Y,Y,Y,Y,Y,Y,Y,Y,Y,Y,J,Y,J,J,J,J,J,J,J,J,J,J,J,J,J,J,J] rfl rfl (any_of HT_.out (by kernel_rfl)) (fun _ _ _ h => h) (Or.inl ⟨by rfl,?_⟩) ?_ ?_;rotate_left
     ·intro w';go_simp;with_reducible rfl
     rotate_left
     ·simp only [Act.put,U,V,Z,i64_w,i32_w];rfl
     refine take_ (i:=11) (N:=some 67) (v:=?_) (a':=?_) #[Y,Y,Y,Y,Y,Y,Y,Y,Y,Y,Y,Y,Y,J,J,J,J,J,J,J,J,J,J,J,J,J,J,J] rfl rfl (take_ofW HT_.out HW_.out (by kernel_rfl)) (fun _ _ _ h => h) (Or.inl ⟨by rfl,?_⟩) hHeld ?_ ?_;rotate_left
     ·rintro w' ⟨s0,s1,s2,s3,s4⟩;go_simp;with_reducible rfl
     rotate_left
     ·simp only [Act.put,U,V,Z,i64_w,i32_w];rfl
     refine pure_ (i:=13) (N:=some 69) (v:=?_) (a':=?_) #[Y,Y,Y,Y,Y,Y,Y,Y,Y,Y,Y,Y,Y,Y,J,J,J,J,J,J,J,J,J,J,J,J,J,J] rfl rfl (any_of HT_.out (by kernel_rfl)) (fun _ _ _ h => h) (Or.inl ⟨by rfl,?_⟩) ?_ ?_;rotate_left
     ·intro w';go_simp;with_reducible rfl
     rotate_left
     ·simp only [Act.put,U,V,Z,i64_w,i32_w];rfl
     refine pure_ (i:=14) (N:=some 70) (v:=?_) (a':=?_) #[Y,Y,Y,Y,Y,Y,Y,Y,Y,Y,Y,Y,Y,Y,Y,J,J,J,J,J,J,J,J,J,J,J,J,J] rfl rfl (any_of HT_.out (by kernel_rfl)) (fun _ _ _ h => h) (Or.inl ⟨by rfl,?_⟩) ?_ ?_;rotate_left
     ·intro w';go_simp;with_reducible rfl
     rotate_left
     ·simp only [Act.put,U,V,Z,i64_w,i32_w];rfl
     refine pure_ (i:=15) (N:=some 71) (v:=?_) (a':=?_) #[Y,Y,Y,Y,Y,Y,Y,Y,Y,Y,Y,Y,Y,Y,Y,Y,J,J,J,J,J,J,J,J,J,J,J,J] rfl rfl (any_of HT_.out (by kernel_rfl)) (fun _ _ _ h => h) (Or.inl ⟨by rfl,?_⟩) ?_ ?_;rotate_left
     ·intro w';go_simp;with_reducible rfl
     rotate_left
     ·simp only [Act.put,U,V,Z,i64_w,i32_w];rfl
     refine pure_ (i:=16) (N:=some 72) (v:=?_) (a':=?_) #[Y,Y,Y,Y,Y,Y,Y,Y,Y,Y,Y,Y,Y,Y,Y,Y,Y,J,J,J,J,J,J,J,J,J,J,J] rfl rfl (any_of HT_.out (by kernel_rfl)) (fun _ _ _ h => h) (Or.inl ⟨by rfl,?_⟩) ?_ ?_;rotate_left
     ·intro w';go_simp;with_reducible rfl
     rotate_left
     ·simp only [Act.put,U,V,Z,i64_w,i32_w];rfl
     refine pure_ (i:=17) (N:=some 73) (v:=?_) (a':=?_) #[Y,Y,Y,Y,Y,Y,Y,Y,Y,Y,Y,Y,Y,Y,Y,Y,Y,Y,J,J,J,J,J,J,J,J,J,J] rfl rfl (any_of HT_.out (by kernel_rfl)) (fun _ _ _ h => h) (Or.inl ⟨by rfl,?_⟩) ?_ ?_;rotate_left
     ·intro w';go_simp;with_reducible rfl
     rotate_left
     ·simp only [Act.put,U,V,Z,i64_w,i32_w];rfl
     refine pure_ (i:=18) (N:=some 74) (v:=?_) (a':=?_) #[Y,Y,Y,Y,Y,Y,Y,Y,Y,Y,Y,Y,Y,Y,Y,Y,Y,Y,Y,J,J,J,J,J,J,J,J,J] rfl rfl (any_of HT_.out (by kernel_rfl)) (fun _ _ _ h => h) (Or.inl ⟨by rfl,?_⟩) ?_ ?_;rotate_left
     ·intro w';go_simp;with_reducible rfl
     rotate_left
     ·simp only [Act.put,U,V,Z,i64_w,i32_w];rfl
     refine pure_ (i:=19) (N:=some 75) (v:=?_) (a':=?_) #[Y,Y,Y,Y,Y,Y,Y,Y,Y,Y,Y,Y,Y,Y,Y,Y,Y,Y,Y,Y,J,J,J,J,J,J,J,J] rfl rfl (any_of HT_.out (by kernel_rfl)) (fun _ _ _ h => h) (Or.inl ⟨by rfl,?_⟩) ?_ ?_;rotate_left
     ·intro w';go_simp;with_reducible rfl
     rotate_left
     ·simp only [Act.put,U,V,Z,i64_w,i32_w];rfl
     refine pure_ (i:=21) (N:=some 77) (v:=?_) (a':=?_) #[Y,Y,Y,Y,Y,Y,Y,Y,Y,Y,Y,Y,Y,Y,Y,Y,Y,Y,Y,Y,J,Y,J,J,J,J,J,J] rfl rfl (any_of HT_.out (by kernel_rfl)) (fun _ _ _ h => h) (Or.inl ⟨by rfl,?_⟩) ?_ ?_;rotate_left
     ·intro w';go_simp;with_reducible rfl
     rotate_left
     ·simp only [Act.put,U,V,Z,i64_w,i32_w];rfl
     refine pure_ (i:=23) (N:=some 79) (v:=?_) (a':=?_) #[Y,Y,Y,Y,Y,Y,Y,Y,Y,Y,Y,Y,Y,Y,Y,Y,Y,Y,Y,Y,J,Y,J,Y,J,J,J,J] rfl rfl (any_of HT_.out (by kernel_rfl)) (fun _ _ _ h => h) (Or.inl ⟨by rfl,?_⟩) ?_ ?_;rotate_left
     ·intro w';go_simp;with_reducible rfl
     rotate_left
     ·simp only [Act.put,U,V,Z,i64_w,i32_w];rfl
     refine take_ (i:=20) (N:=some 76) (v:=?_) (a':=?_) #[Y,Y,Y,Y,Y,Y,Y,Y,Y,Y,Y,Y,Y,Y,Y,Y,Y,Y,Y,Y,Y,Y,J,Y,J,J,J,J] rfl rfl (take_ofW HT_.out HW_.out (by kernel_rfl)) (fun _ _ _ h => h) (Or.inl ⟨by rfl,?_⟩) hHeld ?_ ?_;rotate_left
     ·rintro w' ⟨s0,s1,s2,s3,s4⟩;go_simp;with_reducible rfl
     rotate_left
     ·simp only [Act.put,U,V,Z,i64_w,i32_w];rfl
     refine take_ (i:=22) (N:=some 78) (v:=?_) (a':=?_) #[Y,Y,Y,Y,Y,Y,Y,Y,Y,Y,Y,Y,Y,Y,Y,Y,Y,Y,Y,Y,Y,Y,Y,Y,J,J,J,J] rfl rfl (take_ofW HT_.out HW_.out (by kernel_rfl)) (fun _ _ _ h => h) (Or.inl ⟨by rfl,?_⟩) hHeld ?_ ?_;rotate_left
     ·rintro w' ⟨s0,s1,s2,s3,s4⟩;go_simp;with_reducible rfl
     rotate_left
     ·simp only [Act.put,U,V,Z,i64_w,i32_w];rfl
     refine take_ (i:=24) (N:=some 80) (v:=?_) (a':=?_) #[Y,Y,Y,Y,Y,Y,Y,Y,Y,Y,Y,Y,Y,Y,Y,Y,Y,Y,Y,Y,Y,Y,Y,Y,Y,J,J,J] rfl rfl (take_ofW HT_.out HW_.out (by kernel_rfl)) (fun _ _ _ h => h) (Or.inl ⟨by rfl,?_⟩) hHeld ?_ ?_;rotate_left
     ·rintro w' ⟨s0,s1,s2,s3,s4⟩;go_simp;with_reducible rfl
     rotate_left
     ·simp only [Act.put,U,V,Z,i64_w,i32_w];rfl
     refine pure_ (i:=25) (N:=some 81) (v:=?_) (a':=?_) #[Y,Y,Y,Y,Y,Y,Y,Y,Y,Y,Y,Y,Y,Y,Y,Y,Y,Y,Y,Y,Y,Y,Y,Y,Y,Y,J,J] rfl rfl (any_of HT_.out (by kernel_rfl)) (fun _ _ _ h => h) (Or.inl ⟨by rfl,?_⟩) ?_ ?_;rotate_left
     ·intro w';go_simp;with_reducible rfl
     rotate_left
     ·simp only [Act.put,U,V,Z,i64_w,i32_w];rfl
     refine pure_ (i:=26) (N:=some 82) (v:=?_) (a':=?_) #[Y,Y,Y,Y,Y,Y,Y,Y,Y,Y,Y,Y,Y,Y,Y,Y,Y,Y,Y,Y,Y,Y,Y,Y,Y,Y,Y,J] rfl rfl (any_of HT_.out (by kernel_rfl)) (fun _ _ _ h => h) (Or.inl ⟨by rfl,?_⟩) ?_ ?_;rotate_left
     ·intro w';go_simp;with_reducible rfl
     rotate_left
     ·simp only [Act.put,U,V,Z,i64_w,i32_w];rfl
     refine pure_ (i:=27) (N:=some 83) (v:=?_) (a':=?_) #[Y,Y,Y,Y,Y,Y,Y,Y,Y,Y,Y,Y,Y,Y,Y,Y,Y,Y,Y,Y,Y,Y,Y,Y,Y,Y,Y,Y] rfl rfl (any_of HT_.out (by kernel_rfl)) (fun _ _ _ h => h) (Or.inl ⟨by rfl,?_⟩) ?_ ?_;rotate_left
     ·intro w';go_simp;with_reducible rfl
     rotate_left
     ·simp only [Act.put,U,V,Z,i64_w,i32_w];rfl
     refine done_ (done_of HT_.out (by kernel_rfl)) ?_
     try go_wp2
     go_roundg k2
     case measure => have:=HJ4.out; have:=HK2.out; omega
     case rel => exact ⟨(wrap64 (x6_2 + 1)),(by first | rfl | (simp; done) | (simp [*]; done)),H',⟨by have:=HJ4.out; have:=HK2.out; omega⟩,⟨by exact Kd.R_mono HO_4.out (fun _ hk => hk.1)⟩,⟨by exact Kd.R_mono HO_5.out (fun _ hk => hk.1)⟩,⟨by exact Kd.R_mono p0.out (fun _ hk => trivial)⟩,⟨by exact p4.out⟩,⟨by repeat (first | (with_reducible first | exact HB.out | apply below_alloc | apply pw_below_drewN | apply below_drew1 | refine below_set ?_ q0.out | refine below_set ?_ r2.out) | exact HB.out)⟩⟩
end Go.Proofs.Ytljdcinpjnijcaa.Pr
end
section
set_option linter.unusedVariables false
namespace Go.Proofs.YtljdcinpjnijcaaW.PrintWords
open Go.RowKit Go.ChangeShapes Go.WideShapes
def Opens (P : Program) {α : Type} (d : Kd α) (t : TypeId) (wf : α → Prop) : Prop :=
 ∀ {H : Type} {enc : TypeId × Value → H} {w : World} {sp : Nat → Bool} {held : Bool} {fuel : Nat} {cs : List Value} {x : DataW H × List MemPlace},DataW.trod enc P w 0 sp held fuel t cs = some x → ∃ a,d.K w a cs ∧ wf a
section
variable {P : Program} {α β : Type}
theorem opens_int {t : TypeId} {k : IntKind} (ht : P.underlying t = some (.int k)) : Opens P (Kd.int k) t (fun n => (Lit.int k n).wf = true):=by
 intro H enc w sp held fuel cs x h;obtain ⟨n,rfl,_,hw⟩:=DataW.trod_int ht h;exact ⟨n,rfl,hw⟩
theorem addr_add_add (a : Addr) (i j : Nat) : (a.add i).add j = a.add (i + j):=by
 unfold Addr.add
 by_cases hi : i = 0 <;> by_cases hj : j = 0 <;> simp [hi,hj,Nat.add_assoc]
theorem opens_slice [Inhabited α] {d : Kd α} {t e : TypeId} {wf : α → Prop} (ht : P.underlying t = some (.slice e)) (hc : P.cellsOf e = d.sz) (he : Opens P d e wf) : Opens P (Kd.slice e d) t (fun l => l.length ≤ maxLen ∧ ∀ x ∈ l,wf x):=by
 intro H enc w sp held fuel cs x h
 rcases Deep.open_slice ht h with ⟨rfl,_⟩ | ⟨a,len,cap,m,n,D,Pl,rfl,_,hl,hm,hmm,_,hel⟩
 ·exact ⟨[],⟨none,0,rfl,Nat.le_refl _,Kd.C_nil d w⟩,by simp,by simp⟩
 ·have hlm : len ≤ m:=by rw [hmm]; split <;> omega
  have hx : ∀ i,i < len → ∃ y : α,(∃ c,c.length = d.sz ∧ d.K w y c ∧ ∀ j u,c[j]? = some u → w.cell? (a.add (i * d.sz + j)) = some u) ∧ wf y:=by
   intro i hi;obtain ⟨cs',hcs,htr⟩:=hel i (by omega);obtain ⟨y,hk,hw⟩:=he htr;obtain ⟨_,hlen,hcell⟩:=World.cells?_some hcs;refine ⟨y,⟨cs',d.K_len hk,hk,fun j u hu => ?_⟩,hw⟩;have hj : j < P.cellsOf e:=by
    have:=(List.getElem?_eq_some_iff.1 hu).1;omega
   have:=hcell j hj;rw [addr_add_add,hc,hu] at this;exact this
  obtain ⟨f,hf⟩:=Deep.choose_lt hx;refine ⟨(List.range len).map f,⟨some a,cap,by simp,by simpa using hl,by simp,by simp only [maxLen] at hm; simp; omega,fun _ => ⟨a,rfl,fun j p hj => ?_⟩⟩,by simp; omega,fun y hy => ?_⟩
  ·obtain ⟨hj1,hj2⟩:=List.getElem?_eq_some_iff.1 hj;simp at hj1 hj2;subst hj2;exact (hf j hj1).1
  ·simp only [List.mem_map,List.mem_range] at hy;obtain ⟨i,hi,rfl⟩:=hy;exact (hf i hi).2
end
end Go.Proofs.YtljdcinpjnijcaaW.PrintWords
end
section
namespace Go.Proofs.Ytljdcinpjnijcaa.Pr
open Go.RowKit Go.Proofs.YtljdcinpjnijcaaW.PrintWords Go.Proofs.YtljdcinpjnijcaaW.PrintLast Go.Proofs.YtljdcinpjnijcaaW.PrintMore
open List renaming setIfInBounds_toArray → U,set_cons_zero → V,set_cons_succ → Z
open Go.Proofs.YtljdcinpjnijcaaW.PrintWords.Aside0 renaming mk → zx
def laws_FnHubArcs.Asked : Prop:=∀ (l0 : List Int),(l0.length ≤ maxLen ∧ ∀ x_ ∈ l0,(Lit.int .u8 x_).wf = true) → ∃ k,laws_FnHubArcs.f k l0 = some true
end Go.Proofs.Ytljdcinpjnijcaa.Pr
end
section
set_option linter.unusedVariables false
namespace Go.Proofs.YtljdcinpjnijcaaW.PrintWords
open Go.RowKit
section
variable {α β : Type}
theorem Ev.pos {c : Prop} [Decidable c] {t e : Nat → Option α} {r : α} (h : c) (k : Ev t r) : Ev (fun n => if c then t n else e n) r:=by
 simp only [if_pos h]; exact k
theorem Ev.neg {c : Prop} [Decidable c] {t e : Nat → Option α} {r : α} (h : ¬ c) (k : Ev e r) : Ev (fun n => if c then t n else e n) r:=by
 simp only [if_neg h]; exact k
theorem Ev.bind0 {g : Option α} {f : Nat → α → Option β} {a : α} {r : β} (h : g = some a) (k : Ev (fun n => f n a) r) : Ev (fun n => g.bind (f n)) r:=by
 subst h; exact k
theorem Ev.is {a r : α} (h : a = r) : Ev (fun _ => some a) r:=by subst h; exact Ev.now _
theorem Ev.cast {g : Nat → Option α} {a r : α} (k : Ev g a) (h : a = r) : Ev g r:=h ▸ k
theorem Ev.go {g f : Nat → Option α} {r : α} (k : Ev f r) (h : ∀ k,g (k + 1) = f k) : Ev g r:=Ev.step h k
end
theorem w64 {n : Int} (h : -9223372036854775808 ≤ n) (h' : n ≤ 9223372036854775807) : wrap64 n = n:=by unfold wrap64; omega
theorem rd_nat {l : List Int} {i : Nat} (h : i < l.length) : rd l (i : Int) = l[i]:=by simp [rd,h]
end Go.Proofs.YtljdcinpjnijcaaW.PrintWords
end
section
set_option linter.unusedSimpArgs false
set_option linter.unusedVariables false
namespace Go.Proofs.Ytljdcinpjnijcaa.Pure
open Go.RowKit Go.Proofs.Ytljdcinpjnijcaa.Pr Go.Proofs.YtljdcinpjnijcaaW.PrintWords Go.Proofs.YtljdcinpjnijcaaW.PrintLast Go.Proofs.YtljdcinpjnijcaaW.PrintMore
def inB (x a b : Int) : Bool:=decide (a ≤ x) && decide (x ≤ b)
theorem inB_iff {x a b : Int} : inB x a b = true ↔ a ≤ x ∧ x ≤ b:=by simp [inB]
theorem in1 (x a b : Int) : spec_l1In.f x a b = some (inB x a b):=by
 unfold spec_l1In.f inB
 by_cases h : x ≥ a
 case pos => rw [if_pos h]; simp [show a ≤ x from h]
 rw [if_neg h]; simp [show ¬ a ≤ x from h]
theorem up1 {i n : Nat} (h : i < n) (hn : n ≤ maxLen) : wrap64 ((i : Int) + 1) = ((i + 1 : Nat) : Int):=by
 simp only [maxLen] at hn;rw [w64 (by omega) (by omega)]; omega
theorem rdn {l : List Int} {i : Nat} (h : i < l.length) : rd l (i : Int) = l[i]:=rd_nat h
def nth (l : List Int) (i : Nat) : Int:=l.getD i 0
theorem rdg {l : List Int} (i : Nat) : rd l (i : Int) = nth l i:=by simp [rd,nth]
theorem nth_get {l : List Int} {i : Nat} (h : i < l.length) : nth l i = l[i]:=by simp [nth,h]
theorem getD_mem {l : List Int} {i : Nat} (h : i < l.length) : nth l i ∈ l:=by
 rw [nth_get h];exact List.getElem_mem h
theorem drop_cons {α : Type} {l : List α} {i : Nat} (h : i < l.length) : l.drop i = l[i] :: l.drop (i + 1):=List.drop_eq_getElem_cons h
def Pv {α : Type} (g : Nat → Option α) (P : α → Prop) : Prop:=∃ r,Ev g r ∧ P r
section
variable {α β : Type} {P : α → Prop}
theorem Pv.of {g : Nat → Option α} {r : α} (h : Ev g r) (hp : P r) : Pv g P:=⟨r,h,hp⟩
theorem Pv.now {a : α} (h : P a) : Pv (fun _ => some a) P:=⟨a,Ev.now a,h⟩
theorem Pv.pos {c : Prop} [Decidable c] {t e : Nat → Option α} (h : c) (k : Pv t P) : Pv (fun n => if c then t n else e n) P:=by
 obtain ⟨r,k,hp⟩:=k;exact ⟨r,Ev.pos h k,hp⟩
theorem Pv.neg {c : Prop} [Decidable c] {t e : Nat → Option α} (h : ¬ c) (k : Pv e P) : Pv (fun n => if c then t n else e n) P:=by
 obtain ⟨r,k,hp⟩:=k;exact ⟨r,Ev.neg h k,hp⟩
theorem Pv.ite {c : Prop} [Decidable c] {t e : Nat → Option α} (h : c → Pv t P) (k : ¬ c → Pv e P) : Pv (fun n => if c then t n else e n) P:=by
 by_cases hc : c
 case neg => exact Pv.neg hc (k hc)
 exact Pv.pos hc (h hc)
theorem Pv.bind {g : Nat → Option β} {f : Nat → β → Option α} {R : β → Prop} (h : Pv g R) (k : ∀ b,R b → Pv (fun n => f n b) P) : Pv (fun n => (g n).bind (f n)) P:=by
 obtain ⟨b,h,hb⟩:=h;obtain ⟨r,k,hp⟩:=k b hb;exact ⟨r,Ev.bind h k,hp⟩
theorem Pv.bind0 {g : Option β} {f : Nat → β → Option α} {b : β} (h : g = some b) (k : Pv (fun n => f n b) P) : Pv (fun n => g.bind (f n)) P:=by
 obtain ⟨r,k,hp⟩:=k;exact ⟨r,Ev.bind0 h k,hp⟩
theorem Pv.go {g f : Nat → Option α} (k : Pv f P) (h : ∀ k,g (k + 1) = f k) : Pv g P:=by
 obtain ⟨r,k,hp⟩:=k;exact ⟨r,Ev.go k h,hp⟩
theorem Pv.mono {g : Nat → Option α} {R : α → Prop} (h : Pv g R) (k : ∀ a,R a → P a) : Pv g P:=by
 obtain ⟨r,h,hr⟩:=h;exact ⟨r,h,k r hr⟩
end
theorem Pv.rounds {g : Nat → Option Bool} (h : Pv g (· = true)) : ∃ k,g k = some true:=by
 obtain ⟨r,h,rfl⟩:=h;exact Ev.rounds h
end Go.Proofs.Ytljdcinpjnijcaa.Pure
end
section
set_option linter.unusedSimpArgs false
set_option linter.unusedVariables false
namespace Go.Proofs.Ytljdcinpjnijcaa.Pure
open Go.RowKit Go.Proofs.Ytljdcinpjnijcaa.Pr Go.Proofs.YtljdcinpjnijcaaW.PrintWords Go.Proofs.YtljdcinpjnijcaaW.PrintLast Go.Proofs.YtljdcinpjnijcaaW.PrintMore
section
variable {t e : Nat → Option Bool} {r : Bool}
theorem Ev.and {b : Bool} (k : Ev t r) : Ev (fun n => if b = true then t n else some false) (b && r):=by
 cases b with
 | false => exact Ev.neg (by simp) (Ev.now _)
 | true => exact Ev.pos rfl k
theorem Ev.nand {c : Prop} [Decidable c] (k : Ev t r) : Ev (fun n => if c then some false else t n) (!decide c && r):=by
 by_cases h : c
 case pos => exact Ev.pos h (Ev.is (by simp [h]))
 exact Ev.neg h (k.cast (by simp [h]))
end
abbrev Arc:=S34
def arc (l : List Arc) (i : Nat) : Arc:=rd_T34 l (i : Int)
theorem rda (l : List Arc) (i : Nat) : rd_T34 l (i : Int) = arc l i:=rfl
theorem arc_get {l : List Arc} {i : Nat} (h : i < l.length) : arc l i = l[i]:=by simp [arc,rd_T34,h]
theorem arc_mem {l : List Arc} {i : Nat} (h : i < l.length) : arc l i ∈ l:=by
 rw [arc_get h];exact List.getElem_mem h
attribute [irreducible] arc
def okArcW (n : Int) (a : Arc) : Bool:=inB a.f0 0 (wrap64 (n - 1)) && (inB a.f1 0 (wrap64 (n - 1)) && (!decide (a.f0 = a.f1) && (inB a.f2 0 99 && (inB a.f3 0 99 && inB a.f4 0 9))))
theorem l1Ok_l (n : Int) (l : List Arc) (hm : l.length ≤ maxLen) : ∀ (m i : Nat),l.length - i = m → i ≤ l.length → Ev (fun k => spec_l1Ok.l0 k (i : Int) n l) ((l.drop i).all (okArcW n) && (inB n 1 8 && decide ((l.length : Int) ≤ 16))):=by
 intro m
 induction m with
 | zero =>
  intro i hd hi;refine Ev.go ?_ (fun k => by rw [spec_l1Ok.l0]);refine Ev.neg (by omega) (Ev.bind0 (in1 _ _ _) ?_);rw [List.drop_of_length_le (by omega)];exact (Ev.and (Ev.now _)).cast (by simp)
 | succ m ih =>
  intro i hd hi;have hlt : i < l.length:=by omega
  refine Ev.go ?_ (fun k => by rw [spec_l1Ok.l0]);rw [drop_cons hlt,← arc_get hlt,List.all_cons,rda,up1 hlt hm];refine Ev.pos (by omega) (Ev.pos (by omega) ?_);refine Ev.cast (Ev.bind0 (in1 _ _ _) (Ev.and (Ev.bind0 (in1 _ _ _) (Ev.and (Ev.nand (Ev.bind0 (in1 _ _ _) (Ev.and (Ev.bind0 (in1 _ _ _) (Ev.and (Ev.bind0 (in1 _ _ _) (Ev.and (ih (i + 1) (by omega) (by omega))))))))))))) ?_;simp only [okArcW,Bool.and_assoc]
theorem okArcW_okArc {n : Int} (h : 1 ≤ n) (h8 : n ≤ 8) (a : Arc) : okArcW n a = okArc n a:=by
 unfold okArcW okArc inB okN okC
 rw [w64 (by omega) (by omega)];have e : (a.f4 ≤ 9) ↔ (a.f4 ≤ 10 - 1):=by omega
 have e2 : (a.f0 == a.f1) = decide (a.f0 = a.f1):=by
  by_cases c : a.f0 = a.f1 <;> simp [c]
 rw [e2];simp only [Bool.and_assoc,e]
theorem l1Ok_ev (n : Int) (l : List Arc) (hm : l.length ≤ maxLen) : Ev (fun k => spec_l1Ok.f k n l) (netOkB n l):=by
 unfold spec_l1Ok.f
 refine (l1Ok_l n l hm _ 0 rfl (by omega)).cast ?_
 unfold netOkB
 rw [List.drop_zero]
 by_cases h : 1 ≤ n ∧ n ≤ 8
 case pos =>
  have e : l.all (okArcW n) = l.all (okArc n):=by
   congr 1
   funext a
   exact okArcW_okArc h.1 h.2 a
  rw [e,show inB n 1 8 = true from inB_iff.2 h];simp [h.1,h.2,Bool.and_comm]
 have e : inB n 1 8 = false:=by
  cases c : inB n 1 8 with
  | false => rfl
  | true => exact absurd (inB_iff.1 c) h
 rw [e];have e2 : (decide (1 ≤ n) && decide (n ≤ 8)) = false:=e;simp only [e2,Bool.false_and,Bool.and_false]
structure NetGood (n : Int) (l : List Arc) : Prop where
 n1 : 1 ≤ n
 n8 : n ≤ 8
 len : l.length ≤ 16
 ok : ∀ i,i < l.length → (0 ≤ (arc l i).f0 ∧ (arc l i).f0 < n) ∧ (0 ≤ (arc l i).f1 ∧ (arc l i).f1 < n) ∧ (arc l i).f0 ≠ (arc l i).f1 ∧ (0 ≤ (arc l i).f2 ∧ (arc l i).f2 ≤ 99) ∧ (0 ≤ (arc l i).f3 ∧ (arc l i).f3 ≤ 99) ∧ (0 ≤ (arc l i).f4 ∧ (arc l i).f4 ≤ 9)
theorem okArc_iff (n : Int) (a : Arc) : okArc n a = true ↔ (0 ≤ a.f0 ∧ a.f0 < n) ∧ (0 ≤ a.f1 ∧ a.f1 < n) ∧ a.f0 ≠ a.f1 ∧ (0 ≤ a.f2 ∧ a.f2 ≤ 99) ∧ (0 ≤ a.f3 ∧ a.f3 ≤ 99) ∧ (0 ≤ a.f4 ∧ a.f4 ≤ 9):=by
 simp only [okArc,okN,okC,Bool.and_eq_true,decide_eq_true_eq,Bool.not_eq_true',beq_eq_false_iff_ne];constructor
 ·rintro ⟨⟨⟨⟨⟨⟨a1,a2⟩,a3,a4⟩,a5⟩,a6⟩,a7⟩,a8,a9⟩;exact ⟨⟨a1,by omega⟩,⟨a3,by omega⟩,a5,a6,a7,a8,by omega⟩
 ·rintro ⟨⟨a1,a2⟩,⟨a3,a4⟩,a5,a6,a7,a8,a9⟩;exact ⟨⟨⟨⟨⟨⟨a1,by omega⟩,a3,by omega⟩,a5⟩,a6⟩,a7⟩,a8,by omega⟩
theorem netOkB_iff (n : Int) (l : List Arc) : netOkB n l = true ↔ NetGood n l:=by
 simp only [netOkB,Bool.and_eq_true,decide_eq_true_eq,List.all_eq_true];constructor
 ·rintro ⟨⟨⟨h1,h2⟩,h3⟩,h4⟩;exact ⟨h1,h2,by omega,fun i hi => (okArc_iff n _).1 (h4 _ (arc_mem hi))⟩
 ·rintro ⟨h1,h2,h3,h4⟩;refine ⟨⟨⟨h1,h2⟩,by omega⟩,fun a ha => ?_⟩;obtain ⟨i,hi,rfl⟩:=List.getElem_of_mem ha;rw [← arc_get hi];exact (okArc_iff n _).2 (h4 i hi)
theorem hasOf {n : Int} {l : List Arc} (h : NetGood n l) (v : List Int) : impl_Net_has.f n l v = some (v.all (okN n)):=by
 have:=h.n1;have:=h.n8
 unfold impl_Net_has.f
 rw [if_pos (by omega),if_pos (by omega)]
theorem nodesIn_eq (n : Int) (l : List Arc) (v : List Int) : impl_nodesIn.f n l v = some (netOkB n l && v.all (okN n)):=by
 unfold impl_nodesIn.f
 rw [show impl_NetOk.f n l = some (netOkB n l) from rfl,Option.bind_some];cases h : netOkB n l with
 | false => rfl
 | true => rw [if_pos rfl,hasOf ((netOkB_iff n l).1 h),Option.bind_some,Bool.true_and]
end Go.Proofs.Ytljdcinpjnijcaa.Pure
end
section
set_option linter.unusedSimpArgs false
set_option linter.unusedVariables false
namespace Go.Proofs.Ytljdcinpjnijcaa.Pure
open Go.RowKit Go.Proofs.Ytljdcinpjnijcaa.Pr Go.Proofs.YtljdcinpjnijcaaW.PrintWords Go.Proofs.YtljdcinpjnijcaaW.PrintLast Go.Proofs.YtljdcinpjnijcaaW.PrintMore
def flip (a : Arc) : Arc:=⟨a.f1,a.f0,a.f2,a.f3,a.f4⟩
def back (l : List Arc) : List Arc:=l.map flip
theorem back_len (l : List Arc) : (back l).length = l.length:=by simp [back]
theorem back_arc {l : List Arc} {i : Nat} (h : i < l.length) : arc (back l) i = flip (arc l i):=by
 rw [arc_get (by rw [back_len]; exact h),arc_get h];simp [back]
theorem back_good {n : Int} {l : List Arc} (h : NetGood n l) : NetGood n (back l):=by
 refine ⟨h.n1,h.n8,by rw [back_len]; exact h.len,fun i hi => ?_⟩;rw [back_len] at hi;obtain ⟨a1,a2,a3,a4⟩:=h.ok i hi;rw [back_arc hi];exact ⟨a2,a1,fun e => a3 e.symm,a4⟩
def lst (n : Nat) (F : Nat → Int) : List Int:=(List.range n).map F
theorem lst_len (n : Nat) (F : Nat → Int) : (lst n F).length = n:=by simp [lst]
theorem lst_nth {n v : Nat} (F : Nat → Int) (h : v < n) : nth (lst n F) v = F v:=by
 simp [nth,lst,h]
theorem lst_rd {n v : Nat} (F : Nat → Int) (h : v < n) : rd (lst n F) (v : Int) = F v:=by rw [rdg,lst_nth F h]
theorem lst_congr {n : Nat} {F G : Nat → Int} (h : ∀ v,v < n → F v = G v) : lst n F = lst n G:=by
 unfold lst
 exact List.map_congr_left (fun v hv => h v (List.mem_range.1 hv))
def upd (F : Nat → Int) (a : Nat) (x : Int) : Nat → Int:=fun v => if v = a then x else F v
theorem lst_set {n a : Nat} (F : Nat → Int) (x : Int) : (lst n F).set a x = lst n (upd F a x):=by
 apply List.ext_getElem (by simp [lst])
 intro i h1 h2;have hi : i < n:=by simpa [lst] using h2
 simp only [List.getElem_set]
 by_cases e : a = i
 case pos => subst e; simp [lst,upd]
 simp [lst,upd,e,show ¬ i = a from fun h => e h.symm]
inductive Conn (E : Nat → Nat → Prop) : Nat → Nat → Prop
 | refl (v : Nat) : Conn E v v
 | tail {u v w : Nat} : Conn E u v → (E v w ∨ E w v) → Conn E u w
end Go.Proofs.Ytljdcinpjnijcaa.Pure
end
section
set_option linter.unusedSectionVars false
namespace Go.Proofs.Ytljdcinpjnijcaa.Sp
structure G where
 n : Nat
 m : Nat
 fr : Nat → Nat
 tw : Nat → Nat
 w : Nat → Int
 use : Nat → Bool
structure G.Ok (g : G) : Prop where
 fl : ∀ i,i < g.m → g.fr i < g.n
 tl : ∀ i,i < g.m → g.tw i < g.n
 w0 : ∀ i,i < g.m → 0 ≤ g.w i
inductive Wk (g : G) : Nat → Nat → Nat → Int → Prop
 | nil (v : Nat) : Wk g v v 0 0
 | cons {i v k : Nat} {c : Int} : i < g.m → g.use i = true → Wk g (g.tw i) v k c → Wk g (g.fr i) v (k + 1) (g.w i + c)
theorem Wk.cast {g : G} {u v k k' : Nat} {c c' : Int} (h : Wk g u v k c) (hk : k = k') (hc : c = c') : Wk g u v k' c':=by
 subst hk; subst hc; exact h
theorem Wk.trans {g : G} {u v x k j : Nat} {c d : Int} (h : Wk g u v k c) (h' : Wk g v x j d) : Wk g u x (k + j) (c + d):=by
 induction h with
 | nil => exact h'.cast (by omega) (by omega)
 | cons hi hu _ ih => exact (Wk.cons hi hu (ih h')).cast (by omega) (by omega)
theorem Wk.one {g : G} {i : Nat} (hi : i < g.m) (hu : g.use i = true) : Wk g (g.fr i) (g.tw i) 1 (g.w i) :=
 (Wk.cons hi hu (.nil _)).cast rfl (by omega)
theorem Wk.nonneg {g : G} (ok : g.Ok) {u v k : Nat} {c : Int} (h : Wk g u v k c) : 0 ≤ c:=by
 induction h with
 | nil => omega
 | cons hi _ _ ih => have:=ok.w0 _ hi; omega
theorem nodup_len : ∀ (n : Nat) (l : List Nat),l.Nodup → (∀ x ∈ l,x < n) → l.length ≤ n:=by
 intro n
 induction n with
 | zero =>
  intro l _ h;cases l with
  | nil => simp
  | cons a l => exact absurd (h a (by simp)) (by omega)
 | succ n ih =>
  intro l hn h;have h1:=ih (l.erase n) (hn.erase n) (fun x hx => by
   have h2:=h x (List.mem_of_mem_erase hx);have h3 : x ≠ n:=by
    rintro rfl;exact (List.Nodup.not_mem_erase hn) hx
   omega)
  have:=List.length_erase_le (a:=n) (l:=l);have h4 : l.length ≤ (l.erase n).length + 1:=by
   rw [List.length_erase]
   split <;> omega
  omega
inductive Sm (g : G) (t : Nat) : Nat → List Nat → Nat → Int → Prop
 | nil : Sm g t t [t] 0 0
 | cons {i k : Nat} {L : List Nat} {c : Int} : i < g.m → g.use i = true → Sm g t (g.tw i) L k c → g.fr i ∉ L → Sm g t (g.fr i) (g.fr i :: L) (k + 1) (g.w i + c)
theorem Sm.wk {g : G} {t u k : Nat} {L : List Nat} {c : Int} (h : Sm g t u L k c) : Wk g u t k c:=by
 induction h with
 | nil => exact .nil _
 | cons hi hu _ _ ih => exact .cons hi hu ih
theorem Sm.facts {g : G} (ok : g.Ok) {t u k : Nat} (ht : t < g.n) {L : List Nat} {c : Int} (h : Sm g t u L k c) : L.Nodup ∧ (∀ x ∈ L,x < g.n) ∧ L.length = k + 1:=by
 induction h with
 | nil => simp [ht]
 | cons hi _ _ hn ih =>
  refine ⟨List.nodup_cons.2 ⟨hn,ih.1⟩,?_,by simp [ih.2.2]⟩;intro x hx
  rcases List.mem_cons.1 hx with rfl | hx
  ·exact ok.fl _ hi
  ·exact ih.2.1 x hx
theorem Sm.tail {g : G} (ok : g.Ok) {t u k : Nat} {L : List Nat} {c : Int} (h : Sm g t u L k c) {x : Nat} (hx : x ∈ L) : ∃ L' k' c',Sm g t x L' k' c' ∧ k' ≤ k ∧ c' ≤ c:=by
 induction h with
 | nil =>
  obtain rfl : x = t:=by simpa using hx
  exact ⟨_,_,_,.nil,Nat.le_refl _,Int.le_refl _⟩
 | cons hi hu h hn ih =>
  rcases List.mem_cons.1 hx with rfl | hx
  ·exact ⟨_,_,_,.cons hi hu h hn,Nat.le_refl _,Int.le_refl _⟩
  ·obtain ⟨L',k',c',h1,h2,h3⟩:=ih hx;have:=ok.w0 _ hi;exact ⟨L',k',c',h1,by omega,by omega⟩
theorem Wk.simple {g : G} (ok : g.Ok) {u v k : Nat} {c : Int} (h : Wk g u v k c) : ∃ L k' c',Sm g v u L k' c' ∧ k' ≤ k ∧ c' ≤ c:=by
 induction h with
 | nil v => exact ⟨_,_,_,.nil,Nat.le_refl _,Int.le_refl _⟩
 | @cons i v k c hi hu h ih =>
  obtain ⟨L,k',c',h1,h2,h3⟩:=ih
  by_cases hm : g.fr i ∈ L
  case neg => exact ⟨_,_,_,.cons hi hu h1 hm,by omega,by omega⟩
  obtain ⟨L'',k'',c'',h4,h5,h6⟩:=h1.tail ok hm;have:=ok.w0 _ hi;exact ⟨L'',k'',c'',h4,by omega,by omega⟩
theorem Wk.short {g : G} (ok : g.Ok) {u v k : Nat} (hv : v < g.n) {c : Int} (h : Wk g u v k c) : ∃ k' c',Wk g u v k' c' ∧ k' < g.n ∧ k' ≤ k ∧ c' ≤ c:=by
 obtain ⟨L,k',c',h1,h2,h3⟩:=h.simple ok;obtain ⟨f1,f2,f3⟩:=h1.facts ok hv;have:=nodup_len _ _ f1 f2;exact ⟨k',c',h1.wk,by omega,h2,h3⟩
def Opt (g : G) (t : Nat) (L : Nat → Option Int) : Prop:=∀ v,v < g.n → (∀ x,L v = some x → ∃ k,Wk g v t k x) ∧ (∀ k c,Wk g v t k c → ∃ x,L v = some x ∧ x ≤ c)
theorem Opt.uniq {g : G} {t : Nat} {L L' : Nat → Option Int} (h : Opt g t L) (h' : Opt g t L') : ∀ v,v < g.n → L v = L' v:=by
 intro v hv;obtain ⟨a,b⟩:=h v hv;obtain ⟨a',b'⟩:=h' v hv;cases e : L v with
 | none =>
  cases e' : L' v with
  | none => rfl
  | some y =>
   obtain ⟨k,hk⟩:=a' y e';obtain ⟨x,hx,_⟩:=b k y hk;rw [e] at hx; cases hx
 | some x =>
  obtain ⟨k,hk⟩:=a x e;obtain ⟨y,hy,h1⟩:=b' k x hk;obtain ⟨k',hk'⟩:=a' y hy;obtain ⟨x',hx',h2⟩:=b k' y hk';rw [e] at hx';obtain rfl:=Option.some.inj hx';rw [hy]
  congr 1
  omega
def lts (a : Int) : Option Int → Bool
 | none => true
 | some y => decide (a < y)
def put (L : Nat → Option Int) (a : Nat) (x : Int) : Nat → Option Int:=fun v => if v = a then some x else L v
def relax (g : G) (L : Nat → Option Int) (i : Nat) : Nat → Option Int :=
 if g.use i = true then
  match L (g.tw i) with
  | none => L
  | some x => if lts (x + g.w i) (L (g.fr i)) = true then put L (g.fr i) (x + g.w i) else L
 else L
theorem relax_cases (g : G) (L : Nat → Option Int) (i : Nat) : (relax g L i = L ∧ (g.use i = true → ∀ x,L (g.tw i) = some x → lts (x + g.w i) (L (g.fr i)) = false)) ∨ (g.use i = true ∧ ∃ x,L (g.tw i) = some x ∧ lts (x + g.w i) (L (g.fr i)) = true ∧ relax g L i = put L (g.fr i) (x + g.w i)):=by
 unfold relax
 by_cases hu : g.use i = true
 case neg =>
  rw [if_neg hu];exact .inl ⟨rfl,fun h => absurd h hu⟩
 rw [if_pos hu];cases e : L (g.tw i) with
 | none => exact .inl ⟨rfl,fun _ x hx => by cases hx⟩
 | some x =>
  dsimp only
  by_cases hl : lts (x + g.w i) (L (g.fr i)) = true
  case pos =>
   rw [if_pos hl];exact .inr ⟨hu,x,rfl,hl,rfl⟩
  rw [if_neg hl];refine .inl ⟨rfl,fun _ y hy => ?_⟩;obtain rfl:=Option.some.inj hy
  simpa using hl
def sweep (g : G) (L : Nat → Option Int) : Nat → (Nat → Option Int)
 | 0 => L
 | i + 1 => relax g (sweep g L i) i
def Le (a b : Option Int) : Prop:=∀ y,b = some y → ∃ x,a = some x ∧ x ≤ y
theorem Le.refl (a : Option Int) : Le a a:=fun y h => ⟨y,h,Int.le_refl _⟩
theorem Le.trans {a b c : Option Int} (h : Le a b) (k : Le b c) : Le a c:=by
 intro y hy;obtain ⟨x,hx,h1⟩:=k y hy;obtain ⟨z,hz,h2⟩:=h x hx;exact ⟨z,hz,by omega⟩
theorem put_same (L : Nat → Option Int) (a : Nat) (x : Int) : put L a x a = some x:=by simp [put]
theorem put_far (L : Nat → Option Int) {a v : Nat} (x : Int) (h : v ≠ a) : put L a x v = L v:=by simp [put,h]
theorem relax_le (g : G) (L : Nat → Option Int) (i v : Nat) : Le (relax g L i v) (L v):=by
 rcases relax_cases g L i with ⟨e,_⟩ | ⟨_,x,hx,hl,e⟩
 ·rw [e]; exact Le.refl _
 ·rw [e]
  by_cases hv : v = g.fr i
  case neg => rw [put_far _ _ hv]; exact Le.refl _
  subst hv;rw [put_same];intro y hy;rw [hy] at hl;exact ⟨_,rfl,by simp [lts] at hl; omega⟩
theorem relax_arc (g : G) (L : Nat → Option Int) (i : Nat) (hu : g.use i = true) {x : Int} (hx : L (g.tw i) = some x) : Le (relax g L i (g.fr i)) (some (x + g.w i)):=by
 intro y hy;obtain rfl:=Option.some.inj hy
 unfold relax
 rw [if_pos hu,hx];dsimp only
 split
 ·exact ⟨_,by simp [put],Int.le_refl _⟩
 ·rename_i hl;cases e : L (g.fr i) with
  | none => rw [e] at hl; simp [lts] at hl
  | some z => rw [e] at hl; exact ⟨z,rfl,by simp [lts] at hl; omega⟩
theorem sweep_le (g : G) (L : Nat → Option Int) (i s v : Nat) : Le (sweep g L (i + s) v) (sweep g L i v):=by
 induction s with
 | zero => exact Le.refl _
 | succ s ih => exact (relax_le g _ _ v).trans ih
theorem sweep_arc (g : G) (L : Nat → Option Int) {i : Nat} (hi : i < g.m) (hu : g.use i = true) {x : Int} (hx : L (g.tw i) = some x) : ∃ y,sweep g L g.m (g.fr i) = some y ∧ y ≤ x + g.w i:=by
 have h0:=sweep_le g L 0 i (g.tw i);rw [Nat.zero_add] at h0;obtain ⟨x',hx',h1⟩:=h0 x hx;have h2:=relax_arc g (sweep g L i) i hu hx';have h3:=sweep_le g L (i + 1) (g.m - (i + 1)) (g.fr i);rw [show i + 1 + (g.m - (i + 1)) = g.m by omega] at h3;obtain ⟨y,hy,h4⟩:=(h3.trans h2) _ rfl;exact ⟨y,hy,by omega⟩
def Real (g : G) (t : Nat) (L : Nat → Option Int) : Prop:=∀ v x,L v = some x → ∃ k,Wk g v t k x
theorem relax_real {g : G} {t : Nat} {L : Nat → Option Int} (h : Real g t L) {i : Nat} (hi : i < g.m) : Real g t (relax g L i):=by
 intro v x hx
 rcases relax_cases g L i with ⟨e,_⟩ | ⟨hu,y,hy,hl,e⟩
 ·rw [e] at hx; exact h v x hx
 ·rw [e] at hx
  by_cases hv : v = g.fr i
  case neg => rw [put_far _ _ hv] at hx; exact h v x hx
  subst hv;rw [put_same] at hx;obtain rfl:=Option.some.inj hx;obtain ⟨k,hk⟩:=h _ _ hy;exact ⟨k + 1,(Wk.cons hi hu hk).cast rfl (by omega)⟩
theorem sweep_real {g : G} {t : Nat} {L : Nat → Option Int} (h : Real g t L) : ∀ i,i ≤ g.m → Real g t (sweep g L i):=by
 intro i
 induction i with
 | zero => exact fun _ => h
 | succ i ih => exact fun hi => relax_real (ih (by omega)) (by omega)
theorem opt_of_fix {g : G} {t : Nat} {L : Nat → Option Int} (h : Real g t L) (ht : Le (L t) (some 0)) (hf : ∀ v,sweep g L g.m v = L v) : Opt g t L:=by
 intro v hv0;clear hv0;refine ⟨fun x hx => h v x hx,fun k c hw => ?_⟩;clear h
 induction hw with
 | nil =>
  obtain ⟨x,hx,h1⟩:=ht 0 rfl;exact ⟨x,hx,h1⟩
 | cons hi hu _ ih =>
  obtain ⟨x,hx,h1⟩:=ih ht;obtain ⟨y,hy,h2⟩:=sweep_arc g L hi hu hx;rw [hf] at hy;exact ⟨y,hy,by omega⟩
def start (t : Nat) : Nat → Option Int:=fun v => if v = t then some 0 else none
def rounds (g : G) (t : Nat) : Nat → (Nat → Option Int)
 | 0 => start t
 | r + 1 => sweep g (rounds g t r) g.m
theorem start_real (g : G) (t : Nat) : Real g t (start t):=by
 intro v x hx
 unfold start at hx
 split at hx
 ·rename_i e;obtain rfl:=Option.some.inj hx;subst e;exact ⟨0,.nil _⟩
 ·cases hx
theorem rounds_real (g : G) (t : Nat) : ∀ r,Real g t (rounds g t r):=by
 intro r
 induction r with
 | zero => exact start_real g t
 | succ r ih => exact sweep_real ih _ (Nat.le_refl _)
theorem rounds_le (g : G) (t r s v : Nat) : Le (rounds g t (r + s) v) (rounds g t r v):=by
 induction s with
 | zero => exact Le.refl _
 | succ s ih =>
  have:=sweep_le g (rounds g t (r + s)) 0 g.m v;rw [Nat.zero_add] at this;exact this.trans ih
theorem rounds_t (g : G) (t r : Nat) : Le (rounds g t r t) (some 0):=by
 have:=rounds_le g t 0 r t;rw [Nat.zero_add] at this;exact this.trans (by simp [rounds,start]; exact Le.refl _)
theorem rounds_walk {g : G} {t r u k : Nat} {c : Int} (h : Wk g u t k c) (hk : k ≤ r) : ∃ x,rounds g t r u = some x ∧ x ≤ c:=by
 induction h generalizing r with
 | nil => exact rounds_t g _ r 0 rfl
 | cons hi hu _ ih =>
  obtain ⟨r,rfl⟩ : ∃ q,r = q + 1:=⟨r - 1,by omega⟩
  obtain ⟨x,hx,h1⟩:=ih (r:=r) (by omega);obtain ⟨y,hy,h2⟩:=sweep_arc g _ hi hu hx;exact ⟨y,hy,by omega⟩
theorem rounds_opt {g : G} (ok : g.Ok) {t r : Nat} (ht : t < g.n) (hr : g.n ≤ r + 1) : Opt g t (rounds g t r):=by
 intro v _;refine ⟨fun x hx => rounds_real g t r v x hx,fun k c hw => ?_⟩;obtain ⟨k',c',h1,h2,h3,h4⟩:=hw.short ok ht;obtain ⟨x,hx,h5⟩:=rounds_walk (r:=r) h1 (by omega);exact ⟨x,hx,by omega⟩
theorem relax_none {g : G} {L : Nat → Option Int} (hn : ∀ v,g.n ≤ v → L v = none) (ok : g.Ok) {i : Nat} (hi : i < g.m) : ∀ v,g.n ≤ v → relax g L i v = none:=by
 intro v hv
 rcases relax_cases g L i with ⟨e,_⟩ | ⟨_,x,hx,hl,e⟩
 ·rw [e]; exact hn v hv
 ·rw [e,put_far _ _ (by have:=ok.fl i hi; omega)]; exact hn v hv
theorem sweep_none {g : G} {L : Nat → Option Int} (ok : g.Ok) (hn : ∀ v,g.n ≤ v → L v = none) : ∀ i,i ≤ g.m → ∀ v,g.n ≤ v → sweep g L i v = none:=by
 intro i
 induction i with
 | zero => exact fun _ => hn
 | succ i ih => exact fun hi => relax_none (ih (by omega)) ok (by omega)
theorem rounds_none {g : G} (ok : g.Ok) {t : Nat} (ht : t < g.n) : ∀ r v,g.n ≤ v → rounds g t r v = none:=by
 intro r
 induction r with
 | zero => intro v hv; simp [rounds,start]; omega
 | succ r ih => exact sweep_none ok ih _ (Nat.le_refl _)
theorem rounds_fix {g : G} (ok : g.Ok) {t r : Nat} (ht : t < g.n) (hr : g.n ≤ r + 1) : ∀ v,rounds g t (r + 1) v = rounds g t r v:=by
 intro v
 by_cases hv : v < g.n
 case pos => exact (rounds_opt ok ht (by omega)).uniq (rounds_opt ok ht hr) v hv
 rw [rounds_none ok ht _ v (by omega),rounds_none ok ht _ v (by omega)]
theorem sweep_same {g : G} {L : Nat → Option Int} (h : ∀ v,sweep g L g.m v = L v) {i : Nat} (hi : i ≤ g.m) : ∀ v,sweep g L i v = L v:=by
 intro v;have h1:=sweep_le g L 0 i v;have h2:=sweep_le g L i (g.m - i) v;rw [Nat.zero_add] at h1;rw [show i + (g.m - i) = g.m by omega,h v] at h2;cases e : L v with
 | none =>
  cases e' : sweep g L i v with
  | none => rfl
  | some y =>
   obtain ⟨x,hx,_⟩:=h2 y e';rw [e] at hx; cases hx
 | some x =>
  obtain ⟨y,hy,a1⟩:=h1 x (by simpa [sweep] using e);obtain ⟨x',hx',a2⟩:=h2 y hy;rw [e] at hx';obtain rfl:=Option.some.inj hx';rw [hy]; congr 1; omega
theorem relax_bd {g : G} {L : Nat → Option Int} {B : Int} (h : ∀ v x,L v = some x → 0 ≤ x ∧ x ≤ B) {i : Nat} {w1 : Int} (hw0 : 0 ≤ g.w i) (hw : g.w i ≤ w1) : ∀ v x,relax g L i v = some x → 0 ≤ x ∧ x ≤ B + w1:=by
 intro v x hx
 rcases relax_cases g L i with ⟨e,_⟩ | ⟨_,y,hy,hl,e⟩
 ·rw [e] at hx; have:=h v x hx; omega
 ·rw [e] at hx
  by_cases hv : v = g.fr i
  case neg => rw [put_far _ _ hv] at hx; have:=h v x hx; omega
  subst hv;rw [put_same] at hx;obtain rfl:=Option.some.inj hx;have:=h _ _ hy; omega
end Go.Proofs.Ytljdcinpjnijcaa.Sp
namespace Go.Proofs.Ytljdcinpjnijcaa.Sp
structure Dbl (g e s : G) (D : Nat → Option Int) : Prop where
 en : e.n = g.n
 em : e.m = g.m
 ef : e.fr = g.fr
 et : e.tw = g.tw
 eu : e.use = g.use
 ew : ∀ i,i < g.m → e.w i = 1000 * g.w i + 1
 sn : s.n = g.n
 sm : s.m = g.m
 sf : s.fr = g.fr
 st : s.tw = g.tw
 sw : ∀ i,i < g.m → s.w i = 1
 su : ∀ i,i < g.m → (s.use i = true ↔ g.use i = true ∧ ∃ x,D (g.tw i) = some x ∧ D (g.fr i) = some (g.w i + x))
def both (D S : Nat → Option Int) : Nat → Option Int:=fun v =>
 match D v with
 | none => none
 | some d => match S v with
  | none => none
  | some k => some (1000 * d + k)
section
variable {g e s : G} {t : Nat} {D S : Nat → Option Int} (h : Dbl g e s D) (ok : g.Ok) (hD : Opt g t D) (hS : Opt s t S) (ht : t < g.n)
include h
theorem Dbl.okS (ok : g.Ok) : s.Ok:=by
 refine ⟨?_,?_,?_⟩
 ·rw [h.sf,h.sm,h.sn]; exact ok.fl
 ·rw [h.st,h.sm,h.sn]; exact ok.tl
 ·intro i hi;rw [h.sm] at hi;rw [h.sw i hi]; omega
theorem Dbl.toE {u v k : Nat} {c : Int} (w : Wk g u v k c) : Wk e u v k (1000 * c + k):=by
 induction w with
 | nil => exact (Wk.nil _).cast rfl (by omega)
 | @cons i v k c hi hu _ ih =>
  have h1 : Wk e (e.tw i) v k (1000 * c + k):=by rw [h.et]; exact ih
  have h2:=Wk.cons (i:=i) (by rw [h.em]; exact hi) (by rw [h.eu]; exact hu) h1;rw [h.ef,h.ew i hi] at h2;exact h2.cast rfl (by omega)
theorem Dbl.ofE {u v k : Nat} {c : Int} (w : Wk e u v k c) : ∃ c',Wk g u v k c' ∧ c = 1000 * c' + k:=by
 induction w with
 | nil => exact ⟨0,.nil _,by omega⟩
 | @cons i v k c hi hu _ ih =>
  obtain ⟨c',h1,h2⟩:=ih;rw [h.em] at hi;rw [h.eu] at hu;rw [h.et] at h1;refine ⟨g.w i + c',?_,by rw [h.ew i hi]; omega⟩;rw [h.ef];exact .cons hi hu h1
theorem Dbl.ofS (hD : Opt g t D) (ht : t < g.n) (ok : g.Ok) {u k : Nat} {c : Int} (w : Wk s u t k c) : ∃ d,D u = some d ∧ Wk g u t k d ∧ c = k:=by
 generalize ev : t = v at w
 induction w with
 | nil v =>
  subst ev;obtain ⟨x,hx,h1⟩:=(hD t ht).2 0 0 (.nil _);obtain ⟨k,hk⟩:=(hD t ht).1 x hx;have:=hk.nonneg ok;have e0 : x = 0:=by omega
  subst e0;exact ⟨0,hx,.nil _,rfl⟩
 | @cons i v k c hi hu _ ih =>
  obtain ⟨d,h1,h2,h3⟩:=ih ev;rw [h.sm] at hi;obtain ⟨g1,x,g2,g3⟩:=(h.su i hi).1 hu;rw [h.st] at h1 h2;rw [g2] at h1;obtain rfl:=Option.some.inj h1;rw [h.sf];exact ⟨_,g3,.cons hi g1 h2,by rw [h.sw i hi,h3]; omega⟩
theorem Dbl.toS (hD : Opt g t D) (ok : g.Ok) {u k : Nat} {c : Int} (w : Wk g u t k c) (hc : D u = some c) : Wk s u t k k:=by
 generalize ev : t = v at w
 induction w with
 | nil => exact .nil _
 | @cons i v k c hi hu w ih =>
  subst ev;obtain ⟨x,hx,h1⟩:=(hD _ (ok.tl i hi)).2 k c w;obtain ⟨j,hj⟩:=(hD _ (ok.tl i hi)).1 x hx;obtain ⟨y,hy,h2⟩:=(hD _ (ok.fl i hi)).2 _ _ (Wk.cons hi hu hj);rw [hc] at hy;obtain rfl:=Option.some.inj hy;have ex : x = c:=by omega
  subst ex;have h3:=ih hx rfl;rw [← h.st] at h3;have h4:=Wk.cons (i:=i) (by rw [h.sm]; exact hi) ((h.su i hi).2 ⟨hu,x,hx,hc⟩) h3;rw [h.sf,h.sw i hi] at h4;exact h4.cast rfl (by omega)
theorem Dbl.some (hD : Opt g t D) (hS : Opt s t S) (ht : t < g.n) (ok : g.Ok) {v : Nat} (hv : v < g.n) {d : Int} (hd : D v = .some d) : ∃ k : Nat,S v = .some (k : Int) ∧ k < g.n ∧ Wk s v t k k:=by
 obtain ⟨k,hk⟩:=(hD v hv).1 d hd;have w:=h.toS hD ok hk hd;obtain ⟨x,hx,h1⟩:=(hS v (by rw [h.sn]; exact hv)).2 _ _ w;obtain ⟨j,hj⟩:=(hS v (by rw [h.sn]; exact hv)).1 x hx;obtain ⟨d',e1,e2,e3⟩:=h.ofS hD ht ok hj;obtain ⟨j',c',w1,w2,w3,w4⟩:=hj.short (h.okS ok) (by rw [h.sn]; exact ht);obtain ⟨y,hy,h5⟩:=(hS v (by rw [h.sn]; exact hv)).2 _ _ w1;rw [hx] at hy;obtain rfl:=Option.some.inj hy;obtain ⟨_,_,_,e5⟩:=h.ofS hD ht ok w1;rw [h.sn] at w2;exact ⟨j,by rw [hx,e3],by omega,e3 ▸ hj⟩
theorem Dbl.opt (hD : Opt g t D) (hS : Opt s t S) (ht : t < g.n) (ok : g.Ok) (h8 : g.n ≤ 1000) : Opt e t (both D S):=by
 intro v hv;rw [h.en] at hv;constructor
 ·intro x hx
  unfold both at hx
  cases ed : D v with
  | none => rw [ed] at hx; cases hx
  | some d =>
   obtain ⟨k,hk,h1,h2⟩:=h.some hD hS ht ok hv ed;rw [ed,hk] at hx;obtain rfl:=Option.some.inj hx;obtain ⟨d',g1,g2,g3⟩:=h.ofS hD ht ok h2;rw [ed] at g1;obtain rfl:=Option.some.inj g1;exact ⟨k,h.toE g2⟩
 ·intro k c w;obtain ⟨c',w1,rfl⟩:=h.ofE w;obtain ⟨d,hd,h1⟩:=(hD v hv).2 _ _ w1;obtain ⟨j,hj,h2,h3⟩:=h.some hD hS ht ok hv hd;refine ⟨1000 * d + j,by simp [both,hd,hj],?_⟩
  by_cases e0 : d = c'
  case neg => omega
  subst e0;have w2:=h.toS hD ok w1 hd;obtain ⟨x,hx,h4⟩:=(hS v (by rw [h.sn]; exact hv)).2 _ _ w2;rw [hj] at hx;obtain rfl:=Option.some.inj hx;omega
end
end Go.Proofs.Ytljdcinpjnijcaa.Sp
end
section
set_option linter.unusedSimpArgs false
set_option linter.unusedVariables false
set_option linter.unusedSectionVars false
namespace Go.Proofs.Ytljdcinpjnijcaa.Pure
open Go.RowKit Go.Proofs.Ytljdcinpjnijcaa.Pr Go.Proofs.YtljdcinpjnijcaaW.PrintWords Go.Proofs.YtljdcinpjnijcaaW.PrintLast Go.Proofs.YtljdcinpjnijcaaW.PrintMore
open Go.Proofs.Ytljdcinpjnijcaa.Sp (G Wk Opt lts put relax sweep rounds start Dbl)
def gr (N : Nat) (l : List Arc) : G:=⟨N,l.length,fun i => (arc l i).f0.toNat,fun i => (arc l i).f1.toNat,fun i => (arc l i).f2,fun _ => true⟩
def grE (N : Nat) (l : List Arc) : G:={ gr N l with w:=fun i => 1000 * (arc l i).f2 + 1 }
def grS (N : Nat) (l : List Arc) (D : Nat → Option Int) : G:={ gr N l with w:=fun _ => 1,use:=fun i => match D (arc l i).f1.toNat with | none => false | some x => decide (D (arc l i).f0.toNat = some ((arc l i).f2 + x)) }
section
variable {N : Nat} {l : List Arc} (hg : NetGood N l)
include hg
theorem gr_ok : (gr N l).Ok:=⟨fun i hi => by have:=hg.ok i hi; show (arc l i).f0.toNat < N; omega,fun i hi => by have:=hg.ok i hi; show (arc l i).f1.toNat < N; omega,fun i hi => by have:=hg.ok i hi; show 0 ≤ (arc l i).f2; omega⟩
theorem grE_ok : (grE N l).Ok:=⟨fun i hi => by have:=hg.ok i hi; show (arc l i).f0.toNat < N; omega,fun i hi => by have:=hg.ok i hi; show (arc l i).f1.toNat < N; omega,fun i hi => by have:=hg.ok i hi; show 0 ≤ 1000 * (arc l i).f2 + 1; omega⟩
theorem grS_ok (D : Nat → Option Int) : (grS N l D).Ok:=⟨fun i hi => by have:=hg.ok i hi; show (arc l i).f0.toNat < N; omega,fun i hi => by have:=hg.ok i hi; show (arc l i).f1.toNat < N; omega,fun i hi => by show (0 : Int) ≤ 1; omega⟩
end
theorem dbl (N : Nat) (l : List Arc) (D : Nat → Option Int) : Dbl (gr N l) (grE N l) (grS N l D) D:=by
 refine ⟨rfl,rfl,rfl,rfl,rfl,fun i _ => rfl,rfl,rfl,rfl,rfl,fun i _ => rfl,fun i _ => ?_⟩
 show (match D (arc l i).f1.toNat with | none => false | some x => decide (D (arc l i).f0.toNat = some ((arc l i).f2 + x))) = true ↔ _
 cases e : D (arc l i).f1.toNat with
 | none =>
  refine ⟨fun h => (by cases h),fun ⟨_,x,h,_⟩ => ?_⟩;have h : D (arc l i).f1.toNat = some x:=h;rw [e] at h; cases h
 | some x =>
  dsimp only;rw [decide_eq_true_iff];refine ⟨fun h => ⟨rfl,x,e,h⟩,fun ⟨_,y,h,h2⟩ => ?_⟩;have h : D (arc l i).f1.toNat = some y:=h;rw [e] at h;obtain rfl:=Option.some.inj h;exact h2
def dst (N : Nat) (l : List Arc) (t : Nat) : Nat → Option Int:=rounds (gr N l) t N
def stp (N : Nat) (l : List Arc) (t : Nat) : Nat → Option Int:=rounds (grS N l (dst N l t)) t N
section
variable {N : Nat} {l : List Arc} (hg : NetGood N l) {t : Nat} (ht : t < N)
include hg ht
theorem dst_opt : Opt (gr N l) t (dst N l t):=Sp.rounds_opt (gr_ok hg) ht (by show N ≤ N + 1; omega)
theorem stp_opt : Opt (grS N l (dst N l t)) t (stp N l t):=Sp.rounds_opt (grS_ok hg _) ht (by show N ≤ N + 1; omega)
theorem stp_some {v : Nat} (hv : v < N) {d : Int} (hd : dst N l t v = some d) : ∃ k : Nat,stp N l t v = some (k : Int) ∧ k < N:=by
 obtain ⟨k,h1,h2,_⟩:=(dbl N l (dst N l t)).some (dst_opt hg ht) (stp_opt hg ht) ht (gr_ok hg) hv hd;exact ⟨k,h1,h2⟩
theorem tow_both {v : Nat} (hv : v < N) : rounds (grE N l) t N v = Sp.both (dst N l t) (stp N l t) v:=by
 have h8:=hg.n8;have h1:=Sp.rounds_opt (g:=grE N l) (t:=t) (r:=N) (grE_ok hg) ht (by show N ≤ N + 1; omega);have h2:=(dbl N l (dst N l t)).opt (dst_opt hg ht) (stp_opt hg ht) ht (gr_ok hg) (by show N ≤ 1000; omega);exact h1.uniq h2 v hv
end
abbrev Msr:=S104
def ent : Option Int → Msr
 | none => ⟨99999,0⟩
 | some x => ⟨x / 1000,x % 1000⟩
def far : Option Int → Int
 | none => 99999
 | some x => x
def lstM (N : Nat) (F : Nat → Msr) : List Msr:=(List.range N).map F
theorem lstM_len (N : Nat) (F : Nat → Msr) : (lstM N F).length = N:=by simp [lstM]
theorem lstM_rd {N v : Nat} (F : Nat → Msr) (h : v < N) : rd_T104 (lstM N F) (v : Int) = F v:=by
 simp [rd_T104,lstM,h]
theorem lstM_congr {N : Nat} {F H : Nat → Msr} (h : ∀ v,v < N → F v = H v) : lstM N F = lstM N H:=by
 unfold lstM
 exact List.map_congr_left (fun v hv => h v (List.mem_range.1 hv))
theorem lstM_set {N a : Nat} (L : Nat → Option Int) (x : Int) : (lstM N (fun v => ent (L v))).set a (ent (some x)) = lstM N (fun v => ent (put L a x v)):=by
 apply List.ext_getElem (by simp [lstM])
 intro i h1 h2;simp only [List.getElem_set]
 by_cases e : a = i
 case pos => subst e; simp [lstM,put]
 simp [lstM,put,e,show ¬ i = a from fun h => e h.symm]
theorem less_eq (a b c d : Int) : impl_measure_less.f a b c d = some (decide (a < c ∨ a = c ∧ b < d)):=by
 unfold impl_measure_less.f
 by_cases h : a < c
 case pos => rw [if_pos h,decide_eq_true (.inl h)]
 rw [if_neg h]
 by_cases h2 : a = c
 case neg => rw [if_neg h2,decide_eq_false (fun h3 => h3.elim h (fun h4 => h2 h4.1))]
 rw [if_pos h2]
 congr 1
 simp only [decide_eq_decide];exact ⟨fun h3 => .inr ⟨h2,h3⟩,fun h3 => h3.elim (fun h4 => absurd h4 h) (fun h4 => h4.2)⟩
def Bd (s : Nat) (L : Nat → Option Int) : Prop:=∀ v x,L v = some x → 0 ≤ x ∧ x / 1000 ≤ 99 * (s : Int) ∧ x % 1000 ≤ (s : Int)
theorem Bd.relax {N : Nat} {l : List Arc} (hg : NetGood N l) {s : Nat} {L : Nat → Option Int} (h : Bd s L) (hs : s < 900) {i : Nat} (hi : i < l.length) : Bd (s + 1) (relax (grE N l) L i):=by
 obtain ⟨_,_,_,⟨a1,a2⟩,_⟩:=hg.ok i hi;intro v x hx
 rcases Sp.relax_cases (grE N l) L i with ⟨e,_⟩ | ⟨_,y,hy,hl,e⟩
 ·rw [e] at hx; have:=h v x hx; omega
 ·rw [e] at hx
  by_cases hv : v = (grE N l).fr i
  case neg => rw [Sp.put_far _ _ hv] at hx; have:=h v x hx; omega
  subst hv;rw [Sp.put_same] at hx;have hx : some (y + (1000 * (arc l i).f2 + 1)) = some x:=hx;obtain rfl:=Option.some.inj hx;have:=h _ _ hy;omega
theorem Bd.sweep {N : Nat} {l : List Arc} (hg : NetGood N l) {s : Nat} {L : Nat → Option Int} (h : Bd s L) : ∀ i,i ≤ l.length → s + i ≤ 900 → Bd (s + i) (sweep (grE N l) L i):=by
 intro i
 induction i with
 | zero => exact fun _ _ => h
 | succ i ih => exact fun hi hs => (ih (by omega) (by omega)).relax hg (by omega) (by omega)
theorem Bd.mono {s r : Nat} {L : Nat → Option Int} (h : Bd s L) (hs : s ≤ r) : Bd r L:=fun v x hx => by have:=h v x hx; omega
theorem Bd.rounds {N : Nat} {l : List Arc} (hg : NetGood N l) (t : Nat) : ∀ r,r ≤ 9 → Bd (16 * r) (rounds (grE N l) t r):=by
 intro r
 induction r with
 | zero =>
  intro _ v x hx
  unfold Sp.rounds Sp.start at hx
  split at hx
  ·obtain rfl:=Option.some.inj hx; omega
  ·cases hx
 | succ r ih =>
  intro hr;have:=hg.len;exact ((ih (by omega)).sweep hg l.length (Nat.le_refl _) (by omega)).mono (by omega)
def hit (g : G) (L : Nat → Option Int) (i : Nat) : Bool:=match L (g.tw i) with
 | none => false
 | some x => lts (x + g.w i) (L (g.fr i))
def fl (g : G) (L : Nat → Option Int) : Nat → Bool
 | 0 => false
 | i + 1 => fl g L i || hit g (sweep g L i) i
theorem relax_hit {g : G} {L : Nat → Option Int} {i : Nat} (h : hit g L i = false) : relax g L i = L:=by
 unfold hit at h
 unfold Sp.relax
 split
 ·cases e : L (g.tw i) with
  | none => rfl
  | some x => rw [e] at h; dsimp only at h ⊢; rw [h]; rfl
 ·rfl
theorem fl_none {g : G} {L : Nat → Option Int} : ∀ i,fl g L i = false → sweep g L i = L
 | 0,_ => rfl
 | i + 1,h => by
  have h : (fl g L i || hit g (sweep g L i) i) = false:=h;rw [Bool.or_eq_false_iff] at h
  show relax g (sweep g L i) i = L
  rw [relax_hit h.2,fl_none i h.1]
theorem fl_same {g : G} (hu : ∀ i,g.use i = true) {L : Nat → Option Int} (h : ∀ v,sweep g L g.m v = L v) : ∀ i,i ≤ g.m → fl g L i = false
 | 0,_ => rfl
 | i + 1,hi => by
  show (fl g L i || hit g (sweep g L i) i) = false
  rw [fl_same hu h i (by omega),Bool.false_or];have e1 : sweep g L i = L:=funext (Sp.sweep_same h (by omega));have e2 : relax g L i = L:=by
   have : sweep g L (i + 1) = L:=funext (Sp.sweep_same h hi);have e3 : sweep g L (i + 1) = relax g (sweep g L i) i:=rfl;rw [e3,e1] at this;exact this
  rw [e1]
  unfold hit
  unfold Sp.relax at e2
  rw [if_pos (hu i)] at e2;cases e : L (g.tw i) with
  | none => rfl
  | some x =>
   rw [e] at e2;dsimp only at e2 ⊢;cases hl : lts (x + g.w i) (L (g.fr i)) with
   | false => rfl
   | true =>
    rw [if_pos hl] at e2;have:=congrFun e2 (g.fr i);rw [Sp.put_same] at this;rw [← this] at hl;simp [Sp.lts] at hl
section
variable {N : Nat} {l : List Arc} (hg : NetGood N l)
include hg
theorem tow_l1 (L : Nat → Option Int) {s : Nat} (hs : s ≤ 700) (hL : Bd s L) {R : List Msr} : ∀ (m i : Nat),l.length - i = m → i ≤ l.length →
  Ev (fun k => impl_Net_toward.l0 k (lstM N (fun v => ent (sweep (grE N l) L l.length v))) (fl (grE N l) L l.length) N l) R →
  Ev (fun k => impl_Net_toward.l1 k (lstM N (fun v => ent (sweep (grE N l) L i v))) (fl (grE N l) L i) l (l.length : Int) (i : Int) N l) R:=by
 have h16:=hg.len;intro m
 induction m with
 | zero =>
  intro i hd hi h;have e : i = l.length:=by omega
  subst e;refine Ev.go ?_ (fun k => by rw [impl_Net_toward.l1]);exact Ev.neg (by omega) h
 | succ m ih =>
  intro i hd hi h;have hlt : i < l.length:=by omega
  have hn:=ih (i + 1) (by omega) (by omega) h;clear ih h;have hb:=hL.sweep hg i hi (by omega);obtain ⟨⟨a1,a2⟩,⟨a3,a4⟩,a5,⟨a6,a7⟩,_⟩:=hg.ok i hlt;have ef : (grE N l).fr i = (arc l i).f0.toNat:=rfl;have et : (grE N l).tw i = (arc l i).f1.toNat:=rfl;have ew : (grE N l).w i = 1000 * (arc l i).f2 + 1:=rfl;obtain ⟨f,hf⟩:=Int.eq_ofNat_of_zero_le a1;obtain ⟨t,ht⟩:=Int.eq_ofNat_of_zero_le a3;rw [hf,Int.toNat_natCast] at ef;rw [ht,Int.toNat_natCast] at et;have hfN : f < N:=by omega
  have htN : t < N:=by omega
  have hsw : sweep (grE N l) L (i + 1) = relax (grE N l) (sweep (grE N l) L i) i:=rfl;have hfl : fl (grE N l) L (i + 1) = (fl (grE N l) L i || hit (grE N l) (sweep (grE N l) L i) i):=rfl;rw [hsw,hfl] at hn;clear hsw hfl;generalize sweep (grE N l) L i = M at hn hb;generalize fl (grE N l) L i = b at hn;refine Ev.go ?_ (fun k => by rw [impl_Net_toward.l1]);rw [rda,up1 hlt (by simp only [maxLen]; omega),hf,ht,lstM_rd _ htN,lstM_rd _ hfN,lstM_len];refine Ev.pos (by omega) (Ev.pos (by omega) (Ev.pos (by omega) (Ev.pos (by omega) (Ev.pos (by omega) ?_))));cases et2 : M t with
  | none =>
   have hh : hit (grE N l) M i = false:=by unfold hit; rw [et,et2]
   rw [hh,relax_hit hh,Bool.or_false] at hn;exact Ev.pos rfl hn
  | some x =>
   have hx:=hb t x et2;have hq : 0 ≤ x / 1000:=by omega
   have hr : 0 ≤ x % 1000:=by omega
   have w1 : wrap64 (x / 1000 + (arc l i).f2) = x / 1000 + (arc l i).f2:=w64 (by omega) (by omega);have w2 : wrap64 (x % 1000 + 1) = x % 1000 + 1:=w64 (by omega) (by omega);have e1 : (x + (1000 * (arc l i).f2 + 1)) / 1000 = x / 1000 + (arc l i).f2:=by omega
   have e2 : (x + (1000 * (arc l i).f2 + 1)) % 1000 = x % 1000 + 1:=by omega
   have eent : (⟨x / 1000 + (arc l i).f2,x % 1000 + 1⟩ : Msr) = ent (some (x + (1000 * (arc l i).f2 + 1))):=by simp only [ent,e1,e2]
   have hne : ¬ ((ent (some x)).f0 = 99999):=by show ¬ (x / 1000 = 99999); omega
   have elts : decide ((x / 1000 + (arc l i).f2) < (ent (M f)).f0 ∨ (x / 1000 + (arc l i).f2) = (ent (M f)).f0 ∧ (x % 1000 + 1) < (ent (M f)).f1) = lts (x + (1000 * (arc l i).f2 + 1)) (M f):=by
    cases ef2 : M f with
    | none => exact decide_eq_true (.inl (by show x / 1000 + (arc l i).f2 < 99999; omega))
    | some y =>
     have hy:=hb f y ef2
     show decide (_ < y / 1000 ∨ _ = y / 1000 ∧ _ < y % 1000) = decide (_ < y)
     rw [decide_eq_decide];omega
   have hh : hit (grE N l) M i = lts (x + (1000 * (arc l i).f2 + 1)) (M f):=by unfold hit; rw [et,et2,ef,ew]
   have hre : relax (grE N l) M i = if lts (x + (1000 * (arc l i).f2 + 1)) (M f) = true then put M f (x + (1000 * (arc l i).f2 + 1)) else M:=by
    unfold Sp.relax
    rw [if_pos (show (grE N l).use i = true from rfl),et,et2,ef,ew]
   rw [hh,hre] at hn;clear hh hre;refine Ev.neg hne ?_
   show Ev (fun k => if 0 ≤ ((f : Nat) : Int) then _ else _) R
   rw [show (ent (some x)).f0 = x / 1000 from rfl,show (ent (some x)).f1 = x % 1000 from rfl,w1,w2,Int.toNat_natCast,eent,lstM_set];clear w1 w2 hne;refine Ev.pos (by omega) (Ev.pos (by omega) (Ev.bind0 (less_eq _ _ _ _) ?_));rw [elts];cases c : lts (x + (1000 * (arc l i).f2 + 1)) (M f) with
   | true =>
    rw [c,if_pos rfl,Bool.or_true] at hn;exact Ev.pos rfl hn
   | false =>
    rw [c,if_neg (by simp),Bool.or_false] at hn;exact Ev.neg (by simp) hn
theorem tow_l0 {t : Nat} (ht : t < N) : ∀ d r,r + d = N → Ev (fun k => impl_Net_toward.l0 k (lstM N (fun v => ent (rounds (grE N l) t r v))) true N l) (lstM N (fun v => ent (rounds (grE N l) t N v))):=by
 have h8:=hg.n8;have stop : ∀ r,r ≤ N → fl (grE N l) (rounds (grE N l) t r) l.length = false → lstM N (fun v => ent (rounds (grE N l) t (r + 1) v)) = lstM N (fun v => ent (rounds (grE N l) t N v)):=by
  intro r hr hf;have e:=fl_none l.length hf;have o1 : Opt (grE N l) t (rounds (grE N l) t r):=Sp.opt_of_fix (Sp.rounds_real _ _ _) (Sp.rounds_t _ _ _) (fun v => congrFun e v);have o2:=Sp.rounds_opt (g:=grE N l) (t:=t) (r:=N) (grE_ok hg) ht (by show N ≤ N + 1; omega);refine lstM_congr (fun v hv => ?_);have e2 : rounds (grE N l) t (r + 1) = rounds (grE N l) t r:=e;rw [e2,o1.uniq o2 v hv]
 intro d
 induction d with
 | zero =>
  intro r hr;obtain rfl : r = N:=by omega
  refine Ev.go ?_ (fun k => by rw [impl_Net_toward.l0]);refine Ev.pos rfl (tow_l1 hg (rounds (grE r l) t r) (s:=16 * r) (by omega) (Bd.rounds hg t r (by omega)) _ 0 rfl (Nat.zero_le _) ?_);have hf:=fl_same (g:=grE r l) (fun _ => rfl) (L:=rounds (grE r l) t r) (Sp.rounds_fix (grE_ok hg) ht (by show r ≤ r + 1; omega)) l.length (Nat.le_refl _);rw [hf];refine Ev.go ?_ (fun k => by rw [impl_Net_toward.l0]);exact Ev.neg (by simp) (Ev.is (stop r (Nat.le_refl _) hf))
 | succ d ih =>
  intro r hr;refine Ev.go ?_ (fun k => by rw [impl_Net_toward.l0]);refine Ev.pos rfl (tow_l1 hg (rounds (grE N l) t r) (s:=16 * r) (by omega) (Bd.rounds hg t r (by omega)) _ 0 rfl (Nat.zero_le _) ?_);cases hf : fl (grE N l) (rounds (grE N l) t r) l.length with
  | true => exact ih (r + 1) (by omega)
  | false =>
   refine Ev.go ?_ (fun k => by rw [impl_Net_toward.l0]);exact Ev.neg (by simp) (Ev.is (stop r (by omega) hf))
theorem tow_ev {t : Nat} (ht : t < N) : Ev (fun k => impl_Net_toward.f k N l (t : Int)) (lstM N (fun v => ent (rounds (grE N l) t N v))):=by
 have h8:=hg.n8
 unfold impl_Net_toward.f
 refine Ev.bind0 (rep_measure _ N (by omega)) ?_;refine Ev.pos (by omega) (Ev.pos (by simp; omega) ?_);have e : (List.replicate N (⟨99999,0⟩ : Msr)).set (t : Int).toNat ⟨0,0⟩ = lstM N (fun v => ent (rounds (grE N l) t 0 v)):=by
  apply List.ext_getElem (by simp [lstM])
  intro i h1 h2;simp only [Int.toNat_natCast,List.getElem_set]
  by_cases c : t = i
  case pos => subst c; simp [lstM,Sp.rounds,Sp.start,ent]
  simp [lstM,Sp.rounds,Sp.start,ent,c,show ¬ i = t from fun h => c h.symm]
 rw [e];exact tow_l0 hg ht N 0 (by omega)
end
end Go.Proofs.Ytljdcinpjnijcaa.Pure
end
section
set_option linter.unusedSimpArgs false
set_option linter.unusedVariables false
set_option linter.unusedSectionVars false
namespace Go.Proofs.Ytljdcinpjnijcaa.Pure
open Go.RowKit Go.Proofs.Ytljdcinpjnijcaa.Pr Go.Proofs.YtljdcinpjnijcaaW.PrintWords Go.Proofs.YtljdcinpjnijcaaW.PrintLast Go.Proofs.YtljdcinpjnijcaaW.PrintMore
open Go.Proofs.Ytljdcinpjnijcaa.Sp (G Wk Opt)
def Chain (l : List Arc) : Int → List Int → Int → Prop
 | u,[],v => u = v
 | u,k :: w,v => (0 ≤ k ∧ k < l.length ∧ (arc l k.toNat).f0 = u) ∧ Chain l (arc l k.toNat).f1 w v
def sumW (l : List Arc) (w : List Int) : Int:=(w.map fun k => (arc l k.toNat).f2).sum
theorem Chain.rng {l : List Arc} : ∀ (w : List Int) (u v : Int),Chain l u w v → ∀ k ∈ w,0 ≤ k ∧ k < l.length
 | [],_,_,_,k,hk => by simp at hk
 | a :: w,u,v,h,k,hk => by
  rcases List.mem_cons.1 hk with rfl | hk
  ·exact ⟨h.1.1,h.1.2.1⟩
  ·exact Chain.rng w _ v h.2 k hk
theorem back_arc' (l : List Arc) (i : Nat) : arc (back l) i = flip (arc l i):=by
 by_cases h : i < l.length
 case pos => exact back_arc h
 have e1 : arc (back l) i = z34:=by unfold arc; simp [rd_T34,back_len,List.getElem?_eq_none (show l.length ≤ i by omega),List.getElem?_eq_none (show (back l).length ≤ i by rw [back_len]; omega)]
 have e2 : arc l i = z34:=by unfold arc; simp [rd_T34,List.getElem?_eq_none (show l.length ≤ i by omega)]
 rw [e1,e2]; rfl
theorem back_back (l : List Arc) : back (back l) = l:=by
 unfold back
 rw [List.map_map];have : (flip ∘ flip : Arc → Arc) = id:=by funext a; rfl
 rw [this,List.map_id]
def pA (N : Nat) (l : List Arc) (t u : Nat) (a : Arc) : Bool:=decide (a.f0 = (u : Int)) && match dst N l t a.f1.toNat,stp N l t a.f1.toNat with
 | some x,some k => decide (dst N l t u = some (a.f2 + x)) && decide (stp N l t u = some (k + 1))
 | _,_ => false
def nxA (N : Nat) (l : List Arc) (t u : Nat) : Int:=idxI (pA N l t u) l
def bestW (N : Nat) (l : List Arc) (t : Nat) : Nat → Nat → List Int
 | 0,_ => []
 | k + 1,u => nxA N l t u :: bestW N l t k (arc l (nxA N l t u).toNat).f1.toNat
theorem idxI_spec {α : Type} {p : α → Bool} {l : List α} (h : ∃ x ∈ l,p x = true) : ∃ i : Nat,∃ hi : i < l.length,idxI p l = (i : Int) ∧ p l[i] = true ∧ ∀ j (hj : j < i),p (l[j]'(by omega)) = false:=by
 unfold idxI
 cases e : l.findIdx? p with
 | none =>
  obtain ⟨x,hx,hp⟩:=h;have:=List.findIdx?_eq_none_iff.1 e x hx;rw [this] at hp; cases hp
 | some i =>
  obtain ⟨hi,h1,h2⟩:=List.findIdx?_eq_some_iff_getElem.1 e;exact ⟨i,hi,rfl,h1,fun j hj => by simpa using h2 j hj⟩
theorem wk_cost {N : Nat} {l : List Arc} (hg : NetGood N l) {u v k : Nat} {c : Int} (w : Wk (gr N l) u v k c) : c ≤ 99 * (k : Int):=by
 induction w with
 | nil => omega
 | @cons i _ _ c hi _ _ ih =>
  have h : (gr N l).w i ≤ 99:=(hg.ok i hi).2.2.2.1.2;omega
section
variable {N : Nat} {l : List Arc} (hg : NetGood N l) {t : Nat} (ht : t < N)
include hg ht
theorem dst_t : dst N l t t = some 0:=by
 obtain ⟨x,h1,h2⟩:=(dst_opt hg ht t ht).2 0 0 (.nil t);obtain ⟨k,w⟩:=(dst_opt hg ht t ht).1 x h1;have:=w.nonneg (gr_ok hg);rw [h1]; congr 1; omega
theorem stp_t : stp N l t t = some 0:=by
 obtain ⟨x,h1,h2⟩:=(stp_opt hg ht t ht).2 0 0 (.nil t);obtain ⟨k,w⟩:=(stp_opt hg ht t ht).1 x h1;have:=w.nonneg (grS_ok hg _);rw [h1]; congr 1; omega
theorem dst_bd {v : Nat} (hv : v < N) {d : Int} (h : dst N l t v = some d) : 0 ≤ d ∧ d ≤ 693:=by
 have h8:=hg.n8;obtain ⟨k,w⟩:=(dst_opt hg ht v hv).1 d h;obtain ⟨k',c',w',h1,h2,h3⟩:=w.short (gr_ok hg) ht;obtain ⟨x,h4,h5⟩:=(dst_opt hg ht v hv).2 _ _ w';rw [h] at h4;obtain rfl:=Option.some.inj h4;have h6:=wk_cost hg w';have h7 : k' < N:=h1;exact ⟨w.nonneg (gr_ok hg),by omega⟩
theorem pA_some {u : Nat} (hu : u < N) (hne : u ≠ t) {d : Int} (hd : dst N l t u = some d) {k : Nat} (hk : stp N l t u = some (k : Int)) : ∃ a ∈ l,pA N l t u a = true:=by
 obtain ⟨j,w⟩:=(stp_opt hg ht u hu).1 _ hk;have hN:=(dbl N l (dst N l t))
 generalize hc : (k : Int) = c at w;cases w with
 | nil => exact absurd rfl hne
 | @cons i v _ c hi hus w =>
  have hil : i < l.length:=hi;have hok:=hg.ok i hil;have ew : (grS N l (dst N l t)).w i = 1:=rfl;have ef : (grS N l (dst N l t)).fr i = (arc l i).f0.toNat:=rfl;have et : (grS N l (dst N l t)).tw i = (arc l i).f1.toNat:=rfl;rw [ew] at hc;rw [et] at w;rw [ef] at hu hd hk;obtain ⟨_,x,e1,e2⟩:=(hN.su i hi).1 hus;have e1 : dst N l t (arc l i).f1.toNat = some x:=e1;have e2 : dst N l t (arc l i).f0.toNat = some ((arc l i).f2 + x):=e2;have h1N : (arc l i).f1.toNat < N:=by omega
  obtain ⟨k',e3,h3⟩:=stp_some hg ht h1N e1;obtain ⟨y,e4,h4⟩:=(stp_opt hg ht _ h1N).2 _ _ w;rw [e3] at e4;obtain rfl:=Option.some.inj e4;obtain ⟨j2,w2⟩:=(stp_opt hg ht _ h1N).1 _ e3;have w3:=Wk.cons (g:=grS N l (dst N l t)) (i:=i) hi hus w2;rw [ef] at w3;obtain ⟨z,e5,h5⟩:=(stp_opt hg ht _ hu).2 _ _ w3;rw [hk] at e5;obtain rfl:=Option.some.inj e5;rw [ew] at h5;refine ⟨arc l i,arc_mem hil,?_⟩
  show (decide ((arc l i).f0 = (((arc l i).f0.toNat : Nat) : Int)) && _) = true
  rw [decide_eq_true (by omega),Bool.true_and,ef,e1,e3];dsimp only;rw [decide_eq_true e2,Bool.true_and,hk];exact decide_eq_true (by congr 1; omega)
theorem nx_ok {u : Nat} (hu : u < N) (hne : u ≠ t) {d : Int} (hd : dst N l t u = some d) {k : Nat} (hk : stp N l t u = some (k : Int)) : ∃ i : Nat,nxA N l t u = (i : Int) ∧ i < l.length ∧ (arc l i).f0 = (u : Int) ∧ (arc l i).f1.toNat < N ∧ dst N l t (arc l i).f1.toNat = some (d - (arc l i).f2) ∧ 0 < k ∧ stp N l t (arc l i).f1.toNat = some ((k - 1 : Nat) : Int) ∧ pA N l t u (arc l i) = true ∧ ∀ j,j < i → pA N l t u (arc l j) = false:=by
 obtain ⟨i,hi,e,hp,hf⟩:=idxI_spec (pA_some hg ht hu hne hd hk);rw [← arc_get hi] at hp;have hp0:=hp
 unfold pA at hp
 rw [Bool.and_eq_true,decide_eq_true_eq] at hp;obtain ⟨h1,h2⟩:=hp;have hok:=hg.ok i hi;have h1N : (arc l i).f1.toNat < N:=by omega
 cases e1 : dst N l t (arc l i).f1.toNat with
 | none => rw [e1] at h2; cases h2
 | some x =>
  obtain ⟨k',e2,_⟩:=stp_some hg ht h1N e1;rw [e1,e2] at h2;dsimp only at h2;rw [Bool.and_eq_true,decide_eq_true_eq,decide_eq_true_eq,hd,hk] at h2;have a1:=Option.some.inj h2.1;have a2:=Option.some.inj h2.2;refine ⟨i,e,hi,h1,h1N,by rw [show d - (arc l i).f2 = x by omega,e1],by omega,by rw [e2]; congr 1; omega,hp0,fun j hj => ?_⟩;rw [arc_get (by omega)];exact hf j hj
theorem bestW_ok : ∀ (k u : Nat) (d : Int),u < N → dst N l t u = some d → stp N l t u = some (k : Int) → Chain l (u : Int) (bestW N l t k u) (t : Int) ∧ (bestW N l t k u).length = k ∧ sumW l (bestW N l t k u) = d
 | 0,u,d,hu,hd,hk => by
  have hut : u = t:=by
   apply Classical.byContradiction
   intro hne;obtain ⟨i,_,_,_,_,_,h0,_⟩:=nx_ok hg ht hu hne hd hk;omega
  subst hut;rw [dst_t hg ht] at hd;exact ⟨rfl,rfl,Option.some.inj hd⟩
 | k + 1,u,d,hu,hd,hk => by
  have hne : u ≠ t:=by
   rintro rfl;rw [stp_t hg ht] at hk;have:=Option.some.inj hk;omega
  obtain ⟨i,e,hi,h1,h2,h3,_,h4,_⟩:=nx_ok hg ht hu hne hd hk;have hok:=hg.ok i hi;obtain ⟨a,b,c⟩:=bestW_ok k (arc l i).f1.toNat _ h2 h3 h4;have e0 : bestW N l t (k + 1) u = (i : Int) :: bestW N l t k (arc l i).f1.toNat:=by
   show nxA N l t u :: bestW N l t k (arc l (nxA N l t u).toNat).f1.toNat = _
   rw [e,Int.toNat_natCast]
  rw [e0];refine ⟨⟨⟨by omega,by omega,by rw [Int.toNat_natCast]; exact h1⟩,?_⟩,by rw [List.length_cons,b],?_⟩
  ·rw [Int.toNat_natCast];rw [show (((arc l i).f1.toNat : Nat) : Int) = (arc l i).f1 by omega] at a;exact a
  ·have : sumW l ((i : Int) :: bestW N l t k (arc l i).f1.toNat) = (arc l i).f2 + sumW l (bestW N l t k (arc l i).f1.toNat):=by simp [sumW]
   rw [this,c]; omega
end
end Go.Proofs.Ytljdcinpjnijcaa.Pure
end
section
set_option linter.unusedSimpArgs false
set_option linter.unusedVariables false
set_option linter.unusedSectionVars false
namespace Go.Proofs.Ytljdcinpjnijcaa.Pure
open Go.RowKit Go.Proofs.Ytljdcinpjnijcaa.Pr Go.Proofs.YtljdcinpjnijcaaW.PrintWords Go.Proofs.YtljdcinpjnijcaaW.PrintLast Go.Proofs.YtljdcinpjnijcaaW.PrintMore
open Go.Proofs.Ytljdcinpjnijcaa.Sp (G Wk Opt rounds)
theorem idxI_congr {α : Type} {p q : α → Bool} {l : List α} (h : ∀ a ∈ l,p a = q a) : idxI p l = idxI q l:=by
 have e : l.findIdx? p = l.findIdx? q:=by
  induction l with
  | nil => rfl
  | cons a l ih =>
   rw [List.findIdx?_cons,List.findIdx?_cons,h a (List.mem_cons_self ..),ih (fun b hb => h b (List.mem_cons_of_mem _ hb))]
 unfold idxI
 rw [e]
section
variable {N : Nat} {l : List Arc} (hg : NetGood N l) {t : Nat} (ht : t < N)
include hg ht
theorem ent_none {v : Nat} (hv : v < N) (h : dst N l t v = none) : ent (rounds (grE N l) t N v) = ⟨99999,0⟩:=by
 rw [tow_both hg ht hv]
 unfold Sp.both
 rw [h]; rfl
theorem ent_some {v : Nat} (hv : v < N) {d : Int} {k : Nat} (h : dst N l t v = some d) (hk : stp N l t v = some (k : Int)) : ent (rounds (grE N l) t N v) = ⟨d,(k : Int)⟩:=by
 have h8:=hg.n8;obtain ⟨k',h1,h2⟩:=stp_some hg ht hv h;rw [hk] at h1;have:=Option.some.inj h1;rw [tow_both hg ht hv]
 unfold Sp.both
 rw [h,hk]
 show (⟨(1000 * d + (k : Int)) / 1000,(1000 * d + (k : Int)) % 1000⟩ : Msr) = ⟨d,(k : Int)⟩
 rw [show (1000 * d + (k : Int)) / 1000 = d by omega,show (1000 * d + (k : Int)) % 1000 = (k : Int) by omega]
theorem farc_pA {u : Nat} (hu : u < N) {d : Int} {k : Nat} (hd : dst N l t u = some d) (hk : stp N l t u = some (k : Int)) : ∀ a ∈ l,farc (lstM N (fun v => ent (rounds (grE N l) t N v))) (u : Int) ⟨d,(k : Int)⟩ a = pA N l t u a:=by
 intro a ha;have h8:=hg.n8;obtain ⟨i,hi,e⟩:=List.getElem_of_mem ha;have hok:=hg.ok i hi;rw [arc_get hi,e] at hok;obtain ⟨v,hv⟩:=Int.eq_ofNat_of_zero_le hok.2.1.1;have hvN : v < N:=by omega
 unfold farc pA
 congr 1
 rw [hv,lstM_rd _ hvN,Int.toNat_natCast];cases e1 : dst N l t v with
 | none =>
  rw [ent_none hg ht hvN e1];simp
 | some x =>
  obtain ⟨k',e2,h2⟩:=stp_some hg ht hvN e1;rw [ent_some hg ht hvN e1 e2,e2];have hx:=dst_bd hg ht hvN e1;have w1 : wrap64 (x + a.f2) = x + a.f2:=w64 (by omega) (by omega);have w2 : wrap64 ((k' : Int) + 1) = (k' : Int) + 1:=w64 (by omega) (by omega);dsimp only;rw [w1,w2,decide_eq_false (show ¬ x = 99999 by omega),hd,hk];clear w1 w2;simp only [Bool.not_false,Bool.true_and]
  congr 1
  ·rw [decide_eq_decide];exact ⟨fun h => by congr 1; omega,fun h => by have:=Option.some.inj h; omega⟩
  ·rw [decide_eq_decide];exact ⟨fun h => by congr 1; omega,fun h => by have:=Option.some.inj h; omega⟩
theorem best_l : ∀ (k u : Nat) (d : Int) (w : List Int),u < N → dst N l t u = some d → stp N l t u = some (k : Int) → w.length + k ≤ 100 → Ev (fun q => impl_Net_best.l0 q (u : Int) (t : Int) (lstM N (fun v => ent (rounds (grE N l) t N v))) w N l) (w ++ bestW N l t k u,true)
 | 0,u,d,w,hu,hd,hk,_ => by
  have hut : u = t:=by
   apply Classical.byContradiction
   intro hne;obtain ⟨i,_,_,_,_,_,h0,_⟩:=nx_ok hg ht hu hne hd hk;omega
  subst hut;refine Ev.go ?_ (fun k => by rw [impl_Net_best.l0]);exact Ev.pos rfl (Ev.is (by simp [bestW]))
 | k + 1,u,d,w,hu,hd,hk,hw => by
  have h8:=hg.n8;have hne : u ≠ t:=by
   rintro rfl;rw [stp_t hg ht] at hk;have:=Option.some.inj hk;omega
  obtain ⟨i,e,hi,h1,h2,h3,_,h4,_⟩:=nx_ok hg ht hu hne hd hk;have hok:=hg.ok i hi;have ih:=best_l k (arc l i).f1.toNat _ (w ++ [(i : Int)]) h2 h3 h4 (by simp; omega);have e0 : bestW N l t (k + 1) u = (i : Int) :: bestW N l t k (arc l i).f1.toNat:=by
   show nxA N l t u :: bestW N l t k (arc l (nxA N l t u).toNat).f1.toNat = _
   rw [e,Int.toNat_natCast]
  have ef : impl_Net_firstArc.f (N : Int) l (lstM N (fun v => ent (rounds (grE N l) t N v))) (u : Int) = some (i : Int):=by
   unfold impl_Net_firstArc.f
   rw [lstM_len,if_pos (by omega),if_pos (by omega),if_pos ?_,lstM_rd _ hu,ent_some hg ht hu hd hk,idxI_congr (farc_pA hg ht hu hd hk)]
   ·exact congrArg some e
   ·rw [List.all_eq_true];intro a ha;obtain ⟨j,hj,ej⟩:=List.getElem_of_mem ha;have:=hg.ok j hj;rw [arc_get hj,ej] at this;simp;omega
  refine Ev.go ?_ (fun k => by rw [impl_Net_best.l0]);refine Ev.neg (by omega) (Ev.bind0 ef (Ev.pos (by omega) (Ev.pos (by omega) (Ev.pos (by omega) ?_))));rw [rda,show (arc l i).f1 = (((arc l i).f1.toNat : Nat) : Int) by omega];exact ih.cast (by rw [e0]; simp)
def bestV (N : Nat) (l : List Arc) (u t : Nat) : List Int × Bool:=match dst N l t u,stp N l t u with
 | some _,some k => (bestW N l t k.toNat u,true)
 | _,_ => ([],false)
theorem best_ev {u : Nat} (hu : u < N) : Ev (fun q => impl_Net_best.f q N l (u : Int) (t : Int)) (bestV N l u t):=by
 have h8:=hg.n8
 unfold impl_Net_best.f bestV
 refine Ev.bind (tow_ev hg ht) ?_;rw [lstM_len,lstM_rd _ hu];refine Ev.pos (by omega) (Ev.pos (by omega) ?_);cases e1 : dst N l t u with
 | none =>
  rw [ent_none hg ht hu e1];exact Ev.pos rfl (Ev.now _)
 | some d =>
  obtain ⟨k,e2,h2⟩:=stp_some hg ht hu e1;have hx:=dst_bd hg ht hu e1;rw [ent_some hg ht hu e1 e2,e2];dsimp only;rw [Int.toNat_natCast];exact Ev.neg (by omega) (Ev.pos (by omega) (Ev.pos (by omega) ((best_l hg ht k u d [] hu e1 e2 (by simp; omega)).cast (by simp))))
end
section
variable {N : Nat} {l : List Arc} (hg : NetGood N l)
include hg
theorem nodes2 {u v : Int} (hu : 0 ≤ u ∧ u < N) (hv : 0 ≤ v ∧ v < N) : impl_nodesIn.f (N : Int) l [u,v] = some true:=by
 rw [nodesIn_eq,(netOkB_iff _ _).2 hg];simp [okN];omega
theorem nearWalk_ev {u t : Nat} (hu : u < N) (ht : t < N) : Ev (fun q => impl_NearWalk.f q N l (u : Int) (t : Int)) (bestV N l u t):=by
 unfold impl_NearWalk.f
 exact Ev.bind0 (nodes2 hg (by omega) (by omega)) (Ev.pos rfl (Ev.bind (best_ev hg ht hu) (Ev.now _)))
end
end Go.Proofs.Ytljdcinpjnijcaa.Pure
end
