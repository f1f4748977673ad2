/- For the statement FnTreeSwap of this seat: it is proved here, with no further conditions (part 7 of its texts: words, walks of the functions, the plain law, the row). -/
import Derived.ChangeArms
import Derived.ChangeSlices
import Derived.Deep.Slices
import Derived.WideShapes
import Derived.DataReads
import Derived.Lib.SlicesCompact
import Derived.Test.YtlhmljngjdfbpaaKFnTreeSwap5
section
namespace Go.Proofs.Ytlhmljngjdfbpaa.Pr
open Go.RowKit Go.Proofs.YtlhmljngjdfbpaaW.PrintWords Go.Proofs.YtlhmljngjdfbpaaW.PrintLast Go.Proofs.YtlhmljngjdfbpaaW.PrintMore
attribute [local go_sem] max2_int min2_int max_two min_two max_three min_three max_four min_four
set_option linter.unusedVariables false
set_option linter.unusedSimpArgs false
open List renaming setIfInBounds_toArray → V,set_cons_zero → Z,set_cons_succ → zx
open Go.Proofs.YtlhmljngjdfbpaaW.PrintWords.Aside0 renaming mk → zy
mutual
def laws_FnTreeSwap.j0 : Nat → List Int → List Int → Bool → Option (Bool)
 | 0,_,_,_ => none
 | k + 1,x0,x1,x17 => if x17 = true then (some true) else ((spec_DrawTreeBest.f k x0).bind fun bt1368 => ((impl_TreeBest.f k bt1368.1 bt1368.2).bind fun t1373 => ((spec_TreeBest.f k bt1368.1 bt1368.2).bind fun t1376 => ((laws_wkInts.f k t1373 t1376).bind fun t1379 => (if t1379 = true then ((impl_NetOk.f bt1368.1 bt1368.2).bind fun t1380 => (if t1380 = true then (laws_FnTreeSwap.j1 k x1 t1373 ((t1373.length : Int) == 0) bt1368.1 bt1368.2) else (laws_FnTreeSwap.j1 k x1 t1373 true bt1368.1 bt1368.2))) else (laws_FnTreeSwap.j1 k x1 t1373 true bt1368.1 bt1368.2))))))
def laws_FnTreeSwap.j1 : Nat → List Int → List Int → Bool → Int → List (S58) → Option (Bool)
 | 0,_,_,_,_,_ => none
 | k + 1,x1,x6,x36,x1373000,x1373001 => if x36 = true then ((spec_TreeBest.f k x1373000 x1373001).bind fun t1381 => ((laws_wkInts.f k x6 t1381).bind fun t1384 => (some t1384))) else (if (x6.length : Int) = 0 then (none) else (laws_FnTreeSwap.l0 k x6 ((x1.length : Int) % (x6.length : Int)) 0 x1373000 x1373001))
def laws_FnTreeSwap.l0 : Nat → List Int → Int → Int → Int → List (S58) → Option (Bool)
 | 0,_,_,_,_,_ => none
 | k + 1,x6,x7,x8,x1373000,x1373001 => if x8 < (x1373001.length : Int) then ((some (([] : List Int) : List Int)).bind fun y1385 => (if 0 ≤ x7 then (if x7 ≤ (x6.length : Int) then ((some (x6.take (x7 : Int).toNat : List Int)).bind fun y1388 => (if y1385.length + y1388.length < 17592186044416 then ((some (y1385 ++ y1388 : List Int)).bind fun y1392 => (if 0 ≤ (wrap64 (x7 + 1)) then (if (wrap64 (x7 + 1)) ≤ (x6.length : Int) then ((some (x6.drop ((wrap64 (x7 + 1)) : Int).toNat : List Int)).bind fun y1395 => (if y1392.length + y1395.length < 17592186044416 then ((some (y1392 ++ y1395 : List Int)).bind fun y1399 => (if y1399.length < 17592186044416 then ((some (y1399 ++ [x8] : List Int)).bind fun y1402 => ((impl_TreeParts.f k x1373000 x1373001 y1402).bind fun t1405 => ((impl_TreeParts.f k x1373000 x1373001 x6).bind fun t1408 => ((laws_wkInts.f k t1405 t1408).bind fun t1411 => (if t1411 = true then ((impl_TreeCost.f k x1373000 x1373001 y1402).bind fun t1412 => ((impl_TreeCost.f k x1373000 x1373001 x6).bind fun t1413 => (if t1412 < t1413 then (some false) else (laws_FnTreeSwap.l0 k x6 x7 (wrap64 (x8 + 1)) x1373000 x1373001)))) else (laws_FnTreeSwap.l0 k x6 x7 (wrap64 (x8 + 1)) x1373000 x1373001)))))) else (none))) else (none))) else (none)) else (none))) else (none))) else (none)) else (none))) else (some true)
end
def laws_FnTreeSwap.f (k : Nat) (l0 : List Int) (l1 : List Int) : Option (Bool):=if (l0.length : Int) > 1048576 then (laws_FnTreeSwap.j0 k l0 l1 true) else (laws_FnTreeSwap.j0 k l0 l1 (decide ((l1.length : Int) > 1048576)))
def laws_FnTreeSwap.T11 : Bool × List (List Nat × List Nat):=(true,[([],[]),([],[]),([],[]),([1,2],[1,2]),([0,3],[0,3]),([],[]),([],[]),([6],[6]),([5,7],[5,7]),([4,8,4],[4,8]),([9,9,0,1,2,3,4,5,6,7,8,9],[9])])
def laws_FnTreeSwap.B11 : List Nat:=[0,0,0,6,15,0,0,64,224,511,1023]
theorem laws_FnTreeSwap.tab11 : rtab .any (opsOf Try.f15 11) = laws_FnTreeSwap.T11:=by kernel_rfl
theorem laws_FnTreeSwap.bits11 : waitsOk laws_FnTreeSwap.T11.2 laws_FnTreeSwap.B11 = true:=by kernel_rfl
def laws_FnTreeSwap.T13 : Bool × List (List Nat × List Nat):=(true,[([],[]),([],[]),([0,1],[0,1]),([],[]),([],[]),([3,4,2],[3,4]),([2,5,5],[2,5]),([6,6],[6]),([7],[7]),([7],[7]),([8,9,7,7],[7,8,9]),([7],[7]),([7],[7]),([11,12,10,7],[7,11,12]),([10,13,7],[7,10,13]),([7,14],[7,14])])
def laws_FnTreeSwap.B13 : List Nat:=[0,0,3,0,0,31,63,127,255,255,1023,255,255,8191,16383,32767]
theorem laws_FnTreeSwap.tab13 : rtab .any (opsOf Try.f15 13) = laws_FnTreeSwap.T13:=by kernel_rfl
theorem laws_FnTreeSwap.bits13 : waitsOk laws_FnTreeSwap.T13.2 laws_FnTreeSwap.B13 = true:=by kernel_rfl
set_option maxHeartbeats 8000000 in
set_option maxRecDepth 100000 in
theorem laws_FnTreeSwap.calls (k : Nat) (A0 : Option Addr) (c0 : Nat) (l0 : List Int) (A1 : Option Addr) (c1 : Nat) (l1 : List Int) (r : Bool) (w : World) (hr0 : Kd.C (Kd.int .u8) w A0 l0.length l0) (hc0 : l0.length ≤ c0) (hr1 : Kd.C (Kd.int .u8) w A1 l1.length l1) (hc1 : l1.length ≤ c1) (h : laws_FnTreeSwap.f k l0 l1 = some r) :
  Calls Try.prog 15 #[.slice A0 l0.length c0,.slice A1 l1.length c1] w fun e w' => e = .returned (.bool r) ∧ Below w.heap.size w w':=by
 have hu34:=Try.underlying34;have HR0:=zy hr0;have HC0:=zy hc0;clear hr0 hc0;have HR1:=zy hr1;have HC1:=zy hc1;clear hr1 hc1;have HB:=zy (Below.refl w.heap.size w);have H : (if (l0.length : Int) > 1048576 then (laws_FnTreeSwap.j0 k l0 l1 true) else (laws_FnTreeSwap.j0 k l0 l1 (decide ((l1.length : Int) > 1048576)))) = some r:=h;clear h;have HC3:=zy H;clear H
 go_enter Try.func15,Try.ntmps15
 go_upto_region 1 with (fail)
 go_cut [17] (fun v17 wc => ∃ (kq : Nat) (x17_2 : Bool),v17 = .bool x17_2 ∧ Aside0 (laws_FnTreeSwap.j0 kq l0 l1 x17_2 = some r) ∧ Aside0 (kq ≤ k) ∧ Aside0 (Below w.heap.size w wc))
 case first =>
  have H:=HC3.out;clear HC3
  by_cases c4 : (l0.length : Int) > 1048576
  case pos =>
   rw [if_pos c4] at H;have c4b0 : decide (1048576 < (l0.length : Int)) = true:=decide_eq_true c4;have c4b1 : decide (1048576 < l0.length) = true:=decide_eq_true (by omega);clear c4
   (first | rw [c4b0] | (simp only [i64_w,i32_w]; rw [c4b0]) | skip)
   have H':=zy H;clear H
   go_wp2
   go_meet
   case rel => exact ⟨_,(true),(by first | rfl | (simp; done) | (simp [*]; done)),H',⟨by first | omega | exact Nat.le_refl _⟩,⟨by repeat (first | (with_reducible first | exact HB.out | apply below_alloc | apply pw_below_drewN | apply below_drew1) | exact HB.out)⟩⟩
  rw [if_neg c4] at H;have c4b0 : decide (1048576 < (l0.length : Int)) = false:=decide_eq_false c4;have c4b1 : decide (1048576 < l0.length) = false:=decide_eq_false (by omega);clear c4
  (first | rw [c4b0] | (simp only [i64_w,i32_w]; rw [c4b0]) | skip)
  have H':=zy H;clear H
  go_wp2
  go_meet
  case rel => exact ⟨_,(decide ((l1.length : Int) > 1048576)),(by first | rfl | (simp; done) | (simp [*]; done)),H',⟨by first | omega | exact Nat.le_refl _⟩,⟨by repeat (first | (with_reducible first | exact HB.out | apply below_alloc | apply pw_below_drewN | apply below_drew1) | exact HB.out)⟩⟩
 case rest =>
  clear HC3
  try clear c1
  try clear p2
  try clear c4
  try clear c4b0
  try clear c4b1
  obtain ⟨kq,x17_2,rfl,HA,HJ2,HB⟩:=hcut;cases kq with
  | zero => exact absurd HA.out (by simp [laws_FnTreeSwap.j0])
  | succ kj2 =>
   have H:=HA.out;clear HA;simp only [laws_FnTreeSwap.j0] at H
   by_cases c5 : x17_2 = true
   case pos =>
    subst c5;have H1 : (some true) = some r:=by rw [if_pos rfl] at H; exact H
    clear H;have H:=H1;clear H1;obtain rfl:=Option.some.inj H
    go_wp2
    go_ret;exact ⟨by first | rfl | (simp [errW_none,errW_some] <;> rfl) | (simp [*,errW_none,errW_some] <;> rfl),by repeat (first | (with_reducible first | exact HB.out | apply below_alloc | apply pw_below_drewN | apply below_drew1) | exact HB.out)⟩
   replace c5:=Bool.eq_false_iff.mpr c5;subst c5;have H1 : ((spec_DrawTreeBest.f kj2 l0).bind fun bt1368 => ((impl_TreeBest.f kj2 bt1368.1 bt1368.2).bind fun t1373 => ((spec_TreeBest.f kj2 bt1368.1 bt1368.2).bind fun t1376 => ((laws_wkInts.f kj2 t1373 t1376).bind fun t1379 => (if t1379 = true then ((impl_NetOk.f bt1368.1 bt1368.2).bind fun t1380 => (if t1380 = true then (laws_FnTreeSwap.j1 kj2 l1 t1373 ((t1373.length : Int) == 0) bt1368.1 bt1368.2) else (laws_FnTreeSwap.j1 kj2 l1 t1373 true bt1368.1 bt1368.2))) else (laws_FnTreeSwap.j1 kj2 l1 t1373 true bt1368.1 bt1368.2)))))) = some r:=by rw [if_neg (show ¬ (false = true) by decide)] at H; exact H
   clear H;have H:=H1;clear H1;replace H:=Option.bind_eq_some_iff.mp H;obtain ⟨⟨t1368,t1369⟩,A60,H⟩:=H;replace H : ((impl_TreeBest.f kj2 t1368 t1369).bind fun t1373 => ((spec_TreeBest.f kj2 t1368 t1369).bind fun t1376 => ((laws_wkInts.f kj2 t1373 t1376).bind fun t1379 => (if t1379 = true then ((impl_NetOk.f t1368 t1369).bind fun t1380 => (if t1380 = true then (laws_FnTreeSwap.j1 kj2 l1 t1373 ((t1373.length : Int) == 0) t1368 t1369) else (laws_FnTreeSwap.j1 kj2 l1 t1373 true t1368 t1369))) else (laws_FnTreeSwap.j1 kj2 l1 t1373 true t1368 t1369))))) = some r:=H;have A6:=zy A60;clear A60;replace H:=Option.bind_eq_some_iff.mp H;obtain ⟨t1373,A70,H⟩:=H;replace H : ((spec_TreeBest.f kj2 t1368 t1369).bind fun t1376 => ((laws_wkInts.f kj2 t1373 t1376).bind fun t1379 => (if t1379 = true then ((impl_NetOk.f t1368 t1369).bind fun t1380 => (if t1380 = true then (laws_FnTreeSwap.j1 kj2 l1 t1373 ((t1373.length : Int) == 0) t1368 t1369) else (laws_FnTreeSwap.j1 kj2 l1 t1373 true t1368 t1369))) else (laws_FnTreeSwap.j1 kj2 l1 t1373 true t1368 t1369)))) = some r:=H;have A7:=zy A70;clear A70;have HC8:=zy H;clear H
   go_upto_region 5 with (first | ((with_reducible refine gate_callee (f:=48) rfl ?_); refine goesL_ (some 19) rfl rfl Try.func48 (by kernel_rfl) rfl #[.slice A0 l0.length c0] rfl (by (try simp only [List.map_toArray,List.map_cons,List.map_nil]); first | done | rfl | (simp only [List.length_drop,List.length_take]; rfl)) ?_; (with_reducible refine (spec_DrawTreeBest.calls kj2 _ _ l0 t1368 t1369 _ ?side1 ?side2 A6.out).mono ?_); (case side1 => repeat (first | exact (Kd.C_below HR0.out HB.out) | (with_reducible refine Kd.C_alloc ?_ _) | (with_reducible refine Kd.C_drewN ?_ _) | (with_reducible refine Kd.C_drew ?_))); (case side2 => exact HC0.out); rintro e w9 ⟨v1370,rfl,ho0,hb⟩; refine ⟨_,rfl,?_⟩; have n0_:=zy (Kd.R_lower ho0 (below_size (by repeat (first | (with_reducible first | exact HB.out | apply below_alloc | apply pw_below_drewN | apply below_drew1) | exact HB.out)))); have n1_:=zy (below_step (by repeat (first | (with_reducible first | exact HB.out | apply below_alloc | apply pw_below_drewN | apply below_drew1) | exact HB.out)) hb); clear HB; have HO1371:=n0_; have HB:=n1_; clear n0_ n1_; (try clear hb); (try clear hb2); (try clear hk); (try clear hi); (try clear ho0)) | ((with_reducible refine gate_dst (N:=5) rfl ?_); (try (refine gate_guard (by rfl) ?_; dsimp only)); refine box_event ?hg (N:=5) ?hd (cs:=#[.int .i64 0,.slice none 0 0]) (t:=34) ?hr ?_; (case hd => rfl); (case hg => rfl); (case hr => first | (go_simp; done) | (go_simp; rfl)); intro gb1372 hg w10 hbox hb; have n0_:=zy (Kd.R_below (by (with_reducible repeat (first | apply Kd.R_alloc | apply Kd.R_drewN | apply Kd.R_drew)); exact HO1371.out) hb); have n1_:=zy (below_step (by repeat (first | (with_reducible first | exact HB.out | apply below_alloc | apply pw_below_drewN | apply below_drew1) | exact HB.out)) hb); have n2_:=zy (hbox); have n3_:=zy ((by rw [hg]; exact (below_size (by repeat (first | (with_reducible first | exact HB.out | apply below_alloc | apply pw_below_drewN | apply below_drew1) | exact HB.out))) : w.heap.size ≤ gb1372)); have n4_:=zy ((by rw [hg]; exact (below_size (by repeat (first | (with_reducible first | exact HB.out | apply below_alloc | apply pw_below_drewN | apply below_drew1) | exact HB.out))) : w.heap.size ≤ gb1372)); clear HO1371; clear HB; have HO1371:=n0_; have HB:=n1_; have BK1372:=n2_; have GW1372:=n3_; have GE1372:=n4_; clear n0_ n1_ n2_ n3_ n4_; clear hb hbox hg; have hcz11_0 : w10.cell? ⟨gb1372,0,none⟩ = some (.int .i64 0):=(blk_cell BK1372.out 0).trans rfl; have hcz11_1 : w10.cell? ⟨gb1372,1,none⟩ = some (.slice none 0 0):=(blk_cell BK1372.out 1).trans rfl; have hfz11_0:=blk_frozen BK1372.out 0; have hfz11_1:=blk_frozen BK1372.out 1; obtain ⟨Ao12,co12,eo12⟩:=Kd.R_slice HO1371.out; subst eo12) | ((with_reducible refine gate_callee (f:=49) rfl ?_); refine goesL_ (some 21) rfl rfl Try.func49 (by kernel_rfl) rfl #[.agg #[.int .i64 t1368,.slice Ao12 t1369.length co12]] rfl (by (try simp only [List.map_toArray,List.map_cons,List.map_nil]); first | done | rfl | (simp only [List.length_drop,List.length_take]; rfl)) ?_; (with_reducible refine (impl_TreeBest.calls kj2 t1368 _ _ t1369 t1373 _ ?side1 ?side2 A7.out).mono ?_); (case side1 => refine (Kd.R_reads' (e:=58) (base:=w.heap.size) (ok:=fun k_ => True) (n:=t1369.length) (c:=co12) ?_).2.2; exact (by (with_reducible repeat (first | apply Kd.R_alloc | apply Kd.R_drewN | apply Kd.R_drew)); exact (Kd.R_mono (Kd.R_far (p:=⟨gb1372,1,none⟩) (Kd.R_far (p:=⟨gb1372,0,none⟩) (Kd.R_types HO1371.out BK1372.out (by decide)) (fun _ hk => hk.2) (.int .i64 t1368)) (fun _ hk => hk.2) (.slice Ao12 t1369.length co12)) (fun _ h_ => h_.1)))); (case side2 => exact (Kd.R_reads' HO1371.out).2.1); rintro e w13 ⟨v1374,rfl,ho0,hb⟩; refine ⟨_,rfl,?_⟩; have n0_:=zy (Kd.R_below (by (with_reducible repeat (first | apply Kd.R_alloc | apply Kd.R_drewN | apply Kd.R_drew)); exact (Kd.R_mono (Kd.R_far (p:=⟨gb1372,1,none⟩) (Kd.R_far (p:=⟨gb1372,0,none⟩) (Kd.R_types HO1371.out BK1372.out (by decide)) (fun _ hk => hk.2) (.int .i64 t1368)) (fun _ hk => hk.2) (.slice Ao12 t1369.length co12)) (fun _ h_ => h_.1))) hb); have n1_:=zy (Kd.R_lower ho0 (below_size (by repeat (first | (with_reducible first | exact HB.out | apply below_alloc | apply pw_below_drewN | apply below_drew1 | refine below_set ?_ GE1372.out) | exact HB.out)))); have n2_:=zy (blk_below (g:=gb1372) (o:=.cells #[.int .i64 t1368,.slice Ao12 t1369.length co12] 34 (0,0)) (by (with_reducible repeat (first | refine blk_drewN ?_ _ | refine blk_drew ?_ | refine blk_alloc ?_ _)); refine blk_put (cs:=#[.int .i64 t1368,.slice none 0 0]) ?_ 1 _ rfl; (with_reducible repeat (first | refine blk_drewN ?_ _ | refine blk_drew ?_ | refine blk_alloc ?_ _)); refine blk_put (cs:=#[.int .i64 0,.slice none 0 0]) ?_ 0 _ rfl; (with_reducible repeat (first | refine blk_drewN ?_ _ | refine blk_drew ?_ | refine blk_alloc ?_ _)); exact BK1372.out) hb); have n3_:=zy (below_step (by repeat (first | (with_reducible first | exact HB.out | apply below_alloc | apply pw_below_drewN | apply below_drew1 | refine below_set ?_ GE1372.out) | exact HB.out)) hb); clear HO1371; clear BK1372; clear HB; have HO1371:=n0_; have HO1375:=n1_; have BK1372:=n2_; have HB:=n3_; clear n0_ n1_ n2_ n3_; (try clear hb); (try clear hb2); (try clear hk); (try clear hi); (try clear ho0)))
   (try simp only [Act.put,V,Z,zx])
   go_cut [36] (fun v36 wc => ∃ (kq : Nat) (x36_7 : Bool),v36 = .bool x36_7 ∧ Aside0 (laws_FnTreeSwap.j1 kq l1 t1373 x36_7 t1368 t1369 = some r) ∧ Aside0 (kq ≤ kj2) ∧ Aside0 (Kd.R (Kd.int .i64) 3 wc w.heap.size (fun _ => True) v1374 t1373) ∧ Aside0 (Kd.R k58 58 wc w.heap.size (fun _ => True) (.slice Ao12 t1369.length co12) t1369) ∧ Aside0 (wc.heap[gb1372]? = some (.cells #[.int .i64 t1368,(.slice Ao12 t1369.length co12)] 34 (0,0))) ∧ Aside0 (Below w.heap.size w wc))
   case first =>
    have H:=HC8.out;clear HC8;replace H:=Option.bind_eq_some_iff.mp H;obtain ⟨t1376,A140,H⟩:=H;replace H : ((laws_wkInts.f kj2 t1373 t1376).bind fun t1379 => (if t1379 = true then ((impl_NetOk.f t1368 t1369).bind fun t1380 => (if t1380 = true then (laws_FnTreeSwap.j1 kj2 l1 t1373 ((t1373.length : Int) == 0) t1368 t1369) else (laws_FnTreeSwap.j1 kj2 l1 t1373 true t1368 t1369))) else (laws_FnTreeSwap.j1 kj2 l1 t1373 true t1368 t1369))) = some r:=H;have A14:=zy A140;clear A140;replace H:=Option.bind_eq_some_iff.mp H;obtain ⟨t1379,A150,H⟩:=H;replace H : (if t1379 = true then ((impl_NetOk.f t1368 t1369).bind fun t1380 => (if t1380 = true then (laws_FnTreeSwap.j1 kj2 l1 t1373 ((t1373.length : Int) == 0) t1368 t1369) else (laws_FnTreeSwap.j1 kj2 l1 t1373 true t1368 t1369))) else (laws_FnTreeSwap.j1 kj2 l1 t1373 true t1368 t1369)) = some r:=H;have A15:=zy A150;clear A150
    by_cases c16 : t1379 = true
    case neg =>
     replace c16:=Bool.eq_false_iff.mpr c16;subst c16;have H1 : (laws_FnTreeSwap.j1 kj2 l1 t1373 true t1368 t1369) = some r:=by rw [if_neg (show ¬ (false = true) by decide)] at H; exact H
     clear H;have H:=H1;clear H1;have H':=zy H;clear H;have hcz31_0 : w13.cell? ⟨gb1372,0,none⟩ = some (.int .i64 t1368):=(blk_cell BK1372.out 0).trans rfl;have hcz31_1 : w13.cell? ⟨gb1372,1,none⟩ = some (.slice Ao12 t1369.length co12):=(blk_cell BK1372.out 1).trans rfl;have hfz31_0:=blk_frozen BK1372.out 0;have hfz31_1:=blk_frozen BK1372.out 1
     go_wp2_with (first | ((with_reducible refine gate_callee (f:=50) rfl ?_); refine goesL_ (some 24) rfl rfl Try.func50 (by kernel_rfl) rfl #[.agg #[.int .i64 t1368,.slice Ao12 t1369.length co12]] rfl (by (try simp only [List.map_toArray,List.map_cons,List.map_nil]); first | done | rfl | (simp only [List.length_drop,List.length_take]; rfl)) ?_; (with_reducible refine (spec_TreeBest.calls kj2 t1368 _ _ t1369 t1376 _ ?side1 ?side2 A14.out).mono ?_); (case side1 => repeat (first | exact (Kd.R_reads' HO1371.out).2.2 | (with_reducible refine Kd.C_alloc ?_ _) | (with_reducible refine Kd.C_drewN ?_ _) | (with_reducible refine Kd.C_drew ?_))); (case side2 => exact (Kd.R_reads' HO1371.out).2.1); rintro e w32 ⟨v1377,rfl,ho0,hb⟩; refine ⟨_,rfl,?_⟩; have n0_:=zy (Kd.R_below (by (with_reducible repeat (first | apply Kd.R_alloc | apply Kd.R_drewN | apply Kd.R_drew)); exact HO1371.out) hb); have n1_:=zy (Kd.R_elder' (by (with_reducible repeat (first | apply Kd.R_alloc | apply Kd.R_drewN | apply Kd.R_drew)); exact HO1375.out) (Kd.R_base ho0) hb); have n2_:=zy (Kd.R_lower (Kd.R_new' ho0 (Kd.R_lt (by (with_reducible repeat (first | apply Kd.R_alloc | apply Kd.R_drewN | apply Kd.R_drew)); exact HO1375.out))) (below_size (by repeat (first | (with_reducible first | exact HB.out | apply below_alloc | apply pw_below_drewN | apply below_drew1 | refine below_set ?_ GE1372.out) | exact HB.out)))); have n3_:=zy (blk_below (g:=gb1372) (o:=.cells #[.int .i64 t1368,.slice Ao12 t1369.length co12] 34 (0,0)) (by (with_reducible repeat (first | refine blk_drewN ?_ _ | refine blk_drew ?_ | refine blk_alloc ?_ _)); exact BK1372.out) hb); have n4_:=zy (below_step (by repeat (first | (with_reducible first | exact HB.out | apply below_alloc | apply pw_below_drewN | apply below_drew1 | refine below_set ?_ GE1372.out) | exact HB.out)) hb); clear HO1371; clear HO1375; clear BK1372; clear HB; have HO1371:=n0_; have HO1375:=n1_; have HO1378:=n2_; have BK1372:=n3_; have HB:=n4_; clear n0_ n1_ n2_ n3_ n4_; (try clear hb); (try clear hb2); (try clear hk); (try clear hi); (try clear ho0); obtain ⟨Ao33,co33,eo33⟩:=Kd.R_slice HO1375.out; subst eo33; obtain ⟨Ao34,co34,eo34⟩:=Kd.R_slice HO1378.out; subst eo34) | ((with_reducible refine gate_callee (f:=39) rfl ?_); refine goesL_ (some 25) rfl rfl Try.func39 (by kernel_rfl) rfl #[.slice Ao33 t1373.length co33,.slice Ao34 t1376.length co34] rfl (by (try simp only [List.map_toArray,List.map_cons,List.map_nil]); first | done | rfl | (simp only [List.length_drop,List.length_take]; rfl)) ?_; (with_reducible refine (laws_wkInts.calls kj2 _ _ t1373 _ _ t1376 false _ ?side1 ?side2 ?side3 ?side4 A15.out).mono ?_); (case side1 => repeat (first | exact (Kd.R_reads' HO1375.out).2.2 | (with_reducible refine Kd.C_alloc ?_ _) | (with_reducible refine Kd.C_drewN ?_ _) | (with_reducible refine Kd.C_drew ?_))); (case side2 => exact (Kd.R_reads' HO1375.out).2.1); (case side3 => repeat (first | exact (Kd.R_reads' HO1378.out).2.2 | (with_reducible refine Kd.C_alloc ?_ _) | (with_reducible refine Kd.C_drewN ?_ _) | (with_reducible refine Kd.C_drew ?_))); (case side4 => exact (Kd.R_reads' HO1378.out).2.1); rintro e w' ⟨rfl,⟨nd,rfl⟩⟩; refine ⟨_,rfl,?_⟩))
     go_meet
     case rel => exact ⟨_,(true),(by first | rfl | (simp; done) | (simp [*]; done)),H',⟨by have:=HJ2.out; first | omega | exact Nat.le_refl _⟩,⟨by (with_reducible repeat (first | apply Kd.R_alloc | apply Kd.R_drewN | apply Kd.R_drew)); exact Kd.R_mono HO1375.out (fun _ hk => trivial)⟩,⟨by (with_reducible repeat (first | apply Kd.R_alloc | apply Kd.R_drewN | apply Kd.R_drew)); exact HO1371.out⟩,⟨by (with_reducible repeat (first | refine blk_drewN ?_ _ | refine blk_drew ?_ | refine blk_alloc ?_ _)); exact BK1372.out⟩,⟨by repeat (first | (with_reducible first | exact HB.out | apply below_alloc | apply pw_below_drewN | apply below_drew1 | refine below_set ?_ GE1372.out) | exact HB.out)⟩⟩
    subst c16;have H1 : ((impl_NetOk.f t1368 t1369).bind fun t1380 => (if t1380 = true then (laws_FnTreeSwap.j1 kj2 l1 t1373 ((t1373.length : Int) == 0) t1368 t1369) else (laws_FnTreeSwap.j1 kj2 l1 t1373 true t1368 t1369))) = some r:=by rw [if_pos rfl] at H; exact H
    clear H;have H:=H1;clear H1;replace H:=Option.bind_eq_some_iff.mp H;obtain ⟨t1380,A170,H⟩:=H;replace H : (if t1380 = true then (laws_FnTreeSwap.j1 kj2 l1 t1373 ((t1373.length : Int) == 0) t1368 t1369) else (laws_FnTreeSwap.j1 kj2 l1 t1373 true t1368 t1369)) = some r:=H;have A17:=zy A170;clear A170
    by_cases c18 : t1380 = true
    case pos =>
     subst c18;have H1 : (laws_FnTreeSwap.j1 kj2 l1 t1373 ((t1373.length : Int) == 0) t1368 t1369) = some r:=by rw [if_pos rfl] at H; exact H
     clear H;have H:=H1;clear H1;have H':=zy H;clear H;have hcz19_0 : w13.cell? ⟨gb1372,0,none⟩ = some (.int .i64 t1368):=(blk_cell BK1372.out 0).trans rfl;have hcz19_1 : w13.cell? ⟨gb1372,1,none⟩ = some (.slice Ao12 t1369.length co12):=(blk_cell BK1372.out 1).trans rfl;have hfz19_0:=blk_frozen BK1372.out 0;have hfz19_1:=blk_frozen BK1372.out 1
     go_wp2_with (first | ((with_reducible refine gate_callee (f:=50) rfl ?_); refine goesL_ (some 24) rfl rfl Try.func50 (by kernel_rfl) rfl #[.agg #[.int .i64 t1368,.slice Ao12 t1369.length co12]] rfl (by (try simp only [List.map_toArray,List.map_cons,List.map_nil]); first | done | rfl | (simp only [List.length_drop,List.length_take]; rfl)) ?_; (with_reducible refine (spec_TreeBest.calls kj2 t1368 _ _ t1369 t1376 _ ?side1 ?side2 A14.out).mono ?_); (case side1 => repeat (first | exact (Kd.R_reads' HO1371.out).2.2 | (with_reducible refine Kd.C_alloc ?_ _) | (with_reducible refine Kd.C_drewN ?_ _) | (with_reducible refine Kd.C_drew ?_))); (case side2 => exact (Kd.R_reads' HO1371.out).2.1); rintro e w20 ⟨v1377,rfl,ho0,hb⟩; refine ⟨_,rfl,?_⟩; have n0_:=zy (Kd.R_below (by (with_reducible repeat (first | apply Kd.R_alloc | apply Kd.R_drewN | apply Kd.R_drew)); exact HO1371.out) hb); have n1_:=zy (Kd.R_elder' (by (with_reducible repeat (first | apply Kd.R_alloc | apply Kd.R_drewN | apply Kd.R_drew)); exact HO1375.out) (Kd.R_base ho0) hb); have n2_:=zy (Kd.R_lower (Kd.R_new' ho0 (Kd.R_lt (by (with_reducible repeat (first | apply Kd.R_alloc | apply Kd.R_drewN | apply Kd.R_drew)); exact HO1375.out))) (below_size (by repeat (first | (with_reducible first | exact HB.out | apply below_alloc | apply pw_below_drewN | apply below_drew1 | refine below_set ?_ GE1372.out) | exact HB.out)))); have n3_:=zy (blk_below (g:=gb1372) (o:=.cells #[.int .i64 t1368,.slice Ao12 t1369.length co12] 34 (0,0)) (by (with_reducible repeat (first | refine blk_drewN ?_ _ | refine blk_drew ?_ | refine blk_alloc ?_ _)); exact BK1372.out) hb); have n4_:=zy (below_step (by repeat (first | (with_reducible first | exact HB.out | apply below_alloc | apply pw_below_drewN | apply below_drew1 | refine below_set ?_ GE1372.out) | exact HB.out)) hb); clear HO1371; clear HO1375; clear BK1372; clear HB; have HO1371:=n0_; have HO1375:=n1_; have HO1378:=n2_; have BK1372:=n3_; have HB:=n4_; clear n0_ n1_ n2_ n3_ n4_; (try clear hb); (try clear hb2); (try clear hk); (try clear hi); (try clear ho0); obtain ⟨Ao21,co21,eo21⟩:=Kd.R_slice HO1375.out; subst eo21; obtain ⟨Ao22,co22,eo22⟩:=Kd.R_slice HO1378.out; subst eo22) | ((with_reducible refine gate_callee (f:=39) rfl ?_); refine goesL_ (some 25) rfl rfl Try.func39 (by kernel_rfl) rfl #[.slice Ao21 t1373.length co21,.slice Ao22 t1376.length co22] rfl (by (try simp only [List.map_toArray,List.map_cons,List.map_nil]); first | done | rfl | (simp only [List.length_drop,List.length_take]; rfl)) ?_; (with_reducible refine (laws_wkInts.calls kj2 _ _ t1373 _ _ t1376 true _ ?side1 ?side2 ?side3 ?side4 A15.out).mono ?_); (case side1 => repeat (first | exact (Kd.R_reads' HO1375.out).2.2 | (with_reducible refine Kd.C_alloc ?_ _) | (with_reducible refine Kd.C_drewN ?_ _) | (with_reducible refine Kd.C_drew ?_))); (case side2 => exact (Kd.R_reads' HO1375.out).2.1); (case side3 => repeat (first | exact (Kd.R_reads' HO1378.out).2.2 | (with_reducible refine Kd.C_alloc ?_ _) | (with_reducible refine Kd.C_drewN ?_ _) | (with_reducible refine Kd.C_drew ?_))); (case side4 => exact (Kd.R_reads' HO1378.out).2.1); rintro e w' ⟨rfl,⟨nd,rfl⟩⟩; refine ⟨_,rfl,?_⟩; have hcz23_0 : w20.cell? ⟨gb1372,0,none⟩ = some (.int .i64 t1368):=(blk_cell BK1372.out 0).trans rfl; have hcz23_1 : w20.cell? ⟨gb1372,1,none⟩ = some (.slice Ao12 t1369.length co12):=(blk_cell BK1372.out 1).trans rfl; have hfz23_0:=blk_frozen BK1372.out 0; have hfz23_1:=blk_frozen BK1372.out 1) | (go_at_call 51; (with_reducible refine (impl_NetOk.calls t1368 _ _ t1369 true _ ?side1 ?side2 A17.out).mono ?_); (case side1 => repeat (first | exact (Kd.R_reads' HO1371.out).2.2 | (with_reducible refine Kd.C_alloc ?_ _) | (with_reducible refine Kd.C_drewN ?_ _) | (with_reducible refine Kd.C_drew ?_))); (case side2 => exact (Kd.R_reads' HO1371.out).2.1); rintro e w24 ⟨rfl,hb⟩; have n0_:=zy (Kd.R_below (by (with_reducible repeat (first | apply Kd.R_alloc | apply Kd.R_drewN | apply Kd.R_drew)); exact HO1371.out) hb); have n1_:=zy (Kd.R_below (by (with_reducible repeat (first | apply Kd.R_alloc | apply Kd.R_drewN | apply Kd.R_drew)); exact HO1375.out) hb); have n2_:=zy (Kd.R_below (by (with_reducible repeat (first | apply Kd.R_alloc | apply Kd.R_drewN | apply Kd.R_drew)); exact HO1378.out) hb); have n3_:=zy (blk_below (g:=gb1372) (o:=.cells #[.int .i64 t1368,.slice Ao12 t1369.length co12] 34 (0,0)) (by (with_reducible repeat (first | refine blk_drewN ?_ _ | refine blk_drew ?_ | refine blk_alloc ?_ _)); exact BK1372.out) hb); have n4_:=zy (below_step (by repeat (first | (with_reducible first | exact HB.out | apply below_alloc | apply pw_below_drewN | apply below_drew1 | refine below_set ?_ GE1372.out) | exact HB.out)) hb); clear HO1371; clear HO1375; clear HO1378; clear BK1372; clear HB; have HO1371:=n0_; have HO1375:=n1_; have HO1378:=n2_; have BK1372:=n3_; have HB:=n4_; clear n0_ n1_ n2_ n3_ n4_; (try clear hb); (try clear hb2); (try clear hk); (try clear hi)))
     go_meet
     case rel => exact ⟨_,(((t1373.length : Int) == 0)),(by first | rfl | (simp; done) | (simp [*]; done)),H',⟨by have:=HJ2.out; first | omega | exact Nat.le_refl _⟩,⟨by (with_reducible repeat (first | apply Kd.R_alloc | apply Kd.R_drewN | apply Kd.R_drew)); exact Kd.R_mono HO1375.out (fun _ hk => trivial)⟩,⟨by (with_reducible repeat (first | apply Kd.R_alloc | apply Kd.R_drewN | apply Kd.R_drew)); exact HO1371.out⟩,⟨by (with_reducible repeat (first | refine blk_drewN ?_ _ | refine blk_drew ?_ | refine blk_alloc ?_ _)); exact BK1372.out⟩,⟨by repeat (first | (with_reducible first | exact HB.out | apply below_alloc | apply pw_below_drewN | apply below_drew1 | refine below_set ?_ GE1372.out) | exact HB.out)⟩⟩
    replace c18:=Bool.eq_false_iff.mpr c18;subst c18;have H1 : (laws_FnTreeSwap.j1 kj2 l1 t1373 true t1368 t1369) = some r:=by rw [if_neg (show ¬ (false = true) by decide)] at H; exact H
    clear H;have H:=H1;clear H1;have H':=zy H;clear H;have hcz25_0 : w13.cell? ⟨gb1372,0,none⟩ = some (.int .i64 t1368):=(blk_cell BK1372.out 0).trans rfl;have hcz25_1 : w13.cell? ⟨gb1372,1,none⟩ = some (.slice Ao12 t1369.length co12):=(blk_cell BK1372.out 1).trans rfl;have hfz25_0:=blk_frozen BK1372.out 0;have hfz25_1:=blk_frozen BK1372.out 1
    go_wp2_with (first | ((with_reducible refine gate_callee (f:=50) rfl ?_); refine goesL_ (some 24) rfl rfl Try.func50 (by kernel_rfl) rfl #[.agg #[.int .i64 t1368,.slice Ao12 t1369.length co12]] rfl (by (try simp only [List.map_toArray,List.map_cons,List.map_nil]); first | done | rfl | (simp only [List.length_drop,List.length_take]; rfl)) ?_; (with_reducible refine (spec_TreeBest.calls kj2 t1368 _ _ t1369 t1376 _ ?side1 ?side2 A14.out).mono ?_); (case side1 => repeat (first | exact (Kd.R_reads' HO1371.out).2.2 | (with_reducible refine Kd.C_alloc ?_ _) | (with_reducible refine Kd.C_drewN ?_ _) | (with_reducible refine Kd.C_drew ?_))); (case side2 => exact (Kd.R_reads' HO1371.out).2.1); rintro e w26 ⟨v1377,rfl,ho0,hb⟩; refine ⟨_,rfl,?_⟩; have n0_:=zy (Kd.R_below (by (with_reducible repeat (first | apply Kd.R_alloc | apply Kd.R_drewN | apply Kd.R_drew)); exact HO1371.out) hb); have n1_:=zy (Kd.R_elder' (by (with_reducible repeat (first | apply Kd.R_alloc | apply Kd.R_drewN | apply Kd.R_drew)); exact HO1375.out) (Kd.R_base ho0) hb); have n2_:=zy (Kd.R_lower (Kd.R_new' ho0 (Kd.R_lt (by (with_reducible repeat (first | apply Kd.R_alloc | apply Kd.R_drewN | apply Kd.R_drew)); exact HO1375.out))) (below_size (by repeat (first | (with_reducible first | exact HB.out | apply below_alloc | apply pw_below_drewN | apply below_drew1 | refine below_set ?_ GE1372.out) | exact HB.out)))); have n3_:=zy (blk_below (g:=gb1372) (o:=.cells #[.int .i64 t1368,.slice Ao12 t1369.length co12] 34 (0,0)) (by (with_reducible repeat (first | refine blk_drewN ?_ _ | refine blk_drew ?_ | refine blk_alloc ?_ _)); exact BK1372.out) hb); have n4_:=zy (below_step (by repeat (first | (with_reducible first | exact HB.out | apply below_alloc | apply pw_below_drewN | apply below_drew1 | refine below_set ?_ GE1372.out) | exact HB.out)) hb); clear HO1371; clear HO1375; clear BK1372; clear HB; have HO1371:=n0_; have HO1375:=n1_; have HO1378:=n2_; have BK1372:=n3_; have HB:=n4_; clear n0_ n1_ n2_ n3_ n4_; (try clear hb); (try clear hb2); (try clear hk); (try clear hi); (try clear ho0); obtain ⟨Ao27,co27,eo27⟩:=Kd.R_slice HO1375.out; subst eo27; obtain ⟨Ao28,co28,eo28⟩:=Kd.R_slice HO1378.out; subst eo28) | ((with_reducible refine gate_callee (f:=39) rfl ?_); refine goesL_ (some 25) rfl rfl Try.func39 (by kernel_rfl) rfl #[.slice Ao27 t1373.length co27,.slice Ao28 t1376.length co28] rfl (by (try simp only [List.map_toArray,List.map_cons,List.map_nil]); first | done | rfl | (simp only [List.length_drop,List.length_take]; rfl)) ?_; (with_reducible refine (laws_wkInts.calls kj2 _ _ t1373 _ _ t1376 true _ ?side1 ?side2 ?side3 ?side4 A15.out).mono ?_); (case side1 => repeat (first | exact (Kd.R_reads' HO1375.out).2.2 | (with_reducible refine Kd.C_alloc ?_ _) | (with_reducible refine Kd.C_drewN ?_ _) | (with_reducible refine Kd.C_drew ?_))); (case side2 => exact (Kd.R_reads' HO1375.out).2.1); (case side3 => repeat (first | exact (Kd.R_reads' HO1378.out).2.2 | (with_reducible refine Kd.C_alloc ?_ _) | (with_reducible refine Kd.C_drewN ?_ _) | (with_reducible refine Kd.C_drew ?_))); (case side4 => exact (Kd.R_reads' HO1378.out).2.1); rintro e w' ⟨rfl,⟨nd,rfl⟩⟩; refine ⟨_,rfl,?_⟩; have hcz29_0 : w26.cell? ⟨gb1372,0,none⟩ = some (.int .i64 t1368):=(blk_cell BK1372.out 0).trans rfl; have hcz29_1 : w26.cell? ⟨gb1372,1,none⟩ = some (.slice Ao12 t1369.length co12):=(blk_cell BK1372.out 1).trans rfl; have hfz29_0:=blk_frozen BK1372.out 0; have hfz29_1:=blk_frozen BK1372.out 1) | (go_at_call 51; (with_reducible refine (impl_NetOk.calls t1368 _ _ t1369 false _ ?side1 ?side2 A17.out).mono ?_); (case side1 => repeat (first | exact (Kd.R_reads' HO1371.out).2.2 | (with_reducible refine Kd.C_alloc ?_ _) | (with_reducible refine Kd.C_drewN ?_ _) | (with_reducible refine Kd.C_drew ?_))); (case side2 => exact (Kd.R_reads' HO1371.out).2.1); rintro e w30 ⟨rfl,hb⟩; have n0_:=zy (Kd.R_below (by (with_reducible repeat (first | apply Kd.R_alloc | apply Kd.R_drewN | apply Kd.R_drew)); exact HO1371.out) hb); have n1_:=zy (Kd.R_below (by (with_reducible repeat (first | apply Kd.R_alloc | apply Kd.R_drewN | apply Kd.R_drew)); exact HO1375.out) hb); have n2_:=zy (Kd.R_below (by (with_reducible repeat (first | apply Kd.R_alloc | apply Kd.R_drewN | apply Kd.R_drew)); exact HO1378.out) hb); have n3_:=zy (blk_below (g:=gb1372) (o:=.cells #[.int .i64 t1368,.slice Ao12 t1369.length co12] 34 (0,0)) (by (with_reducible repeat (first | refine blk_drewN ?_ _ | refine blk_drew ?_ | refine blk_alloc ?_ _)); exact BK1372.out) hb); have n4_:=zy (below_step (by repeat (first | (with_reducible first | exact HB.out | apply below_alloc | apply pw_below_drewN | apply below_drew1 | refine below_set ?_ GE1372.out) | exact HB.out)) hb); clear HO1371; clear HO1375; clear HO1378; clear BK1372; clear HB; have HO1371:=n0_; have HO1375:=n1_; have HO1378:=n2_; have BK1372:=n3_; have HB:=n4_; clear n0_ n1_ n2_ n3_ n4_; (try clear hb); (try clear hb2); (try clear hk); (try clear hi)))
    go_meet
    case rel => exact ⟨_,(true),(by first | rfl | (simp; done) | (simp [*]; done)),H',⟨by have:=HJ2.out; first | omega | exact Nat.le_refl _⟩,⟨by (with_reducible repeat (first | apply Kd.R_alloc | apply Kd.R_drewN | apply Kd.R_drew)); exact Kd.R_mono HO1375.out (fun _ hk => trivial)⟩,⟨by (with_reducible repeat (first | apply Kd.R_alloc | apply Kd.R_drewN | apply Kd.R_drew)); exact HO1371.out⟩,⟨by (with_reducible repeat (first | refine blk_drewN ?_ _ | refine blk_drew ?_ | refine blk_alloc ?_ _)); exact BK1372.out⟩,⟨by repeat (first | (with_reducible first | exact HB.out | apply below_alloc | apply pw_below_drewN | apply below_drew1 | refine below_set ?_ GE1372.out) | exact HB.out)⟩⟩
   case rest =>
    clear HC8
    try clear c1
    try clear p2
    try clear c3
    try clear c4
    try clear c4b0
    try clear c4b1
    try clear c5
    try clear c15
    try clear c16
    try clear c18
    try clear hcz11_0
    try clear hcz11_1
    try clear hcz19_0
    try clear hcz19_1
    try clear hcz23_0
    try clear hcz23_1
    try clear hcz25_0
    try clear hcz25_1
    try clear hcz29_0
    try clear hcz29_1
    try clear hcz31_0
    try clear hcz31_1
    try clear hfz11_0
    try clear hfz11_1
    try clear hfz19_0
    try clear hfz19_1
    try clear hfz23_0
    try clear hfz23_1
    try clear hfz25_0
    try clear hfz25_1
    try clear hfz29_0
    try clear hfz29_1
    try clear hfz31_0
    try clear hfz31_1
    try clear p2
    obtain ⟨kq,x36_7,rfl,HA,HJ7,HO_6,HO_1373001,BK1372,HB⟩:=hcut;cases kq with
    | zero => exact absurd HA.out (by simp [laws_FnTreeSwap.j1])
    | succ kj7 =>
     have H:=HA.out;clear HA;simp only [laws_FnTreeSwap.j1] at H
     by_cases c35 : x36_7 = true
     case pos =>
      subst c35;have H1 : ((spec_TreeBest.f kj7 t1368 t1369).bind fun t1381 => ((laws_wkInts.f kj7 t1373 t1381).bind fun t1384 => (some t1384))) = some r:=by rw [if_pos rfl] at H; exact H
      clear H;have H:=H1;clear H1;replace H:=Option.bind_eq_some_iff.mp H;obtain ⟨t1381,A360,H⟩:=H;replace H : ((laws_wkInts.f kj7 t1373 t1381).bind fun t1384 => (some t1384)) = some r:=H;have A36:=zy A360;clear A360;replace H:=Option.bind_eq_some_iff.mp H;obtain ⟨t1384,A370,H⟩:=H;replace H : (some t1384) = some r:=H;have A37:=zy A370;clear A370;obtain rfl:=Option.some.inj H;have hcz38_0 : wc.cell? ⟨gb1372,0,none⟩ = some (.int .i64 t1368):=(blk_cell BK1372.out 0).trans rfl;have hcz38_1 : wc.cell? ⟨gb1372,1,none⟩ = some (.slice Ao12 t1369.length co12):=(blk_cell BK1372.out 1).trans rfl;have hfz38_0:=blk_frozen BK1372.out 0;have hfz38_1:=blk_frozen BK1372.out 1
      go_wp2_with (first | ((with_reducible refine gate_callee (f:=50) rfl ?_); refine goesL_ (some 39) rfl rfl Try.func50 (by kernel_rfl) rfl #[.agg #[.int .i64 t1368,.slice Ao12 t1369.length co12]] rfl (by (try simp only [List.map_toArray,List.map_cons,List.map_nil]); first | done | rfl | (simp only [List.length_drop,List.length_take]; rfl)) ?_; (with_reducible refine (spec_TreeBest.calls kj7 t1368 _ _ t1369 t1381 _ ?side1 ?side2 A36.out).mono ?_); (case side1 => repeat (first | exact (Kd.R_reads' HO_1373001.out).2.2 | (with_reducible refine Kd.C_alloc ?_ _) | (with_reducible refine Kd.C_drewN ?_ _) | (with_reducible refine Kd.C_drew ?_))); (case side2 => exact (Kd.R_reads' HO_1373001.out).2.1); rintro e w39 ⟨v1382,rfl,ho0,hb⟩; refine ⟨_,rfl,?_⟩; have n0_:=zy (Kd.R_elder' (by (with_reducible repeat (first | apply Kd.R_alloc | apply Kd.R_drewN | apply Kd.R_drew)); exact HO_6.out) (Kd.R_base ho0) hb); have n1_:=zy (Kd.R_below (by (with_reducible repeat (first | apply Kd.R_alloc | apply Kd.R_drewN | apply Kd.R_drew)); exact HO_1373001.out) hb); have n2_:=zy (Kd.R_lower (Kd.R_new' ho0 (Kd.R_lt (by (with_reducible repeat (first | apply Kd.R_alloc | apply Kd.R_drewN | apply Kd.R_drew)); exact HO_6.out))) (below_size (by repeat (first | (with_reducible first | exact HB.out | apply below_alloc | apply pw_below_drewN | apply below_drew1 | refine below_set ?_ GE1372.out) | exact HB.out)))); have n3_:=zy (blk_below (g:=gb1372) (o:=.cells #[.int .i64 t1368,.slice Ao12 t1369.length co12] 34 (0,0)) (by (with_reducible repeat (first | refine blk_drewN ?_ _ | refine blk_drew ?_ | refine blk_alloc ?_ _)); exact BK1372.out) hb); have n4_:=zy (below_step (by repeat (first | (with_reducible first | exact HB.out | apply below_alloc | apply pw_below_drewN | apply below_drew1 | refine below_set ?_ GE1372.out) | exact HB.out)) hb); clear HO_6; clear HO_1373001; clear BK1372; clear HB; have HO_6:=n0_; have HO_1373001:=n1_; have HO1383:=n2_; have BK1372:=n3_; have HB:=n4_; clear n0_ n1_ n2_ n3_ n4_; (try clear hb); (try clear hb2); (try clear hk); (try clear hi); (try clear ho0); obtain ⟨Ao40,co40,eo40⟩:=Kd.R_slice HO_6.out; subst eo40; obtain ⟨Ao41,co41,eo41⟩:=Kd.R_slice HO1383.out; subst eo41) | ((with_reducible refine gate_callee (f:=39) rfl ?_); refine goesL_ (some 40) rfl rfl Try.func39 (by kernel_rfl) rfl #[.slice Ao40 t1373.length co40,.slice Ao41 t1381.length co41] rfl (by (try simp only [List.map_toArray,List.map_cons,List.map_nil]); first | done | rfl | (simp only [List.length_drop,List.length_take]; rfl)) ?_; (with_reducible refine (laws_wkInts.calls kj7 _ _ t1373 _ _ t1381 t1384 _ ?side1 ?side2 ?side3 ?side4 A37.out).mono ?_); (case side1 => repeat (first | exact (Kd.R_reads' HO_6.out).2.2 | (with_reducible refine Kd.C_alloc ?_ _) | (with_reducible refine Kd.C_drewN ?_ _) | (with_reducible refine Kd.C_drew ?_))); (case side2 => exact (Kd.R_reads' HO_6.out).2.1); (case side3 => repeat (first | exact (Kd.R_reads' HO1383.out).2.2 | (with_reducible refine Kd.C_alloc ?_ _) | (with_reducible refine Kd.C_drewN ?_ _) | (with_reducible refine Kd.C_drew ?_))); (case side4 => exact (Kd.R_reads' HO1383.out).2.1); rintro e w' ⟨rfl,⟨nd,rfl⟩⟩; refine ⟨_,rfl,?_⟩))
      go_ret;exact ⟨by first | rfl | (simp [errW_none,errW_some] <;> rfl) | (simp [*,errW_none,errW_some] <;> rfl),by repeat (first | (with_reducible first | exact HB.out | apply below_alloc | apply pw_below_drewN | apply below_drew1 | refine below_set ?_ GE1372.out) | exact HB.out)⟩
     replace c35:=Bool.eq_false_iff.mpr c35;subst c35;have H1 : (if (t1373.length : Int) = 0 then (none) else (laws_FnTreeSwap.l0 kj7 t1373 ((l1.length : Int) % (t1373.length : Int)) 0 t1368 t1369)) = some r:=by rw [if_neg (show ¬ (false = true) by decide)] at H; exact H
     clear H;have H:=H1;clear H1
     by_cases c42 : (t1373.length : Int) = 0
     case pos =>
      rw [if_pos c42] at H;exact absurd H (by simp)
     rw [if_neg c42] at H;have c42b0 : ((t1373.length : Int) == 0) = false:=beq_eq_false_iff_ne.mpr c42;have c42b1 : ((t1373.length : Int) != 0) = true:=bne_iff_ne.mpr c42;have c42b2 : ¬ (t1373 = []):=fun h_ => c42 (by rw [h_]; rfl)
     have H':=zy H;clear H;obtain ⟨Ao43,co43,eo43⟩:=Kd.R_slice HO_6.out;subst eo43
     go_wp2
     go_loopg [8] kj7 (fun kq v8 w' => ∃ (x8_3 : Int),v8 = .int .i64 x8_3 ∧ Aside0 (laws_FnTreeSwap.l0 kq t1373 ((l1.length : Int) % (t1373.length : Int)) x8_3 t1368 t1369 = some r) ∧ Aside0 (kq ≤ kj7) ∧ Aside0 (Kd.R (Kd.int .i64) 3 w' w.heap.size (fun _ => True) (.slice Ao43 t1373.length co43) t1373) ∧ Aside0 (Kd.R k58 58 w' w.heap.size (fun _ => True) (.slice Ao12 t1369.length co12) t1369) ∧ Aside0 (w'.heap[gb1372]? = some (.cells #[.int .i64 t1368,(.slice Ao12 t1369.length co12)] 34 (0,0))) ∧ Aside0 (Below w.heap.size w w'))
     case atStart => exact ⟨(0),(by first | rfl | (simp; done) | (simp [*]; done)),H',⟨Nat.le_refl _⟩,⟨by (with_reducible repeat (first | apply Kd.R_alloc | apply Kd.R_drewN | apply Kd.R_drew)); exact HO_6.out⟩,⟨by (with_reducible repeat (first | apply Kd.R_alloc | apply Kd.R_drewN | apply Kd.R_drew)); exact HO_1373001.out⟩,⟨by (with_reducible repeat (first | refine blk_drewN ?_ _ | refine blk_drew ?_ | refine blk_alloc ?_ _)); exact BK1372.out⟩,⟨by repeat (first | (with_reducible first | exact HB.out | apply below_alloc | apply pw_below_drewN | apply below_drew1 | refine below_set ?_ GE1372.out) | exact HB.out)⟩⟩
     case round =>
      clear H'
      try clear c1
      try clear p2
      try clear c3
      try clear c4
      try clear c4b0
      try clear c4b1
      try clear c5
      try clear c15
      try clear c16
      try clear c18
      try clear c35
      try clear c39
      try clear c42
      try clear c42b0
      try clear c42b1
      try clear c42b2
      try clear hcz11_0
      try clear hcz11_1
      try clear hcz19_0
      try clear hcz19_1
      try clear hcz23_0
      try clear hcz23_1
      try clear hcz25_0
      try clear hcz25_1
      try clear hcz29_0
      try clear hcz29_1
      try clear hcz31_0
      try clear hcz31_1
      try clear hcz38_0
      try clear hcz38_1
      try clear hfz11_0
      try clear hfz11_1
      try clear hfz19_0
      try clear hfz19_1
      try clear hfz23_0
      try clear hfz23_1
      try clear hfz25_0
      try clear hfz25_1
      try clear hfz29_0
      try clear hfz29_1
      try clear hfz31_0
      try clear hfz31_1
      try clear hfz38_0
      try clear hfz38_1
      try clear p2
      obtain ⟨x8_3,rfl,HA,HK3,HO_6,HO_1373001,BK1372,HB⟩:=hrel;cases gk with
      | zero => exact absurd HA.out (by simp [laws_FnTreeSwap.l0])
      | succ k3 =>
       have H:=HA.out;clear HA;simp only [laws_FnTreeSwap.l0] at H
       by_cases c44 : x8_3 < (t1369.length : Int)
       case neg =>
        rw [if_neg c44] at H;have c44b0 : decide (x8_3 < (t1369.length : Int)) = false:=decide_eq_false c44;clear c44;obtain rfl:=Option.some.inj H;have hcz110_0 : wr.cell? ⟨gb1372,0,none⟩ = some (.int .i64 t1368):=(blk_cell BK1372.out 0).trans rfl;have hcz110_1 : wr.cell? ⟨gb1372,1,none⟩ = some (.slice Ao12 t1369.length co12):=(blk_cell BK1372.out 1).trans rfl;have hfz110_0:=blk_frozen BK1372.out 0;have hfz110_1:=blk_frozen BK1372.out 1
        go_wp2
        go_ret;exact ⟨by first | rfl | (simp [errW_none,errW_some] <;> rfl) | (simp [*,errW_none,errW_some] <;> rfl),by repeat (first | (with_reducible first | exact HB.out | apply below_alloc | apply pw_below_drewN | apply below_drew1 | refine below_set ?_ GE1372.out) | exact HB.out)⟩
       rw [if_pos c44] at H;have c44b0 : decide (x8_3 < (t1369.length : Int)) = true:=decide_eq_true c44;clear c44;obtain ⟨y1385,hy1385⟩ : ∃ y_ : List Int,y_ = (([] : List Int)):=⟨_,rfl⟩
       replace H : (if 0 ≤ ((l1.length : Int) % (t1373.length : Int)) then (if ((l1.length : Int) % (t1373.length : Int)) ≤ (t1373.length : Int) then ((some (t1373.take (((l1.length : Int) % (t1373.length : Int)) : Int).toNat : List Int)).bind fun y1388 => (if y1385.length + y1388.length < 17592186044416 then ((some (y1385 ++ y1388 : List Int)).bind fun y1392 => (if 0 ≤ (wrap64 (((l1.length : Int) % (t1373.length : Int)) + 1)) then (if (wrap64 (((l1.length : Int) % (t1373.length : Int)) + 1)) ≤ (t1373.length : Int) then ((some (t1373.drop ((wrap64 (((l1.length : Int) % (t1373.length : Int)) + 1)) : Int).toNat : List Int)).bind fun y1395 => (if y1392.length + y1395.length < 17592186044416 then ((some (y1392 ++ y1395 : List Int)).bind fun y1399 => (if y1399.length < 17592186044416 then ((some (y1399 ++ [x8_3] : List Int)).bind fun y1402 => ((impl_TreeParts.f k3 t1368 t1369 y1402).bind fun t1405 => ((impl_TreeParts.f k3 t1368 t1369 t1373).bind fun t1408 => ((laws_wkInts.f k3 t1405 t1408).bind fun t1411 => (if t1411 = true then ((impl_TreeCost.f k3 t1368 t1369 y1402).bind fun t1412 => ((impl_TreeCost.f k3 t1368 t1369 t1373).bind fun t1413 => (if t1412 < t1413 then (some false) else (laws_FnTreeSwap.l0 k3 t1373 ((l1.length : Int) % (t1373.length : Int)) (wrap64 (x8_3 + 1)) t1368 t1369)))) else (laws_FnTreeSwap.l0 k3 t1373 ((l1.length : Int) % (t1373.length : Int)) (wrap64 (x8_3 + 1)) t1368 t1369)))))) else (none))) else (none))) else (none)) else (none))) else (none))) else (none)) else (none)) = some r:=by first | (rw [hy1385]; with_reducible exact H) | (have H2_:=(Option.bind_some _ _).symm.trans H; rw [hy1385]; with_reducible exact H2_) | (have H2_:=(Option.bind_some _ _).symm.trans H; with_reducible exact H2_) | with_reducible exact H | (rw [hy1385]; exact H) | exact H
       have Ny1385:=zy hy1385;clear hy1385;obtain ⟨ji45,hji45⟩ : ∃ j_ : Int,((l1.length : Int) % (t1373.length : Int)) = j_:=⟨_,rfl⟩
       replace H : (if 0 ≤ (ji45) then (if (ji45) ≤ (t1373.length : Int) then ((some (t1373.take ((ji45) : Int).toNat : List Int)).bind fun y1388 => (if y1385.length + y1388.length < 17592186044416 then ((some (y1385 ++ y1388 : List Int)).bind fun y1392 => (if 0 ≤ (wrap64 ((ji45) + 1)) then (if (wrap64 ((ji45) + 1)) ≤ (t1373.length : Int) then ((some (t1373.drop ((wrap64 ((ji45) + 1)) : Int).toNat : List Int)).bind fun y1395 => (if y1392.length + y1395.length < 17592186044416 then ((some (y1392 ++ y1395 : List Int)).bind fun y1399 => (if y1399.length < 17592186044416 then ((some (y1399 ++ [x8_3] : List Int)).bind fun y1402 => ((impl_TreeParts.f k3 t1368 t1369 y1402).bind fun t1405 => ((impl_TreeParts.f k3 t1368 t1369 t1373).bind fun t1408 => ((laws_wkInts.f k3 t1405 t1408).bind fun t1411 => (if t1411 = true then ((impl_TreeCost.f k3 t1368 t1369 y1402).bind fun t1412 => ((impl_TreeCost.f k3 t1368 t1369 t1373).bind fun t1413 => (if t1412 < t1413 then (some false) else (laws_FnTreeSwap.l0 k3 t1373 (ji45) (wrap64 (x8_3 + 1)) t1368 t1369)))) else (laws_FnTreeSwap.l0 k3 t1373 (ji45) (wrap64 (x8_3 + 1)) t1368 t1369)))))) else (none))) else (none))) else (none)) else (none))) else (none))) else (none)) else (none)) = some r:=by first | (rw [hji45] at H; exact H) | (simp only [hji45] at H ⊢; exact H)
       by_cases c46 : 0 ≤ (ji45)
       case neg =>
        rw [if_neg c46] at H;exact absurd H (by simp)
       rw [if_pos c46] at H;have c46b0:=eq_true c46;have c46b1 : decide (0 ≤ (ji45)) = true:=decide_eq_true c46;clear c46
       by_cases c47 : (ji45) ≤ (t1373.length : Int)
       case neg =>
        rw [if_neg c47] at H;exact absurd H (by simp)
       rw [if_pos c47] at H;have c47b0:=eq_true c47;have c47b1 : decide ((ji45) ≤ (t1373.length : Int)) = true:=decide_eq_true c47;clear c47;obtain ⟨y1388,hy1388⟩ : ∃ y_ : List Int,y_ = (t1373.take ((ji45) : Int).toNat):=⟨_,rfl⟩
       replace H : (if y1385.length + y1388.length < 17592186044416 then ((some (y1385 ++ y1388 : List Int)).bind fun y1392 => (if 0 ≤ (wrap64 ((ji45) + 1)) then (if (wrap64 ((ji45) + 1)) ≤ (t1373.length : Int) then ((some (t1373.drop ((wrap64 ((ji45) + 1)) : Int).toNat : List Int)).bind fun y1395 => (if y1392.length + y1395.length < 17592186044416 then ((some (y1392 ++ y1395 : List Int)).bind fun y1399 => (if y1399.length < 17592186044416 then ((some (y1399 ++ [x8_3] : List Int)).bind fun y1402 => ((impl_TreeParts.f k3 t1368 t1369 y1402).bind fun t1405 => ((impl_TreeParts.f k3 t1368 t1369 t1373).bind fun t1408 => ((laws_wkInts.f k3 t1405 t1408).bind fun t1411 => (if t1411 = true then ((impl_TreeCost.f k3 t1368 t1369 y1402).bind fun t1412 => ((impl_TreeCost.f k3 t1368 t1369 t1373).bind fun t1413 => (if t1412 < t1413 then (some false) else (laws_FnTreeSwap.l0 k3 t1373 (ji45) (wrap64 (x8_3 + 1)) t1368 t1369)))) else (laws_FnTreeSwap.l0 k3 t1373 (ji45) (wrap64 (x8_3 + 1)) t1368 t1369)))))) else (none))) else (none))) else (none)) else (none))) else (none)) = some r:=by first | (rw [hy1388]; with_reducible exact H) | (have H2_:=(Option.bind_some _ _).symm.trans H; rw [hy1388]; with_reducible exact H2_) | (have H2_:=(Option.bind_some _ _).symm.trans H; with_reducible exact H2_) | with_reducible exact H | (rw [hy1388]; exact H) | exact H
       have Ny1388:=zy hy1388;clear hy1388
       by_cases c48 : y1385.length + y1388.length < 17592186044416
       case neg =>
        rw [if_neg c48] at H;exact absurd H (by simp)
       rw [if_pos c48] at H;have LMc48:=zy c48;clear c48;obtain ⟨y1392,hy1392⟩ : ∃ y_ : List Int,y_ = (y1385 ++ y1388):=⟨_,rfl⟩
       replace H : (if 0 ≤ (wrap64 ((ji45) + 1)) then (if (wrap64 ((ji45) + 1)) ≤ (t1373.length : Int) then ((some (t1373.drop ((wrap64 ((ji45) + 1)) : Int).toNat : List Int)).bind fun y1395 => (if y1392.length + y1395.length < 17592186044416 then ((some (y1392 ++ y1395 : List Int)).bind fun y1399 => (if y1399.length < 17592186044416 then ((some (y1399 ++ [x8_3] : List Int)).bind fun y1402 => ((impl_TreeParts.f k3 t1368 t1369 y1402).bind fun t1405 => ((impl_TreeParts.f k3 t1368 t1369 t1373).bind fun t1408 => ((laws_wkInts.f k3 t1405 t1408).bind fun t1411 => (if t1411 = true then ((impl_TreeCost.f k3 t1368 t1369 y1402).bind fun t1412 => ((impl_TreeCost.f k3 t1368 t1369 t1373).bind fun t1413 => (if t1412 < t1413 then (some false) else (laws_FnTreeSwap.l0 k3 t1373 (ji45) (wrap64 (x8_3 + 1)) t1368 t1369)))) else (laws_FnTreeSwap.l0 k3 t1373 (ji45) (wrap64 (x8_3 + 1)) t1368 t1369)))))) else (none))) else (none))) else (none)) else (none)) = some r:=by first | (rw [hy1392]; with_reducible exact H) | (have H2_:=(Option.bind_some _ _).symm.trans H; rw [hy1392]; with_reducible exact H2_) | (have H2_:=(Option.bind_some _ _).symm.trans H; with_reducible exact H2_) | with_reducible exact H | (rw [hy1392]; exact H) | exact H
       have Ny1392:=zy hy1392;clear hy1392;obtain ⟨ji49,hji49⟩ : ∃ j_ : Int,(wrap64 ((ji45) + 1)) = j_:=⟨_,rfl⟩
       replace H : (if 0 ≤ (ji49) then (if (ji49) ≤ (t1373.length : Int) then ((some (t1373.drop ((ji49) : Int).toNat : List Int)).bind fun y1395 => (if y1392.length + y1395.length < 17592186044416 then ((some (y1392 ++ y1395 : List Int)).bind fun y1399 => (if y1399.length < 17592186044416 then ((some (y1399 ++ [x8_3] : List Int)).bind fun y1402 => ((impl_TreeParts.f k3 t1368 t1369 y1402).bind fun t1405 => ((impl_TreeParts.f k3 t1368 t1369 t1373).bind fun t1408 => ((laws_wkInts.f k3 t1405 t1408).bind fun t1411 => (if t1411 = true then ((impl_TreeCost.f k3 t1368 t1369 y1402).bind fun t1412 => ((impl_TreeCost.f k3 t1368 t1369 t1373).bind fun t1413 => (if t1412 < t1413 then (some false) else (laws_FnTreeSwap.l0 k3 t1373 (ji45) (wrap64 (x8_3 + 1)) t1368 t1369)))) else (laws_FnTreeSwap.l0 k3 t1373 (ji45) (wrap64 (x8_3 + 1)) t1368 t1369)))))) else (none))) else (none))) else (none)) else (none)) = some r:=by first | (rw [hji49] at H; exact H) | (simp only [hji49] at H ⊢; exact H)
       have hji49w : (IntKind.i64.wrap ((ji45) + 1)) = ji49:=(i64_w _).trans hji49
       by_cases c50 : 0 ≤ (ji49)
       case neg =>
        rw [if_neg c50] at H;exact absurd H (by simp)
       rw [if_pos c50] at H;have c50b0:=eq_true c50;have c50b1 : decide (0 ≤ (ji49)) = true:=decide_eq_true c50;clear c50
       by_cases c51 : (ji49) ≤ (t1373.length : Int)
       case neg =>
        rw [if_neg c51] at H;exact absurd H (by simp)
       rw [if_pos c51] at H;have c51b0:=eq_true c51;have c51b1 : decide ((ji49) ≤ (t1373.length : Int)) = true:=decide_eq_true c51;clear c51;obtain ⟨y1395,hy1395⟩ : ∃ y_ : List Int,y_ = (t1373.drop ((ji49) : Int).toNat):=⟨_,rfl⟩
       replace H : (if y1392.length + y1395.length < 17592186044416 then ((some (y1392 ++ y1395 : List Int)).bind fun y1399 => (if y1399.length < 17592186044416 then ((some (y1399 ++ [x8_3] : List Int)).bind fun y1402 => ((impl_TreeParts.f k3 t1368 t1369 y1402).bind fun t1405 => ((impl_TreeParts.f k3 t1368 t1369 t1373).bind fun t1408 => ((laws_wkInts.f k3 t1405 t1408).bind fun t1411 => (if t1411 = true then ((impl_TreeCost.f k3 t1368 t1369 y1402).bind fun t1412 => ((impl_TreeCost.f k3 t1368 t1369 t1373).bind fun t1413 => (if t1412 < t1413 then (some false) else (laws_FnTreeSwap.l0 k3 t1373 (ji45) (wrap64 (x8_3 + 1)) t1368 t1369)))) else (laws_FnTreeSwap.l0 k3 t1373 (ji45) (wrap64 (x8_3 + 1)) t1368 t1369)))))) else (none))) else (none)) = some r:=by first | (rw [hy1395]; with_reducible exact H) | (have H2_:=(Option.bind_some _ _).symm.trans H; rw [hy1395]; with_reducible exact H2_) | (have H2_:=(Option.bind_some _ _).symm.trans H; with_reducible exact H2_) | with_reducible exact H | (rw [hy1395]; exact H) | exact H
       have Ny1395:=zy hy1395;clear hy1395
       by_cases c52 : y1392.length + y1395.length < 17592186044416
       case neg =>
        rw [if_neg c52] at H;exact absurd H (by simp)
       rw [if_pos c52] at H;have LMc52:=zy c52;clear c52;obtain ⟨y1399,hy1399⟩ : ∃ y_ : List Int,y_ = (y1392 ++ y1395):=⟨_,rfl⟩
       replace H : (if y1399.length < 17592186044416 then ((some (y1399 ++ [x8_3] : List Int)).bind fun y1402 => ((impl_TreeParts.f k3 t1368 t1369 y1402).bind fun t1405 => ((impl_TreeParts.f k3 t1368 t1369 t1373).bind fun t1408 => ((laws_wkInts.f k3 t1405 t1408).bind fun t1411 => (if t1411 = true then ((impl_TreeCost.f k3 t1368 t1369 y1402).bind fun t1412 => ((impl_TreeCost.f k3 t1368 t1369 t1373).bind fun t1413 => (if t1412 < t1413 then (some false) else (laws_FnTreeSwap.l0 k3 t1373 (ji45) (wrap64 (x8_3 + 1)) t1368 t1369)))) else (laws_FnTreeSwap.l0 k3 t1373 (ji45) (wrap64 (x8_3 + 1)) t1368 t1369)))))) else (none)) = some r:=by first | (rw [hy1399]; with_reducible exact H) | (have H2_:=(Option.bind_some _ _).symm.trans H; rw [hy1399]; with_reducible exact H2_) | (have H2_:=(Option.bind_some _ _).symm.trans H; with_reducible exact H2_) | with_reducible exact H | (rw [hy1399]; exact H) | exact H
       have Ny1399:=zy hy1399;clear hy1399
       by_cases c53 : y1399.length < 17592186044416
       case neg =>
        rw [if_neg c53] at H;exact absurd H (by simp)
       rw [if_pos c53] at H;have LMc53:=zy c53;clear c53;obtain ⟨y1402,hy1402⟩ : ∃ y_ : List Int,y_ = (y1399 ++ [x8_3]):=⟨_,rfl⟩
       replace H : ((impl_TreeParts.f k3 t1368 t1369 y1402).bind fun t1405 => ((impl_TreeParts.f k3 t1368 t1369 t1373).bind fun t1408 => ((laws_wkInts.f k3 t1405 t1408).bind fun t1411 => (if t1411 = true then ((impl_TreeCost.f k3 t1368 t1369 y1402).bind fun t1412 => ((impl_TreeCost.f k3 t1368 t1369 t1373).bind fun t1413 => (if t1412 < t1413 then (some false) else (laws_FnTreeSwap.l0 k3 t1373 (ji45) (wrap64 (x8_3 + 1)) t1368 t1369)))) else (laws_FnTreeSwap.l0 k3 t1373 (ji45) (wrap64 (x8_3 + 1)) t1368 t1369))))) = some r:=by first | (rw [hy1402]; with_reducible exact H) | (have H2_:=(Option.bind_some _ _).symm.trans H; rw [hy1402]; with_reducible exact H2_) | (have H2_:=(Option.bind_some _ _).symm.trans H; with_reducible exact H2_) | with_reducible exact H | (rw [hy1402]; exact H) | exact H
       have Ny1402:=zy hy1402;clear hy1402;replace H:=Option.bind_eq_some_iff.mp H;obtain ⟨t1405,A540,H⟩:=H;replace H : ((impl_TreeParts.f k3 t1368 t1369 t1373).bind fun t1408 => ((laws_wkInts.f k3 t1405 t1408).bind fun t1411 => (if t1411 = true then ((impl_TreeCost.f k3 t1368 t1369 y1402).bind fun t1412 => ((impl_TreeCost.f k3 t1368 t1369 t1373).bind fun t1413 => (if t1412 < t1413 then (some false) else (laws_FnTreeSwap.l0 k3 t1373 (ji45) (wrap64 (x8_3 + 1)) t1368 t1369)))) else (laws_FnTreeSwap.l0 k3 t1373 (ji45) (wrap64 (x8_3 + 1)) t1368 t1369)))) = some r:=H;have A54:=zy A540;clear A540;replace H:=Option.bind_eq_some_iff.mp H;obtain ⟨t1408,A550,H⟩:=H;replace H : ((laws_wkInts.f k3 t1405 t1408).bind fun t1411 => (if t1411 = true then ((impl_TreeCost.f k3 t1368 t1369 y1402).bind fun t1412 => ((impl_TreeCost.f k3 t1368 t1369 t1373).bind fun t1413 => (if t1412 < t1413 then (some false) else (laws_FnTreeSwap.l0 k3 t1373 (ji45) (wrap64 (x8_3 + 1)) t1368 t1369)))) else (laws_FnTreeSwap.l0 k3 t1373 (ji45) (wrap64 (x8_3 + 1)) t1368 t1369))) = some r:=H;have A55:=zy A550;clear A550;replace H:=Option.bind_eq_some_iff.mp H;obtain ⟨t1411,A560,H⟩:=H;replace H : (if t1411 = true then ((impl_TreeCost.f k3 t1368 t1369 y1402).bind fun t1412 => ((impl_TreeCost.f k3 t1368 t1369 t1373).bind fun t1413 => (if t1412 < t1413 then (some false) else (laws_FnTreeSwap.l0 k3 t1373 (ji45) (wrap64 (x8_3 + 1)) t1368 t1369)))) else (laws_FnTreeSwap.l0 k3 t1373 (ji45) (wrap64 (x8_3 + 1)) t1368 t1369)) = some r:=H;have A56:=zy A560;clear A560
       by_cases c57 : t1411 = true
       case neg =>
        replace c57:=Bool.eq_false_iff.mpr c57;subst c57;have H1 : (laws_FnTreeSwap.l0 k3 t1373 (ji45) (wrap64 (x8_3 + 1)) t1368 t1369) = some r:=by rw [if_neg (show ¬ (false = true) by decide)] at H; exact H
        clear H;have H:=H1;clear H1;have H':=zy H;clear H;have hcz95_0 : wr.cell? ⟨gb1372,0,none⟩ = some (.int .i64 t1368):=(blk_cell BK1372.out 0).trans rfl;have hcz95_1 : wr.cell? ⟨gb1372,1,none⟩ = some (.slice Ao12 t1369.length co12):=(blk_cell BK1372.out 1).trans rfl;have hfz95_0:=blk_frozen BK1372.out 0;have hfz95_1:=blk_frozen BK1372.out 1
        try go_wp2
        have n0_:=zy (Kd.R_drew HO_6.out);have n1_:=zy (Kd.R_drew HO_1373001.out);have n2_:=zy (blk_drew BK1372.out);have n3_:=zy (below_drew1 HB.out);clear HO_6;clear HO_1373001;clear BK1372;clear HB;have HO_6:=n0_;have HO_1373001:=n1_;have BK1372:=n2_;have HB:=n3_;clear n0_ n1_ n2_ n3_;have q97 : ((ji45) : Int) ≤ ((t1373.length : Int) : Int):=of_decide_eq_true (by first | (with_reducible assumption) | assumption);obtain ⟨i097,hi097,_,hsz97,_⟩:=info_parts info3;have hroom97 : t1373.length ≤ co43:=(Kd.R_reads' HO_6.out).2.1;have hC97 : Kd.C (Kd.int .i64) _ Ao43 t1373.length t1373:=(Kd.R_reads' HO_6.out).2.2;have hcut97:=cut_to (P:=Try.prog) 23 3 .i64 Try.underlying23 hi097 Ao43 t1373.length co43 (ji45) (of_decide_eq_true (by first | (with_reducible assumption) | assumption)) q97 hroom97;have hr97:=Kd.C_take (m:=((ji45) : Int).toNat) hC97 (by omega);have hy97 : y1388.length = ((ji45) : Int).toNat:=(by rw [Ny1388.out,List.length_take]; omega)
        rw [← Ny1388.out] at hr97;rw [← hy97] at hcut97;have HR1391:=zy hr97;have HC1391:=zy (show y1388.length ≤ co43 from by omega);clear hr97 hC97 hroom97 hi097 hsz97;have KY97:=zy hy97;clear hy97;have KL97:=zy (show ((ji45) : Int).toNat ≤ t1373.length from by omega);replace q97:=eq_true q97;have q98 : ((ji49) : Int) ≤ ((t1373.length : Int) : Int):=of_decide_eq_true (by first | (with_reducible assumption) | assumption);obtain ⟨i098,hi098,_,hsz98,_⟩:=info_parts info3;have hroom98 : t1373.length ≤ co43:=(Kd.R_reads' HO_6.out).2.1;have hC98 : Kd.C (Kd.int .i64) _ Ao43 t1373.length t1373:=(Kd.R_reads' HO_6.out).2.2;have q098 : (0 : Int) ≤ ((ji49) : Int):=of_decide_eq_true (by first | (with_reducible assumption) | assumption);have hcut98:=cut_from (P:=Try.prog) 23 3 .i64 Try.underlying23 hi098 1 hsz98 Ao43 t1373.length co43 (ji49) q098 q98;have hr98:=Kd.C_drop (m:=((ji49) : Int).toNat) (c:=co43) hC98 (by omega) hroom98;obtain ⟨A98,hA98⟩ : ∃ A1,A1 = (if co43 = ((ji49) : Int).toNat then Ao43 else (Ao43 : Option Addr).map (·.add (((ji49) : Int).toNat * 1))):=⟨_,rfl⟩
        obtain ⟨c98,hc98⟩ : ∃ c1,c1 = co43 - ((ji49) : Int).toNat:=⟨_,rfl⟩
        have hy98 : y1395.length = t1373.length - ((ji49) : Int).toNat:=(by rw [Ny1395.out,List.length_drop] <;> omega)
        rw [show (t1373).drop ((ji49) : Int).toNat = y1395 from Ny1395.out.symm] at hr98;replace hr98 : Kd.C (Kd.int .i64) _ A98 y1395.length y1395:=(by rw [hA98]; exact hr98)
        rw [← hy98,← hA98,← hc98] at hcut98;have HR1398:=zy hr98;have HC1398:=zy (show y1395.length ≤ c98 from by rw [hy98,hc98]; exact Nat.sub_le_sub_right hroom98 _);clear hr98 hC98 hroom98 hi098 hsz98 hc98;have KY98:=zy hy98;have KA98:=zy hA98;clear hy98 hA98;have KL98:=zy (show ((ji49) : Int).toNat ≤ t1373.length from by omega);replace q98:=eq_true q98;refine start_ (n:=11) (S:=fun w' => True) (ds:=[]) #[false,false,false,false,false,false,false,false,false,false,false] (by kernel_rfl) rfl rfl trivial (fun hHeld => ?_); refine with_tabW laws_FnTreeSwap.tab11 laws_FnTreeSwap.bits11 (fun HT_ HW_ => ?_);generalize wr.drew = w96 at HO_6 HO_1373001 BK1372 HB HR1391 HR1398 hHeld ⊢;refine pure_ (i:=1) (N:=some 54) (v:=?_) (a':=?_) #[false,true,false,false,false,false,false,false,false,false,false] rfl rfl (any_of HT_.out (by kernel_rfl)) (fun _ _ _ h => h) (Or.inl ⟨by rfl,?_⟩) ?_ ?_;rotate_left
        ·intro w';go_simp;with_reducible rfl
        rotate_left
        ·simp only [Act.put,V,Z,zx,i64_w,i32_w];rfl
        refine pure_ (i:=2) (N:=some 55) (v:=?_) (a':=?_) #[false,true,true,false,false,false,false,false,false,false,false] rfl rfl (any_of HT_.out (by kernel_rfl)) (fun _ _ _ h => h) (Or.inl ⟨by rfl,?_⟩) ?_ ?_;rotate_left
        ·intro w';go_simp;with_reducible rfl
        rotate_left
        ·simp only [Act.put,V,Z,zx,i64_w,i32_w];rfl
        refine pure_ (i:=3) (N:=some 56) (v:=?_) (a':=?_) #[false,true,true,true,false,false,false,false,false,false,false] rfl rfl (any_of HT_.out (by kernel_rfl)) (fun _ _ _ h => h) (Or.inl ⟨by rfl,?_⟩) ?_ ?_;rotate_left
        ·intro w';go_simp;with_reducible rfl
        rotate_left
        ·simp only [Act.put,V,Z,zx,i64_w,i32_w];rfl
        refine pure_ (i:=5) (N:=some 58) (v:=?_) (a':=?_) #[false,true,true,true,false,true,false,false,false,false,false] rfl rfl (any_of HT_.out (by kernel_rfl)) (fun _ _ _ h => h) (Or.inl ⟨by rfl,?_⟩) ?_ ?_;rotate_left
        ·intro w';go_simp;with_reducible rfl
        rotate_left
        ·simp only [Act.put,V,Z,zx,i64_w,i32_w];rfl
        refine pure_ (i:=6) (N:=some 59) (v:=?_) (a':=?_) #[false,true,true,true,false,true,true,false,false,false,false] rfl rfl (any_of HT_.out (by kernel_rfl)) (fun _ _ _ h => h) (Or.inl ⟨by rfl,?_⟩) ?_ ?_;rotate_left
        ·intro w';go_simp;with_reducible rfl
        rotate_left
        ·simp only [Act.put,V,Z,zx,i64_w,i32_w];rfl
        refine pure_ (i:=7) (N:=some 60) (v:=?_) (a':=?_) #[false,true,true,true,false,true,true,true,false,false,false] rfl rfl (any_of HT_.out (by kernel_rfl)) (fun _ _ _ h => h) (Or.inl ⟨by rfl,?_⟩) ?_ ?_;rotate_left
        ·intro w';go_simp;with_reducible rfl
        rotate_left
        ·simp only [Act.put,V,Z,zx,i64_w,i32_w];rfl
        refine pure_ (i:=8) (N:=some 61) (v:=?_) (a':=?_) #[false,true,true,true,false,true,true,true,true,false,false] rfl rfl (any_of HT_.out (by kernel_rfl)) (fun _ _ _ h => h) (Or.inl ⟨by rfl,?_⟩) ?_ ?_;rotate_left
        ·intro w';go_simp;with_reducible rfl
        rotate_left
        ·simp only [Act.put,V,Z,zx,i64_w,i32_w];rfl
        refine one_ (i:=0) (N:=some 53) #[true,true,true,true,false,true,true,true,true,false,false] rfl rfl (one_of HT_.out (by kernel_rfl)) (by decide) (fun K hK => ?_);refine Kd.R_lit_step (Kd.int .i64) _ 3 ?hg (N:=53) ?hd (xs:=([] : List Int)) (inner:=[]) (ok:=fun _ => True) (okp:=fun _ => True) ?hr ?hp (fun _ hk => hk) trivial (Below.refl _ _) (Nat.le_refl _) (by simp) ?_; (case hd => rfl); (case hg => rfl); (case hr => first | (go_simp; done) | (go_simp; rfl)); (case hp => exact (Reps.none _ _));intro v1386 w99 ho100 hb hg_ hnew_;clear hg_ hnew_
        (first | rw [← Ny1385.out] at ho100 | (simp only [Int.reduceToNat] at ho100; rw [← Ny1385.out] at ho100))
        have n0_:=zy (Kd.R_elder' (by (with_reducible repeat (first | apply Kd.R_alloc | apply Kd.R_drewN | apply Kd.R_drew)); exact HO_6.out) (Kd.R_base ho100) hb);have n1_:=zy (Kd.R_below (by (with_reducible repeat (first | apply Kd.R_alloc | apply Kd.R_drewN | apply Kd.R_drew)); exact HO_1373001.out) hb);have n2_:=zy (Kd.R_lower (Kd.R_new' ho100 (Kd.R_lt (by (with_reducible repeat (first | apply Kd.R_alloc | apply Kd.R_drewN | apply Kd.R_drew)); exact HO_6.out))) (below_size (by repeat (first | (with_reducible first | exact HB.out | apply below_alloc | apply pw_below_drewN | apply below_drew1 | refine below_set ?_ GE1372.out) | exact HB.out))));have n3_:=zy (blk_below (g:=gb1372) (o:=.cells #[.int .i64 t1368,.slice Ao12 t1369.length co12] 34 (0,0)) (by (with_reducible repeat (first | refine blk_drewN ?_ _ | refine blk_drew ?_ | refine blk_alloc ?_ _)); exact BK1372.out) hb);have n4_:=zy (Kd.C_below (by repeat (first | (with_reducible exact HR1391.out) | (with_reducible refine Kd.C_alloc ?_ _) | (with_reducible refine Kd.C_drewN ?_ _) | (with_reducible refine Kd.C_drew ?_) | exact HR1391.out)) hb);have n5_:=zy (Kd.C_below (by repeat (first | (with_reducible exact HR1398.out) | (with_reducible refine Kd.C_alloc ?_ _) | (with_reducible refine Kd.C_drewN ?_ _) | (with_reducible refine Kd.C_drew ?_) | exact HR1398.out)) hb);have n6_:=zy (below_step (by repeat (first | (with_reducible first | exact HB.out | apply below_alloc | apply pw_below_drewN | apply below_drew1 | refine below_set ?_ GE1372.out) | exact HB.out)) hb);clear HO_6;clear HO_1373001;clear BK1372;clear HR1391;clear HR1398;clear HB;have HO_6:=n0_;have HO_1373001:=n1_;have HO1387:=n2_;have BK1372:=n3_;have HR1391:=n4_;have HR1398:=n5_;have HB:=n6_;clear n0_ n1_ n2_ n3_ n4_ n5_ n6_;clear hb ho100;refine hK.out _ _ trivial (fun hHeld => ?_);clear hK K;refine norm_ (a':=?_) ?_ ?_;rotate_left
        ·show Act.put _ (some 53) _ = _
         simp only [Act.put,V,Z,zx,i64_w,i32_w];rfl
        refine one_ (i:=4) (N:=some 57) #[true,true,true,true,true,true,true,true,true,false,false] rfl rfl (one_of HT_.out (by kernel_rfl)) (by decide) (fun K hK => ?_);refine Kd.R_append_rows_step (Kd.int .i64) (w0:=w) w.heap.size (by rfl) (.tmp 53) (.tmp 56) 23 3 (.int .i64 0) 8 rfl Try.underlying23 info3 rfl (by decide) (by omega) v1386 y1385 y1388 _ _ _ (fun k_ => some k_ ≠ (.slice Ao43 t1373.length co43 : Value).ownBlock) (fun _ => False) rfl rfl ?aO ?aR (fun _ _ h => h) (fun _ h => h.elim) ?aF ?aB ?aS ?aL ?_
        (case aR => repeat (first | exact (by repeat (first | (with_reducible exact HR1391.out) | (with_reducible refine Kd.C_alloc ?_ _) | (with_reducible refine Kd.C_drewN ?_ _) | (with_reducible refine Kd.C_drew ?_) | exact HR1391.out)) | (with_reducible refine Kd.C_alloc ?_ _) | (with_reducible refine Kd.C_drewN ?_ _) | (with_reducible refine Kd.C_drew ?_)))
        (case aB => exact (by repeat (first | (with_reducible first | exact HB.out | apply below_alloc | apply pw_below_drewN | apply below_drew1 | refine below_set ?_ GE1372.out) | exact HB.out)))
        (case aF => exact (fun k_ hk => Kd.fresh' (Kd.R_lt (by (with_reducible repeat (first | apply Kd.R_alloc | apply Kd.R_drewN | apply Kd.R_drew)); exact HO_6.out)) k_ hk))
        (case aO => exact (by (with_reducible repeat (first | apply Kd.R_alloc | apply Kd.R_drewN | apply Kd.R_drew)); exact Kd.R_mono HO1387.out (fun _ hk => hk.2)))
        (case aS => exact (below_size (by repeat (first | (with_reducible first | exact HB.out | apply below_alloc | apply pw_below_drewN | apply below_drew1 | refine below_set ?_ GE1372.out) | exact HB.out))))
        (case aL => have:=LMc48.out; omega)
        intro v1393 w101 ho hb hg hat;rw [← Ny1392.out] at ho;have n0_:=zy (Kd.R_after (ok:=(fun _ => True)) (by (with_reducible repeat (first | apply Kd.R_alloc | apply Kd.R_drewN | apply Kd.R_drew)); exact HO_6.out) hg hat);have n1_:=zy (Kd.R_over' (by (with_reducible repeat (first | apply Kd.R_alloc | apply Kd.R_drewN | apply Kd.R_drew)); exact HO_1373001.out) (Kd.R_typed (by (with_reducible repeat (first | apply Kd.R_alloc | apply Kd.R_drewN | apply Kd.R_drew)); exact HO1387.out)) (by decide) hg);have n2_:=zy (blk_grown (g:=gb1372) (o:=.cells #[.int .i64 t1368,.slice Ao12 t1369.length co12] 34 (0,0)) (by (with_reducible repeat (first | refine blk_drewN ?_ _ | refine blk_drew ?_ | refine blk_alloc ?_ _)); exact BK1372.out) hg (Kd.R_ne HO1387.out BK1372.out (by decide)));have n3_:=zy (hb);have n4_:=zy ((show Kd.C (Kd.int .i64) w101 Ao43 y1388.length y1388 from by rw [Ny1388.out]; exact Kd.C_take (m:=((ji45) : Int).toNat) ((Kd.R_reads' (Kd.R_after (ok:=(fun _ => True)) (by (with_reducible repeat (first | apply Kd.R_alloc | apply Kd.R_drewN | apply Kd.R_drew)); exact HO_6.out) hg hat)).2.2) KL97.out));have n5_:=zy ((show Kd.C (Kd.int .i64) w101 A98 y1395.length y1395 from by rw [Ny1395.out,KA98.out]; exact Kd.C_drop (m:=((ji49) : Int).toNat) (c:=co43) ((Kd.R_reads' (Kd.R_after (ok:=(fun _ => True)) (by (with_reducible repeat (first | apply Kd.R_alloc | apply Kd.R_drewN | apply Kd.R_drew)); exact HO_6.out) hg hat)).2.2) KL98.out ((Kd.R_reads' (Kd.R_after (ok:=(fun _ => True)) (by (with_reducible repeat (first | apply Kd.R_alloc | apply Kd.R_drewN | apply Kd.R_drew)); exact HO_6.out) hg hat)).2.1)));have n6_:=zy (ho);clear HO_6;clear HO_1373001;clear BK1372;clear HB;clear HR1391;clear HR1398;clear HO1387;have HO_6:=n0_;have HO_1373001:=n1_;have BK1372:=n2_;have HB:=n3_;have HR1391:=n4_;have HR1398:=n5_;have HO1394:=n6_;clear n0_ n1_ n2_ n3_ n4_ n5_ n6_;clear ho hb hg hat;refine hK.out _ _ trivial (fun hHeld => ?_);clear hK K;refine norm_ (a':=?_) ?_ ?_;rotate_left
        ·show Act.put _ (some 57) _ = _
         simp only [Act.put,V,Z,zx,i64_w,i32_w];rfl
        refine one_ (i:=9) (N:=some 62) #[true,true,true,true,true,true,true,true,true,true,false] rfl rfl (one_of HT_.out (by kernel_rfl)) (by decide) (fun K hK => ?_);refine Kd.R_append_rows_step (Kd.int .i64) (w0:=w) w.heap.size (by rfl) (.tmp 57) (.tmp 61) 23 3 (.int .i64 0) 8 rfl Try.underlying23 info3 rfl (by decide) (by omega) v1393 y1392 y1395 _ _ _ (fun k_ => some k_ ≠ (.slice Ao43 t1373.length co43 : Value).ownBlock) (fun _ => False) rfl rfl ?aO ?aR (fun _ _ h => h) (fun _ h => h.elim) ?aF ?aB ?aS ?aL ?_
        (case aR => repeat (first | exact (by repeat (first | (with_reducible exact HR1398.out) | (with_reducible refine Kd.C_alloc ?_ _) | (with_reducible refine Kd.C_drewN ?_ _) | (with_reducible refine Kd.C_drew ?_) | exact HR1398.out)) | (with_reducible refine Kd.C_alloc ?_ _) | (with_reducible refine Kd.C_drewN ?_ _) | (with_reducible refine Kd.C_drew ?_)))
        (case aB => exact (by repeat (first | (with_reducible first | exact HB.out | apply below_alloc | apply pw_below_drewN | apply below_drew1 | refine below_set ?_ GE1372.out) | exact HB.out)))
        (case aF => exact (fun k_ hk => Kd.fresh' (Kd.R_lt (by (with_reducible repeat (first | apply Kd.R_alloc | apply Kd.R_drewN | apply Kd.R_drew)); exact HO_6.out)) k_ hk))
        (case aO => exact (by (with_reducible repeat (first | apply Kd.R_alloc | apply Kd.R_drewN | apply Kd.R_drew)); exact HO1394.out))
        (case aS => exact (below_size (by repeat (first | (with_reducible first | exact HB.out | apply below_alloc | apply pw_below_drewN | apply below_drew1 | refine below_set ?_ GE1372.out) | exact HB.out))))
        (case aL => have:=LMc52.out; omega)
        intro v1400 w102 ho hb hg hat;rw [← Ny1399.out] at ho;have n0_:=zy (Kd.R_after (ok:=(fun _ => True)) (by (with_reducible repeat (first | apply Kd.R_alloc | apply Kd.R_drewN | apply Kd.R_drew)); exact HO_6.out) hg hat);have n1_:=zy (Kd.R_over' (by (with_reducible repeat (first | apply Kd.R_alloc | apply Kd.R_drewN | apply Kd.R_drew)); exact HO_1373001.out) (Kd.R_typed (by (with_reducible repeat (first | apply Kd.R_alloc | apply Kd.R_drewN | apply Kd.R_drew)); exact HO1394.out)) (by decide) hg);have n2_:=zy (blk_grown (g:=gb1372) (o:=.cells #[.int .i64 t1368,.slice Ao12 t1369.length co12] 34 (0,0)) (by (with_reducible repeat (first | refine blk_drewN ?_ _ | refine blk_drew ?_ | refine blk_alloc ?_ _)); exact BK1372.out) hg (Kd.R_ne HO1394.out BK1372.out (by decide)));have n3_:=zy (hb);have n4_:=zy ((show Kd.C (Kd.int .i64) w102 Ao43 y1388.length y1388 from by rw [Ny1388.out]; exact Kd.C_take (m:=((ji45) : Int).toNat) ((Kd.R_reads' (Kd.R_after (ok:=(fun _ => True)) (by (with_reducible repeat (first | apply Kd.R_alloc | apply Kd.R_drewN | apply Kd.R_drew)); exact HO_6.out) hg hat)).2.2) KL97.out));have n5_:=zy ((show Kd.C (Kd.int .i64) w102 A98 y1395.length y1395 from by rw [Ny1395.out,KA98.out]; exact Kd.C_drop (m:=((ji49) : Int).toNat) (c:=co43) ((Kd.R_reads' (Kd.R_after (ok:=(fun _ => True)) (by (with_reducible repeat (first | apply Kd.R_alloc | apply Kd.R_drewN | apply Kd.R_drew)); exact HO_6.out) hg hat)).2.2) KL98.out ((Kd.R_reads' (Kd.R_after (ok:=(fun _ => True)) (by (with_reducible repeat (first | apply Kd.R_alloc | apply Kd.R_drewN | apply Kd.R_drew)); exact HO_6.out) hg hat)).2.1)));have n6_:=zy (ho);clear HO_6;clear HO_1373001;clear BK1372;clear HB;clear HR1391;clear HR1398;clear HO1394;have HO_6:=n0_;have HO_1373001:=n1_;have BK1372:=n2_;have HB:=n3_;have HR1391:=n4_;have HR1398:=n5_;have HO1401:=n6_;clear n0_ n1_ n2_ n3_ n4_ n5_ n6_;clear ho hb hg hat;refine hK.out _ _ trivial (fun hHeld => ?_);clear hK K;refine norm_ (a':=?_) ?_ ?_;rotate_left
        ·show Act.put _ (some 62) _ = _
         simp only [Act.put,V,Z,zx,i64_w,i32_w];rfl
        refine pure_ (i:=10) (N:=some 9) (v:=?_) (a':=?_) #[true,true,true,true,true,true,true,true,true,true,true] rfl rfl (any_of HT_.out (by kernel_rfl)) (fun _ _ _ h => h) (Or.inl ⟨by rfl,?_⟩) ?_ ?_;rotate_left
        ·intro w';go_simp;with_reducible rfl
        rotate_left
        ·simp only [Act.put,V,Z,zx,i64_w,i32_w];rfl
        refine done_ (done_of HT_.out (by kernel_rfl)) ?_
        try go_wp2_with (first | ((with_reducible refine gate_builtin (b:=.append) (xs:=#[.tmp 63,.tmp 65]) rfl ?_); (try (refine gate_guard (by rfl) ?_; dsimp only)); at_builtin; refine Kd.R_append (Kd.int .i64) (w0:=w) w.heap.size rfl (.tmp 63) (.tmp 65) 23 3 (.int .i64 0) 8 rfl Try.underlying23 info3 rfl (by decide) (by omega) v1400 y1399 x8_3 [.int .i64 x8_3] (fun k_ => some k_ ≠ (.slice Ao43 t1373.length co43 : Value).ownBlock) (fun _ => False) rfl rfl ?aP (fun _ hk => hk.elim) ?aF ?aO ?aB ?aS ?aL ?_; (case aP => exact rfl); (case aB => exact (by repeat (first | (with_reducible first | exact HB.out | apply below_alloc | apply pw_below_drewN | apply below_drew1 | refine below_set ?_ GE1372.out) | exact HB.out))); (case aF => exact (fun k_ hk => Kd.fresh' (Kd.R_lt (by (with_reducible repeat (first | apply Kd.R_alloc | apply Kd.R_drewN | apply Kd.R_drew)); exact HO_6.out)) k_ hk)); (case aO => exact (by (with_reducible repeat (first | apply Kd.R_alloc | apply Kd.R_drewN | apply Kd.R_drew)); exact HO1401.out)); (case aS => exact (below_size (by repeat (first | (with_reducible first | exact HB.out | apply below_alloc | apply pw_below_drewN | apply below_drew1 | refine below_set ?_ GE1372.out) | exact HB.out)))); (case aL => have:=LMc53.out; omega); intro v1403 w103 ho hb hg hat; rw [← Ny1402.out] at ho; have n0_:=zy (Kd.R_after (ok:=(fun _ => True)) (by (with_reducible repeat (first | apply Kd.R_alloc | apply Kd.R_drewN | apply Kd.R_drew)); exact HO_6.out) hg hat); have n1_:=zy (Kd.R_over' (by (with_reducible repeat (first | apply Kd.R_alloc | apply Kd.R_drewN | apply Kd.R_drew)); exact HO_1373001.out) (Kd.R_typed (by (with_reducible repeat (first | apply Kd.R_alloc | apply Kd.R_drewN | apply Kd.R_drew)); exact HO1401.out)) (by decide) hg); have n2_:=zy (blk_grown (g:=gb1372) (o:=.cells #[.int .i64 t1368,.slice Ao12 t1369.length co12] 34 (0,0)) (by (with_reducible repeat (first | refine blk_drewN ?_ _ | refine blk_drew ?_ | refine blk_alloc ?_ _)); exact BK1372.out) hg (Kd.R_ne HO1401.out BK1372.out (by decide))); have n3_:=zy (hb); have n4_:=zy ((show Kd.C (Kd.int .i64) w103 Ao43 y1388.length y1388 from by rw [Ny1388.out]; exact Kd.C_take (m:=((ji45) : Int).toNat) ((Kd.R_reads' (Kd.R_after (ok:=(fun _ => True)) (by (with_reducible repeat (first | apply Kd.R_alloc | apply Kd.R_drewN | apply Kd.R_drew)); exact HO_6.out) hg hat)).2.2) KL97.out)); have n5_:=zy ((show Kd.C (Kd.int .i64) w103 A98 y1395.length y1395 from by rw [Ny1395.out,KA98.out]; exact Kd.C_drop (m:=((ji49) : Int).toNat) (c:=co43) ((Kd.R_reads' (Kd.R_after (ok:=(fun _ => True)) (by (with_reducible repeat (first | apply Kd.R_alloc | apply Kd.R_drewN | apply Kd.R_drew)); exact HO_6.out) hg hat)).2.2) KL98.out ((Kd.R_reads' (Kd.R_after (ok:=(fun _ => True)) (by (with_reducible repeat (first | apply Kd.R_alloc | apply Kd.R_drewN | apply Kd.R_drew)); exact HO_6.out) hg hat)).2.1))); have n6_:=zy (ho); clear HO_6; clear HO_1373001; clear BK1372; clear HB; clear HR1391; clear HR1398; clear HO1401; have HO_6:=n0_; have HO_1373001:=n1_; have BK1372:=n2_; have HB:=n3_; have HR1391:=n4_; have HR1398:=n5_; have HO1404:=n6_; clear n0_ n1_ n2_ n3_ n4_ n5_ n6_; clear ho hb hg hat))
        have n0_:=zy (Kd.R_drew HO_6.out);have n1_:=zy (Kd.R_drew HO_1373001.out);have n2_:=zy (Kd.R_drew HO1404.out);have n3_:=zy (blk_drew BK1372.out);have n4_:=zy (Kd.C_drew HR1391.out);have n5_:=zy (Kd.C_drew HR1398.out);have n6_:=zy (below_drew1 HB.out);clear HO_6;clear HO_1373001;clear HO1404;clear BK1372;clear HR1391;clear HR1398;clear HB;have HO_6:=n0_;have HO_1373001:=n1_;have HO1404:=n2_;have BK1372:=n3_;have HR1391:=n4_;have HR1398:=n5_;have HB:=n6_;clear n0_ n1_ n2_ n3_ n4_ n5_ n6_;obtain ⟨Ao105,co105,eo105⟩:=Kd.R_slice HO1404.out
        (first | subst eo105 | (injection eo105 with f1_ f2_ f3_; have f4_:=f1_.symm; have f5_:=f3_.symm; clear f1_ f2_ f3_; subst f4_; subst f5_))
        refine start_ (n:=16) (S:=fun w' => w'.cell? ⟨gb1372,0,none⟩ = some (.int .i64 t1368) ∧ w'.cell? ⟨gb1372,1,none⟩ = some (.slice Ao12 t1369.length co12)) (ds:=[]) #[false,false,false,false,false,false,false,false,false,false,false,false,false,false,false,false] (by kernel_rfl) rfl rfl ⟨(blk_cell BK1372.out 0).trans rfl,(blk_cell BK1372.out 1).trans rfl⟩ (fun hHeld => ?_); refine with_tabW laws_FnTreeSwap.tab13 laws_FnTreeSwap.bits13 (fun HT_ HW_ => ?_);generalize w103.drew = w104 at HO_6 HO_1373001 HO1404 BK1372 HR1391 HR1398 HB hHeld ⊢;refine pure_ (i:=1) (N:=some 68) (v:=?_) (a':=?_) #[false,true,false,false,false,false,false,false,false,false,false,false,false,false,false,false] rfl rfl (any_of HT_.out (by kernel_rfl)) (fun _ _ _ h => h) (Or.inl ⟨by rfl,?_⟩) ?_ ?_;rotate_left
        ·intro w';go_simp;with_reducible rfl
        rotate_left
        ·simp only [Act.put,V,Z,zx,i64_w,i32_w];rfl
        refine pure_ (i:=4) (N:=some 71) (v:=?_) (a':=?_) #[false,true,false,false,true,false,false,false,false,false,false,false,false,false,false,false] rfl rfl (any_of HT_.out (by kernel_rfl)) (fun _ _ _ h => h) (Or.inl ⟨by rfl,?_⟩) ?_ ?_;rotate_left
        ·intro w';go_simp;with_reducible rfl
        rotate_left
        ·simp only [Act.put,V,Z,zx,i64_w,i32_w];rfl
        refine take_ (i:=0) (N:=some 67) (v:=?_) (a':=?_) #[true,true,false,false,true,false,false,false,false,false,false,false,false,false,false,false] rfl rfl (take_ofW HT_.out HW_.out (by kernel_rfl)) (fun _ _ _ h => h) (Or.inl ⟨by rfl,?_⟩) hHeld ?_ ?_;rotate_left
        ·rintro w' ⟨s0,s1⟩;go_simp;with_reducible rfl
        rotate_left
        ·simp only [Act.put,V,Z,zx,i64_w,i32_w];rfl
        refine take_ (i:=3) (N:=some 70) (v:=?_) (a':=?_) #[true,true,false,true,true,false,false,false,false,false,false,false,false,false,false,false] rfl rfl (take_ofW HT_.out HW_.out (by kernel_rfl)) (fun _ _ _ h => h) (Or.inl ⟨by rfl,?_⟩) hHeld ?_ ?_;rotate_left
        ·rintro w' ⟨s0,s1⟩;go_simp;with_reducible rfl
        rotate_left
        ·simp only [Act.put,V,Z,zx,i64_w,i32_w];rfl
        refine one_ (i:=2) (N:=some 69) #[true,true,true,true,true,false,false,false,false,false,false,false,false,false,false,false] rfl rfl (one_of HT_.out (by kernel_rfl)) (by decide) (fun K hK => ?_);refine goes_ Try.func52 (by kernel_rfl) rfl #[.agg #[.int .i64 t1368,.slice Ao12 t1369.length co12],.slice Ao105 y1402.length co105] (by rfl) rfl rfl (by (try simp only [List.map_toArray,List.map_cons,List.map_nil]); first | done | rfl | (simp only [List.length_drop,List.length_take]; rfl)) ?_;with_reducible refine (impl_TreeParts.calls k3 t1368 _ _ t1369 _ _ y1402 t1405 _ ?side1 ?side2 ?side3 ?side4 A54.out).mono ?_
        (case side1 => repeat (first | exact (Kd.R_reads' HO_1373001.out).2.2 | (with_reducible refine Kd.C_alloc ?_ _) | (with_reducible refine Kd.C_drewN ?_ _) | (with_reducible refine Kd.C_drew ?_)))
        (case side2 => exact (Kd.R_reads' HO_1373001.out).2.1)
        (case side3 => repeat (first | exact (Kd.R_reads' HO1404.out).2.2 | (with_reducible refine Kd.C_alloc ?_ _) | (with_reducible refine Kd.C_drewN ?_ _) | (with_reducible refine Kd.C_drew ?_)))
        (case side4 => exact (Kd.R_reads' HO1404.out).2.1)
        rintro e w106 ⟨v1406,rfl,ho0,hb⟩;refine ⟨_,rfl,?_⟩;have n0_:=zy (Kd.R_elder' (by (with_reducible repeat (first | apply Kd.R_alloc | apply Kd.R_drewN | apply Kd.R_drew)); exact HO_6.out) (Kd.R_base ho0) hb);have n1_:=zy (Kd.R_below (by (with_reducible repeat (first | apply Kd.R_alloc | apply Kd.R_drewN | apply Kd.R_drew)); exact HO_1373001.out) hb);have n2_:=zy (Kd.R_elder' (by (with_reducible repeat (first | apply Kd.R_alloc | apply Kd.R_drewN | apply Kd.R_drew)); exact HO1404.out) (Kd.R_base ho0) hb);have n3_:=zy (Kd.R_lower (Kd.R_new' (Kd.R_new' ho0 (Kd.R_lt (by (with_reducible repeat (first | apply Kd.R_alloc | apply Kd.R_drewN | apply Kd.R_drew)); exact HO_6.out))) (Kd.R_lt (by (with_reducible repeat (first | apply Kd.R_alloc | apply Kd.R_drewN | apply Kd.R_drew)); exact HO1404.out))) (below_size (by repeat (first | (with_reducible first | exact HB.out | apply below_alloc | apply pw_below_drewN | apply below_drew1 | refine below_set ?_ GE1372.out) | exact HB.out))));have n4_:=zy (blk_below (g:=gb1372) (o:=.cells #[.int .i64 t1368,.slice Ao12 t1369.length co12] 34 (0,0)) (by (with_reducible repeat (first | refine blk_drewN ?_ _ | refine blk_drew ?_ | refine blk_alloc ?_ _)); exact BK1372.out) hb);have n5_:=zy (Kd.C_below (by repeat (first | (with_reducible exact HR1391.out) | (with_reducible refine Kd.C_alloc ?_ _) | (with_reducible refine Kd.C_drewN ?_ _) | (with_reducible refine Kd.C_drew ?_) | exact HR1391.out)) hb);have n6_:=zy (Kd.C_below (by repeat (first | (with_reducible exact HR1398.out) | (with_reducible refine Kd.C_alloc ?_ _) | (with_reducible refine Kd.C_drewN ?_ _) | (with_reducible refine Kd.C_drew ?_) | exact HR1398.out)) hb);have n7_:=zy (below_step (by repeat (first | (with_reducible first | exact HB.out | apply below_alloc | apply pw_below_drewN | apply below_drew1 | refine below_set ?_ GE1372.out) | exact HB.out)) hb);clear HO_6;clear HO_1373001;clear HO1404;clear BK1372;clear HR1391;clear HR1398;clear HB;have HO_6:=n0_;have HO_1373001:=n1_;have HO1404:=n2_;have HO1407:=n3_;have BK1372:=n4_;have HR1391:=n5_;have HR1398:=n6_;have HB:=n7_;clear n0_ n1_ n2_ n3_ n4_ n5_ n6_ n7_
        (try clear hb)
        (try clear hb2)
        (try clear hk)
        (try clear hi)
        (try clear ho0)
        refine hK.out _ _ ⟨(blk_cell BK1372.out 0).trans rfl,(blk_cell BK1372.out 1).trans rfl⟩ (fun hHeld => ?_);clear hK K;refine norm_ (a':=?_) ?_ ?_;rotate_left
        ·show Act.put _ (some 69) _ = _
         simp only [Act.put,V,Z,zx,i64_w,i32_w];rfl
        refine one_ (i:=5) (N:=some 72) #[true,true,true,true,true,true,false,false,false,false,false,false,false,false,false,false] rfl rfl (one_of HT_.out (by kernel_rfl)) (by decide) (fun K hK => ?_);refine goes_ Try.func52 (by kernel_rfl) rfl #[.agg #[.int .i64 t1368,.slice Ao12 t1369.length co12],.slice Ao43 t1373.length co43] (by rfl) rfl rfl (by (try simp only [List.map_toArray,List.map_cons,List.map_nil]); first | done | rfl | (simp only [List.length_drop,List.length_take]; rfl)) ?_;with_reducible refine (impl_TreeParts.calls k3 t1368 _ _ t1369 _ _ t1373 t1408 _ ?side1 ?side2 ?side3 ?side4 A55.out).mono ?_
        (case side1 => repeat (first | exact (Kd.R_reads' HO_1373001.out).2.2 | (with_reducible refine Kd.C_alloc ?_ _) | (with_reducible refine Kd.C_drewN ?_ _) | (with_reducible refine Kd.C_drew ?_)))
        (case side2 => exact (Kd.R_reads' HO_1373001.out).2.1)
        (case side3 => repeat (first | exact (Kd.R_reads' HO_6.out).2.2 | (with_reducible refine Kd.C_alloc ?_ _) | (with_reducible refine Kd.C_drewN ?_ _) | (with_reducible refine Kd.C_drew ?_)))
        (case side4 => exact (Kd.R_reads' HO_6.out).2.1)
        rintro e w107 ⟨v1409,rfl,ho0,hb⟩;refine ⟨_,rfl,?_⟩;have n0_:=zy (Kd.R_elder' (by (with_reducible repeat (first | apply Kd.R_alloc | apply Kd.R_drewN | apply Kd.R_drew)); exact HO_6.out) (Kd.R_base ho0) hb);have n1_:=zy (Kd.R_below (by (with_reducible repeat (first | apply Kd.R_alloc | apply Kd.R_drewN | apply Kd.R_drew)); exact HO_1373001.out) hb);have n2_:=zy (Kd.R_elder' (by (with_reducible repeat (first | apply Kd.R_alloc | apply Kd.R_drewN | apply Kd.R_drew)); exact HO1404.out) (Kd.R_base ho0) hb);have n3_:=zy (Kd.R_elder' (by (with_reducible repeat (first | apply Kd.R_alloc | apply Kd.R_drewN | apply Kd.R_drew)); exact HO1407.out) (Kd.R_base ho0) hb);have n4_:=zy (Kd.R_lower (Kd.R_new' (Kd.R_new' (Kd.R_new' ho0 (Kd.R_lt (by (with_reducible repeat (first | apply Kd.R_alloc | apply Kd.R_drewN | apply Kd.R_drew)); exact HO_6.out))) (Kd.R_lt (by (with_reducible repeat (first | apply Kd.R_alloc | apply Kd.R_drewN | apply Kd.R_drew)); exact HO1404.out))) (Kd.R_lt (by (with_reducible repeat (first | apply Kd.R_alloc | apply Kd.R_drewN | apply Kd.R_drew)); exact HO1407.out))) (below_size (by repeat (first | (with_reducible first | exact HB.out | apply below_alloc | apply pw_below_drewN | apply below_drew1 | refine below_set ?_ GE1372.out) | exact HB.out))));have n5_:=zy (blk_below (g:=gb1372) (o:=.cells #[.int .i64 t1368,.slice Ao12 t1369.length co12] 34 (0,0)) (by (with_reducible repeat (first | refine blk_drewN ?_ _ | refine blk_drew ?_ | refine blk_alloc ?_ _)); exact BK1372.out) hb);have n6_:=zy (Kd.C_below (by repeat (first | (with_reducible exact HR1391.out) | (with_reducible refine Kd.C_alloc ?_ _) | (with_reducible refine Kd.C_drewN ?_ _) | (with_reducible refine Kd.C_drew ?_) | exact HR1391.out)) hb);have n7_:=zy (Kd.C_below (by repeat (first | (with_reducible exact HR1398.out) | (with_reducible refine Kd.C_alloc ?_ _) | (with_reducible refine Kd.C_drewN ?_ _) | (with_reducible refine Kd.C_drew ?_) | exact HR1398.out)) hb);have n8_:=zy (below_step (by repeat (first | (with_reducible first | exact HB.out | apply below_alloc | apply pw_below_drewN | apply below_drew1 | refine below_set ?_ GE1372.out) | exact HB.out)) hb);clear HO_6;clear HO_1373001;clear HO1404;clear HO1407;clear BK1372;clear HR1391;clear HR1398;clear HB;have HO_6:=n0_;have HO_1373001:=n1_;have HO1404:=n2_;have HO1407:=n3_;have HO1410:=n4_;have BK1372:=n5_;have HR1391:=n6_;have HR1398:=n7_;have HB:=n8_;clear n0_ n1_ n2_ n3_ n4_ n5_ n6_ n7_ n8_
        (try clear hb)
        (try clear hb2)
        (try clear hk)
        (try clear hi)
        (try clear ho0)
        obtain ⟨Ao108,co108,eo108⟩:=Kd.R_slice HO1407.out
        (first | subst eo108 | (injection eo108 with f1_ f2_ f3_; have f4_:=f1_.symm; have f5_:=f3_.symm; clear f1_ f2_ f3_; subst f4_; subst f5_))
        obtain ⟨Ao109,co109,eo109⟩:=Kd.R_slice HO1410.out
        (first | subst eo109 | (injection eo109 with f1_ f2_ f3_; have f4_:=f1_.symm; have f5_:=f3_.symm; clear f1_ f2_ f3_; subst f4_; subst f5_))
        refine hK.out _ _ ⟨(blk_cell BK1372.out 0).trans rfl,(blk_cell BK1372.out 1).trans rfl⟩ (fun hHeld => ?_);clear hK K;refine norm_ (a':=?_) ?_ ?_;rotate_left
        ·show Act.put _ (some 72) _ = _
         simp only [Act.put,V,Z,zx,i64_w,i32_w];rfl
        refine one_ (i:=6) (N:=some 73) #[true,true,true,true,true,true,true,false,false,false,false,false,false,false,false,false] rfl rfl (one_of HT_.out (by kernel_rfl)) (by decide) (fun K hK => ?_);refine goes_ Try.func39 (by kernel_rfl) rfl #[.slice Ao108 t1405.length co108,.slice Ao109 t1408.length co109] (by rfl) rfl rfl (by (try simp only [List.map_toArray,List.map_cons,List.map_nil]); first | done | rfl | (simp only [List.length_drop,List.length_take]; rfl)) ?_;with_reducible refine (laws_wkInts.calls k3 _ _ t1405 _ _ t1408 false _ ?side1 ?side2 ?side3 ?side4 A56.out).mono ?_
        (case side1 => repeat (first | exact (Kd.R_reads' HO1407.out).2.2 | (with_reducible refine Kd.C_alloc ?_ _) | (with_reducible refine Kd.C_drewN ?_ _) | (with_reducible refine Kd.C_drew ?_)))
        (case side2 => exact (Kd.R_reads' HO1407.out).2.1)
        (case side3 => repeat (first | exact (Kd.R_reads' HO1410.out).2.2 | (with_reducible refine Kd.C_alloc ?_ _) | (with_reducible refine Kd.C_drewN ?_ _) | (with_reducible refine Kd.C_drew ?_)))
        (case side4 => exact (Kd.R_reads' HO1410.out).2.1)
        rintro e w' ⟨rfl,⟨nd,rfl⟩⟩;refine ⟨_,rfl,?_⟩;refine hK.out _ _ ⟨(blk_cell BK1372.out 0).trans rfl,(blk_cell BK1372.out 1).trans rfl⟩ (fun hHeld => ?_);clear hK K;refine norm_ (a':=?_) ?_ ?_;rotate_left
        ·show Act.put _ (some 73) _ = _
         simp only [Act.put,V,Z,zx,i64_w,i32_w];rfl
        refine pure_ (i:=7) (N:=some 74) (v:=?_) (a':=?_) #[true,true,true,true,true,true,true,true,false,false,false,false,false,false,false,false] rfl rfl (any_of HT_.out (by kernel_rfl)) (fun _ _ _ h => h) (Or.inl ⟨by rfl,?_⟩) ?_ ?_;rotate_left
        ·intro w';go_simp;with_reducible rfl
        rotate_left
        ·simp only [Act.put,V,Z,zx,i64_w,i32_w];rfl
        refine pure_ (i:=8) (N:=some 75) (v:=undef) (a':=?_) #[true,true,true,true,true,true,true,true,true,false,false,false,false,false,false,false] rfl rfl (any_of HT_.out (by kernel_rfl)) (fun _ _ _ h => h) (Or.inr ⟨by rfl,rfl⟩) ?_ ?_;rotate_left
        ·simp only [Act.put,V,Z,zx,i64_w,i32_w];rfl
        refine pure_ (i:=9) (N:=some 76) (v:=undef) (a':=?_) #[true,true,true,true,true,true,true,true,true,true,false,false,false,false,false,false] rfl rfl (any_of HT_.out (by kernel_rfl)) (fun _ _ _ h => h) (Or.inr ⟨by rfl,rfl⟩) ?_ ?_;rotate_left
        ·simp only [Act.put,V,Z,zx,i64_w,i32_w];rfl
        refine pure_ (i:=10) (N:=some 77) (v:=undef) (a':=?_) #[true,true,true,true,true,true,true,true,true,true,true,false,false,false,false,false] rfl rfl (any_of HT_.out (by kernel_rfl)) (fun _ _ _ h => h) (Or.inr ⟨by rfl,rfl⟩) ?_ ?_;rotate_left
        ·simp only [Act.put,V,Z,zx,i64_w,i32_w];rfl
        refine pure_ (i:=11) (N:=some 78) (v:=undef) (a':=?_) #[true,true,true,true,true,true,true,true,true,true,true,true,false,false,false,false] rfl rfl (any_of HT_.out (by kernel_rfl)) (fun _ _ _ h => h) (Or.inr ⟨by rfl,rfl⟩) ?_ ?_;rotate_left
        ·simp only [Act.put,V,Z,zx,i64_w,i32_w];rfl
        refine pure_ (i:=12) (N:=some 79) (v:=undef) (a':=?_) #[true,true,true,true,true,true,true,true,true,true,true,true,true,false,false,false] rfl rfl (any_of HT_.out (by kernel_rfl)) (fun _ _ _ h => h) (Or.inr ⟨by rfl,rfl⟩) ?_ ?_;rotate_left
        ·simp only [Act.put,V,Z,zx,i64_w,i32_w];rfl
        refine pure_ (i:=13) (N:=some 80) (v:=undef) (a':=?_) #[true,true,true,true,true,true,true,true,true,true,true,true,true,true,false,false] rfl rfl (any_of HT_.out (by kernel_rfl)) (fun _ _ _ h => h) (Or.inr ⟨by rfl,rfl⟩) ?_ ?_;rotate_left
        ·simp only [Act.put,V,Z,zx,i64_w,i32_w];rfl
        refine pure_ (i:=14) (N:=some 81) (v:=undef) (a':=?_) #[true,true,true,true,true,true,true,true,true,true,true,true,true,true,true,false] rfl rfl (any_of HT_.out (by kernel_rfl)) (fun _ _ _ h => h) (Or.inr ⟨by rfl,rfl⟩) ?_ ?_;rotate_left
        ·simp only [Act.put,V,Z,zx,i64_w,i32_w];rfl
        refine pure_ (i:=15) (N:=some 82) (v:=?_) (a':=?_) #[true,true,true,true,true,true,true,true,true,true,true,true,true,true,true,true] rfl rfl (any_of HT_.out (by kernel_rfl)) (fun _ _ _ h => h) (Or.inl ⟨by rfl,?_⟩) ?_ ?_;rotate_left
        ·intro w';go_simp;with_reducible rfl
        rotate_left
        ·simp only [Act.put,V,Z,zx,i64_w,i32_w];rfl
        refine done_ (done_of HT_.out (by kernel_rfl)) ?_
        try go_wp2
        subst hji45;go_roundg k3
        case measure => have:=HJ2.out; have:=HJ7.out; have:=HK3.out; omega
        case rel => exact ⟨(wrap64 (x8_3 + 1)),(by first | rfl | (simp; done) | (simp [*]; done)),H',⟨by have:=HJ2.out; have:=HJ7.out; have:=HK3.out; omega⟩,⟨by (with_reducible repeat (first | apply Kd.R_alloc | apply Kd.R_drewN | apply Kd.R_drew)); exact Kd.R_mono HO_6.out (fun _ hk => trivial)⟩,⟨by (with_reducible repeat (first | apply Kd.R_alloc | apply Kd.R_drewN | apply Kd.R_drew)); exact HO_1373001.out⟩,⟨by (with_reducible repeat (first | refine blk_drewN ?_ _ | refine blk_drew ?_ | refine blk_alloc ?_ _)); exact BK1372.out⟩,⟨by repeat (first | (with_reducible first | exact HB.out | apply below_alloc | apply pw_below_drewN | apply below_drew1 | refine below_set ?_ GE1372.out) | exact HB.out)⟩⟩
       subst c57;have H1 : ((impl_TreeCost.f k3 t1368 t1369 y1402).bind fun t1412 => ((impl_TreeCost.f k3 t1368 t1369 t1373).bind fun t1413 => (if t1412 < t1413 then (some false) else (laws_FnTreeSwap.l0 k3 t1373 (ji45) (wrap64 (x8_3 + 1)) t1368 t1369)))) = some r:=by rw [if_pos rfl] at H; exact H
       clear H;have H:=H1;clear H1;replace H:=Option.bind_eq_some_iff.mp H;obtain ⟨t1412,A580,H⟩:=H;replace H : ((impl_TreeCost.f k3 t1368 t1369 t1373).bind fun t1413 => (if t1412 < t1413 then (some false) else (laws_FnTreeSwap.l0 k3 t1373 (ji45) (wrap64 (x8_3 + 1)) t1368 t1369))) = some r:=H;have A58:=zy A580;clear A580;replace H:=Option.bind_eq_some_iff.mp H;obtain ⟨t1413,A590,H⟩:=H;replace H : (if t1412 < t1413 then (some false) else (laws_FnTreeSwap.l0 k3 t1373 (ji45) (wrap64 (x8_3 + 1)) t1368 t1369)) = some r:=H;have A59:=zy A590;clear A590
       by_cases c60 : t1412 < t1413
       case pos =>
        rw [if_pos c60] at H;have c60b0 : decide (t1412 < t1413) = true:=decide_eq_true c60;clear c60;obtain rfl:=Option.some.inj H;have hcz61_0 : wr.cell? ⟨gb1372,0,none⟩ = some (.int .i64 t1368):=(blk_cell BK1372.out 0).trans rfl;have hcz61_1 : wr.cell? ⟨gb1372,1,none⟩ = some (.slice Ao12 t1369.length co12):=(blk_cell BK1372.out 1).trans rfl;have hfz61_0:=blk_frozen BK1372.out 0;have hfz61_1:=blk_frozen BK1372.out 1
        try go_wp2
        have n0_:=zy (Kd.R_drew HO_6.out);have n1_:=zy (Kd.R_drew HO_1373001.out);have n2_:=zy (blk_drew BK1372.out);have n3_:=zy (below_drew1 HB.out);clear HO_6;clear HO_1373001;clear BK1372;clear HB;have HO_6:=n0_;have HO_1373001:=n1_;have BK1372:=n2_;have HB:=n3_;clear n0_ n1_ n2_ n3_;have q63 : ((ji45) : Int) ≤ ((t1373.length : Int) : Int):=of_decide_eq_true (by first | (with_reducible assumption) | assumption);obtain ⟨i063,hi063,_,hsz63,_⟩:=info_parts info3;have hroom63 : t1373.length ≤ co43:=(Kd.R_reads' HO_6.out).2.1;have hC63 : Kd.C (Kd.int .i64) _ Ao43 t1373.length t1373:=(Kd.R_reads' HO_6.out).2.2;have hcut63:=cut_to (P:=Try.prog) 23 3 .i64 Try.underlying23 hi063 Ao43 t1373.length co43 (ji45) (of_decide_eq_true (by first | (with_reducible assumption) | assumption)) q63 hroom63;have hr63:=Kd.C_take (m:=((ji45) : Int).toNat) hC63 (by omega);have hy63 : y1388.length = ((ji45) : Int).toNat:=(by rw [Ny1388.out,List.length_take]; omega)
        rw [← Ny1388.out] at hr63;rw [← hy63] at hcut63;have HR1391:=zy hr63;have HC1391:=zy (show y1388.length ≤ co43 from by omega);clear hr63 hC63 hroom63 hi063 hsz63;have KY63:=zy hy63;clear hy63;have KL63:=zy (show ((ji45) : Int).toNat ≤ t1373.length from by omega);replace q63:=eq_true q63;have q64 : ((ji49) : Int) ≤ ((t1373.length : Int) : Int):=of_decide_eq_true (by first | (with_reducible assumption) | assumption);obtain ⟨i064,hi064,_,hsz64,_⟩:=info_parts info3;have hroom64 : t1373.length ≤ co43:=(Kd.R_reads' HO_6.out).2.1;have hC64 : Kd.C (Kd.int .i64) _ Ao43 t1373.length t1373:=(Kd.R_reads' HO_6.out).2.2;have q064 : (0 : Int) ≤ ((ji49) : Int):=of_decide_eq_true (by first | (with_reducible assumption) | assumption);have hcut64:=cut_from (P:=Try.prog) 23 3 .i64 Try.underlying23 hi064 1 hsz64 Ao43 t1373.length co43 (ji49) q064 q64;have hr64:=Kd.C_drop (m:=((ji49) : Int).toNat) (c:=co43) hC64 (by omega) hroom64;obtain ⟨A64,hA64⟩ : ∃ A1,A1 = (if co43 = ((ji49) : Int).toNat then Ao43 else (Ao43 : Option Addr).map (·.add (((ji49) : Int).toNat * 1))):=⟨_,rfl⟩
        obtain ⟨c64,hc64⟩ : ∃ c1,c1 = co43 - ((ji49) : Int).toNat:=⟨_,rfl⟩
        have hy64 : y1395.length = t1373.length - ((ji49) : Int).toNat:=(by rw [Ny1395.out,List.length_drop] <;> omega)
        rw [show (t1373).drop ((ji49) : Int).toNat = y1395 from Ny1395.out.symm] at hr64;replace hr64 : Kd.C (Kd.int .i64) _ A64 y1395.length y1395:=(by rw [hA64]; exact hr64)
        rw [← hy64,← hA64,← hc64] at hcut64;have HR1398:=zy hr64;have HC1398:=zy (show y1395.length ≤ c64 from by rw [hy64,hc64]; exact Nat.sub_le_sub_right hroom64 _);clear hr64 hC64 hroom64 hi064 hsz64 hc64;have KY64:=zy hy64;have KA64:=zy hA64;clear hy64 hA64;have KL64:=zy (show ((ji49) : Int).toNat ≤ t1373.length from by omega);replace q64:=eq_true q64;refine start_ (n:=11) (S:=fun w' => True) (ds:=[]) #[false,false,false,false,false,false,false,false,false,false,false] (by kernel_rfl) rfl rfl trivial (fun hHeld => ?_); refine with_tabW laws_FnTreeSwap.tab11 laws_FnTreeSwap.bits11 (fun HT_ HW_ => ?_);generalize wr.drew = w62 at HO_6 HO_1373001 BK1372 HB HR1391 HR1398 hHeld ⊢;refine pure_ (i:=1) (N:=some 54) (v:=?_) (a':=?_) #[false,true,false,false,false,false,false,false,false,false,false] rfl rfl (any_of HT_.out (by kernel_rfl)) (fun _ _ _ h => h) (Or.inl ⟨by rfl,?_⟩) ?_ ?_;rotate_left
        ·intro w';go_simp;with_reducible rfl
        rotate_left
        ·simp only [Act.put,V,Z,zx,i64_w,i32_w];rfl
        refine pure_ (i:=2) (N:=some 55) (v:=?_) (a':=?_) #[false,true,true,false,false,false,false,false,false,false,false] rfl rfl (any_of HT_.out (by kernel_rfl)) (fun _ _ _ h => h) (Or.inl ⟨by rfl,?_⟩) ?_ ?_;rotate_left
        ·intro w';go_simp;with_reducible rfl
        rotate_left
        ·simp only [Act.put,V,Z,zx,i64_w,i32_w];rfl
        refine pure_ (i:=3) (N:=some 56) (v:=?_) (a':=?_) #[false,true,true,true,false,false,false,false,false,false,false] rfl rfl (any_of HT_.out (by kernel_rfl)) (fun _ _ _ h => h) (Or.inl ⟨by rfl,?_⟩) ?_ ?_;rotate_left
        ·intro w';go_simp;with_reducible rfl
        rotate_left
        ·simp only [Act.put,V,Z,zx,i64_w,i32_w];rfl
        refine pure_ (i:=5) (N:=some 58) (v:=?_) (a':=?_) #[false,true,true,true,false,true,false,false,false,false,false] rfl rfl (any_of HT_.out (by kernel_rfl)) (fun _ _ _ h => h) (Or.inl ⟨by rfl,?_⟩) ?_ ?_;rotate_left
        ·intro w';go_simp;with_reducible rfl
        rotate_left
        ·simp only [Act.put,V,Z,zx,i64_w,i32_w];rfl
        refine pure_ (i:=6) (N:=some 59) (v:=?_) (a':=?_) #[false,true,true,true,false,true,true,false,false,false,false] rfl rfl (any_of HT_.out (by kernel_rfl)) (fun _ _ _ h => h) (Or.inl ⟨by rfl,?_⟩) ?_ ?_;rotate_left
        ·intro w';go_simp;with_reducible rfl
        rotate_left
        ·simp only [Act.put,V,Z,zx,i64_w,i32_w];rfl
        refine pure_ (i:=7) (N:=some 60) (v:=?_) (a':=?_) #[false,true,true,true,false,true,true,true,false,false,false] rfl rfl (any_of HT_.out (by kernel_rfl)) (fun _ _ _ h => h) (Or.inl ⟨by rfl,?_⟩) ?_ ?_;rotate_left
        ·intro w';go_simp;with_reducible rfl
        rotate_left
        ·simp only [Act.put,V,Z,zx,i64_w,i32_w];rfl
        refine pure_ (i:=8) (N:=some 61) (v:=?_) (a':=?_) #[false,true,true,true,false,true,true,true,true,false,false] rfl rfl (any_of HT_.out (by kernel_rfl)) (fun _ _ _ h => h) (Or.inl ⟨by rfl,?_⟩) ?_ ?_;rotate_left
        ·intro w';go_simp;with_reducible rfl
        rotate_left
        ·simp only [Act.put,V,Z,zx,i64_w,i32_w];rfl
        refine one_ (i:=0) (N:=some 53) #[true,true,true,true,false,true,true,true,true,false,false] rfl rfl (one_of HT_.out (by kernel_rfl)) (by decide) (fun K hK => ?_);refine Kd.R_lit_step (Kd.int .i64) _ 3 ?hg (N:=53) ?hd (xs:=([] : List Int)) (inner:=[]) (ok:=fun _ => True) (okp:=fun _ => True) ?hr ?hp (fun _ hk => hk) trivial (Below.refl _ _) (Nat.le_refl _) (by simp) ?_; (case hd => rfl); (case hg => rfl); (case hr => first | (go_simp; done) | (go_simp; rfl)); (case hp => exact (Reps.none _ _));intro v1386 w65 ho66 hb hg_ hnew_;clear hg_ hnew_
        (first | rw [← Ny1385.out] at ho66 | (simp only [Int.reduceToNat] at ho66; rw [← Ny1385.out] at ho66))
        have n0_:=zy (Kd.R_elder' (by (with_reducible repeat (first | apply Kd.R_alloc | apply Kd.R_drewN | apply Kd.R_drew)); exact HO_6.out) (Kd.R_base ho66) hb);have n1_:=zy (Kd.R_below (by (with_reducible repeat (first | apply Kd.R_alloc | apply Kd.R_drewN | apply Kd.R_drew)); exact HO_1373001.out) hb);have n2_:=zy (Kd.R_lower (Kd.R_new' ho66 (Kd.R_lt (by (with_reducible repeat (first | apply Kd.R_alloc | apply Kd.R_drewN | apply Kd.R_drew)); exact HO_6.out))) (below_size (by repeat (first | (with_reducible first | exact HB.out | apply below_alloc | apply pw_below_drewN | apply below_drew1 | refine below_set ?_ GE1372.out) | exact HB.out))));have n3_:=zy (blk_below (g:=gb1372) (o:=.cells #[.int .i64 t1368,.slice Ao12 t1369.length co12] 34 (0,0)) (by (with_reducible repeat (first | refine blk_drewN ?_ _ | refine blk_drew ?_ | refine blk_alloc ?_ _)); exact BK1372.out) hb);have n4_:=zy (Kd.C_below (by repeat (first | (with_reducible exact HR1391.out) | (with_reducible refine Kd.C_alloc ?_ _) | (with_reducible refine Kd.C_drewN ?_ _) | (with_reducible refine Kd.C_drew ?_) | exact HR1391.out)) hb);have n5_:=zy (Kd.C_below (by repeat (first | (with_reducible exact HR1398.out) | (with_reducible refine Kd.C_alloc ?_ _) | (with_reducible refine Kd.C_drewN ?_ _) | (with_reducible refine Kd.C_drew ?_) | exact HR1398.out)) hb);have n6_:=zy (below_step (by repeat (first | (with_reducible first | exact HB.out | apply below_alloc | apply pw_below_drewN | apply below_drew1 | refine below_set ?_ GE1372.out) | exact HB.out)) hb);clear HO_6;clear HO_1373001;clear BK1372;clear HR1391;clear HR1398;clear HB;have HO_6:=n0_;have HO_1373001:=n1_;have HO1387:=n2_;have BK1372:=n3_;have HR1391:=n4_;have HR1398:=n5_;have HB:=n6_;clear n0_ n1_ n2_ n3_ n4_ n5_ n6_;clear hb ho66;refine hK.out _ _ trivial (fun hHeld => ?_);clear hK K;refine norm_ (a':=?_) ?_ ?_;rotate_left
        ·show Act.put _ (some 53) _ = _
         simp only [Act.put,V,Z,zx,i64_w,i32_w];rfl
        refine one_ (i:=4) (N:=some 57) #[true,true,true,true,true,true,true,true,true,false,false] rfl rfl (one_of HT_.out (by kernel_rfl)) (by decide) (fun K hK => ?_);refine Kd.R_append_rows_step (Kd.int .i64) (w0:=w) w.heap.size (by rfl) (.tmp 53) (.tmp 56) 23 3 (.int .i64 0) 8 rfl Try.underlying23 info3 rfl (by decide) (by omega) v1386 y1385 y1388 _ _ _ (fun k_ => some k_ ≠ (.slice Ao43 t1373.length co43 : Value).ownBlock) (fun _ => False) rfl rfl ?aO ?aR (fun _ _ h => h) (fun _ h => h.elim) ?aF ?aB ?aS ?aL ?_
        (case aR => repeat (first | exact (by repeat (first | (with_reducible exact HR1391.out) | (with_reducible refine Kd.C_alloc ?_ _) | (with_reducible refine Kd.C_drewN ?_ _) | (with_reducible refine Kd.C_drew ?_) | exact HR1391.out)) | (with_reducible refine Kd.C_alloc ?_ _) | (with_reducible refine Kd.C_drewN ?_ _) | (with_reducible refine Kd.C_drew ?_)))
        (case aB => exact (by repeat (first | (with_reducible first | exact HB.out | apply below_alloc | apply pw_below_drewN | apply below_drew1 | refine below_set ?_ GE1372.out) | exact HB.out)))
        (case aF => exact (fun k_ hk => Kd.fresh' (Kd.R_lt (by (with_reducible repeat (first | apply Kd.R_alloc | apply Kd.R_drewN | apply Kd.R_drew)); exact HO_6.out)) k_ hk))
        (case aO => exact (by (with_reducible repeat (first | apply Kd.R_alloc | apply Kd.R_drewN | apply Kd.R_drew)); exact Kd.R_mono HO1387.out (fun _ hk => hk.2)))
        (case aS => exact (below_size (by repeat (first | (with_reducible first | exact HB.out | apply below_alloc | apply pw_below_drewN | apply below_drew1 | refine below_set ?_ GE1372.out) | exact HB.out))))
        (case aL => have:=LMc48.out; omega)
        intro v1393 w67 ho hb hg hat;rw [← Ny1392.out] at ho;have n0_:=zy (Kd.R_after (ok:=(fun _ => True)) (by (with_reducible repeat (first | apply Kd.R_alloc | apply Kd.R_drewN | apply Kd.R_drew)); exact HO_6.out) hg hat);have n1_:=zy (Kd.R_over' (by (with_reducible repeat (first | apply Kd.R_alloc | apply Kd.R_drewN | apply Kd.R_drew)); exact HO_1373001.out) (Kd.R_typed (by (with_reducible repeat (first | apply Kd.R_alloc | apply Kd.R_drewN | apply Kd.R_drew)); exact HO1387.out)) (by decide) hg);have n2_:=zy (blk_grown (g:=gb1372) (o:=.cells #[.int .i64 t1368,.slice Ao12 t1369.length co12] 34 (0,0)) (by (with_reducible repeat (first | refine blk_drewN ?_ _ | refine blk_drew ?_ | refine blk_alloc ?_ _)); exact BK1372.out) hg (Kd.R_ne HO1387.out BK1372.out (by decide)));have n3_:=zy (hb);have n4_:=zy ((show Kd.C (Kd.int .i64) w67 Ao43 y1388.length y1388 from by rw [Ny1388.out]; exact Kd.C_take (m:=((ji45) : Int).toNat) ((Kd.R_reads' (Kd.R_after (ok:=(fun _ => True)) (by (with_reducible repeat (first | apply Kd.R_alloc | apply Kd.R_drewN | apply Kd.R_drew)); exact HO_6.out) hg hat)).2.2) KL63.out));have n5_:=zy ((show Kd.C (Kd.int .i64) w67 A64 y1395.length y1395 from by rw [Ny1395.out,KA64.out]; exact Kd.C_drop (m:=((ji49) : Int).toNat) (c:=co43) ((Kd.R_reads' (Kd.R_after (ok:=(fun _ => True)) (by (with_reducible repeat (first | apply Kd.R_alloc | apply Kd.R_drewN | apply Kd.R_drew)); exact HO_6.out) hg hat)).2.2) KL64.out ((Kd.R_reads' (Kd.R_after (ok:=(fun _ => True)) (by (with_reducible repeat (first | apply Kd.R_alloc | apply Kd.R_drewN | apply Kd.R_drew)); exact HO_6.out) hg hat)).2.1)));have n6_:=zy (ho);clear HO_6;clear HO_1373001;clear BK1372;clear HB;clear HR1391;clear HR1398;clear HO1387;have HO_6:=n0_;have HO_1373001:=n1_;have BK1372:=n2_;have HB:=n3_;have HR1391:=n4_;have HR1398:=n5_;have HO1394:=n6_;clear n0_ n1_ n2_ n3_ n4_ n5_ n6_;clear ho hb hg hat;refine hK.out _ _ trivial (fun hHeld => ?_);clear hK K;refine norm_ (a':=?_) ?_ ?_;rotate_left
        ·show Act.put _ (some 57) _ = _
         simp only [Act.put,V,Z,zx,i64_w,i32_w];rfl
        refine one_ (i:=9) (N:=some 62) #[true,true,true,true,true,true,true,true,true,true,false] rfl rfl (one_of HT_.out (by kernel_rfl)) (by decide) (fun K hK => ?_);refine Kd.R_append_rows_step (Kd.int .i64) (w0:=w) w.heap.size (by rfl) (.tmp 57) (.tmp 61) 23 3 (.int .i64 0) 8 rfl Try.underlying23 info3 rfl (by decide) (by omega) v1393 y1392 y1395 _ _ _ (fun k_ => some k_ ≠ (.slice Ao43 t1373.length co43 : Value).ownBlock) (fun _ => False) rfl rfl ?aO ?aR (fun _ _ h => h) (fun _ h => h.elim) ?aF ?aB ?aS ?aL ?_
        (case aR => repeat (first | exact (by repeat (first | (with_reducible exact HR1398.out) | (with_reducible refine Kd.C_alloc ?_ _) | (with_reducible refine Kd.C_drewN ?_ _) | (with_reducible refine Kd.C_drew ?_) | exact HR1398.out)) | (with_reducible refine Kd.C_alloc ?_ _) | (with_reducible refine Kd.C_drewN ?_ _) | (with_reducible refine Kd.C_drew ?_)))
        (case aB => exact (by repeat (first | (with_reducible first | exact HB.out | apply below_alloc | apply pw_below_drewN | apply below_drew1 | refine below_set ?_ GE1372.out) | exact HB.out)))
        (case aF => exact (fun k_ hk => Kd.fresh' (Kd.R_lt (by (with_reducible repeat (first | apply Kd.R_alloc | apply Kd.R_drewN | apply Kd.R_drew)); exact HO_6.out)) k_ hk))
        (case aO => exact (by (with_reducible repeat (first | apply Kd.R_alloc | apply Kd.R_drewN | apply Kd.R_drew)); exact HO1394.out))
        (case aS => exact (below_size (by repeat (first | (with_reducible first | exact HB.out | apply below_alloc | apply pw_below_drewN | apply below_drew1 | refine below_set ?_ GE1372.out) | exact HB.out))))
        (case aL => have:=LMc52.out; omega)
        intro v1400 w68 ho hb hg hat;rw [← Ny1399.out] at ho;have n0_:=zy (Kd.R_after (ok:=(fun _ => True)) (by (with_reducible repeat (first | apply Kd.R_alloc | apply Kd.R_drewN | apply Kd.R_drew)); exact HO_6.out) hg hat);have n1_:=zy (Kd.R_over' (by (with_reducible repeat (first | apply Kd.R_alloc | apply Kd.R_drewN | apply Kd.R_drew)); exact HO_1373001.out) (Kd.R_typed (by (with_reducible repeat (first | apply Kd.R_alloc | apply Kd.R_drewN | apply Kd.R_drew)); exact HO1394.out)) (by decide) hg);have n2_:=zy (blk_grown (g:=gb1372) (o:=.cells #[.int .i64 t1368,.slice Ao12 t1369.length co12] 34 (0,0)) (by (with_reducible repeat (first | refine blk_drewN ?_ _ | refine blk_drew ?_ | refine blk_alloc ?_ _)); exact BK1372.out) hg (Kd.R_ne HO1394.out BK1372.out (by decide)));have n3_:=zy (hb);have n4_:=zy ((show Kd.C (Kd.int .i64) w68 Ao43 y1388.length y1388 from by rw [Ny1388.out]; exact Kd.C_take (m:=((ji45) : Int).toNat) ((Kd.R_reads' (Kd.R_after (ok:=(fun _ => True)) (by (with_reducible repeat (first | apply Kd.R_alloc | apply Kd.R_drewN | apply Kd.R_drew)); exact HO_6.out) hg hat)).2.2) KL63.out));have n5_:=zy ((show Kd.C (Kd.int .i64) w68 A64 y1395.length y1395 from by rw [Ny1395.out,KA64.out]; exact Kd.C_drop (m:=((ji49) : Int).toNat) (c:=co43) ((Kd.R_reads' (Kd.R_after (ok:=(fun _ => True)) (by (with_reducible repeat (first | apply Kd.R_alloc | apply Kd.R_drewN | apply Kd.R_drew)); exact HO_6.out) hg hat)).2.2) KL64.out ((Kd.R_reads' (Kd.R_after (ok:=(fun _ => True)) (by (with_reducible repeat (first | apply Kd.R_alloc | apply Kd.R_drewN | apply Kd.R_drew)); exact HO_6.out) hg hat)).2.1)));have n6_:=zy (ho);clear HO_6;clear HO_1373001;clear BK1372;clear HB;clear HR1391;clear HR1398;clear HO1394;have HO_6:=n0_;have HO_1373001:=n1_;have BK1372:=n2_;have HB:=n3_;have HR1391:=n4_;have HR1398:=n5_;have HO1401:=n6_;clear n0_ n1_ n2_ n3_ n4_ n5_ n6_;clear ho hb hg hat;refine hK.out _ _ trivial (fun hHeld => ?_);clear hK K;refine norm_ (a':=?_) ?_ ?_;rotate_left
        ·show Act.put _ (some 62) _ = _
         simp only [Act.put,V,Z,zx,i64_w,i32_w];rfl
        refine pure_ (i:=10) (N:=some 9) (v:=?_) (a':=?_) #[true,true,true,true,true,true,true,true,true,true,true] rfl rfl (any_of HT_.out (by kernel_rfl)) (fun _ _ _ h => h) (Or.inl ⟨by rfl,?_⟩) ?_ ?_;rotate_left
        ·intro w';go_simp;with_reducible rfl
        rotate_left
        ·simp only [Act.put,V,Z,zx,i64_w,i32_w];rfl
        refine done_ (done_of HT_.out (by kernel_rfl)) ?_
        try go_wp2_with (first | ((with_reducible refine gate_builtin (b:=.append) (xs:=#[.tmp 63,.tmp 65]) rfl ?_); (try (refine gate_guard (by rfl) ?_; dsimp only)); at_builtin; refine Kd.R_append (Kd.int .i64) (w0:=w) w.heap.size rfl (.tmp 63) (.tmp 65) 23 3 (.int .i64 0) 8 rfl Try.underlying23 info3 rfl (by decide) (by omega) v1400 y1399 x8_3 [.int .i64 x8_3] (fun k_ => some k_ ≠ (.slice Ao43 t1373.length co43 : Value).ownBlock) (fun _ => False) rfl rfl ?aP (fun _ hk => hk.elim) ?aF ?aO ?aB ?aS ?aL ?_; (case aP => exact rfl); (case aB => exact (by repeat (first | (with_reducible first | exact HB.out | apply below_alloc | apply pw_below_drewN | apply below_drew1 | refine below_set ?_ GE1372.out) | exact HB.out))); (case aF => exact (fun k_ hk => Kd.fresh' (Kd.R_lt (by (with_reducible repeat (first | apply Kd.R_alloc | apply Kd.R_drewN | apply Kd.R_drew)); exact HO_6.out)) k_ hk)); (case aO => exact (by (with_reducible repeat (first | apply Kd.R_alloc | apply Kd.R_drewN | apply Kd.R_drew)); exact HO1401.out)); (case aS => exact (below_size (by repeat (first | (with_reducible first | exact HB.out | apply below_alloc | apply pw_below_drewN | apply below_drew1 | refine below_set ?_ GE1372.out) | exact HB.out)))); (case aL => have:=LMc53.out; omega); intro v1403 w69 ho hb hg hat; rw [← Ny1402.out] at ho; have n0_:=zy (Kd.R_after (ok:=(fun _ => True)) (by (with_reducible repeat (first | apply Kd.R_alloc | apply Kd.R_drewN | apply Kd.R_drew)); exact HO_6.out) hg hat); have n1_:=zy (Kd.R_over' (by (with_reducible repeat (first | apply Kd.R_alloc | apply Kd.R_drewN | apply Kd.R_drew)); exact HO_1373001.out) (Kd.R_typed (by (with_reducible repeat (first | apply Kd.R_alloc | apply Kd.R_drewN | apply Kd.R_drew)); exact HO1401.out)) (by decide) hg); have n2_:=zy (blk_grown (g:=gb1372) (o:=.cells #[.int .i64 t1368,.slice Ao12 t1369.length co12] 34 (0,0)) (by (with_reducible repeat (first | refine blk_drewN ?_ _ | refine blk_drew ?_ | refine blk_alloc ?_ _)); exact BK1372.out) hg (Kd.R_ne HO1401.out BK1372.out (by decide))); have n3_:=zy (hb); have n4_:=zy ((show Kd.C (Kd.int .i64) w69 Ao43 y1388.length y1388 from by rw [Ny1388.out]; exact Kd.C_take (m:=((ji45) : Int).toNat) ((Kd.R_reads' (Kd.R_after (ok:=(fun _ => True)) (by (with_reducible repeat (first | apply Kd.R_alloc | apply Kd.R_drewN | apply Kd.R_drew)); exact HO_6.out) hg hat)).2.2) KL63.out)); have n5_:=zy ((show Kd.C (Kd.int .i64) w69 A64 y1395.length y1395 from by rw [Ny1395.out,KA64.out]; exact Kd.C_drop (m:=((ji49) : Int).toNat) (c:=co43) ((Kd.R_reads' (Kd.R_after (ok:=(fun _ => True)) (by (with_reducible repeat (first | apply Kd.R_alloc | apply Kd.R_drewN | apply Kd.R_drew)); exact HO_6.out) hg hat)).2.2) KL64.out ((Kd.R_reads' (Kd.R_after (ok:=(fun _ => True)) (by (with_reducible repeat (first | apply Kd.R_alloc | apply Kd.R_drewN | apply Kd.R_drew)); exact HO_6.out) hg hat)).2.1))); have n6_:=zy (ho); clear HO_6; clear HO_1373001; clear BK1372; clear HB; clear HR1391; clear HR1398; clear HO1401; have HO_6:=n0_; have HO_1373001:=n1_; have BK1372:=n2_; have HB:=n3_; have HR1391:=n4_; have HR1398:=n5_; have HO1404:=n6_; clear n0_ n1_ n2_ n3_ n4_ n5_ n6_; clear ho hb hg hat))
        have n0_:=zy (Kd.R_drew HO_6.out);have n1_:=zy (Kd.R_drew HO_1373001.out);have n2_:=zy (Kd.R_drew HO1404.out);have n3_:=zy (blk_drew BK1372.out);have n4_:=zy (Kd.C_drew HR1391.out);have n5_:=zy (Kd.C_drew HR1398.out);have n6_:=zy (below_drew1 HB.out);clear HO_6;clear HO_1373001;clear HO1404;clear BK1372;clear HR1391;clear HR1398;clear HB;have HO_6:=n0_;have HO_1373001:=n1_;have HO1404:=n2_;have BK1372:=n3_;have HR1391:=n4_;have HR1398:=n5_;have HB:=n6_;clear n0_ n1_ n2_ n3_ n4_ n5_ n6_;obtain ⟨Ao71,co71,eo71⟩:=Kd.R_slice HO1404.out
        (first | subst eo71 | (injection eo71 with f1_ f2_ f3_; have f4_:=f1_.symm; have f5_:=f3_.symm; clear f1_ f2_ f3_; subst f4_; subst f5_))
        refine start_ (n:=16) (S:=fun w' => w'.cell? ⟨gb1372,0,none⟩ = some (.int .i64 t1368) ∧ w'.cell? ⟨gb1372,1,none⟩ = some (.slice Ao12 t1369.length co12)) (ds:=[]) #[false,false,false,false,false,false,false,false,false,false,false,false,false,false,false,false] (by kernel_rfl) rfl rfl ⟨(blk_cell BK1372.out 0).trans rfl,(blk_cell BK1372.out 1).trans rfl⟩ (fun hHeld => ?_); refine with_tabW laws_FnTreeSwap.tab13 laws_FnTreeSwap.bits13 (fun HT_ HW_ => ?_);generalize w69.drew = w70 at HO_6 HO_1373001 HO1404 BK1372 HR1391 HR1398 HB hHeld ⊢;refine pure_ (i:=1) (N:=some 68) (v:=?_) (a':=?_) #[false,true,false,false,false,false,false,false,false,false,false,false,false,false,false,false] rfl rfl (any_of HT_.out (by kernel_rfl)) (fun _ _ _ h => h) (Or.inl ⟨by rfl,?_⟩) ?_ ?_;rotate_left
        ·intro w';go_simp;with_reducible rfl
        rotate_left
        ·simp only [Act.put,V,Z,zx,i64_w,i32_w];rfl
        refine pure_ (i:=4) (N:=some 71) (v:=?_) (a':=?_) #[false,true,false,false,true,false,false,false,false,false,false,false,false,false,false,false] rfl rfl (any_of HT_.out (by kernel_rfl)) (fun _ _ _ h => h) (Or.inl ⟨by rfl,?_⟩) ?_ ?_;rotate_left
        ·intro w';go_simp;with_reducible rfl
        rotate_left
        ·simp only [Act.put,V,Z,zx,i64_w,i32_w];rfl
        refine take_ (i:=0) (N:=some 67) (v:=?_) (a':=?_) #[true,true,false,false,true,false,false,false,false,false,false,false,false,false,false,false] rfl rfl (take_ofW HT_.out HW_.out (by kernel_rfl)) (fun _ _ _ h => h) (Or.inl ⟨by rfl,?_⟩) hHeld ?_ ?_;rotate_left
        ·rintro w' ⟨s0,s1⟩;go_simp;with_reducible rfl
        rotate_left
        ·simp only [Act.put,V,Z,zx,i64_w,i32_w];rfl
        refine take_ (i:=3) (N:=some 70) (v:=?_) (a':=?_) #[true,true,false,true,true,false,false,false,false,false,false,false,false,false,false,false] rfl rfl (take_ofW HT_.out HW_.out (by kernel_rfl)) (fun _ _ _ h => h) (Or.inl ⟨by rfl,?_⟩) hHeld ?_ ?_;rotate_left
        ·rintro w' ⟨s0,s1⟩;go_simp;with_reducible rfl
        rotate_left
        ·simp only [Act.put,V,Z,zx,i64_w,i32_w];rfl
        refine one_ (i:=2) (N:=some 69) #[true,true,true,true,true,false,false,false,false,false,false,false,false,false,false,false] rfl rfl (one_of HT_.out (by kernel_rfl)) (by decide) (fun K hK => ?_);refine goes_ Try.func52 (by kernel_rfl) rfl #[.agg #[.int .i64 t1368,.slice Ao12 t1369.length co12],.slice Ao71 y1402.length co71] (by rfl) rfl rfl (by (try simp only [List.map_toArray,List.map_cons,List.map_nil]); first | done | rfl | (simp only [List.length_drop,List.length_take]; rfl)) ?_;with_reducible refine (impl_TreeParts.calls k3 t1368 _ _ t1369 _ _ y1402 t1405 _ ?side1 ?side2 ?side3 ?side4 A54.out).mono ?_
        (case side1 => repeat (first | exact (Kd.R_reads' HO_1373001.out).2.2 | (with_reducible refine Kd.C_alloc ?_ _) | (with_reducible refine Kd.C_drewN ?_ _) | (with_reducible refine Kd.C_drew ?_)))
        (case side2 => exact (Kd.R_reads' HO_1373001.out).2.1)
        (case side3 => repeat (first | exact (Kd.R_reads' HO1404.out).2.2 | (with_reducible refine Kd.C_alloc ?_ _) | (with_reducible refine Kd.C_drewN ?_ _) | (with_reducible refine Kd.C_drew ?_)))
        (case side4 => exact (Kd.R_reads' HO1404.out).2.1)
        rintro e w72 ⟨v1406,rfl,ho0,hb⟩;refine ⟨_,rfl,?_⟩;have n0_:=zy (Kd.R_elder' (by (with_reducible repeat (first | apply Kd.R_alloc | apply Kd.R_drewN | apply Kd.R_drew)); exact HO_6.out) (Kd.R_base ho0) hb);have n1_:=zy (Kd.R_below (by (with_reducible repeat (first | apply Kd.R_alloc | apply Kd.R_drewN | apply Kd.R_drew)); exact HO_1373001.out) hb);have n2_:=zy (Kd.R_elder' (by (with_reducible repeat (first | apply Kd.R_alloc | apply Kd.R_drewN | apply Kd.R_drew)); exact HO1404.out) (Kd.R_base ho0) hb);have n3_:=zy (Kd.R_lower (Kd.R_new' (Kd.R_new' ho0 (Kd.R_lt (by (with_reducible repeat (first | apply Kd.R_alloc | apply Kd.R_drewN | apply Kd.R_drew)); exact HO_6.out))) (Kd.R_lt (by (with_reducible repeat (first | apply Kd.R_alloc | apply Kd.R_drewN | apply Kd.R_drew)); exact HO1404.out))) (below_size (by repeat (first | (with_reducible first | exact HB.out | apply below_alloc | apply pw_below_drewN | apply below_drew1 | refine below_set ?_ GE1372.out) | exact HB.out))));have n4_:=zy (blk_below (g:=gb1372) (o:=.cells #[.int .i64 t1368,.slice Ao12 t1369.length co12] 34 (0,0)) (by (with_reducible repeat (first | refine blk_drewN ?_ _ | refine blk_drew ?_ | refine blk_alloc ?_ _)); exact BK1372.out) hb);have n5_:=zy (Kd.C_below (by repeat (first | (with_reducible exact HR1391.out) | (with_reducible refine Kd.C_alloc ?_ _) | (with_reducible refine Kd.C_drewN ?_ _) | (with_reducible refine Kd.C_drew ?_) | exact HR1391.out)) hb);have n6_:=zy (Kd.C_below (by repeat (first | (with_reducible exact HR1398.out) | (with_reducible refine Kd.C_alloc ?_ _) | (with_reducible refine Kd.C_drewN ?_ _) | (with_reducible refine Kd.C_drew ?_) | exact HR1398.out)) hb);have n7_:=zy (below_step (by repeat (first | (with_reducible first | exact HB.out | apply below_alloc | apply pw_below_drewN | apply below_drew1 | refine below_set ?_ GE1372.out) | exact HB.out)) hb);clear HO_6;clear HO_1373001;clear HO1404;clear BK1372;clear HR1391;clear HR1398;clear HB;have HO_6:=n0_;have HO_1373001:=n1_;have HO1404:=n2_;have HO1407:=n3_;have BK1372:=n4_;have HR1391:=n5_;have HR1398:=n6_;have HB:=n7_;clear n0_ n1_ n2_ n3_ n4_ n5_ n6_ n7_
        (try clear hb)
        (try clear hb2)
        (try clear hk)
        (try clear hi)
        (try clear ho0)
        refine hK.out _ _ ⟨(blk_cell BK1372.out 0).trans rfl,(blk_cell BK1372.out 1).trans rfl⟩ (fun hHeld => ?_);clear hK K;refine norm_ (a':=?_) ?_ ?_;rotate_left
        ·show Act.put _ (some 69) _ = _
         simp only [Act.put,V,Z,zx,i64_w,i32_w];rfl
        refine one_ (i:=5) (N:=some 72) #[true,true,true,true,true,true,false,false,false,false,false,false,false,false,false,false] rfl rfl (one_of HT_.out (by kernel_rfl)) (by decide) (fun K hK => ?_);refine goes_ Try.func52 (by kernel_rfl) rfl #[.agg #[.int .i64 t1368,.slice Ao12 t1369.length co12],.slice Ao43 t1373.length co43] (by rfl) rfl rfl (by (try simp only [List.map_toArray,List.map_cons,List.map_nil]); first | done | rfl | (simp only [List.length_drop,List.length_take]; rfl)) ?_;with_reducible refine (impl_TreeParts.calls k3 t1368 _ _ t1369 _ _ t1373 t1408 _ ?side1 ?side2 ?side3 ?side4 A55.out).mono ?_
        (case side1 => repeat (first | exact (Kd.R_reads' HO_1373001.out).2.2 | (with_reducible refine Kd.C_alloc ?_ _) | (with_reducible refine Kd.C_drewN ?_ _) | (with_reducible refine Kd.C_drew ?_)))
        (case side2 => exact (Kd.R_reads' HO_1373001.out).2.1)
        (case side3 => repeat (first | exact (Kd.R_reads' HO_6.out).2.2 | (with_reducible refine Kd.C_alloc ?_ _) | (with_reducible refine Kd.C_drewN ?_ _) | (with_reducible refine Kd.C_drew ?_)))
        (case side4 => exact (Kd.R_reads' HO_6.out).2.1)
        rintro e w73 ⟨v1409,rfl,ho0,hb⟩;refine ⟨_,rfl,?_⟩;have n0_:=zy (Kd.R_elder' (by (with_reducible repeat (first | apply Kd.R_alloc | apply Kd.R_drewN | apply Kd.R_drew)); exact HO_6.out) (Kd.R_base ho0) hb);have n1_:=zy (Kd.R_below (by (with_reducible repeat (first | apply Kd.R_alloc | apply Kd.R_drewN | apply Kd.R_drew)); exact HO_1373001.out) hb);have n2_:=zy (Kd.R_elder' (by (with_reducible repeat (first | apply Kd.R_alloc | apply Kd.R_drewN | apply Kd.R_drew)); exact HO1404.out) (Kd.R_base ho0) hb);have n3_:=zy (Kd.R_elder' (by (with_reducible repeat (first | apply Kd.R_alloc | apply Kd.R_drewN | apply Kd.R_drew)); exact HO1407.out) (Kd.R_base ho0) hb);have n4_:=zy (Kd.R_lower (Kd.R_new' (Kd.R_new' (Kd.R_new' ho0 (Kd.R_lt (by (with_reducible repeat (first | apply Kd.R_alloc | apply Kd.R_drewN | apply Kd.R_drew)); exact HO_6.out))) (Kd.R_lt (by (with_reducible repeat (first | apply Kd.R_alloc | apply Kd.R_drewN | apply Kd.R_drew)); exact HO1404.out))) (Kd.R_lt (by (with_reducible repeat (first | apply Kd.R_alloc | apply Kd.R_drewN | apply Kd.R_drew)); exact HO1407.out))) (below_size (by repeat (first | (with_reducible first | exact HB.out | apply below_alloc | apply pw_below_drewN | apply below_drew1 | refine below_set ?_ GE1372.out) | exact HB.out))));have n5_:=zy (blk_below (g:=gb1372) (o:=.cells #[.int .i64 t1368,.slice Ao12 t1369.length co12] 34 (0,0)) (by (with_reducible repeat (first | refine blk_drewN ?_ _ | refine blk_drew ?_ | refine blk_alloc ?_ _)); exact BK1372.out) hb);have n6_:=zy (Kd.C_below (by repeat (first | (with_reducible exact HR1391.out) | (with_reducible refine Kd.C_alloc ?_ _) | (with_reducible refine Kd.C_drewN ?_ _) | (with_reducible refine Kd.C_drew ?_) | exact HR1391.out)) hb);have n7_:=zy (Kd.C_below (by repeat (first | (with_reducible exact HR1398.out) | (with_reducible refine Kd.C_alloc ?_ _) | (with_reducible refine Kd.C_drewN ?_ _) | (with_reducible refine Kd.C_drew ?_) | exact HR1398.out)) hb);have n8_:=zy (below_step (by repeat (first | (with_reducible first | exact HB.out | apply below_alloc | apply pw_below_drewN | apply below_drew1 | refine below_set ?_ GE1372.out) | exact HB.out)) hb);clear HO_6;clear HO_1373001;clear HO1404;clear HO1407;clear BK1372;clear HR1391;clear HR1398;clear HB;have HO_6:=n0_;have HO_1373001:=n1_;have HO1404:=n2_;have HO1407:=n3_;have HO1410:=n4_;have BK1372:=n5_;have HR1391:=n6_;have HR1398:=n7_;have HB:=n8_;clear n0_ n1_ n2_ n3_ n4_ n5_ n6_ n7_ n8_
        (try clear hb)
        (try clear hb2)
        (try clear hk)
        (try clear hi)
        (try clear ho0)
        obtain ⟨Ao74,co74,eo74⟩:=Kd.R_slice HO1407.out
        (first | subst eo74 | (injection eo74 with f1_ f2_ f3_; have f4_:=f1_.symm; have f5_:=f3_.symm; clear f1_ f2_ f3_; subst f4_; subst f5_))
        obtain ⟨Ao75,co75,eo75⟩:=Kd.R_slice HO1410.out
        (first | subst eo75 | (injection eo75 with f1_ f2_ f3_; have f4_:=f1_.symm; have f5_:=f3_.symm; clear f1_ f2_ f3_; subst f4_; subst f5_))
        refine hK.out _ _ ⟨(blk_cell BK1372.out 0).trans rfl,(blk_cell BK1372.out 1).trans rfl⟩ (fun hHeld => ?_);clear hK K;refine norm_ (a':=?_) ?_ ?_;rotate_left
        ·show Act.put _ (some 72) _ = _
         simp only [Act.put,V,Z,zx,i64_w,i32_w];rfl
        refine one_ (i:=6) (N:=some 73) #[true,true,true,true,true,true,true,false,false,false,false,false,false,false,false,false] rfl rfl (one_of HT_.out (by kernel_rfl)) (by decide) (fun K hK => ?_);refine goes_ Try.func39 (by kernel_rfl) rfl #[.slice Ao74 t1405.length co74,.slice Ao75 t1408.length co75] (by rfl) rfl rfl (by (try simp only [List.map_toArray,List.map_cons,List.map_nil]); first | done | rfl | (simp only [List.length_drop,List.length_take]; rfl)) ?_;with_reducible refine (laws_wkInts.calls k3 _ _ t1405 _ _ t1408 true _ ?side1 ?side2 ?side3 ?side4 A56.out).mono ?_
        (case side1 => repeat (first | exact (Kd.R_reads' HO1407.out).2.2 | (with_reducible refine Kd.C_alloc ?_ _) | (with_reducible refine Kd.C_drewN ?_ _) | (with_reducible refine Kd.C_drew ?_)))
        (case side2 => exact (Kd.R_reads' HO1407.out).2.1)
        (case side3 => repeat (first | exact (Kd.R_reads' HO1410.out).2.2 | (with_reducible refine Kd.C_alloc ?_ _) | (with_reducible refine Kd.C_drewN ?_ _) | (with_reducible refine Kd.C_drew ?_)))
        (case side4 => exact (Kd.R_reads' HO1410.out).2.1)
        rintro e w' ⟨rfl,⟨nd,rfl⟩⟩;refine ⟨_,rfl,?_⟩;refine hK.out _ _ ⟨(blk_cell BK1372.out 0).trans rfl,(blk_cell BK1372.out 1).trans rfl⟩ (fun hHeld => ?_);clear hK K;refine norm_ (a':=?_) ?_ ?_;rotate_left
        ·show Act.put _ (some 73) _ = _
         simp only [Act.put,V,Z,zx,i64_w,i32_w];rfl
        refine pure_ (i:=7) (N:=some 74) (v:=?_) (a':=?_) #[true,true,true,true,true,true,true,true,false,false,false,false,false,false,false,false] rfl rfl (any_of HT_.out (by kernel_rfl)) (fun _ _ _ h => h) (Or.inl ⟨by rfl,?_⟩) ?_ ?_;rotate_left
        ·intro w';go_simp;with_reducible rfl
        rotate_left
        ·simp only [Act.put,V,Z,zx,i64_w,i32_w];rfl
        refine pure_ (i:=9) (N:=some 76) (v:=?_) (a':=?_) #[true,true,true,true,true,true,true,true,false,true,false,false,false,false,false,false] rfl rfl (any_of HT_.out (by kernel_rfl)) (fun _ _ _ h => h) (Or.inl ⟨by rfl,?_⟩) ?_ ?_;rotate_left
        ·intro w';go_simp;with_reducible rfl
        rotate_left
        ·simp only [Act.put,V,Z,zx,i64_w,i32_w];rfl
        refine pure_ (i:=12) (N:=some 79) (v:=?_) (a':=?_) #[true,true,true,true,true,true,true,true,false,true,false,false,true,false,false,false] rfl rfl (any_of HT_.out (by kernel_rfl)) (fun _ _ _ h => h) (Or.inl ⟨by rfl,?_⟩) ?_ ?_;rotate_left
        ·intro w';go_simp;with_reducible rfl
        rotate_left
        ·simp only [Act.put,V,Z,zx,i64_w,i32_w];rfl
        refine take_ (i:=8) (N:=some 75) (v:=?_) (a':=?_) #[true,true,true,true,true,true,true,true,true,true,false,false,true,false,false,false] rfl rfl (take_ofW HT_.out HW_.out (by kernel_rfl)) (fun _ _ _ h => h) (Or.inl ⟨by rfl,?_⟩) hHeld ?_ ?_;rotate_left
        ·rintro w' ⟨s0,s1⟩;go_simp;with_reducible rfl
        rotate_left
        ·simp only [Act.put,V,Z,zx,i64_w,i32_w];rfl
        refine take_ (i:=11) (N:=some 78) (v:=?_) (a':=?_) #[true,true,true,true,true,true,true,true,true,true,false,true,true,false,false,false] rfl rfl (take_ofW HT_.out HW_.out (by kernel_rfl)) (fun _ _ _ h => h) (Or.inl ⟨by rfl,?_⟩) hHeld ?_ ?_;rotate_left
        ·rintro w' ⟨s0,s1⟩;go_simp;with_reducible rfl
        rotate_left
        ·simp only [Act.put,V,Z,zx,i64_w,i32_w];rfl
        refine one_ (i:=10) (N:=some 77) #[true,true,true,true,true,true,true,true,true,true,true,true,true,false,false,false] rfl rfl (one_of HT_.out (by kernel_rfl)) (by decide) (fun K hK => ?_);refine goes_ Try.func60 (by kernel_rfl) rfl #[.agg #[.int .i64 t1368,.slice Ao12 t1369.length co12],.slice Ao71 y1402.length co71] (by rfl) rfl rfl (by (try simp only [List.map_toArray,List.map_cons,List.map_nil]); first | done | rfl | (simp only [List.length_drop,List.length_take]; rfl)) ?_;with_reducible refine (impl_TreeCost.calls k3 t1368 _ _ t1369 _ _ y1402 t1412 _ ?side1 ?side2 ?side3 ?side4 A58.out).mono ?_
        (case side1 => repeat (first | exact (Kd.R_reads' HO_1373001.out).2.2 | (with_reducible refine Kd.C_alloc ?_ _) | (with_reducible refine Kd.C_drewN ?_ _) | (with_reducible refine Kd.C_drew ?_)))
        (case side2 => exact (Kd.R_reads' HO_1373001.out).2.1)
        (case side3 => repeat (first | exact (Kd.R_reads' HO1404.out).2.2 | (with_reducible refine Kd.C_alloc ?_ _) | (with_reducible refine Kd.C_drewN ?_ _) | (with_reducible refine Kd.C_drew ?_)))
        (case side4 => exact (Kd.R_reads' HO1404.out).2.1)
        rintro e w76 ⟨rfl,hb⟩;refine ⟨_,rfl,?_⟩;have n0_:=zy (Kd.R_below (by (with_reducible repeat (first | apply Kd.R_alloc | apply Kd.R_drewN | apply Kd.R_drew)); exact HO_6.out) hb);have n1_:=zy (Kd.R_below (by (with_reducible repeat (first | apply Kd.R_alloc | apply Kd.R_drewN | apply Kd.R_drew)); exact HO_1373001.out) hb);have n2_:=zy (Kd.R_below (by (with_reducible repeat (first | apply Kd.R_alloc | apply Kd.R_drewN | apply Kd.R_drew)); exact HO1404.out) hb);have n3_:=zy (Kd.R_below (by (with_reducible repeat (first | apply Kd.R_alloc | apply Kd.R_drewN | apply Kd.R_drew)); exact HO1407.out) hb);have n4_:=zy (Kd.R_below (by (with_reducible repeat (first | apply Kd.R_alloc | apply Kd.R_drewN | apply Kd.R_drew)); exact HO1410.out) hb);have n5_:=zy (blk_below (g:=gb1372) (o:=.cells #[.int .i64 t1368,.slice Ao12 t1369.length co12] 34 (0,0)) (by (with_reducible repeat (first | refine blk_drewN ?_ _ | refine blk_drew ?_ | refine blk_alloc ?_ _)); exact BK1372.out) hb);have n6_:=zy (Kd.C_below (by repeat (first | (with_reducible exact HR1391.out) | (with_reducible refine Kd.C_alloc ?_ _) | (with_reducible refine Kd.C_drewN ?_ _) | (with_reducible refine Kd.C_drew ?_) | exact HR1391.out)) hb);have n7_:=zy (Kd.C_below (by repeat (first | (with_reducible exact HR1398.out) | (with_reducible refine Kd.C_alloc ?_ _) | (with_reducible refine Kd.C_drewN ?_ _) | (with_reducible refine Kd.C_drew ?_) | exact HR1398.out)) hb);have n8_:=zy (below_step (by repeat (first | (with_reducible first | exact HB.out | apply below_alloc | apply pw_below_drewN | apply below_drew1 | refine below_set ?_ GE1372.out) | exact HB.out)) hb);clear HO_6;clear HO_1373001;clear HO1404;clear HO1407;clear HO1410;clear BK1372;clear HR1391;clear HR1398;clear HB;have HO_6:=n0_;have HO_1373001:=n1_;have HO1404:=n2_;have HO1407:=n3_;have HO1410:=n4_;have BK1372:=n5_;have HR1391:=n6_;have HR1398:=n7_;have HB:=n8_;clear n0_ n1_ n2_ n3_ n4_ n5_ n6_ n7_ n8_
        (try clear hb)
        (try clear hb2)
        (try clear hk)
        (try clear hi)
        refine hK.out _ _ ⟨(blk_cell BK1372.out 0).trans rfl,(blk_cell BK1372.out 1).trans rfl⟩ (fun hHeld => ?_);clear hK K;refine norm_ (a':=?_) ?_ ?_;rotate_left
        ·show Act.put _ (some 77) _ = _
         simp only [Act.put,V,Z,zx,i64_w,i32_w];rfl
        refine one_ (i:=13) (N:=some 80) #[true,true,true,true,true,true,true,true,true,true,true,true,true,true,false,false] rfl rfl (one_of HT_.out (by kernel_rfl)) (by decide) (fun K hK => ?_);refine goes_ Try.func60 (by kernel_rfl) rfl #[.agg #[.int .i64 t1368,.slice Ao12 t1369.length co12],.slice Ao43 t1373.length co43] (by rfl) rfl rfl (by (try simp only [List.map_toArray,List.map_cons,List.map_nil]); first | done | rfl | (simp only [List.length_drop,List.length_take]; rfl)) ?_;with_reducible refine (impl_TreeCost.calls k3 t1368 _ _ t1369 _ _ t1373 t1413 _ ?side1 ?side2 ?side3 ?side4 A59.out).mono ?_
        (case side1 => repeat (first | exact (Kd.R_reads' HO_1373001.out).2.2 | (with_reducible refine Kd.C_alloc ?_ _) | (with_reducible refine Kd.C_drewN ?_ _) | (with_reducible refine Kd.C_drew ?_)))
        (case side2 => exact (Kd.R_reads' HO_1373001.out).2.1)
        (case side3 => repeat (first | exact (Kd.R_reads' HO_6.out).2.2 | (with_reducible refine Kd.C_alloc ?_ _) | (with_reducible refine Kd.C_drewN ?_ _) | (with_reducible refine Kd.C_drew ?_)))
        (case side4 => exact (Kd.R_reads' HO_6.out).2.1)
        rintro e w77 ⟨rfl,hb⟩;refine ⟨_,rfl,?_⟩;have n0_:=zy (Kd.R_below (by (with_reducible repeat (first | apply Kd.R_alloc | apply Kd.R_drewN | apply Kd.R_drew)); exact HO_6.out) hb);have n1_:=zy (Kd.R_below (by (with_reducible repeat (first | apply Kd.R_alloc | apply Kd.R_drewN | apply Kd.R_drew)); exact HO_1373001.out) hb);have n2_:=zy (Kd.R_below (by (with_reducible repeat (first | apply Kd.R_alloc | apply Kd.R_drewN | apply Kd.R_drew)); exact HO1404.out) hb);have n3_:=zy (Kd.R_below (by (with_reducible repeat (first | apply Kd.R_alloc | apply Kd.R_drewN | apply Kd.R_drew)); exact HO1407.out) hb);have n4_:=zy (Kd.R_below (by (with_reducible repeat (first | apply Kd.R_alloc | apply Kd.R_drewN | apply Kd.R_drew)); exact HO1410.out) hb);have n5_:=zy (blk_below (g:=gb1372) (o:=.cells #[.int .i64 t1368,.slice Ao12 t1369.length co12] 34 (0,0)) (by (with_reducible repeat (first | refine blk_drewN ?_ _ | refine blk_drew ?_ | refine blk_alloc ?_ _)); exact BK1372.out) hb);have n6_:=zy (Kd.C_below (by repeat (first | (with_reducible exact HR1391.out) | (with_reducible refine Kd.C_alloc ?_ _) | (with_reducible refine Kd.C_drewN ?_ _) | (with_reducible refine Kd.C_drew ?_) | exact HR1391.out)) hb);have n7_:=zy (Kd.C_below (by repeat (first | (with_reducible exact HR1398.out) | (with_reducible refine Kd.C_alloc ?_ _) | (with_reducible refine Kd.C_drewN ?_ _) | (with_reducible refine Kd.C_drew ?_) | exact HR1398.out)) hb);have n8_:=zy (below_step (by repeat (first | (with_reducible first | exact HB.out | apply below_alloc | apply pw_below_drewN | apply below_drew1 | refine below_set ?_ GE1372.out) | exact HB.out)) hb);clear HO_6;clear HO_1373001;clear HO1404;clear HO1407;clear HO1410;clear BK1372;clear HR1391;clear HR1398;clear HB;have HO_6:=n0_;have HO_1373001:=n1_;have HO1404:=n2_;have HO1407:=n3_;have HO1410:=n4_;have BK1372:=n5_;have HR1391:=n6_;have HR1398:=n7_;have HB:=n8_;clear n0_ n1_ n2_ n3_ n4_ n5_ n6_ n7_ n8_
        (try clear hb)
        (try clear hb2)
        (try clear hk)
        (try clear hi)
        refine hK.out _ _ ⟨(blk_cell BK1372.out 0).trans rfl,(blk_cell BK1372.out 1).trans rfl⟩ (fun hHeld => ?_);clear hK K;refine norm_ (a':=?_) ?_ ?_;rotate_left
        ·show Act.put _ (some 80) _ = _
         simp only [Act.put,V,Z,zx,i64_w,i32_w];rfl
        refine pure_ (i:=14) (N:=some 81) (v:=?_) (a':=?_) #[true,true,true,true,true,true,true,true,true,true,true,true,true,true,true,false] rfl rfl (any_of HT_.out (by kernel_rfl)) (fun _ _ _ h => h) (Or.inl ⟨by rfl,?_⟩) ?_ ?_;rotate_left
        ·intro w';go_simp;with_reducible rfl
        rotate_left
        ·simp only [Act.put,V,Z,zx,i64_w,i32_w];rfl
        refine pure_ (i:=15) (N:=some 82) (v:=?_) (a':=?_) #[true,true,true,true,true,true,true,true,true,true,true,true,true,true,true,true] rfl rfl (any_of HT_.out (by kernel_rfl)) (fun _ _ _ h => h) (Or.inl ⟨by rfl,?_⟩) ?_ ?_;rotate_left
        ·intro w';go_simp;with_reducible rfl
        rotate_left
        ·simp only [Act.put,V,Z,zx,i64_w,i32_w];rfl
        refine done_ (done_of HT_.out (by kernel_rfl)) ?_
        try go_wp2
        go_ret;exact ⟨by first | rfl | (simp [errW_none,errW_some] <;> rfl) | (simp only [← hji45,← hji49]; first | rfl | (simp [errW_none,errW_some] <;> rfl)) | (simp [*,errW_none,errW_some] <;> rfl),by repeat (first | (with_reducible first | exact HB.out | apply below_alloc | apply pw_below_drewN | apply below_drew1 | refine below_set ?_ GE1372.out) | exact HB.out)⟩
       rw [if_neg c60] at H;have c60b0 : decide (t1412 < t1413) = false:=decide_eq_false c60;clear c60;have H':=zy H;clear H;have hcz78_0 : wr.cell? ⟨gb1372,0,none⟩ = some (.int .i64 t1368):=(blk_cell BK1372.out 0).trans rfl;have hcz78_1 : wr.cell? ⟨gb1372,1,none⟩ = some (.slice Ao12 t1369.length co12):=(blk_cell BK1372.out 1).trans rfl;have hfz78_0:=blk_frozen BK1372.out 0;have hfz78_1:=blk_frozen BK1372.out 1
       try go_wp2
       have n0_:=zy (Kd.R_drew HO_6.out);have n1_:=zy (Kd.R_drew HO_1373001.out);have n2_:=zy (blk_drew BK1372.out);have n3_:=zy (below_drew1 HB.out);clear HO_6;clear HO_1373001;clear BK1372;clear HB;have HO_6:=n0_;have HO_1373001:=n1_;have BK1372:=n2_;have HB:=n3_;clear n0_ n1_ n2_ n3_;have q80 : ((ji45) : Int) ≤ ((t1373.length : Int) : Int):=of_decide_eq_true (by first | (with_reducible assumption) | assumption);obtain ⟨i080,hi080,_,hsz80,_⟩:=info_parts info3;have hroom80 : t1373.length ≤ co43:=(Kd.R_reads' HO_6.out).2.1;have hC80 : Kd.C (Kd.int .i64) _ Ao43 t1373.length t1373:=(Kd.R_reads' HO_6.out).2.2;have hcut80:=cut_to (P:=Try.prog) 23 3 .i64 Try.underlying23 hi080 Ao43 t1373.length co43 (ji45) (of_decide_eq_true (by first | (with_reducible assumption) | assumption)) q80 hroom80;have hr80:=Kd.C_take (m:=((ji45) : Int).toNat) hC80 (by omega);have hy80 : y1388.length = ((ji45) : Int).toNat:=(by rw [Ny1388.out,List.length_take]; omega)
       rw [← Ny1388.out] at hr80;rw [← hy80] at hcut80;have HR1391:=zy hr80;have HC1391:=zy (show y1388.length ≤ co43 from by omega);clear hr80 hC80 hroom80 hi080 hsz80;have KY80:=zy hy80;clear hy80;have KL80:=zy (show ((ji45) : Int).toNat ≤ t1373.length from by omega);replace q80:=eq_true q80;have q81 : ((ji49) : Int) ≤ ((t1373.length : Int) : Int):=of_decide_eq_true (by first | (with_reducible assumption) | assumption);obtain ⟨i081,hi081,_,hsz81,_⟩:=info_parts info3;have hroom81 : t1373.length ≤ co43:=(Kd.R_reads' HO_6.out).2.1;have hC81 : Kd.C (Kd.int .i64) _ Ao43 t1373.length t1373:=(Kd.R_reads' HO_6.out).2.2;have q081 : (0 : Int) ≤ ((ji49) : Int):=of_decide_eq_true (by first | (with_reducible assumption) | assumption);have hcut81:=cut_from (P:=Try.prog) 23 3 .i64 Try.underlying23 hi081 1 hsz81 Ao43 t1373.length co43 (ji49) q081 q81;have hr81:=Kd.C_drop (m:=((ji49) : Int).toNat) (c:=co43) hC81 (by omega) hroom81;obtain ⟨A81,hA81⟩ : ∃ A1,A1 = (if co43 = ((ji49) : Int).toNat then Ao43 else (Ao43 : Option Addr).map (·.add (((ji49) : Int).toNat * 1))):=⟨_,rfl⟩
       obtain ⟨c81,hc81⟩ : ∃ c1,c1 = co43 - ((ji49) : Int).toNat:=⟨_,rfl⟩
       have hy81 : y1395.length = t1373.length - ((ji49) : Int).toNat:=(by rw [Ny1395.out,List.length_drop] <;> omega)
       rw [show (t1373).drop ((ji49) : Int).toNat = y1395 from Ny1395.out.symm] at hr81;replace hr81 : Kd.C (Kd.int .i64) _ A81 y1395.length y1395:=(by rw [hA81]; exact hr81)
       rw [← hy81,← hA81,← hc81] at hcut81;have HR1398:=zy hr81;have HC1398:=zy (show y1395.length ≤ c81 from by rw [hy81,hc81]; exact Nat.sub_le_sub_right hroom81 _);clear hr81 hC81 hroom81 hi081 hsz81 hc81;have KY81:=zy hy81;have KA81:=zy hA81;clear hy81 hA81;have KL81:=zy (show ((ji49) : Int).toNat ≤ t1373.length from by omega);replace q81:=eq_true q81;refine start_ (n:=11) (S:=fun w' => True) (ds:=[]) #[false,false,false,false,false,false,false,false,false,false,false] (by kernel_rfl) rfl rfl trivial (fun hHeld => ?_); refine with_tabW laws_FnTreeSwap.tab11 laws_FnTreeSwap.bits11 (fun HT_ HW_ => ?_);generalize wr.drew = w79 at HO_6 HO_1373001 BK1372 HB HR1391 HR1398 hHeld ⊢;refine pure_ (i:=1) (N:=some 54) (v:=?_) (a':=?_) #[false,true,false,false,false,false,false,false,false,false,false] rfl rfl (any_of HT_.out (by kernel_rfl)) (fun _ _ _ h => h) (Or.inl ⟨by rfl,?_⟩) ?_ ?_;rotate_left
       ·intro w';go_simp;with_reducible rfl
       rotate_left
       ·simp only [Act.put,V,Z,zx,i64_w,i32_w];rfl
       refine pure_ (i:=2) (N:=some 55) (v:=?_) (a':=?_) #[false,true,true,false,false,false,false,false,false,false,false] rfl rfl (any_of HT_.out (by kernel_rfl)) (fun _ _ _ h => h) (Or.inl ⟨by rfl,?_⟩) ?_ ?_;rotate_left
       ·intro w';go_simp;with_reducible rfl
       rotate_left
       ·simp only [Act.put,V,Z,zx,i64_w,i32_w];rfl
       refine pure_ (i:=3) (N:=some 56) (v:=?_) (a':=?_) #[false,true,true,true,false,false,false,false,false,false,false] rfl rfl (any_of HT_.out (by kernel_rfl)) (fun _ _ _ h => h) (Or.inl ⟨by rfl,?_⟩) ?_ ?_;rotate_left
       ·intro w';go_simp;with_reducible rfl
       rotate_left
       ·simp only [Act.put,V,Z,zx,i64_w,i32_w];rfl
       refine pure_ (i:=5) (N:=some 58) (v:=?_) (a':=?_) #[false,true,true,true,false,true,false,false,false,false,false] rfl rfl (any_of HT_.out (by kernel_rfl)) (fun _ _ _ h => h) (Or.inl ⟨by rfl,?_⟩) ?_ ?_;rotate_left
       ·intro w';go_simp;with_reducible rfl
       rotate_left
       ·simp only [Act.put,V,Z,zx,i64_w,i32_w];rfl
       refine pure_ (i:=6) (N:=some 59) (v:=?_) (a':=?_) #[false,true,true,true,false,true,true,false,false,false,false] rfl rfl (any_of HT_.out (by kernel_rfl)) (fun _ _ _ h => h) (Or.inl ⟨by rfl,?_⟩) ?_ ?_;rotate_left
       ·intro w';go_simp;with_reducible rfl
       rotate_left
       ·simp only [Act.put,V,Z,zx,i64_w,i32_w];rfl
       refine pure_ (i:=7) (N:=some 60) (v:=?_) (a':=?_) #[false,true,true,true,false,true,true,true,false,false,false] rfl rfl (any_of HT_.out (by kernel_rfl)) (fun _ _ _ h => h) (Or.inl ⟨by rfl,?_⟩) ?_ ?_;rotate_left
       ·intro w';go_simp;with_reducible rfl
       rotate_left
       ·simp only [Act.put,V,Z,zx,i64_w,i32_w];rfl
       refine pure_ (i:=8) (N:=some 61) (v:=?_) (a':=?_) #[false,true,true,true,false,true,true,true,true,false,false] rfl rfl (any_of HT_.out (by kernel_rfl)) (fun _ _ _ h => h) (Or.inl ⟨by rfl,?_⟩) ?_ ?_;rotate_left
       ·intro w';go_simp;with_reducible rfl
       rotate_left
       ·simp only [Act.put,V,Z,zx,i64_w,i32_w];rfl
       refine one_ (i:=0) (N:=some 53) #[true,true,true,true,false,true,true,true,true,false,false] rfl rfl (one_of HT_.out (by kernel_rfl)) (by decide) (fun K hK => ?_);refine Kd.R_lit_step (Kd.int .i64) _ 3 ?hg (N:=53) ?hd (xs:=([] : List Int)) (inner:=[]) (ok:=fun _ => True) (okp:=fun _ => True) ?hr ?hp (fun _ hk => hk) trivial (Below.refl _ _) (Nat.le_refl _) (by simp) ?_; (case hd => rfl); (case hg => rfl); (case hr => first | (go_simp; done) | (go_simp; rfl)); (case hp => exact (Reps.none _ _));intro v1386 w82 ho83 hb hg_ hnew_;clear hg_ hnew_
       (first | rw [← Ny1385.out] at ho83 | (simp only [Int.reduceToNat] at ho83; rw [← Ny1385.out] at ho83))
       have n0_:=zy (Kd.R_elder' (by (with_reducible repeat (first | apply Kd.R_alloc | apply Kd.R_drewN | apply Kd.R_drew)); exact HO_6.out) (Kd.R_base ho83) hb);have n1_:=zy (Kd.R_below (by (with_reducible repeat (first | apply Kd.R_alloc | apply Kd.R_drewN | apply Kd.R_drew)); exact HO_1373001.out) hb);have n2_:=zy (Kd.R_lower (Kd.R_new' ho83 (Kd.R_lt (by (with_reducible repeat (first | apply Kd.R_alloc | apply Kd.R_drewN | apply Kd.R_drew)); exact HO_6.out))) (below_size (by repeat (first | (with_reducible first | exact HB.out | apply below_alloc | apply pw_below_drewN | apply below_drew1 | refine below_set ?_ GE1372.out) | exact HB.out))));have n3_:=zy (blk_below (g:=gb1372) (o:=.cells #[.int .i64 t1368,.slice Ao12 t1369.length co12] 34 (0,0)) (by (with_reducible repeat (first | refine blk_drewN ?_ _ | refine blk_drew ?_ | refine blk_alloc ?_ _)); exact BK1372.out) hb);have n4_:=zy (Kd.C_below (by repeat (first | (with_reducible exact HR1391.out) | (with_reducible refine Kd.C_alloc ?_ _) | (with_reducible refine Kd.C_drewN ?_ _) | (with_reducible refine Kd.C_drew ?_) | exact HR1391.out)) hb);have n5_:=zy (Kd.C_below (by repeat (first | (with_reducible exact HR1398.out) | (with_reducible refine Kd.C_alloc ?_ _) | (with_reducible refine Kd.C_drewN ?_ _) | (with_reducible refine Kd.C_drew ?_) | exact HR1398.out)) hb);have n6_:=zy (below_step (by repeat (first | (with_reducible first | exact HB.out | apply below_alloc | apply pw_below_drewN | apply below_drew1 | refine below_set ?_ GE1372.out) | exact HB.out)) hb);clear HO_6;clear HO_1373001;clear BK1372;clear HR1391;clear HR1398;clear HB;have HO_6:=n0_;have HO_1373001:=n1_;have HO1387:=n2_;have BK1372:=n3_;have HR1391:=n4_;have HR1398:=n5_;have HB:=n6_;clear n0_ n1_ n2_ n3_ n4_ n5_ n6_;clear hb ho83;refine hK.out _ _ trivial (fun hHeld => ?_);clear hK K;refine norm_ (a':=?_) ?_ ?_;rotate_left
       ·show Act.put _ (some 53) _ = _
        simp only [Act.put,V,Z,zx,i64_w,i32_w];rfl
       refine one_ (i:=4) (N:=some 57) #[true,true,true,true,true,true,true,true,true,false,false] rfl rfl (one_of HT_.out (by kernel_rfl)) (by decide) (fun K hK => ?_);refine Kd.R_append_rows_step (Kd.int .i64) (w0:=w) w.heap.size (by rfl) (.tmp 53) (.tmp 56) 23 3 (.int .i64 0) 8 rfl Try.underlying23 info3 rfl (by decide) (by omega) v1386 y1385 y1388 _ _ _ (fun k_ => some k_ ≠ (.slice Ao43 t1373.length co43 : Value).ownBlock) (fun _ => False) rfl rfl ?aO ?aR (fun _ _ h => h) (fun _ h => h.elim) ?aF ?aB ?aS ?aL ?_
       (case aR => repeat (first | exact (by repeat (first | (with_reducible exact HR1391.out) | (with_reducible refine Kd.C_alloc ?_ _) | (with_reducible refine Kd.C_drewN ?_ _) | (with_reducible refine Kd.C_drew ?_) | exact HR1391.out)) | (with_reducible refine Kd.C_alloc ?_ _) | (with_reducible refine Kd.C_drewN ?_ _) | (with_reducible refine Kd.C_drew ?_)))
       (case aB => exact (by repeat (first | (with_reducible first | exact HB.out | apply below_alloc | apply pw_below_drewN | apply below_drew1 | refine below_set ?_ GE1372.out) | exact HB.out)))
       (case aF => exact (fun k_ hk => Kd.fresh' (Kd.R_lt (by (with_reducible repeat (first | apply Kd.R_alloc | apply Kd.R_drewN | apply Kd.R_drew)); exact HO_6.out)) k_ hk))
       (case aO => exact (by (with_reducible repeat (first | apply Kd.R_alloc | apply Kd.R_drewN | apply Kd.R_drew)); exact Kd.R_mono HO1387.out (fun _ hk => hk.2)))
       (case aS => exact (below_size (by repeat (first | (with_reducible first | exact HB.out | apply below_alloc | apply pw_below_drewN | apply below_drew1 | refine below_set ?_ GE1372.out) | exact HB.out))))
       (case aL => have:=LMc48.out; omega)
       intro v1393 w84 ho hb hg hat;rw [← Ny1392.out] at ho;have n0_:=zy (Kd.R_after (ok:=(fun _ => True)) (by (with_reducible repeat (first | apply Kd.R_alloc | apply Kd.R_drewN | apply Kd.R_drew)); exact HO_6.out) hg hat);have n1_:=zy (Kd.R_over' (by (with_reducible repeat (first | apply Kd.R_alloc | apply Kd.R_drewN | apply Kd.R_drew)); exact HO_1373001.out) (Kd.R_typed (by (with_reducible repeat (first | apply Kd.R_alloc | apply Kd.R_drewN | apply Kd.R_drew)); exact HO1387.out)) (by decide) hg);have n2_:=zy (blk_grown (g:=gb1372) (o:=.cells #[.int .i64 t1368,.slice Ao12 t1369.length co12] 34 (0,0)) (by (with_reducible repeat (first | refine blk_drewN ?_ _ | refine blk_drew ?_ | refine blk_alloc ?_ _)); exact BK1372.out) hg (Kd.R_ne HO1387.out BK1372.out (by decide)));have n3_:=zy (hb);have n4_:=zy ((show Kd.C (Kd.int .i64) w84 Ao43 y1388.length y1388 from by rw [Ny1388.out]; exact Kd.C_take (m:=((ji45) : Int).toNat) ((Kd.R_reads' (Kd.R_after (ok:=(fun _ => True)) (by (with_reducible repeat (first | apply Kd.R_alloc | apply Kd.R_drewN | apply Kd.R_drew)); exact HO_6.out) hg hat)).2.2) KL80.out));have n5_:=zy ((show Kd.C (Kd.int .i64) w84 A81 y1395.length y1395 from by rw [Ny1395.out,KA81.out]; exact Kd.C_drop (m:=((ji49) : Int).toNat) (c:=co43) ((Kd.R_reads' (Kd.R_after (ok:=(fun _ => True)) (by (with_reducible repeat (first | apply Kd.R_alloc | apply Kd.R_drewN | apply Kd.R_drew)); exact HO_6.out) hg hat)).2.2) KL81.out ((Kd.R_reads' (Kd.R_after (ok:=(fun _ => True)) (by (with_reducible repeat (first | apply Kd.R_alloc | apply Kd.R_drewN | apply Kd.R_drew)); exact HO_6.out) hg hat)).2.1)));have n6_:=zy (ho);clear HO_6;clear HO_1373001;clear BK1372;clear HB;clear HR1391;clear HR1398;clear HO1387;have HO_6:=n0_;have HO_1373001:=n1_;have BK1372:=n2_;have HB:=n3_;have HR1391:=n4_;have HR1398:=n5_;have HO1394:=n6_;clear n0_ n1_ n2_ n3_ n4_ n5_ n6_;clear ho hb hg hat;refine hK.out _ _ trivial (fun hHeld => ?_);clear hK K;refine norm_ (a':=?_) ?_ ?_;rotate_left
       ·show Act.put _ (some 57) _ = _
        simp only [Act.put,V,Z,zx,i64_w,i32_w];rfl
       refine one_ (i:=9) (N:=some 62) #[true,true,true,true,true,true,true,true,true,true,false] rfl rfl (one_of HT_.out (by kernel_rfl)) (by decide) (fun K hK => ?_);refine Kd.R_append_rows_step (Kd.int .i64) (w0:=w) w.heap.size (by rfl) (.tmp 57) (.tmp 61) 23 3 (.int .i64 0) 8 rfl Try.underlying23 info3 rfl (by decide) (by omega) v1393 y1392 y1395 _ _ _ (fun k_ => some k_ ≠ (.slice Ao43 t1373.length co43 : Value).ownBlock) (fun _ => False) rfl rfl ?aO ?aR (fun _ _ h => h) (fun _ h => h.elim) ?aF ?aB ?aS ?aL ?_
       (case aR => repeat (first | exact (by repeat (first | (with_reducible exact HR1398.out) | (with_reducible refine Kd.C_alloc ?_ _) | (with_reducible refine Kd.C_drewN ?_ _) | (with_reducible refine Kd.C_drew ?_) | exact HR1398.out)) | (with_reducible refine Kd.C_alloc ?_ _) | (with_reducible refine Kd.C_drewN ?_ _) | (with_reducible refine Kd.C_drew ?_)))
       (case aB => exact (by repeat (first | (with_reducible first | exact HB.out | apply below_alloc | apply pw_below_drewN | apply below_drew1 | refine below_set ?_ GE1372.out) | exact HB.out)))
       (case aF => exact (fun k_ hk => Kd.fresh' (Kd.R_lt (by (with_reducible repeat (first | apply Kd.R_alloc | apply Kd.R_drewN | apply Kd.R_drew)); exact HO_6.out)) k_ hk))
       (case aO => exact (by (with_reducible repeat (first | apply Kd.R_alloc | apply Kd.R_drewN | apply Kd.R_drew)); exact HO1394.out))
       (case aS => exact (below_size (by repeat (first | (with_reducible first | exact HB.out | apply below_alloc | apply pw_below_drewN | apply below_drew1 | refine below_set ?_ GE1372.out) | exact HB.out))))
       (case aL => have:=LMc52.out; omega)
       intro v1400 w85 ho hb hg hat;rw [← Ny1399.out] at ho;have n0_:=zy (Kd.R_after (ok:=(fun _ => True)) (by (with_reducible repeat (first | apply Kd.R_alloc | apply Kd.R_drewN | apply Kd.R_drew)); exact HO_6.out) hg hat);have n1_:=zy (Kd.R_over' (by (with_reducible repeat (first | apply Kd.R_alloc | apply Kd.R_drewN | apply Kd.R_drew)); exact HO_1373001.out) (Kd.R_typed (by (with_reducible repeat (first | apply Kd.R_alloc | apply Kd.R_drewN | apply Kd.R_drew)); exact HO1394.out)) (by decide) hg);have n2_:=zy (blk_grown (g:=gb1372) (o:=.cells #[.int .i64 t1368,.slice Ao12 t1369.length co12] 34 (0,0)) (by (with_reducible repeat (first | refine blk_drewN ?_ _ | refine blk_drew ?_ | refine blk_alloc ?_ _)); exact BK1372.out) hg (Kd.R_ne HO1394.out BK1372.out (by decide)));have n3_:=zy (hb);have n4_:=zy ((show Kd.C (Kd.int .i64) w85 Ao43 y1388.length y1388 from by rw [Ny1388.out]; exact Kd.C_take (m:=((ji45) : Int).toNat) ((Kd.R_reads' (Kd.R_after (ok:=(fun _ => True)) (by (with_reducible repeat (first | apply Kd.R_alloc | apply Kd.R_drewN | apply Kd.R_drew)); exact HO_6.out) hg hat)).2.2) KL80.out));have n5_:=zy ((show Kd.C (Kd.int .i64) w85 A81 y1395.length y1395 from by rw [Ny1395.out,KA81.out]; exact Kd.C_drop (m:=((ji49) : Int).toNat) (c:=co43) ((Kd.R_reads' (Kd.R_after (ok:=(fun _ => True)) (by (with_reducible repeat (first | apply Kd.R_alloc | apply Kd.R_drewN | apply Kd.R_drew)); exact HO_6.out) hg hat)).2.2) KL81.out ((Kd.R_reads' (Kd.R_after (ok:=(fun _ => True)) (by (with_reducible repeat (first | apply Kd.R_alloc | apply Kd.R_drewN | apply Kd.R_drew)); exact HO_6.out) hg hat)).2.1)));have n6_:=zy (ho);clear HO_6;clear HO_1373001;clear BK1372;clear HB;clear HR1391;clear HR1398;clear HO1394;have HO_6:=n0_;have HO_1373001:=n1_;have BK1372:=n2_;have HB:=n3_;have HR1391:=n4_;have HR1398:=n5_;have HO1401:=n6_;clear n0_ n1_ n2_ n3_ n4_ n5_ n6_;clear ho hb hg hat;refine hK.out _ _ trivial (fun hHeld => ?_);clear hK K;refine norm_ (a':=?_) ?_ ?_;rotate_left
       ·show Act.put _ (some 62) _ = _
        simp only [Act.put,V,Z,zx,i64_w,i32_w];rfl
       refine pure_ (i:=10) (N:=some 9) (v:=?_) (a':=?_) #[true,true,true,true,true,true,true,true,true,true,true] rfl rfl (any_of HT_.out (by kernel_rfl)) (fun _ _ _ h => h) (Or.inl ⟨by rfl,?_⟩) ?_ ?_;rotate_left
       ·intro w';go_simp;with_reducible rfl
       rotate_left
       ·simp only [Act.put,V,Z,zx,i64_w,i32_w];rfl
       refine done_ (done_of HT_.out (by kernel_rfl)) ?_
       try go_wp2_with (first | ((with_reducible refine gate_builtin (b:=.append) (xs:=#[.tmp 63,.tmp 65]) rfl ?_); (try (refine gate_guard (by rfl) ?_; dsimp only)); at_builtin; refine Kd.R_append (Kd.int .i64) (w0:=w) w.heap.size rfl (.tmp 63) (.tmp 65) 23 3 (.int .i64 0) 8 rfl Try.underlying23 info3 rfl (by decide) (by omega) v1400 y1399 x8_3 [.int .i64 x8_3] (fun k_ => some k_ ≠ (.slice Ao43 t1373.length co43 : Value).ownBlock) (fun _ => False) rfl rfl ?aP (fun _ hk => hk.elim) ?aF ?aO ?aB ?aS ?aL ?_; (case aP => exact rfl); (case aB => exact (by repeat (first | (with_reducible first | exact HB.out | apply below_alloc | apply pw_below_drewN | apply below_drew1 | refine below_set ?_ GE1372.out) | exact HB.out))); (case aF => exact (fun k_ hk => Kd.fresh' (Kd.R_lt (by (with_reducible repeat (first | apply Kd.R_alloc | apply Kd.R_drewN | apply Kd.R_drew)); exact HO_6.out)) k_ hk)); (case aO => exact (by (with_reducible repeat (first | apply Kd.R_alloc | apply Kd.R_drewN | apply Kd.R_drew)); exact HO1401.out)); (case aS => exact (below_size (by repeat (first | (with_reducible first | exact HB.out | apply below_alloc | apply pw_below_drewN | apply below_drew1 | refine below_set ?_ GE1372.out) | exact HB.out)))); (case aL => have:=LMc53.out; omega); intro v1403 w86 ho hb hg hat; rw [← Ny1402.out] at ho; have n0_:=zy (Kd.R_after (ok:=(fun _ => True)) (by (with_reducible repeat (first | apply Kd.R_alloc | apply Kd.R_drewN | apply Kd.R_drew)); exact HO_6.out) hg hat); have n1_:=zy (Kd.R_over' (by (with_reducible repeat (first | apply Kd.R_alloc | apply Kd.R_drewN | apply Kd.R_drew)); exact HO_1373001.out) (Kd.R_typed (by (with_reducible repeat (first | apply Kd.R_alloc | apply Kd.R_drewN | apply Kd.R_drew)); exact HO1401.out)) (by decide) hg); have n2_:=zy (blk_grown (g:=gb1372) (o:=.cells #[.int .i64 t1368,.slice Ao12 t1369.length co12] 34 (0,0)) (by (with_reducible repeat (first | refine blk_drewN ?_ _ | refine blk_drew ?_ | refine blk_alloc ?_ _)); exact BK1372.out) hg (Kd.R_ne HO1401.out BK1372.out (by decide))); have n3_:=zy (hb); have n4_:=zy ((show Kd.C (Kd.int .i64) w86 Ao43 y1388.length y1388 from by rw [Ny1388.out]; exact Kd.C_take (m:=((ji45) : Int).toNat) ((Kd.R_reads' (Kd.R_after (ok:=(fun _ => True)) (by (with_reducible repeat (first | apply Kd.R_alloc | apply Kd.R_drewN | apply Kd.R_drew)); exact HO_6.out) hg hat)).2.2) KL80.out)); have n5_:=zy ((show Kd.C (Kd.int .i64) w86 A81 y1395.length y1395 from by rw [Ny1395.out,KA81.out]; exact Kd.C_drop (m:=((ji49) : Int).toNat) (c:=co43) ((Kd.R_reads' (Kd.R_after (ok:=(fun _ => True)) (by (with_reducible repeat (first | apply Kd.R_alloc | apply Kd.R_drewN | apply Kd.R_drew)); exact HO_6.out) hg hat)).2.2) KL81.out ((Kd.R_reads' (Kd.R_after (ok:=(fun _ => True)) (by (with_reducible repeat (first | apply Kd.R_alloc | apply Kd.R_drewN | apply Kd.R_drew)); exact HO_6.out) hg hat)).2.1))); have n6_:=zy (ho); clear HO_6; clear HO_1373001; clear BK1372; clear HB; clear HR1391; clear HR1398; clear HO1401; have HO_6:=n0_; have HO_1373001:=n1_; have BK1372:=n2_; have HB:=n3_; have HR1391:=n4_; have HR1398:=n5_; have HO1404:=n6_; clear n0_ n1_ n2_ n3_ n4_ n5_ n6_; clear ho hb hg hat))
       have n0_:=zy (Kd.R_drew HO_6.out);have n1_:=zy (Kd.R_drew HO_1373001.out);have n2_:=zy (Kd.R_drew HO1404.out);have n3_:=zy (blk_drew BK1372.out);have n4_:=zy (Kd.C_drew HR1391.out);have n5_:=zy (Kd.C_drew HR1398.out);have n6_:=zy (below_drew1 HB.out);clear HO_6;clear HO_1373001;clear HO1404;clear BK1372;clear HR1391;clear HR1398;clear HB;have HO_6:=n0_;have HO_1373001:=n1_;have HO1404:=n2_;have BK1372:=n3_;have HR1391:=n4_;have HR1398:=n5_;have HB:=n6_;clear n0_ n1_ n2_ n3_ n4_ n5_ n6_;obtain ⟨Ao88,co88,eo88⟩:=Kd.R_slice HO1404.out
       (first | subst eo88 | (injection eo88 with f1_ f2_ f3_; have f4_:=f1_.symm; have f5_:=f3_.symm; clear f1_ f2_ f3_; subst f4_; subst f5_))
       refine start_ (n:=16) (S:=fun w' => w'.cell? ⟨gb1372,0,none⟩ = some (.int .i64 t1368) ∧ w'.cell? ⟨gb1372,1,none⟩ = some (.slice Ao12 t1369.length co12)) (ds:=[]) #[false,false,false,false,false,false,false,false,false,false,false,false,false,false,false,false] (by kernel_rfl) rfl rfl ⟨(blk_cell BK1372.out 0).trans rfl,(blk_cell BK1372.out 1).trans rfl⟩ (fun hHeld => ?_); refine with_tabW laws_FnTreeSwap.tab13 laws_FnTreeSwap.bits13 (fun HT_ HW_ => ?_);generalize w86.drew = w87 at HO_6 HO_1373001 HO1404 BK1372 HR1391 HR1398 HB hHeld ⊢;refine pure_ (i:=1) (N:=some 68) (v:=?_) (a':=?_) #[false,true,false,false,false,false,false,false,false,false,false,false,false,false,false,false] rfl rfl (any_of HT_.out (by kernel_rfl)) (fun _ _ _ h => h) (Or.inl ⟨by rfl,?_⟩) ?_ ?_;rotate_left
       ·intro w';go_simp;with_reducible rfl
       rotate_left
       ·simp only [Act.put,V,Z,zx,i64_w,i32_w];rfl
       refine pure_ (i:=4) (N:=some 71) (v:=?_) (a':=?_) #[false,true,false,false,true,false,false,false,false,false,false,false,false,false,false,false] rfl rfl (any_of HT_.out (by kernel_rfl)) (fun _ _ _ h => h) (Or.inl ⟨by rfl,?_⟩) ?_ ?_;rotate_left
       ·intro w';go_simp;with_reducible rfl
       rotate_left
       ·simp only [Act.put,V,Z,zx,i64_w,i32_w];rfl
       refine take_ (i:=0) (N:=some 67) (v:=?_) (a':=?_) #[true,true,false,false,true,false,false,false,false,false,false,false,false,false,false,false] rfl rfl (take_ofW HT_.out HW_.out (by kernel_rfl)) (fun _ _ _ h => h) (Or.inl ⟨by rfl,?_⟩) hHeld ?_ ?_;rotate_left
       ·rintro w' ⟨s0,s1⟩;go_simp;with_reducible rfl
       rotate_left
       ·simp only [Act.put,V,Z,zx,i64_w,i32_w];rfl
       refine take_ (i:=3) (N:=some 70) (v:=?_) (a':=?_) #[true,true,false,true,true,false,false,false,false,false,false,false,false,false,false,false] rfl rfl (take_ofW HT_.out HW_.out (by kernel_rfl)) (fun _ _ _ h => h) (Or.inl ⟨by rfl,?_⟩) hHeld ?_ ?_;rotate_left
       ·rintro w' ⟨s0,s1⟩;go_simp;with_reducible rfl
       rotate_left
       ·simp only [Act.put,V,Z,zx,i64_w,i32_w];rfl
       refine one_ (i:=2) (N:=some 69) #[true,true,true,true,true,false,false,false,false,false,false,false,false,false,false,false] rfl rfl (one_of HT_.out (by kernel_rfl)) (by decide) (fun K hK => ?_);refine goes_ Try.func52 (by kernel_rfl) rfl #[.agg #[.int .i64 t1368,.slice Ao12 t1369.length co12],.slice Ao88 y1402.length co88] (by rfl) rfl rfl (by (try simp only [List.map_toArray,List.map_cons,List.map_nil]); first | done | rfl | (simp only [List.length_drop,List.length_take]; rfl)) ?_;with_reducible refine (impl_TreeParts.calls k3 t1368 _ _ t1369 _ _ y1402 t1405 _ ?side1 ?side2 ?side3 ?side4 A54.out).mono ?_
       (case side1 => repeat (first | exact (Kd.R_reads' HO_1373001.out).2.2 | (with_reducible refine Kd.C_alloc ?_ _) | (with_reducible refine Kd.C_drewN ?_ _) | (with_reducible refine Kd.C_drew ?_)))
       (case side2 => exact (Kd.R_reads' HO_1373001.out).2.1)
       (case side3 => repeat (first | exact (Kd.R_reads' HO1404.out).2.2 | (with_reducible refine Kd.C_alloc ?_ _) | (with_reducible refine Kd.C_drewN ?_ _) | (with_reducible refine Kd.C_drew ?_)))
       (case side4 => exact (Kd.R_reads' HO1404.out).2.1)
       rintro e w89 ⟨v1406,rfl,ho0,hb⟩;refine ⟨_,rfl,?_⟩;have n0_:=zy (Kd.R_elder' (by (with_reducible repeat (first | apply Kd.R_alloc | apply Kd.R_drewN | apply Kd.R_drew)); exact HO_6.out) (Kd.R_base ho0) hb);have n1_:=zy (Kd.R_below (by (with_reducible repeat (first | apply Kd.R_alloc | apply Kd.R_drewN | apply Kd.R_drew)); exact HO_1373001.out) hb);have n2_:=zy (Kd.R_elder' (by (with_reducible repeat (first | apply Kd.R_alloc | apply Kd.R_drewN | apply Kd.R_drew)); exact HO1404.out) (Kd.R_base ho0) hb);have n3_:=zy (Kd.R_lower (Kd.R_new' (Kd.R_new' ho0 (Kd.R_lt (by (with_reducible repeat (first | apply Kd.R_alloc | apply Kd.R_drewN | apply Kd.R_drew)); exact HO_6.out))) (Kd.R_lt (by (with_reducible repeat (first | apply Kd.R_alloc | apply Kd.R_drewN | apply Kd.R_drew)); exact HO1404.out))) (below_size (by repeat (first | (with_reducible first | exact HB.out | apply below_alloc | apply pw_below_drewN | apply below_drew1 | refine below_set ?_ GE1372.out) | exact HB.out))));have n4_:=zy (blk_below (g:=gb1372) (o:=.cells #[.int .i64 t1368,.slice Ao12 t1369.length co12] 34 (0,0)) (by (with_reducible repeat (first | refine blk_drewN ?_ _ | refine blk_drew ?_ | refine blk_alloc ?_ _)); exact BK1372.out) hb);have n5_:=zy (Kd.C_below (by repeat (first | (with_reducible exact HR1391.out) | (with_reducible refine Kd.C_alloc ?_ _) | (with_reducible refine Kd.C_drewN ?_ _) | (with_reducible refine Kd.C_drew ?_) | exact HR1391.out)) hb);have n6_:=zy (Kd.C_below (by repeat (first | (with_reducible exact HR1398.out) | (with_reducible refine Kd.C_alloc ?_ _) | (with_reducible refine Kd.C_drewN ?_ _) | (with_reducible refine Kd.C_drew ?_) | exact HR1398.out)) hb);have n7_:=zy (below_step (by repeat (first | (with_reducible first | exact HB.out | apply below_alloc | apply pw_below_drewN | apply below_drew1 | refine below_set ?_ GE1372.out) | exact HB.out)) hb);clear HO_6;clear HO_1373001;clear HO1404;clear BK1372;clear HR1391;clear HR1398;clear HB;have HO_6:=n0_;have HO_1373001:=n1_;have HO1404:=n2_;have HO1407:=n3_;have BK1372:=n4_;have HR1391:=n5_;have HR1398:=n6_;have HB:=n7_;clear n0_ n1_ n2_ n3_ n4_ n5_ n6_ n7_
       (try clear hb)
       (try clear hb2)
       (try clear hk)
       (try clear hi)
       (try clear ho0)
       refine hK.out _ _ ⟨(blk_cell BK1372.out 0).trans rfl,(blk_cell BK1372.out 1).trans rfl⟩ (fun hHeld => ?_);clear hK K;refine norm_ (a':=?_) ?_ ?_;rotate_left
       ·show Act.put _ (some 69) _ = _
        simp only [Act.put,V,Z,zx,i64_w,i32_w];rfl
       refine one_ (i:=5) (N:=some 72) #[true,true,true,true,true,true,false,false,false,false,false,false,false,false,false,false] rfl rfl (one_of HT_.out (by kernel_rfl)) (by decide) (fun K hK => ?_);refine goes_ Try.func52 (by kernel_rfl) rfl #[.agg #[.int .i64 t1368,.slice Ao12 t1369.length co12],.slice Ao43 t1373.length co43] (by rfl) rfl rfl (by (try simp only [List.map_toArray,List.map_cons,List.map_nil]); first | done | rfl | (simp only [List.length_drop,List.length_take]; rfl)) ?_;with_reducible refine (impl_TreeParts.calls k3 t1368 _ _ t1369 _ _ t1373 t1408 _ ?side1 ?side2 ?side3 ?side4 A55.out).mono ?_
       (case side1 => repeat (first | exact (Kd.R_reads' HO_1373001.out).2.2 | (with_reducible refine Kd.C_alloc ?_ _) | (with_reducible refine Kd.C_drewN ?_ _) | (with_reducible refine Kd.C_drew ?_)))
       (case side2 => exact (Kd.R_reads' HO_1373001.out).2.1)
       (case side3 => repeat (first | exact (Kd.R_reads' HO_6.out).2.2 | (with_reducible refine Kd.C_alloc ?_ _) | (with_reducible refine Kd.C_drewN ?_ _) | (with_reducible refine Kd.C_drew ?_)))
       (case side4 => exact (Kd.R_reads' HO_6.out).2.1)
       rintro e w90 ⟨v1409,rfl,ho0,hb⟩;refine ⟨_,rfl,?_⟩;have n0_:=zy (Kd.R_elder' (by (with_reducible repeat (first | apply Kd.R_alloc | apply Kd.R_drewN | apply Kd.R_drew)); exact HO_6.out) (Kd.R_base ho0) hb);have n1_:=zy (Kd.R_below (by (with_reducible repeat (first | apply Kd.R_alloc | apply Kd.R_drewN | apply Kd.R_drew)); exact HO_1373001.out) hb);have n2_:=zy (Kd.R_elder' (by (with_reducible repeat (first | apply Kd.R_alloc | apply Kd.R_drewN | apply Kd.R_drew)); exact HO1404.out) (Kd.R_base ho0) hb);have n3_:=zy (Kd.R_elder' (by (with_reducible repeat (first | apply Kd.R_alloc | apply Kd.R_drewN | apply Kd.R_drew)); exact HO1407.out) (Kd.R_base ho0) hb);have n4_:=zy (Kd.R_lower (Kd.R_new' (Kd.R_new' (Kd.R_new' ho0 (Kd.R_lt (by (with_reducible repeat (first | apply Kd.R_alloc | apply Kd.R_drewN | apply Kd.R_drew)); exact HO_6.out))) (Kd.R_lt (by (with_reducible repeat (first | apply Kd.R_alloc | apply Kd.R_drewN | apply Kd.R_drew)); exact HO1404.out))) (Kd.R_lt (by (with_reducible repeat (first | apply Kd.R_alloc | apply Kd.R_drewN | apply Kd.R_drew)); exact HO1407.out))) (below_size (by repeat (first | (with_reducible first | exact HB.out | apply below_alloc | apply pw_below_drewN | apply below_drew1 | refine below_set ?_ GE1372.out) | exact HB.out))));have n5_:=zy (blk_below (g:=gb1372) (o:=.cells #[.int .i64 t1368,.slice Ao12 t1369.length co12] 34 (0,0)) (by (with_reducible repeat (first | refine blk_drewN ?_ _ | refine blk_drew ?_ | refine blk_alloc ?_ _)); exact BK1372.out) hb);have n6_:=zy (Kd.C_below (by repeat (first | (with_reducible exact HR1391.out) | (with_reducible refine Kd.C_alloc ?_ _) | (with_reducible refine Kd.C_drewN ?_ _) | (with_reducible refine Kd.C_drew ?_) | exact HR1391.out)) hb);have n7_:=zy (Kd.C_below (by repeat (first | (with_reducible exact HR1398.out) | (with_reducible refine Kd.C_alloc ?_ _) | (with_reducible refine Kd.C_drewN ?_ _) | (with_reducible refine Kd.C_drew ?_) | exact HR1398.out)) hb);have n8_:=zy (below_step (by repeat (first | (with_reducible first | exact HB.out | apply below_alloc | apply pw_below_drewN | apply below_drew1 | refine below_set ?_ GE1372.out) | exact HB.out)) hb);clear HO_6;clear HO_1373001;clear HO1404;clear HO1407;clear BK1372;clear HR1391;clear HR1398;clear HB;have HO_6:=n0_;have HO_1373001:=n1_;have HO1404:=n2_;have HO1407:=n3_;have HO1410:=n4_;have BK1372:=n5_;have HR1391:=n6_;have HR1398:=n7_;have HB:=n8_;clear n0_ n1_ n2_ n3_ n4_ n5_ n6_ n7_ n8_
       (try clear hb)
       (try clear hb2)
       (try clear hk)
       (try clear hi)
       (try clear ho0)
       obtain ⟨Ao91,co91,eo91⟩:=Kd.R_slice HO1407.out
       (first | subst eo91 | (injection eo91 with f1_ f2_ f3_; have f4_:=f1_.symm; have f5_:=f3_.symm; clear f1_ f2_ f3_; subst f4_; subst f5_))
       obtain ⟨Ao92,co92,eo92⟩:=Kd.R_slice HO1410.out
       (first | subst eo92 | (injection eo92 with f1_ f2_ f3_; have f4_:=f1_.symm; have f5_:=f3_.symm; clear f1_ f2_ f3_; subst f4_; subst f5_))
       refine hK.out _ _ ⟨(blk_cell BK1372.out 0).trans rfl,(blk_cell BK1372.out 1).trans rfl⟩ (fun hHeld => ?_);clear hK K;refine norm_ (a':=?_) ?_ ?_;rotate_left
       ·show Act.put _ (some 72) _ = _
        simp only [Act.put,V,Z,zx,i64_w,i32_w];rfl
       refine one_ (i:=6) (N:=some 73) #[true,true,true,true,true,true,true,false,false,false,false,false,false,false,false,false] rfl rfl (one_of HT_.out (by kernel_rfl)) (by decide) (fun K hK => ?_);refine goes_ Try.func39 (by kernel_rfl) rfl #[.slice Ao91 t1405.length co91,.slice Ao92 t1408.length co92] (by rfl) rfl rfl (by (try simp only [List.map_toArray,List.map_cons,List.map_nil]); first | done | rfl | (simp only [List.length_drop,List.length_take]; rfl)) ?_;with_reducible refine (laws_wkInts.calls k3 _ _ t1405 _ _ t1408 true _ ?side1 ?side2 ?side3 ?side4 A56.out).mono ?_
       (case side1 => repeat (first | exact (Kd.R_reads' HO1407.out).2.2 | (with_reducible refine Kd.C_alloc ?_ _) | (with_reducible refine Kd.C_drewN ?_ _) | (with_reducible refine Kd.C_drew ?_)))
       (case side2 => exact (Kd.R_reads' HO1407.out).2.1)
       (case side3 => repeat (first | exact (Kd.R_reads' HO1410.out).2.2 | (with_reducible refine Kd.C_alloc ?_ _) | (with_reducible refine Kd.C_drewN ?_ _) | (with_reducible refine Kd.C_drew ?_)))
       (case side4 => exact (Kd.R_reads' HO1410.out).2.1)
       rintro e w' ⟨rfl,⟨nd,rfl⟩⟩;refine ⟨_,rfl,?_⟩;refine hK.out _ _ ⟨(blk_cell BK1372.out 0).trans rfl,(blk_cell BK1372.out 1).trans rfl⟩ (fun hHeld => ?_);clear hK K;refine norm_ (a':=?_) ?_ ?_;rotate_left
       ·show Act.put _ (some 73) _ = _
        simp only [Act.put,V,Z,zx,i64_w,i32_w];rfl
       refine pure_ (i:=7) (N:=some 74) (v:=?_) (a':=?_) #[true,true,true,true,true,true,true,true,false,false,false,false,false,false,false,false] rfl rfl (any_of HT_.out (by kernel_rfl)) (fun _ _ _ h => h) (Or.inl ⟨by rfl,?_⟩) ?_ ?_;rotate_left
       ·intro w';go_simp;with_reducible rfl
       rotate_left
       ·simp only [Act.put,V,Z,zx,i64_w,i32_w];rfl
       refine pure_ (i:=9) (N:=some 76) (v:=?_) (a':=?_) #[true,true,true,true,true,true,true,true,false,true,false,false,false,false,false,false] rfl rfl (any_of HT_.out (by kernel_rfl)) (fun _ _ _ h => h) (Or.inl ⟨by rfl,?_⟩) ?_ ?_;rotate_left
       ·intro w';go_simp;with_reducible rfl
       rotate_left
       ·simp only [Act.put,V,Z,zx,i64_w,i32_w];rfl
       refine pure_ (i:=12) (N:=some 79) (v:=?_) (a':=?_) #[true,true,true,true,true,true,true,true,false,true,false,false,true,false,false,false] rfl rfl (any_of HT_.out (by kernel_rfl)) (fun _ _ _ h => h) (Or.inl ⟨by rfl,?_⟩) ?_ ?_;rotate_left
       ·intro w';go_simp;with_reducible rfl
       rotate_left
       ·simp only [Act.put,V,Z,zx,i64_w,i32_w];rfl
       refine take_ (i:=8) (N:=some 75) (v:=?_) (a':=?_) #[true,true,true,true,true,true,true,true,true,true,false,false,true,false,false,false] rfl rfl (take_ofW HT_.out HW_.out (by kernel_rfl)) (fun _ _ _ h => h) (Or.inl ⟨by rfl,?_⟩) hHeld ?_ ?_;rotate_left
       ·rintro w' ⟨s0,s1⟩;go_simp;with_reducible rfl
       rotate_left
       ·simp only [Act.put,V,Z,zx,i64_w,i32_w];rfl
       refine take_ (i:=11) (N:=some 78) (v:=?_) (a':=?_) #[true,true,true,true,true,true,true,true,true,true,false,true,true,false,false,false] rfl rfl (take_ofW HT_.out HW_.out (by kernel_rfl)) (fun _ _ _ h => h) (Or.inl ⟨by rfl,?_⟩) hHeld ?_ ?_;rotate_left
       ·rintro w' ⟨s0,s1⟩;go_simp;with_reducible rfl
       rotate_left
       ·simp only [Act.put,V,Z,zx,i64_w,i32_w];rfl
       refine one_ (i:=10) (N:=some 77) #[true,true,true,true,true,true,true,true,true,true,true,true,true,false,false,false] rfl rfl (one_of HT_.out (by kernel_rfl)) (by decide) (fun K hK => ?_);refine goes_ Try.func60 (by kernel_rfl) rfl #[.agg #[.int .i64 t1368,.slice Ao12 t1369.length co12],.slice Ao88 y1402.length co88] (by rfl) rfl rfl (by (try simp only [List.map_toArray,List.map_cons,List.map_nil]); first | done | rfl | (simp only [List.length_drop,List.length_take]; rfl)) ?_;with_reducible refine (impl_TreeCost.calls k3 t1368 _ _ t1369 _ _ y1402 t1412 _ ?side1 ?side2 ?side3 ?side4 A58.out).mono ?_
       (case side1 => repeat (first | exact (Kd.R_reads' HO_1373001.out).2.2 | (with_reducible refine Kd.C_alloc ?_ _) | (with_reducible refine Kd.C_drewN ?_ _) | (with_reducible refine Kd.C_drew ?_)))
       (case side2 => exact (Kd.R_reads' HO_1373001.out).2.1)
       (case side3 => repeat (first | exact (Kd.R_reads' HO1404.out).2.2 | (with_reducible refine Kd.C_alloc ?_ _) | (with_reducible refine Kd.C_drewN ?_ _) | (with_reducible refine Kd.C_drew ?_)))
       (case side4 => exact (Kd.R_reads' HO1404.out).2.1)
       rintro e w93 ⟨rfl,hb⟩;refine ⟨_,rfl,?_⟩;have n0_:=zy (Kd.R_below (by (with_reducible repeat (first | apply Kd.R_alloc | apply Kd.R_drewN | apply Kd.R_drew)); exact HO_6.out) hb);have n1_:=zy (Kd.R_below (by (with_reducible repeat (first | apply Kd.R_alloc | apply Kd.R_drewN | apply Kd.R_drew)); exact HO_1373001.out) hb);have n2_:=zy (Kd.R_below (by (with_reducible repeat (first | apply Kd.R_alloc | apply Kd.R_drewN | apply Kd.R_drew)); exact HO1404.out) hb);have n3_:=zy (Kd.R_below (by (with_reducible repeat (first | apply Kd.R_alloc | apply Kd.R_drewN | apply Kd.R_drew)); exact HO1407.out) hb);have n4_:=zy (Kd.R_below (by (with_reducible repeat (first | apply Kd.R_alloc | apply Kd.R_drewN | apply Kd.R_drew)); exact HO1410.out) hb);have n5_:=zy (blk_below (g:=gb1372) (o:=.cells #[.int .i64 t1368,.slice Ao12 t1369.length co12] 34 (0,0)) (by (with_reducible repeat (first | refine blk_drewN ?_ _ | refine blk_drew ?_ | refine blk_alloc ?_ _)); exact BK1372.out) hb);have n6_:=zy (Kd.C_below (by repeat (first | (with_reducible exact HR1391.out) | (with_reducible refine Kd.C_alloc ?_ _) | (with_reducible refine Kd.C_drewN ?_ _) | (with_reducible refine Kd.C_drew ?_) | exact HR1391.out)) hb);have n7_:=zy (Kd.C_below (by repeat (first | (with_reducible exact HR1398.out) | (with_reducible refine Kd.C_alloc ?_ _) | (with_reducible refine Kd.C_drewN ?_ _) | (with_reducible refine Kd.C_drew ?_) | exact HR1398.out)) hb);have n8_:=zy (below_step (by repeat (first | (with_reducible first | exact HB.out | apply below_alloc | apply pw_below_drewN | apply below_drew1 | refine below_set ?_ GE1372.out) | exact HB.out)) hb);clear HO_6;clear HO_1373001;clear HO1404;clear HO1407;clear HO1410;clear BK1372;clear HR1391;clear HR1398;clear HB;have HO_6:=n0_;have HO_1373001:=n1_;have HO1404:=n2_;have HO1407:=n3_;have HO1410:=n4_;have BK1372:=n5_;have HR1391:=n6_;have HR1398:=n7_;have HB:=n8_;clear n0_ n1_ n2_ n3_ n4_ n5_ n6_ n7_ n8_
       (try clear hb)
       (try clear hb2)
       (try clear hk)
       (try clear hi)
       refine hK.out _ _ ⟨(blk_cell BK1372.out 0).trans rfl,(blk_cell BK1372.out 1).trans rfl⟩ (fun hHeld => ?_);clear hK K;refine norm_ (a':=?_) ?_ ?_;rotate_left
       ·show Act.put _ (some 77) _ = _
        simp only [Act.put,V,Z,zx,i64_w,i32_w];rfl
       refine one_ (i:=13) (N:=some 80) #[true,true,true,true,true,true,true,true,true,true,true,true,true,true,false,false] rfl rfl (one_of HT_.out (by kernel_rfl)) (by decide) (fun K hK => ?_);refine goes_ Try.func60 (by kernel_rfl) rfl #[.agg #[.int .i64 t1368,.slice Ao12 t1369.length co12],.slice Ao43 t1373.length co43] (by rfl) rfl rfl (by (try simp only [List.map_toArray,List.map_cons,List.map_nil]); first | done | rfl | (simp only [List.length_drop,List.length_take]; rfl)) ?_;with_reducible refine (impl_TreeCost.calls k3 t1368 _ _ t1369 _ _ t1373 t1413 _ ?side1 ?side2 ?side3 ?side4 A59.out).mono ?_
       (case side1 => repeat (first | exact (Kd.R_reads' HO_1373001.out).2.2 | (with_reducible refine Kd.C_alloc ?_ _) | (with_reducible refine Kd.C_drewN ?_ _) | (with_reducible refine Kd.C_drew ?_)))
       (case side2 => exact (Kd.R_reads' HO_1373001.out).2.1)
       (case side3 => repeat (first | exact (Kd.R_reads' HO_6.out).2.2 | (with_reducible refine Kd.C_alloc ?_ _) | (with_reducible refine Kd.C_drewN ?_ _) | (with_reducible refine Kd.C_drew ?_)))
       (case side4 => exact (Kd.R_reads' HO_6.out).2.1)
       rintro e w94 ⟨rfl,hb⟩;refine ⟨_,rfl,?_⟩;have n0_:=zy (Kd.R_below (by (with_reducible repeat (first | apply Kd.R_alloc | apply Kd.R_drewN | apply Kd.R_drew)); exact HO_6.out) hb);have n1_:=zy (Kd.R_below (by (with_reducible repeat (first | apply Kd.R_alloc | apply Kd.R_drewN | apply Kd.R_drew)); exact HO_1373001.out) hb);have n2_:=zy (Kd.R_below (by (with_reducible repeat (first | apply Kd.R_alloc | apply Kd.R_drewN | apply Kd.R_drew)); exact HO1404.out) hb);have n3_:=zy (Kd.R_below (by (with_reducible repeat (first | apply Kd.R_alloc | apply Kd.R_drewN | apply Kd.R_drew)); exact HO1407.out) hb);have n4_:=zy (Kd.R_below (by (with_reducible repeat (first | apply Kd.R_alloc | apply Kd.R_drewN | apply Kd.R_drew)); exact HO1410.out) hb);have n5_:=zy (blk_below (g:=gb1372) (o:=.cells #[.int .i64 t1368,.slice Ao12 t1369.length co12] 34 (0,0)) (by (with_reducible repeat (first | refine blk_drewN ?_ _ | refine blk_drew ?_ | refine blk_alloc ?_ _)); exact BK1372.out) hb);have n6_:=zy (Kd.C_below (by repeat (first | (with_reducible exact HR1391.out) | (with_reducible refine Kd.C_alloc ?_ _) | (with_reducible refine Kd.C_drewN ?_ _) | (with_reducible refine Kd.C_drew ?_) | exact HR1391.out)) hb);have n7_:=zy (Kd.C_below (by repeat (first | (with_reducible exact HR1398.out) | (with_reducible refine Kd.C_alloc ?_ _) | (with_reducible refine Kd.C_drewN ?_ _) | (with_reducible refine Kd.C_drew ?_) | exact HR1398.out)) hb);have n8_:=zy (below_step (by repeat (first | (with_reducible first | exact HB.out | apply below_alloc | apply pw_below_drewN | apply below_drew1 | refine below_set ?_ GE1372.out) | exact HB.out)) hb);clear HO_6;clear HO_1373001;clear HO1404;clear HO1407;clear HO1410;clear BK1372;clear HR1391;clear HR1398;clear HB;have HO_6:=n0_;have HO_1373001:=n1_;have HO1404:=n2_;have HO1407:=n3_;have HO1410:=n4_;have BK1372:=n5_;have HR1391:=n6_;have HR1398:=n7_;have HB:=n8_;clear n0_ n1_ n2_ n3_ n4_ n5_ n6_ n7_ n8_
       (try clear hb)
       (try clear hb2)
       (try clear hk)
       (try clear hi)
       refine hK.out _ _ ⟨(blk_cell BK1372.out 0).trans rfl,(blk_cell BK1372.out 1).trans rfl⟩ (fun hHeld => ?_);clear hK K;refine norm_ (a':=?_) ?_ ?_;rotate_left
       ·show Act.put _ (some 80) _ = _
        simp only [Act.put,V,Z,zx,i64_w,i32_w];rfl
       refine pure_ (i:=14) (N:=some 81) (v:=?_) (a':=?_) #[true,true,true,true,true,true,true,true,true,true,true,true,true,true,true,false] rfl rfl (any_of HT_.out (by kernel_rfl)) (fun _ _ _ h => h) (Or.inl ⟨by rfl,?_⟩) ?_ ?_;rotate_left
       ·intro w';go_simp;with_reducible rfl
       rotate_left
       ·simp only [Act.put,V,Z,zx,i64_w,i32_w];rfl
       refine pure_ (i:=15) (N:=some 82) (v:=?_) (a':=?_) #[true,true,true,true,true,true,true,true,true,true,true,true,true,true,true,true] rfl rfl (any_of HT_.out (by kernel_rfl)) (fun _ _ _ h => h) (Or.inl ⟨by rfl,?_⟩) ?_ ?_;rotate_left
       ·intro w';go_simp;with_reducible rfl
       rotate_left
       ·simp only [Act.put,V,Z,zx,i64_w,i32_w];rfl
       refine done_ (done_of HT_.out (by kernel_rfl)) ?_
       try go_wp2
       subst hji45;go_roundg k3
       case measure => have:=HJ2.out; have:=HJ7.out; have:=HK3.out; omega
       case rel => exact ⟨(wrap64 (x8_3 + 1)),(by first | rfl | (simp; done) | (simp [*]; done)),H',⟨by have:=HJ2.out; have:=HJ7.out; have:=HK3.out; omega⟩,⟨by (with_reducible repeat (first | apply Kd.R_alloc | apply Kd.R_drewN | apply Kd.R_drew)); exact Kd.R_mono HO_6.out (fun _ hk => trivial)⟩,⟨by (with_reducible repeat (first | apply Kd.R_alloc | apply Kd.R_drewN | apply Kd.R_drew)); exact HO_1373001.out⟩,⟨by (with_reducible repeat (first | refine blk_drewN ?_ _ | refine blk_drew ?_ | refine blk_alloc ?_ _)); exact BK1372.out⟩,⟨by repeat (first | (with_reducible first | exact HB.out | apply below_alloc | apply pw_below_drewN | apply below_drew1 | refine below_set ?_ GE1372.out) | exact HB.out)⟩⟩
end Go.Proofs.Ytlhmljngjdfbpaa.Pr
end
section
set_option linter.unusedVariables false
namespace Go.Proofs.YtlhmljngjdfbpaaW.PrintWords
open Go.RowKit Go.ChangeShapes Go.WideShapes
def Opens (P : Program) {α : Type} (d : Kd α) (t : TypeId) (wf : α → Prop) : Prop :=
 ∀ {H : Type} {enc : TypeId × Value → H} {w : World} {sp : Nat → Bool} {held : Bool} {fuel : Nat} {cs : List Value} {x : DataW H × List MemPlace},DataW.trod enc P w 0 sp held fuel t cs = some x → ∃ a,d.K w a cs ∧ wf a
section
variable {P : Program} {α β : Type}
theorem opens_int {t : TypeId} {k : IntKind} (ht : P.underlying t = some (.int k)) : Opens P (Kd.int k) t (fun n => (Lit.int k n).wf = true):=by
 intro H enc w sp held fuel cs x h;obtain ⟨n,rfl,_,hw⟩:=DataW.trod_int ht h;exact ⟨n,rfl,hw⟩
theorem addr_add_add (a : Addr) (i j : Nat) : (a.add i).add j = a.add (i + j):=by
 unfold Addr.add
 by_cases hi : i = 0 <;> by_cases hj : j = 0 <;> simp [hi,hj,Nat.add_assoc]
theorem opens_slice [Inhabited α] {d : Kd α} {t e : TypeId} {wf : α → Prop} (ht : P.underlying t = some (.slice e)) (hc : P.cellsOf e = d.sz) (he : Opens P d e wf) : Opens P (Kd.slice e d) t (fun l => l.length ≤ maxLen ∧ ∀ x ∈ l,wf x):=by
 intro H enc w sp held fuel cs x h
 rcases Deep.open_slice ht h with ⟨rfl,_⟩ | ⟨a,len,cap,m,n,D,Pl,rfl,_,hl,hm,hmm,_,hel⟩
 ·exact ⟨[],⟨none,0,rfl,Nat.le_refl _,Kd.C_nil d w⟩,by simp,by simp⟩
 ·have hlm : len ≤ m:=by rw [hmm]; split <;> omega
  have hx : ∀ i,i < len → ∃ y : α,(∃ c,c.length = d.sz ∧ d.K w y c ∧ ∀ j u,c[j]? = some u → w.cell? (a.add (i * d.sz + j)) = some u) ∧ wf y:=by
   intro i hi;obtain ⟨cs',hcs,htr⟩:=hel i (by omega);obtain ⟨y,hk,hw⟩:=he htr;obtain ⟨_,hlen,hcell⟩:=World.cells?_some hcs;refine ⟨y,⟨cs',d.K_len hk,hk,fun j u hu => ?_⟩,hw⟩;have hj : j < P.cellsOf e:=by
    have:=(List.getElem?_eq_some_iff.1 hu).1;omega
   have:=hcell j hj;rw [addr_add_add,hc,hu] at this;exact this
  obtain ⟨f,hf⟩:=Deep.choose_lt hx;refine ⟨(List.range len).map f,⟨some a,cap,by simp,by simpa using hl,by simp,by simp only [maxLen] at hm; simp; omega,fun _ => ⟨a,rfl,fun j p hj => ?_⟩⟩,by simp; omega,fun y hy => ?_⟩
  ·obtain ⟨hj1,hj2⟩:=List.getElem?_eq_some_iff.1 hj;simp at hj1 hj2;subst hj2;exact (hf j hj1).1
  ·simp only [List.mem_map,List.mem_range] at hy;obtain ⟨i,hi,rfl⟩:=hy;exact (hf i hi).2
end
end Go.Proofs.YtlhmljngjdfbpaaW.PrintWords
end
section
namespace Go.Proofs.Ytlhmljngjdfbpaa.Pr
open Go.RowKit Go.Proofs.YtlhmljngjdfbpaaW.PrintWords Go.Proofs.YtlhmljngjdfbpaaW.PrintLast Go.Proofs.YtlhmljngjdfbpaaW.PrintMore
open List renaming setIfInBounds_toArray → V,set_cons_zero → Z,set_cons_succ → zx
open Go.Proofs.YtlhmljngjdfbpaaW.PrintWords.Aside0 renaming mk → zy
def laws_FnTreeSwap.Asked : Prop:=∀ (l0 : List Int) (l1 : List Int),(l0.length ≤ maxLen ∧ ∀ x_ ∈ l0,(Lit.int .u8 x_).wf = true) → (l1.length ≤ maxLen ∧ ∀ x_ ∈ l1,(Lit.int .u8 x_).wf = true) → ∃ k,laws_FnTreeSwap.f k l0 l1 = some true
end Go.Proofs.Ytlhmljngjdfbpaa.Pr
end
section
set_option linter.unusedVariables false
namespace Go.Proofs.YtlhmljngjdfbpaaW.PrintWords
open Go.RowKit
section
variable {α β : Type}
theorem Ev.pos {c : Prop} [Decidable c] {t e : Nat → Option α} {r : α} (h : c) (k : Ev t r) : Ev (fun n => if c then t n else e n) r:=by
 simp only [if_pos h]; exact k
theorem Ev.neg {c : Prop} [Decidable c] {t e : Nat → Option α} {r : α} (h : ¬ c) (k : Ev e r) : Ev (fun n => if c then t n else e n) r:=by
 simp only [if_neg h]; exact k
theorem Ev.bind0 {g : Option α} {f : Nat → α → Option β} {a : α} {r : β} (h : g = some a) (k : Ev (fun n => f n a) r) : Ev (fun n => g.bind (f n)) r:=by
 subst h; exact k
theorem Ev.is {a r : α} (h : a = r) : Ev (fun _ => some a) r:=by subst h; exact Ev.now _
theorem Ev.cast {g : Nat → Option α} {a r : α} (k : Ev g a) (h : a = r) : Ev g r:=h ▸ k
theorem Ev.go {g f : Nat → Option α} {r : α} (k : Ev f r) (h : ∀ k,g (k + 1) = f k) : Ev g r:=Ev.step h k
end
theorem w64 {n : Int} (h : -9223372036854775808 ≤ n) (h' : n ≤ 9223372036854775807) : wrap64 n = n:=by unfold wrap64; omega
theorem rd_nat {l : List Int} {i : Nat} (h : i < l.length) : rd l (i : Int) = l[i]:=by simp [rd,h]
noncomputable def Bp (p : Prop) : Bool:=@decide p (Classical.propDecidable p)
theorem Bp_iff {p : Prop} : Bp p = true ↔ p:=by unfold Bp; exact @decide_eq_true_iff p (Classical.propDecidable p)
theorem Bp_true {p : Prop} (h : p) : Bp p = true:=Bp_iff.2 h
theorem Bp_false {p : Prop} (h : ¬ p) : Bp p = false:=by
 cases e : Bp p with
 | false => rfl
 | true => exact absurd (Bp_iff.1 e) h
end Go.Proofs.YtlhmljngjdfbpaaW.PrintWords
end
section
set_option linter.unusedSimpArgs false
set_option linter.unusedVariables false
namespace Go.Proofs.Ytlhmljngjdfbpaa.Pure
open Go.RowKit Go.Proofs.Ytlhmljngjdfbpaa.Pr Go.Proofs.YtlhmljngjdfbpaaW.PrintWords Go.Proofs.YtlhmljngjdfbpaaW.PrintLast Go.Proofs.YtlhmljngjdfbpaaW.PrintMore
def inB (x a b : Int) : Bool:=decide (a ≤ x) && decide (x ≤ b)
theorem inB_iff {x a b : Int} : inB x a b = true ↔ a ≤ x ∧ x ≤ b:=by simp [inB]
theorem in1 (x a b : Int) : spec_l1In.f x a b = some (inB x a b):=by
 unfold spec_l1In.f inB
 by_cases h : x ≥ a
 case pos => rw [if_pos h]; simp [show a ≤ x from h]
 rw [if_neg h]; simp [show ¬ a ≤ x from h]
theorem within1 (x a b : Int) : impl_within.f x a b = some (inB x a b):=by
 unfold impl_within.f inB
 by_cases h : x ≥ a
 case pos => rw [if_pos h]; simp [show a ≤ x from h]
 rw [if_neg h]; simp [show ¬ a ≤ x from h]
theorem up1 {i n : Nat} (h : i < n) (hn : n ≤ maxLen) : wrap64 ((i : Int) + 1) = ((i + 1 : Nat) : Int):=by
 simp only [maxLen] at hn;rw [w64 (by omega) (by omega)]; omega
theorem rdn {l : List Int} {i : Nat} (h : i < l.length) : rd l (i : Int) = l[i]:=rd_nat h
def nth (l : List Int) (i : Nat) : Int:=l.getD i 0
theorem rdg {l : List Int} (i : Nat) : rd l (i : Int) = nth l i:=by simp [rd,nth]
theorem nth_get {l : List Int} {i : Nat} (h : i < l.length) : nth l i = l[i]:=by simp [nth,h]
theorem getD_mem {l : List Int} {i : Nat} (h : i < l.length) : nth l i ∈ l:=by
 rw [nth_get h];exact List.getElem_mem h
theorem mem_getD {l : List Int} {x : Int} (h : x ∈ l) : ∃ i,i < l.length ∧ nth l i = x:=by
 obtain ⟨i,hi,rfl⟩:=List.getElem_of_mem h;exact ⟨i,hi,nth_get hi⟩
theorem drop_cons {α : Type} {l : List α} {i : Nat} (h : i < l.length) : l.drop i = l[i] :: l.drop (i + 1):=List.drop_eq_getElem_cons h
def Pv {α : Type} (g : Nat → Option α) (P : α → Prop) : Prop:=∃ r,Ev g r ∧ P r
section
variable {α β : Type} {P : α → Prop}
theorem Pv.of {g : Nat → Option α} {r : α} (h : Ev g r) (hp : P r) : Pv g P:=⟨r,h,hp⟩
theorem Pv.now {a : α} (h : P a) : Pv (fun _ => some a) P:=⟨a,Ev.now a,h⟩
theorem Pv.pos {c : Prop} [Decidable c] {t e : Nat → Option α} (h : c) (k : Pv t P) : Pv (fun n => if c then t n else e n) P:=by
 obtain ⟨r,k,hp⟩:=k;exact ⟨r,Ev.pos h k,hp⟩
theorem Pv.neg {c : Prop} [Decidable c] {t e : Nat → Option α} (h : ¬ c) (k : Pv e P) : Pv (fun n => if c then t n else e n) P:=by
 obtain ⟨r,k,hp⟩:=k;exact ⟨r,Ev.neg h k,hp⟩
theorem Pv.ite {c : Prop} [Decidable c] {t e : Nat → Option α} (h : c → Pv t P) (k : ¬ c → Pv e P) : Pv (fun n => if c then t n else e n) P:=by
 by_cases hc : c
 case neg => exact Pv.neg hc (k hc)
 exact Pv.pos hc (h hc)
theorem Pv.bind {g : Nat → Option β} {f : Nat → β → Option α} {R : β → Prop} (h : Pv g R) (k : ∀ b,R b → Pv (fun n => f n b) P) : Pv (fun n => (g n).bind (f n)) P:=by
 obtain ⟨b,h,hb⟩:=h;obtain ⟨r,k,hp⟩:=k b hb;exact ⟨r,Ev.bind h k,hp⟩
theorem Pv.bind0 {g : Option β} {f : Nat → β → Option α} {b : β} (h : g = some b) (k : Pv (fun n => f n b) P) : Pv (fun n => g.bind (f n)) P:=by
 obtain ⟨r,k,hp⟩:=k;exact ⟨r,Ev.bind0 h k,hp⟩
theorem Pv.go {g f : Nat → Option α} (k : Pv f P) (h : ∀ k,g (k + 1) = f k) : Pv g P:=by
 obtain ⟨r,k,hp⟩:=k;exact ⟨r,Ev.go k h,hp⟩
theorem Pv.mono {g : Nat → Option α} {R : α → Prop} (h : Pv g R) (k : ∀ a,R a → P a) : Pv g P:=by
 obtain ⟨r,h,hr⟩:=h;exact ⟨r,h,k r hr⟩
end
theorem Pv.rounds {g : Nat → Option Bool} (h : Pv g (· = true)) : ∃ k,g k = some true:=by
 obtain ⟨r,h,rfl⟩:=h;exact Ev.rounds h
end Go.Proofs.Ytlhmljngjdfbpaa.Pure
end
section
set_option linter.unusedSimpArgs false
set_option linter.unusedVariables false
namespace Go.Proofs.Ytlhmljngjdfbpaa.Pure
open Go.RowKit Go.Proofs.Ytlhmljngjdfbpaa.Pr Go.Proofs.YtlhmljngjdfbpaaW.PrintWords Go.Proofs.YtlhmljngjdfbpaaW.PrintLast Go.Proofs.YtlhmljngjdfbpaaW.PrintMore
section
variable {t e : Nat → Option Bool} {r : Bool}
theorem Ev.and {b : Bool} (k : Ev t r) : Ev (fun n => if b = true then t n else some false) (b && r):=by
 cases b with
 | false => exact Ev.neg (by simp) (Ev.now _)
 | true => exact Ev.pos rfl k
theorem Ev.nand {c : Prop} [Decidable c] (k : Ev t r) : Ev (fun n => if c then some false else t n) (!decide c && r):=by
 by_cases h : c
 case pos => exact Ev.pos h (Ev.is (by simp [h]))
 exact Ev.neg h (k.cast (by simp [h]))
end
abbrev Arc:=S58
def arc (l : List Arc) (i : Nat) : Arc:=rd_T58 l (i : Int)
theorem rda (l : List Arc) (i : Nat) : rd_T58 l (i : Int) = arc l i:=rfl
theorem arc_get {l : List Arc} {i : Nat} (h : i < l.length) : arc l i = l[i]:=by simp [arc,rd_T58,h]
theorem arc_mem {l : List Arc} {i : Nat} (h : i < l.length) : arc l i ∈ l:=by
 rw [arc_get h];exact List.getElem_mem h
attribute [irreducible] arc
def okArcW (n : Int) (a : Arc) : Bool:=inB a.f0 0 (wrap64 (n - 1)) && (inB a.f1 0 (wrap64 (n - 1)) && (!decide (a.f0 = a.f1) && (inB a.f2 0 99 && (inB a.f3 0 99 && inB a.f4 0 9))))
theorem l1Ok_l (n : Int) (l : List Arc) (hm : l.length ≤ maxLen) : ∀ (m i : Nat),l.length - i = m → i ≤ l.length → Ev (fun k => spec_l1Ok.l0 k (i : Int) n l) ((l.drop i).all (okArcW n) && (inB n 1 8 && decide ((l.length : Int) ≤ 16))):=by
 intro m
 induction m with
 | zero =>
  intro i hd hi;refine Ev.go ?_ (fun k => by rw [spec_l1Ok.l0]);refine Ev.neg (by omega) (Ev.bind0 (in1 _ _ _) ?_);rw [List.drop_of_length_le (by omega)];exact (Ev.and (Ev.now _)).cast (by simp)
 | succ m ih =>
  intro i hd hi;have hlt : i < l.length:=by omega
  refine Ev.go ?_ (fun k => by rw [spec_l1Ok.l0]);rw [drop_cons hlt,← arc_get hlt,List.all_cons,rda,up1 hlt hm];refine Ev.pos (by omega) (Ev.pos (by omega) ?_);refine Ev.cast (Ev.bind0 (in1 _ _ _) (Ev.and (Ev.bind0 (in1 _ _ _) (Ev.and (Ev.nand (Ev.bind0 (in1 _ _ _) (Ev.and (Ev.bind0 (in1 _ _ _) (Ev.and (Ev.bind0 (in1 _ _ _) (Ev.and (ih (i + 1) (by omega) (by omega))))))))))))) ?_;simp only [okArcW,Bool.and_assoc]
theorem okArcW_okArc {n : Int} (h : 1 ≤ n) (h8 : n ≤ 8) (a : Arc) : okArcW n a = okArc n a:=by
 unfold okArcW okArc inB okN okC
 rw [w64 (by omega) (by omega)];have e : (a.f4 ≤ 9) ↔ (a.f4 ≤ 10 - 1):=by omega
 have e2 : (a.f0 == a.f1) = decide (a.f0 = a.f1):=by
  by_cases c : a.f0 = a.f1 <;> simp [c]
 rw [e2];simp only [Bool.and_assoc,e]
theorem l1Ok_ev (n : Int) (l : List Arc) (hm : l.length ≤ maxLen) : Ev (fun k => spec_l1Ok.f k n l) (netOkB n l):=by
 unfold spec_l1Ok.f
 refine (l1Ok_l n l hm _ 0 rfl (by omega)).cast ?_
 unfold netOkB
 rw [List.drop_zero]
 by_cases h : 1 ≤ n ∧ n ≤ 8
 case pos =>
  have e : l.all (okArcW n) = l.all (okArc n):=by
   congr 1
   funext a
   exact okArcW_okArc h.1 h.2 a
  rw [e,show inB n 1 8 = true from inB_iff.2 h];simp [h.1,h.2,Bool.and_comm]
 have e : inB n 1 8 = false:=by
  cases c : inB n 1 8 with
  | false => rfl
  | true => exact absurd (inB_iff.1 c) h
 rw [e];have e2 : (decide (1 ≤ n) && decide (n ≤ 8)) = false:=e;simp only [e2,Bool.false_and,Bool.and_false]
structure NetGood (n : Int) (l : List Arc) : Prop where
 n1 : 1 ≤ n
 n8 : n ≤ 8
 len : l.length ≤ 16
 ok : ∀ i,i < l.length → (0 ≤ (arc l i).f0 ∧ (arc l i).f0 < n) ∧ (0 ≤ (arc l i).f1 ∧ (arc l i).f1 < n) ∧ (arc l i).f0 ≠ (arc l i).f1 ∧ (0 ≤ (arc l i).f2 ∧ (arc l i).f2 ≤ 99) ∧ (0 ≤ (arc l i).f3 ∧ (arc l i).f3 ≤ 99) ∧ (0 ≤ (arc l i).f4 ∧ (arc l i).f4 ≤ 9)
theorem okArc_iff (n : Int) (a : Arc) : okArc n a = true ↔ (0 ≤ a.f0 ∧ a.f0 < n) ∧ (0 ≤ a.f1 ∧ a.f1 < n) ∧ a.f0 ≠ a.f1 ∧ (0 ≤ a.f2 ∧ a.f2 ≤ 99) ∧ (0 ≤ a.f3 ∧ a.f3 ≤ 99) ∧ (0 ≤ a.f4 ∧ a.f4 ≤ 9):=by
 simp only [okArc,okN,okC,Bool.and_eq_true,decide_eq_true_eq,Bool.not_eq_true',beq_eq_false_iff_ne];constructor
 ·rintro ⟨⟨⟨⟨⟨⟨a1,a2⟩,a3,a4⟩,a5⟩,a6⟩,a7⟩,a8,a9⟩;exact ⟨⟨a1,by omega⟩,⟨a3,by omega⟩,a5,a6,a7,a8,by omega⟩
 ·rintro ⟨⟨a1,a2⟩,⟨a3,a4⟩,a5,a6,a7,a8,a9⟩;exact ⟨⟨⟨⟨⟨⟨a1,by omega⟩,a3,by omega⟩,a5⟩,a6⟩,a7⟩,a8,by omega⟩
theorem netOkB_iff (n : Int) (l : List Arc) : netOkB n l = true ↔ NetGood n l:=by
 simp only [netOkB,Bool.and_eq_true,decide_eq_true_eq,List.all_eq_true];constructor
 ·rintro ⟨⟨⟨h1,h2⟩,h3⟩,h4⟩;exact ⟨h1,h2,by omega,fun i hi => (okArc_iff n _).1 (h4 _ (arc_mem hi))⟩
 ·rintro ⟨h1,h2,h3,h4⟩;refine ⟨⟨⟨h1,h2⟩,by omega⟩,fun a ha => ?_⟩;obtain ⟨i,hi,rfl⟩:=List.getElem_of_mem ha;rw [← arc_get hi];exact (okArc_iff n _).2 (h4 i hi)
end Go.Proofs.Ytlhmljngjdfbpaa.Pure
end
section
set_option linter.unusedSimpArgs false
set_option linter.unusedVariables false
namespace Go.Proofs.Ytlhmljngjdfbpaa.Pure
open Go.RowKit Go.Proofs.Ytlhmljngjdfbpaa.Pr Go.Proofs.YtlhmljngjdfbpaaW.PrintWords Go.Proofs.YtlhmljngjdfbpaaW.PrintLast Go.Proofs.YtlhmljngjdfbpaaW.PrintMore
def lst (n : Nat) (F : Nat → Int) : List Int:=(List.range n).map F
theorem lst_len (n : Nat) (F : Nat → Int) : (lst n F).length = n:=by simp [lst]
theorem lst_nth {n v : Nat} (F : Nat → Int) (h : v < n) : nth (lst n F) v = F v:=by
 simp [nth,lst,h]
theorem lst_rd {n v : Nat} (F : Nat → Int) (h : v < n) : rd (lst n F) (v : Int) = F v:=by rw [rdg,lst_nth F h]
theorem lst_congr {n : Nat} {F G : Nat → Int} (h : ∀ v,v < n → F v = G v) : lst n F = lst n G:=by
 unfold lst
 exact List.map_congr_left (fun v hv => h v (List.mem_range.1 hv))
theorem lst_snoc (n : Nat) (F : Nat → Int) : lst n F ++ [F n] = lst (n + 1) F:=by
 simp [lst,List.range_succ]
def upd (F : Nat → Int) (a : Nat) (x : Int) : Nat → Int:=fun v => if v = a then x else F v
theorem lst_set {n a : Nat} (F : Nat → Int) (x : Int) : (lst n F).set a x = lst n (upd F a x):=by
 apply List.ext_getElem (by simp [lst])
 intro i h1 h2;have hi : i < n:=by simpa [lst] using h2
 simp only [List.getElem_set]
 by_cases e : a = i
 case pos => subst e; simp [lst,upd]
 simp [lst,upd,e,show ¬ i = a from fun h => e h.symm]
theorem upd_same (F : Nat → Int) (a : Nat) (x : Int) : upd F a x a = x:=by simp [upd]
theorem upd_far (F : Nat → Int) {a v : Nat} (x : Int) (h : v ≠ a) : upd F a x v = F v:=by simp [upd,h]
inductive Conn (E : Nat → Nat → Prop) : Nat → Nat → Prop
 | refl (v : Nat) : Conn E v v
 | tail {u v w : Nat} : Conn E u v → (E v w ∨ E w v) → Conn E u w
theorem Conn.trans {E : Nat → Nat → Prop} {u v w : Nat} (h : Conn E u v) (k : Conn E v w) : Conn E u w:=by
 induction k with
 | refl => exact h
 | tail _ e ih => exact .tail ih e
theorem Conn.one {E : Nat → Nat → Prop} {u v : Nat} (h : E u v ∨ E v u) : Conn E u v:=.tail (.refl u) h
theorem Conn.symm {E : Nat → Nat → Prop} {u v : Nat} (h : Conn E u v) : Conn E v u:=by
 induction h with
 | refl => exact .refl _
 | tail _ e ih => exact (Conn.one e.symm).trans ih
theorem Conn.mono {E E' : Nat → Nat → Prop} {u v : Nat} (h : Conn E u v) (k : ∀ a b,E a b → E' a b) : Conn E' u v:=by
 induction h with
 | refl => exact .refl _
 | tail _ e ih => exact .tail ih (e.imp (k _ _) (k _ _))
noncomputable def cnt (p : Nat → Prop) : Nat → Nat
 | 0 => 0
 | n + 1 => cnt p n + if Bp (p n) = true then 1 else 0
theorem cnt_le (p : Nat → Prop) (n : Nat) : cnt p n ≤ n:=by
 induction n with
 | zero => exact Nat.le_refl _
 | succ n ih => simp only [cnt]; split <;> omega
theorem cnt_mono {p q : Nat → Prop} (h : ∀ v,p v → q v) (n : Nat) : cnt p n ≤ cnt q n:=by
 induction n with
 | zero => exact Nat.le_refl _
 | succ n ih =>
  simp only [cnt]
  by_cases hp : p n
  case neg => rw [Bp_false hp]; simp; omega
  rw [Bp_true hp,Bp_true (h n hp)]; omega
theorem cnt_lt {p q : Nat → Prop} (h : ∀ v,p v → q v) {n u : Nat} (hu : u < n) (hq : q u) (hp : ¬ p u) : cnt p n < cnt q n:=by
 induction n with
 | zero => omega
 | succ n ih =>
  simp only [cnt]
  by_cases e : u = n
  case pos =>
   subst e;have:=cnt_mono h u;rw [Bp_false hp,Bp_true hq];simp; omega
  have:=ih (by omega)
  by_cases hp' : p n
  case neg => rw [Bp_false hp']; simp; omega
  rw [Bp_true hp',Bp_true (h n hp')]; omega
theorem cnt_all {p : Nat → Prop} {n : Nat} (h : n ≤ cnt p n) : ∀ v,v < n → p v:=by
 induction n with
 | zero => intro v hv; omega
 | succ n ih =>
  intro v hv;simp only [cnt] at h;have:=cnt_le p n
  by_cases hp : p n
  case neg =>
   rw [Bp_false hp] at h;simp at h;omega
  rw [Bp_true hp] at h;simp at h
  by_cases e : v = n
  case pos => subst e; exact hp
  exact ih h v (by omega)
theorem spread (n : Nat) (f : Nat → Nat → Prop) (mono : ∀ r v,f r v → f (r + 1) v) (lt : ∀ r v,f r v → v < n) (stop : ∀ r,(∀ v,f (r + 1) v → f r v) → ∀ v,f (r + 2) v → f (r + 1) v) (h0 : ∃ v,f 0 v) : ∀ r v,f r v → f (n - 1) v:=by
 have monos : ∀ r s v,f r v → f (r + s) v:=by
  intro r s v h
  induction s with
  | zero => exact h
  | succ s ih => exact mono _ _ ih
 have stops : ∀ r,(∀ v,f (r + 1) v → f r v) → ∀ s v,f (r + s) v → f r v:=by
  intro r h s;have hs : ∀ s v,f (r + s + 1) v → f (r + s) v:=by
   intro s
   induction s with
   | zero => exact h
   | succ s ih => exact stop (r + s) ih
  induction s with
  | zero => exact fun v h => h
  | succ s ih => exact fun v h => ih v (hs s v h)
 have key : ∀ r,(∃ s,s < r ∧ ∀ v,f (s + 1) v → f s v) ∨ r + 1 ≤ cnt (f r) n:=by
  intro r
  induction r with
  | zero =>
   right
   obtain ⟨v,hv⟩:=h0;have:=cnt_lt (p:=fun _ => False) (q:=f 0) (fun _ h => h.elim) (lt 0 v hv) hv (fun h => h);omega
  | succ r ih =>
   rcases ih with ⟨s,h1,h2⟩ | ih
   ·exact .inl ⟨s,by omega,h2⟩
   ·by_cases c : ∀ v,f (r + 1) v → f r v
    case pos => exact .inl ⟨r,by omega,c⟩
    right
    have : ∃ v,f (r + 1) v ∧ ¬ f r v:=by
     apply Classical.byContradiction
     intro h;exact c (fun v hv => Classical.byContradiction (fun h' => h ⟨v,hv,h'⟩))
    obtain ⟨v,h1,h2⟩:=this;have:=cnt_lt (mono r) (lt _ v h1) h1 h2;omega
 intro r v hv;obtain ⟨u,hu⟩:=h0;have hn : 0 < n:=by have:=lt 0 u hu; omega
 rcases key (n - 1) with ⟨s,h1,h2⟩ | h
 ·by_cases c : r ≤ s
  case pos =>
   have e : n - 1 = r + (n - 1 - r):=by omega
   rw [e];exact monos _ _ _ hv
  have hs : f s v:=by
   have e : r = s + (r - s):=by omega
   rw [e] at hv;exact stops s h2 _ v hv
  have e : n - 1 = s + (n - 1 - s):=by omega
  rw [e];exact monos _ _ _ hs
 ·exact cnt_all (by omega) v (lt _ v hv)
end Go.Proofs.Ytlhmljngjdfbpaa.Pure
end
section
set_option linter.unusedSimpArgs false
set_option linter.unusedVariables false
set_option linter.unusedSectionVars false
namespace Go.Proofs.Ytlhmljngjdfbpaa.Pure
open Go.RowKit Go.Proofs.Ytlhmljngjdfbpaa.Pr Go.Proofs.YtlhmljngjdfbpaaW.PrintWords Go.Proofs.YtlhmljngjdfbpaaW.PrintLast Go.Proofs.YtlhmljngjdfbpaaW.PrintMore
def frm (l : List Arc) (x : List Int) (j : Nat) : Nat:=(arc l (nth x j).toNat).f0.toNat
def too (l : List Arc) (x : List Int) (j : Nat) : Nat:=(arc l (nth x j).toNat).f1.toNat
def TE (l : List Arc) (x : List Int) (j : Nat) (a b : Nat) : Prop:=∃ i,i < j ∧ a = frm l x i ∧ b = too l x i
structure Parts (n : Nat) (E : Nat → Nat → Prop) (F : Nat → Int) : Prop where
 same : ∀ a b,E a b → F a = F b
 low : ∀ v,v < n → F v ≤ v
 conn : ∀ v,v < n → ∃ u : Nat,F v = u ∧ u < n ∧ Conn E u v
theorem Parts.all {n : Nat} {E : Nat → Nat → Prop} {F : Nat → Int} (h : Parts n E F) {u v : Nat} (c : Conn E u v) : F u = F v:=by
 induction c with
 | refl => rfl
 | tail _ e ih => exact ih.trans (e.elim (h.same _ _) (fun e => (h.same _ _ e).symm))
theorem Parts.uniq {n : Nat} {E : Nat → Nat → Prop} {F G : Nat → Int} (hF : Parts n E F) (hG : Parts n E G) : ∀ v,v < n → F v = G v:=by
 intro v hv;obtain ⟨u,e1,h1,c1⟩:=hF.conn v hv;obtain ⟨w,e2,h2,c2⟩:=hG.conn v hv;have a1:=hG.low u h1;have a2:=hF.low w h2;rw [hG.all c1] at a1;rw [hF.all c2] at a2;omega
section
variable {n : Int} {l : List Arc} (hg : NetGood n l) {x : List Int} (hx : ∀ j,j < x.length → 0 ≤ nth x j ∧ nth x j < l.length)
include hg hx
theorem frm_lt {j : Nat} (h : j < x.length) : ((frm l x j : Nat) : Int) = (arc l (nth x j).toNat).f0 ∧ frm l x j < n.toNat:=by
 have h1:=hx j h;have h2:=(hg.ok (nth x j).toNat (by omega)).1;have:=hg.n1
 unfold frm
 omega
theorem too_lt {j : Nat} (h : j < x.length) : ((too l x j : Nat) : Int) = (arc l (nth x j).toNat).f1 ∧ too l x j < n.toNat:=by
 have h1:=hx j h;have h2:=(hg.ok (nth x j).toNat (by omega)).2.1;have:=hg.n1
 unfold too
 omega
end
def stepS (F : Nat → Int) (a b : Nat) : Nat → Int:=if F a < F b then upd F b (F a) else upd F a (F b)
def sweepS (l : List Arc) (x : List Int) (F : Nat → Int) : Nat → (Nat → Int)
 | 0 => F
 | i + 1 => stepS (sweepS l x F i) (frm l x i) (too l x i)
def roundS (l : List Arc) (x : List Int) : Nat → (Nat → Int)
 | 0 => fun v => v
 | r + 1 => sweepS l x (roundS l x r) x.length
theorem stepS_at {F : Nat → Int} {a b : Nat} : stepS F a b a ≤ F a ∧ stepS F a b a ≤ F b ∧ stepS F a b b ≤ F a ∧ stepS F a b b ≤ F b ∧ ∀ v,stepS F a b v ≤ F v:=by
 unfold stepS
 by_cases h : F a < F b
 case pos =>
  rw [if_pos h];refine ⟨?_,?_,?_,?_,fun v => ?_⟩
  ·by_cases e : a = b
   case pos => subst e; omega
   rw [upd_far _ _ e]; omega
  ·by_cases e : a = b
   case pos => subst e; omega
   rw [upd_far _ _ e]; omega
  ·rw [upd_same]; omega
  ·rw [upd_same]; omega
  ·by_cases e : v = b
   case neg => rw [upd_far _ _ e]; omega
   subst e; rw [upd_same]; omega
 rw [if_neg h];refine ⟨?_,?_,?_,?_,fun v => ?_⟩
 ·rw [upd_same]; omega
 ·rw [upd_same]; omega
 ·by_cases e : b = a
  case neg => rw [upd_far _ _ e]; omega
  subst e; rw [upd_same]; omega
 ·by_cases e : b = a
  case neg => rw [upd_far _ _ e]; omega
  subst e; rw [upd_same]; omega
 ·by_cases e : v = a
  case neg => rw [upd_far _ _ e]; omega
  subst e; rw [upd_same]; omega
theorem stepS_from {F : Nat → Int} {a b v : Nat} : stepS F a b v = F v ∨ (v = b ∧ stepS F a b v = F a) ∨ (v = a ∧ stepS F a b v = F b):=by
 unfold stepS
 by_cases h : F a < F b
 case neg =>
  rw [if_neg h]
  by_cases e : v = a
  case neg => exact .inl (upd_far _ _ e)
  exact .inr (.inr ⟨e,by rw [e,upd_same]⟩)
 rw [if_pos h]
 by_cases e : v = b
 case neg => exact .inl (upd_far _ _ e)
 exact .inr (.inl ⟨e,by rw [e,upd_same]⟩)
theorem sweepS_le (l : List Arc) (x : List Int) (F : Nat → Int) : ∀ i v,sweepS l x F i v ≤ F v:=by
 intro i
 induction i with
 | zero => intro v; exact Int.le_refl _
 | succ i ih => intro v; exact Int.le_trans (stepS_at.2.2.2.2 v) (ih v)
theorem sweepS_anti (l : List Arc) (x : List Int) (F : Nat → Int) (i : Nat) : ∀ s v,sweepS l x F (i + s) v ≤ sweepS l x F i v:=by
 intro s
 induction s with
 | zero => intro v; exact Int.le_refl _
 | succ s ih => intro v; exact Int.le_trans (stepS_at.2.2.2.2 v) (ih v)
theorem sweepS_arc (l : List Arc) (x : List Int) (F : Nat → Int) {i : Nat} (hi : i < x.length) : sweepS l x F x.length (frm l x i) ≤ F (too l x i) ∧ sweepS l x F x.length (too l x i) ≤ F (frm l x i):=by
 have e : x.length = (i + 1) + (x.length - (i + 1)):=by omega
 have h1:=sweepS_anti l x F (i + 1) (x.length - (i + 1));rw [← e] at h1;have h2:=sweepS_le l x F i;have h3:=@stepS_at (sweepS l x F i) (frm l x i) (too l x i);constructor
 ·exact Int.le_trans (h1 _) (Int.le_trans h3.2.1 (h2 _))
 ·exact Int.le_trans (h1 _) (Int.le_trans h3.2.2.1 (h2 _))
def Near (l : List Arc) (x : List Int) (n u : Nat) : Nat → Nat → Prop
 | 0,v => v = u ∧ v < n
 | r + 1,v => v < n ∧ (Near l x n u r v ∨ ∃ w,Near l x n u r w ∧ (TE l x x.length w v ∨ TE l x x.length v w))
theorem near_lt {l : List Arc} {x : List Int} {n u : Nat} : ∀ r v,Near l x n u r v → v < n
 | 0,v,h => h.2
 | r + 1,v,h => h.1
theorem near_round {l : List Arc} {x : List Int} {n u : Nat} : ∀ r v,Near l x n u r v → roundS l x r v ≤ u:=by
 intro r
 induction r with
 | zero =>
  intro v h;rw [h.1];exact Int.le_refl _
 | succ r ih =>
  intro v h
  rcases h.2 with h | ⟨w,hw,⟨i,hi,e1,e2⟩ | ⟨i,hi,e1,e2⟩⟩
  ·exact Int.le_trans (sweepS_le l x _ _ v) (ih v h)
  ·have:=(sweepS_arc l x (roundS l x r) hi).2;rw [← e1,← e2] at this;exact Int.le_trans this (ih w hw)
  ·have:=(sweepS_arc l x (roundS l x r) hi).1;rw [← e1,← e2] at this;exact Int.le_trans this (ih w hw)
section
variable {n : Int} {l : List Arc} (hg : NetGood n l) {x : List Int} (hx : ∀ j,j < x.length → 0 ≤ nth x j ∧ nth x j < l.length)
include hg hx
theorem near_conn {u v : Nat} (hu : u < n.toNat) (c : Conn (TE l x x.length) u v) : Near l x n.toNat u (n.toNat - 1) v:=by
 have hr : ∃ r,Near l x n.toNat u r v:=by
  induction c with
  | refl => exact ⟨0,rfl,hu⟩
  | tail c e ih =>
   obtain ⟨r,hr⟩:=ih;refine ⟨r + 1,?_,.inr ⟨_,hr,e⟩⟩
   rcases e with ⟨i,hi,e1,e2⟩ | ⟨i,hi,e1,e2⟩
   ·rw [e2]; exact (too_lt hg hx hi).2
   ·rw [e1]; exact (frm_lt hg hx hi).2
 obtain ⟨r,hr⟩:=hr;refine spread n.toNat (Near l x n.toNat u) (fun r v h => ⟨near_lt r v h,.inl h⟩) near_lt (fun r h v hv => ?_) ⟨u,rfl,hu⟩ r v hr;refine ⟨hv.1,?_⟩
 rcases hv.2 with hv | ⟨w,hw,e⟩
 ·exact .inl (h v hv)
 ·exact .inr ⟨w,h w hw,e⟩
theorem sweepS_conn (F : Nat → Int) (hF : ∀ v,v < n.toNat → ∃ u : Nat,F v = u ∧ u < n.toNat ∧ Conn (TE l x x.length) u v) : ∀ i,i ≤ x.length → ∀ v,v < n.toNat → ∃ u : Nat,sweepS l x F i v = u ∧ u < n.toNat ∧ Conn (TE l x x.length) u v:=by
 intro i
 induction i with
 | zero => exact fun _ => hF
 | succ i ih =>
  intro hi v hv;have ih:=ih (by omega);have he : TE l x x.length (frm l x i) (too l x i):=⟨i,by omega,rfl,rfl⟩
  simp only [sweepS]
  rcases @stepS_from (sweepS l x F i) (frm l x i) (too l x i) v with h | ⟨e,h⟩ | ⟨e,h⟩
  ·rw [h]; exact ih v hv
  ·rw [h];obtain ⟨u,h1,h2,h3⟩:=ih _ (frm_lt hg hx (j:=i) (by omega)).2;exact ⟨u,h1,h2,e ▸ .tail h3 (.inl he)⟩
  ·rw [h];obtain ⟨u,h1,h2,h3⟩:=ih _ (too_lt hg hx (j:=i) (by omega)).2;exact ⟨u,h1,h2,e ▸ .tail h3 (.inr he)⟩
theorem roundS_conn : ∀ r v,v < n.toNat → ∃ u : Nat,roundS l x r v = u ∧ u < n.toNat ∧ Conn (TE l x x.length) u v:=by
 intro r
 induction r with
 | zero => exact fun v hv => ⟨v,rfl,hv,.refl v⟩
 | succ r ih => exact sweepS_conn hg hx _ ih _ (Nat.le_refl _)
theorem roundS_le : ∀ r v,roundS l x r v ≤ v:=by
 intro r
 induction r with
 | zero => exact fun v => Int.le_refl _
 | succ r ih => exact fun v => Int.le_trans (sweepS_le l x _ _ v) (ih v)
theorem roundS_anti (r : Nat) : ∀ s v,roundS l x (r + s) v ≤ roundS l x r v:=by
 intro s
 induction s with
 | zero => exact fun v => Int.le_refl _
 | succ s ih => exact fun v => Int.le_trans (sweepS_le l x _ _ v) (ih v)
theorem specParts : Parts n.toNat (TE l x x.length) (roundS l x n.toNat):=by
 have h1:=hg.n1;have least : ∀ u v,u < n.toNat → Conn (TE l x x.length) u v → roundS l x n.toNat v ≤ u:=by
  intro u v hu c;have a:=near_round _ _ (near_conn hg hx hu c);have b:=roundS_anti hg hx (n.toNat - 1) 1 v;rw [show n.toNat - 1 + 1 = n.toNat by omega] at b;exact Int.le_trans b a
 refine ⟨fun a b e => ?_,fun v hv => roundS_le hg hx _ v,roundS_conn hg hx _⟩;have ha : a < n.toNat:=by obtain ⟨i,hi,e1,e2⟩:=e; rw [e1]; exact (frm_lt hg hx hi).2
 have hb : b < n.toNat:=by obtain ⟨i,hi,e1,e2⟩:=e; rw [e2]; exact (too_lt hg hx hi).2
 obtain ⟨u,e1,h1,c1⟩:=roundS_conn hg hx n.toNat a ha;obtain ⟨w,e2,h2,c2⟩:=roundS_conn hg hx n.toNat b hb;have b1:=least u b h1 (.tail c1 (.inl e));have b2:=least w a h2 (.tail c2 (.inr e));omega
end
def stepI (F : Nat → Int) (a b : Nat) : Nat → Int:=fun v => if F v = mx (F a) (F b) then mn (F a) (F b) else F v
def sweepI (l : List Arc) (x : List Int) : Nat → (Nat → Int)
 | 0 => fun v => v
 | i + 1 => stepI (sweepI l x i) (frm l x i) (too l x i)
theorem stepI_ends (F : Nat → Int) (a b : Nat) : stepI F a b a = stepI F a b b:=by
 have e1 : mx (F a) (F b) = max (F a) (F b):=by unfold mx; omega
 have e2 : mn (F a) (F b) = min (F a) (F b):=by unfold mn; omega
 unfold stepI
 rw [e1,e2]
 split <;> split <;> omega
section
variable {n : Int} {l : List Arc} (hg : NetGood n l) {x : List Int} (hx : ∀ j,j < x.length → 0 ≤ nth x j ∧ nth x j < l.length)
include hg hx
theorem implParts_to : ∀ i,i ≤ x.length → Parts n.toNat (TE l x i) (sweepI l x i):=by
 intro i
 induction i with
 | zero =>
  intro _;exact ⟨fun a b ⟨j,hj,_⟩ => absurd hj (by omega),fun v _ => Int.le_refl _,fun v hv => ⟨v,rfl,hv,.refl v⟩⟩
 | succ i ih =>
  intro hi;have ih:=ih (by omega);have ha:=(frm_lt hg hx (j:=i) (by omega)).2;have hb:=(too_lt hg hx (j:=i) (by omega)).2;have up : ∀ a b,TE l x i a b → TE l x (i + 1) a b:=fun a b ⟨j,hj,e⟩ => ⟨j,by omega,e⟩
  have he : TE l x (i + 1) (frm l x i) (too l x i):=⟨i,by omega,rfl,rfl⟩
  refine ⟨fun a b ⟨j,hj,e1,e2⟩ => ?_,fun v hv => ?_,fun v hv => ?_⟩
  ·by_cases e : j = i
   case pos =>
    subst e;rw [e1,e2];exact stepI_ends _ _ _
   have:=ih.same a b ⟨j,by omega,e1,e2⟩;simp only [sweepI,stepI,this]
  ·have h1:=ih.low v hv;simp only [sweepI,stepI]
   split
   ·rename_i c;have : mn (sweepI l x i (frm l x i)) (sweepI l x i (too l x i)) ≤ mx (sweepI l x i (frm l x i)) (sweepI l x i (too l x i)):=by unfold mn mx; omega
    omega
   ·exact h1
  ·obtain ⟨u,e1,h1,c1⟩:=ih.conn v hv;obtain ⟨p,ep,hp,cp⟩:=ih.conn _ ha;obtain ⟨q,eq,hq,cq⟩:=ih.conn _ hb;have c1:=c1.mono up;have cp:=cp.mono up;have cq:=cq.mono up;have link : Conn (TE l x (i + 1)) p q:=(Conn.tail cp (.inl he)).trans cq.symm;simp only [sweepI,stepI]
   by_cases c : sweepI l x i v = mx (sweepI l x i (frm l x i)) (sweepI l x i (too l x i))
   case neg =>
    rw [if_neg c];exact ⟨u,e1,h1,c1⟩
   rw [if_pos c];rw [ep,eq] at c ⊢
   by_cases hpq : p < q
   case pos =>
    refine ⟨p,by unfold mn; omega,hp,?_⟩;have : u = q:=by unfold mx at c; omega
    subst this;exact link.trans c1
   refine ⟨q,by unfold mn; omega,hq,?_⟩;have : u = p:=by unfold mx at c; omega
   subst this;exact link.symm.trans c1
end
section
variable {n : Int} {l : List Arc} (hg : NetGood n l) {x : List Int} (hx : ∀ j,j < x.length → 0 ≤ nth x j ∧ nth x j < l.length) (hm : x.length ≤ 35184372088832)
include hg hx hm
theorem rdx {j : Nat} (h : j < x.length) : rd x (j : Int) = (((nth x j).toNat : Nat) : Int) ∧ (nth x j).toNat < l.length:=by
 have:=hx j h;rw [rdg];omega
theorem implParts_l2 (i : Nat) (hi : i < x.length) {res : List Int} (next : Ev (fun k => impl_Net_joined.l1 k (lst n.toNat (sweepI l x (i + 1))) x (x.length : Int) ((i + 1 : Nat) : Int) n l) res) : ∀ (m v : Nat),n.toNat - v = m → v ≤ n.toNat → Ev (fun k => impl_Net_joined.l2 k (lst n.toNat (fun u => if u < v then sweepI l x (i + 1) u else sweepI l x i u)) (sweepI l x i (frm l x i)) (sweepI l x i (too l x i)) x (x.length : Int) (i : Int) (n.toNat : Int) (v : Int) n l) res:=by
 intro m;have h1:=hg.n1;have h8:=hg.n8
 induction m with
 | zero =>
  intro v hd hv;have e : v = n.toNat:=by omega
  subst e;refine Ev.go ?_ (fun k => by rw [impl_Net_joined.l2]);rw [up1 hi (by simp only [maxLen]; omega),lst_congr (G:=sweepI l x (i + 1)) (fun u hu => if_pos hu)];exact Ev.neg (by omega) next
 | succ m ih =>
  intro v hd hv;have hlt : v < n.toNat:=by omega
  have hn:=ih (v + 1) (by omega) (by omega);rw [← up1 (i:=v) (n:=n.toNat) hlt (by simp only [maxLen]; omega)] at hn;refine Ev.go ?_ (fun k => by rw [impl_Net_joined.l2]);rw [lst_len,lst_rd _ hlt,if_neg (Nat.lt_irrefl v)];refine Ev.pos (by omega) (Ev.pos (by omega) (Ev.pos (by omega) ?_));simp only [Int.toNat_natCast,lst_set]
  by_cases c : sweepI l x i v = mx (sweepI l x i (frm l x i)) (sweepI l x i (too l x i))
  case neg =>
   refine Ev.neg c ?_;rw [lst_congr (n:=n.toNat) (G:=fun u => if u < v + 1 then sweepI l x (i + 1) u else sweepI l x i u) ?_]
   ·exact hn
   ·intro u hu
    by_cases e : u = v
    case neg =>
     by_cases h : u < v
     case neg => rw [if_neg h,if_neg (by omega)]
     rw [if_pos h,if_pos (by omega)]
    subst e;rw [if_neg (Nat.lt_irrefl u),if_pos (Nat.lt_succ_self _)];simp only [sweepI,stepI];rw [if_neg c]
  refine Ev.pos c ?_;rw [lst_congr (n:=n.toNat) (F:=upd _ v _) (G:=fun u => if u < v + 1 then sweepI l x (i + 1) u else sweepI l x i u) ?_]
  ·exact hn
  ·intro u hu
   by_cases e : u = v
   case pos =>
    subst e;rw [upd_same,if_pos (Nat.lt_succ_self _)];simp only [sweepI,stepI];rw [if_pos c]
   rw [upd_far _ _ e]
   by_cases h : u < v
   case neg => rw [if_neg h,if_neg (by omega)]
   rw [if_pos h,if_pos (by omega)]
theorem implParts_l1 : ∀ (m i : Nat),x.length - i = m → i ≤ x.length → Ev (fun k => impl_Net_joined.l1 k (lst n.toNat (sweepI l x i)) x (x.length : Int) (i : Int) n l) (lst n.toNat (sweepI l x x.length)):=by
 intro m;have h1:=hg.n1;have h8:=hg.n8
 induction m with
 | zero =>
  intro i hd hi;have e : i = x.length:=by omega
  subst e;refine Ev.go ?_ (fun k => by rw [impl_Net_joined.l1]);exact Ev.neg (by omega) (Ev.now _)
 | succ m ih =>
  intro i hd hi;have hlt : i < x.length:=by omega
  have hn:=ih (i + 1) (by omega) (by omega);obtain ⟨e0,hj⟩:=rdx hg hx hm hlt;obtain ⟨ef,hf⟩:=frm_lt hg hx hlt;obtain ⟨et,ht⟩:=too_lt hg hx hlt;refine Ev.go ?_ (fun k => by rw [impl_Net_joined.l1]);rw [e0,rda,← ef,← et,lst_len,lst_rd _ hf,lst_rd _ ht];refine Ev.pos (by omega) (Ev.pos (by omega) (Ev.pos (by omega) (Ev.pos (by omega) (Ev.pos (by omega) (Ev.pos (by omega) (Ev.pos (by omega) (Ev.pos (by omega) (Ev.pos (by omega) ?_))))))));have:=implParts_l2 hg hx hm i hlt hn _ 0 rfl (Nat.zero_le _);rw [lst_congr (G:=sweepI l x i) (fun u hu => if_neg (Nat.not_lt_zero u))] at this;exact this
theorem implParts_l0 : ∀ (m i : Nat),n.toNat - i = m → i ≤ n.toNat → Ev (fun k => impl_Net_joined.l0 k x (lst i (fun v => v)) n (i : Int) n l) (lst n.toNat (sweepI l x x.length)):=by
 have h1:=hg.n1;have h8:=hg.n8;intro m
 induction m with
 | zero =>
  intro i hd hi;have e : i = n.toNat:=by omega
  subst e;refine Ev.go ?_ (fun k => by rw [impl_Net_joined.l0]);exact Ev.neg (by omega) (implParts_l1 hg hx hm _ 0 rfl (Nat.zero_le _))
 | succ m ih =>
  intro i hd hi;have hlt : i < n.toNat:=by omega
  refine Ev.go ?_ (fun k => by rw [impl_Net_joined.l0]);rw [up1 hlt (by simp only [maxLen]; omega),lst_snoc i (fun v => (v : Int))];exact Ev.pos (by omega) (Ev.pos (by rw [lst_len]; omega) (ih (i + 1) (by omega) (by omega)))
theorem implParts_ev : Ev (fun k => impl_Net_joined.f k n l x) (lst n.toNat (roundS l x n.toNat)):=by
 have h1:=hg.n1;have h8:=hg.n8
 unfold impl_Net_joined.f
 refine Ev.pos (by omega) (Ev.pos (by omega) ((implParts_l0 hg hx hm _ 0 rfl (Nat.zero_le _)).cast ?_));exact lst_congr (fun v hv => (implParts_to hg hx _ (Nat.le_refl _)).uniq (specParts hg hx) v hv)
end
end Go.Proofs.Ytlhmljngjdfbpaa.Pure
end
section
set_option linter.unusedSimpArgs false
set_option linter.unusedVariables false
namespace Go.Proofs.Ytlhmljngjdfbpaa.Pure
open Go.RowKit Go.Proofs.Ytlhmljngjdfbpaa.Pr Go.Proofs.YtlhmljngjdfbpaaW.PrintWords Go.Proofs.YtlhmljngjdfbpaaW.PrintLast Go.Proofs.YtlhmljngjdfbpaaW.PrintMore
def arcsB (n : Int) (l : List Arc) (x : List Int) : Bool:=netOkB n l && decide ((x.length : Int) ≤ 16) && x.all (okN (l.length : Int))
theorem arcsB_iff (n : Int) (l : List Arc) (x : List Int) : arcsB n l x = true ↔ NetGood n l ∧ x.length ≤ 16 ∧ ∀ j,j < x.length → 0 ≤ nth x j ∧ nth x j < l.length:=by
 simp only [arcsB,Bool.and_eq_true,netOkB_iff,decide_eq_true_eq,List.all_eq_true,okN];constructor
 ·rintro ⟨⟨h1,h2⟩,h3⟩;refine ⟨h1,by omega,fun j hj => ?_⟩;have:=h3 _ (getD_mem hj);omega
 ·rintro ⟨h1,h2,h3⟩;refine ⟨⟨h1,by omega⟩,fun c hc => ?_⟩;obtain ⟨j,hj,rfl⟩:=mem_getD hc;have:=h3 j hj;omega
def treeV (n : Int) (l : List Arc) (x : List Int) : List Int:=if arcsB n l x = true then lst n.toNat (roundS l x n.toNat) else []
theorem implTree_ev (n : Int) (l : List Arc) (x : List Int) : Ev (fun k => impl_TreeParts.f k n l x) (treeV n l x):=by
 unfold impl_TreeParts.f
 refine Ev.bind0 (show impl_arcsOk.f n l x = some (arcsB n l x) from rfl) ?_
 unfold treeV
 cases h : arcsB n l x with
 | false => exact Ev.neg (by simp) (Ev.is (by simp))
 | true =>
  obtain ⟨hg,h16,hx⟩:=(arcsB_iff n l x).1 h;rw [if_pos rfl];exact Ev.pos rfl (Ev.bind (implParts_ev hg hx (by omega)) (Ev.now _))
end Go.Proofs.Ytlhmljngjdfbpaa.Pure
end
section
set_option linter.unusedSimpArgs false
set_option linter.unusedVariables false
set_option linter.unusedVariables false
end
section
set_option linter.unusedSectionVars false
namespace Go.Proofs.Ytlhmljngjdfbpaa.Sp
structure G where
 n : Nat
 m : Nat
 fr : Nat → Nat
 tw : Nat → Nat
 w : Nat → Int
 use : Nat → Bool
structure G.Ok (g : G) : Prop where
 fl : ∀ i,i < g.m → g.fr i < g.n
 tl : ∀ i,i < g.m → g.tw i < g.n
 w0 : ∀ i,i < g.m → 0 ≤ g.w i
inductive Wk (g : G) : Nat → Nat → Nat → Int → Prop
 | nil (v : Nat) : Wk g v v 0 0
 | cons {i v k : Nat} {c : Int} : i < g.m → g.use i = true → Wk g (g.tw i) v k c → Wk g (g.fr i) v (k + 1) (g.w i + c)
theorem nodup_len : ∀ (n : Nat) (l : List Nat),l.Nodup → (∀ x ∈ l,x < n) → l.length ≤ n:=by
 intro n
 induction n with
 | zero =>
  intro l _ h;cases l with
  | nil => simp
  | cons a l => exact absurd (h a (by simp)) (by omega)
 | succ n ih =>
  intro l hn h;have h1:=ih (l.erase n) (hn.erase n) (fun x hx => by
   have h2:=h x (List.mem_of_mem_erase hx);have h3 : x ≠ n:=by
    rintro rfl;exact (List.Nodup.not_mem_erase hn) hx
   omega)
  have:=List.length_erase_le (a:=n) (l:=l);have h4 : l.length ≤ (l.erase n).length + 1:=by
   rw [List.length_erase]
   split <;> omega
  omega
inductive Sm (g : G) (t : Nat) : Nat → List Nat → Nat → Int → Prop
 | nil : Sm g t t [t] 0 0
 | cons {i k : Nat} {L : List Nat} {c : Int} : i < g.m → g.use i = true → Sm g t (g.tw i) L k c → g.fr i ∉ L → Sm g t (g.fr i) (g.fr i :: L) (k + 1) (g.w i + c)
def Opt (g : G) (t : Nat) (L : Nat → Option Int) : Prop:=∀ v,v < g.n → (∀ x,L v = some x → ∃ k,Wk g v t k x) ∧ (∀ k c,Wk g v t k c → ∃ x,L v = some x ∧ x ≤ c)
def lts (a : Int) : Option Int → Bool
 | none => true
 | some y => decide (a < y)
def put (L : Nat → Option Int) (a : Nat) (x : Int) : Nat → Option Int:=fun v => if v = a then some x else L v
def relax (g : G) (L : Nat → Option Int) (i : Nat) : Nat → Option Int :=
 if g.use i = true then
  match L (g.tw i) with
  | none => L
  | some x => if lts (x + g.w i) (L (g.fr i)) = true then put L (g.fr i) (x + g.w i) else L
 else L
def sweep (g : G) (L : Nat → Option Int) : Nat → (Nat → Option Int)
 | 0 => L
 | i + 1 => relax g (sweep g L i) i
def start (t : Nat) : Nat → Option Int:=fun v => if v = t then some 0 else none
def rounds (g : G) (t : Nat) : Nat → (Nat → Option Int)
 | 0 => start t
 | r + 1 => sweep g (rounds g t r) g.m
end Go.Proofs.Ytlhmljngjdfbpaa.Sp
namespace Go.Proofs.Ytlhmljngjdfbpaa.Sp
structure Dbl (g e s : G) (D : Nat → Option Int) : Prop where
 en : e.n = g.n
 em : e.m = g.m
 ef : e.fr = g.fr
 et : e.tw = g.tw
 eu : e.use = g.use
 ew : ∀ i,i < g.m → e.w i = 1000 * g.w i + 1
 sn : s.n = g.n
 sm : s.m = g.m
 sf : s.fr = g.fr
 st : s.tw = g.tw
 sw : ∀ i,i < g.m → s.w i = 1
 su : ∀ i,i < g.m → (s.use i = true ↔ g.use i = true ∧ ∃ x,D (g.tw i) = some x ∧ D (g.fr i) = some (g.w i + x))
section
variable {g e s : G} {t : Nat} {D S : Nat → Option Int} (h : Dbl g e s D) (ok : g.Ok) (hD : Opt g t D) (hS : Opt s t S) (ht : t < g.n)
include h
end
end Go.Proofs.Ytlhmljngjdfbpaa.Sp
end
section
set_option linter.unusedSimpArgs false
set_option linter.unusedVariables false
set_option linter.unusedSectionVars false
namespace Go.Proofs.Ytlhmljngjdfbpaa.Pure
open Go.RowKit Go.Proofs.Ytlhmljngjdfbpaa.Pr Go.Proofs.YtlhmljngjdfbpaaW.PrintWords Go.Proofs.YtlhmljngjdfbpaaW.PrintLast Go.Proofs.YtlhmljngjdfbpaaW.PrintMore
open Go.Proofs.Ytlhmljngjdfbpaa.Sp (G Wk Opt lts put relax sweep rounds start Dbl)
section
variable {N : Nat} {l : List Arc} (hg : NetGood N l)
include hg
end
section
variable {N : Nat} {l : List Arc} (hg : NetGood N l) {t : Nat} (ht : t < N)
include hg ht
end
def far : Option Int → Int
 | none => 99999
 | some x => x
def hit (g : G) (L : Nat → Option Int) (i : Nat) : Bool:=match L (g.tw i) with
 | none => false
 | some x => lts (x + g.w i) (L (g.fr i))
def fl (g : G) (L : Nat → Option Int) : Nat → Bool
 | 0 => false
 | i + 1 => fl g L i || hit g (sweep g L i) i
section
variable {N : Nat} {l : List Arc} (hg : NetGood N l)
include hg
end
end Go.Proofs.Ytlhmljngjdfbpaa.Pure
end
section
namespace Go.Proofs.Ytlhmljngjdfbpaa.Pr
open Go.RowKit Go.Proofs.YtlhmljngjdfbpaaW.PrintWords Go.Proofs.YtlhmljngjdfbpaaW.PrintLast Go.Proofs.YtlhmljngjdfbpaaW.PrintMore
attribute [local go_sem] max2_int min2_int max_two min_two max_three min_three max_four min_four
set_option linter.unusedVariables false
set_option linter.unusedSimpArgs false
open List renaming setIfInBounds_toArray → V,set_cons_zero → Z,set_cons_succ → zx
open Go.Proofs.YtlhmljngjdfbpaaW.PrintWords.Aside0 renaming mk → zy
mutual
def impl_WalkOk.j0 : Nat → List Int → Bool → Int → List (S58) → Option (Bool)
 | 0,_,_,_,_ => none
 | k + 1,x1,x14,x414000,x414001 => if x14 = true then (some false) else (impl_WalkOk.l0 k x1 x1 (x1.length : Int) 0 x414000 x414001)
def impl_WalkOk.l0 : Nat → List Int → List Int → Int → Int → Int → List (S58) → Option (Bool)
 | 0,_,_,_,_,_,_ => none
 | k + 1,x1,x15,x16,x17,x414000,x414001 => if x17 < x16 then (if 0 ≤ x17 then (if x17 < (x15.length : Int) then ((impl_within.f (rd x15 x17) 0 (wrap64 ((x414001.length : Int) - 1))).bind fun t416 => (if t416 = true then (if x17 > 0 then (if 0 ≤ (wrap64 (x17 - 1)) then (if (wrap64 (x17 - 1)) < (x1.length : Int) then (if 0 ≤ (rd x1 (wrap64 (x17 - 1))) then (if (rd x1 (wrap64 (x17 - 1))) < (x414001.length : Int) then (if 0 ≤ (rd x15 x17) then (if (rd x15 x17) < (x414001.length : Int) then (if ((rd_T58 x414001 (rd x1 (wrap64 (x17 - 1)))).f1) = ((rd_T58 x414001 (rd x15 x17)).f0) then (impl_WalkOk.l0 k x1 x15 x16 (wrap64 (x17 + 1)) x414000 x414001) else (some false)) else (none)) else (none)) else (none)) else (none)) else (none)) else (none)) else (impl_WalkOk.l0 k x1 x15 x16 (wrap64 (x17 + 1)) x414000 x414001)) else (some false))) else (none)) else (none)) else (some true)
end
end Go.Proofs.Ytlhmljngjdfbpaa.Pr
end
section
set_option linter.unusedSimpArgs false
set_option linter.unusedVariables false
set_option linter.unusedSectionVars false
namespace Go.Proofs.Ytlhmljngjdfbpaa.Pure
open Go.RowKit Go.Proofs.Ytlhmljngjdfbpaa.Pr Go.Proofs.YtlhmljngjdfbpaaW.PrintWords Go.Proofs.YtlhmljngjdfbpaaW.PrintLast Go.Proofs.YtlhmljngjdfbpaaW.PrintMore
open Go.Proofs.Ytlhmljngjdfbpaa.Sp (G Wk Opt)
def wkB (l : List Arc) : Option Int → List Int → Bool
 | _,[] => true
 | p,k :: w => (inB k 0 ((l.length : Int) - 1) && (match p with | none => true | some q => decide ((arc l q.toNat).f1 = (arc l k.toNat).f0))) && wkB l (some k) w
def sumW (l : List Arc) (w : List Int) : Int:=(w.map fun k => (arc l k.toNat).f2).sum
theorem sumW_bd {N : Nat} {l : List Arc} (hg : NetGood N l) : ∀ (w : List Int),(∀ k ∈ w,0 ≤ k ∧ k < l.length) → 0 ≤ sumW l w ∧ sumW l w ≤ 99 * (w.length : Int)
 | [],_ => by simp [sumW]
 | k :: w,h => by
  have ih:=sumW_bd hg w (fun x hx => h x (List.mem_cons_of_mem _ hx));have h1:=h k (List.mem_cons_self ..);have h2:=(hg.ok k.toNat (by omega)).2.2.2.1;have e : sumW l (k :: w) = (arc l k.toNat).f2 + sumW l w:=by simp [sumW]
  rw [e,List.length_cons];omega
def prv (w : List Int) : Nat → Option Int
 | 0 => none
 | i + 1 => some (nth w i)
theorem walkOk_l (n : Int) {l : List Arc} (hl : l.length ≤ 1000) {w : List Int} (hw : w.length ≤ 1000) : ∀ (m i : Nat),w.length - i = m → i ≤ w.length → (∀ q,prv w i = some q → 0 ≤ q ∧ q < l.length) → Ev (fun k => impl_WalkOk.l0 k w w (w.length : Int) (i : Int) n l) (wkB l (prv w i) (w.drop i)):=by
 intro m
 induction m with
 | zero =>
  intro i hd hi _;refine Ev.go ?_ (fun k => by rw [impl_WalkOk.l0]);rw [List.drop_of_length_le (by omega)];exact Ev.neg (by omega) (Ev.is (by cases prv w i <;> rfl))
 | succ m ih =>
  intro i hd hi hp;have hlt : i < w.length:=by omega
  refine Ev.go ?_ (fun k => by rw [impl_WalkOk.l0]);rw [rdg i,up1 hlt (by simp only [maxLen]; omega),drop_cons hlt,← nth_get hlt];refine Ev.pos (by omega) (Ev.pos (by omega) (Ev.pos (by omega) (Ev.bind0 (within1 _ _ _) ?_)));rw [w64 (n:=(l.length : Int) - 1) (by omega) (by omega)];cases hb : inB (nth w i) 0 ((l.length : Int) - 1) with
  | false => exact Ev.neg (by simp) (Ev.is (by simp [wkB,hb]))
  | true =>
   have hk:=inB_iff.1 hb;have ih:=ih (i + 1) (by omega) (by omega) (fun q hq => by obtain rfl:=Option.some.inj hq; omega);refine Ev.pos rfl ?_;cases i with
   | zero => exact Ev.neg (by omega) (ih.cast (by simp [wkB,hb,prv]))
   | succ j =>
    have hq:=hp (nth w j) rfl;have e : wrap64 (((j + 1 : Nat) : Int) - 1) = (j : Int):=by rw [w64 (by omega) (by omega)]; omega
    rw [e,rdg j];have ea : ∀ q : Int,0 ≤ q → rd_T58 l q = arc l q.toNat:=fun q h => by rw [← rda]; congr 1; omega
    rw [ea _ hq.1,ea _ hk.1];refine Ev.pos (by omega) (Ev.pos (by omega) (Ev.pos (by omega) (Ev.pos (by omega) (Ev.pos (by omega) (Ev.pos (by omega) (Ev.pos (by omega) ?_))))))
    by_cases c : (arc l (nth w j).toNat).f1 = (arc l (nth w (j + 1)).toNat).f0
    case neg => exact Ev.neg c (Ev.is (by simp [wkB,hb,prv,c]))
    exact Ev.pos c (ih.cast (by simp [wkB,hb,prv,c]))
theorem cost_l {N : Nat} {l : List Arc} (hg : NetGood N l) {w : List Int} (hw : w.length ≤ 1000) (hk : ∀ k ∈ w,0 ≤ k ∧ k < l.length) : ∀ (m i : Nat),w.length - i = m → i ≤ w.length → Ev (fun k => impl_Net_cost.l0 k (sumW l (w.take i)) w (w.length : Int) (i : Int) N l) (sumW l w):=by
 intro m
 induction m with
 | zero =>
  intro i hd hi;refine Ev.go ?_ (fun k => by rw [impl_Net_cost.l0]);rw [List.take_of_length_le (by omega)];exact Ev.neg (by omega) (Ev.now _)
 | succ m ih =>
  intro i hd hi;have hlt : i < w.length:=by omega
  have h1:=hk w[i] (List.getElem_mem hlt);have h2:=(hg.ok w[i].toNat (by omega)).2.2.2.1;have hb:=sumW_bd hg (w.take i) (fun k hx => hk k (List.mem_of_mem_take hx));rw [List.length_take] at hb;refine Ev.go ?_ (fun k => by rw [impl_Net_cost.l0]);have ih:=ih (i + 1) (by omega) (by omega);have e : sumW l (w.take (i + 1)) = sumW l (w.take i) + (arc l w[i].toNat).f2:=by
   unfold sumW
   rw [List.take_succ_eq_append_getElem hlt,List.map_append,List.sum_append_int,List.map_singleton,List.sum_singleton]
  rw [e] at ih;have ea : rd_T58 l w[i] = arc l w[i].toNat:=by rw [← rda]; congr 1; omega
  rw [rdg i,nth_get hlt,ea,up1 hlt (by simp only [maxLen]; omega),w64 (n:=sumW l (w.take i) + _) (by omega) (by omega)];exact Ev.pos (by omega) (Ev.pos (by omega) (Ev.pos (by omega) (Ev.pos (by omega) (Ev.pos (by omega) ih))))
theorem cost_ev {N : Nat} {l : List Arc} (hg : NetGood N l) {w : List Int} (hw : w.length ≤ 1000) (hk : ∀ k ∈ w,0 ≤ k ∧ k < l.length) : Ev (fun k => impl_Net_cost.f k N l w) (sumW l w):=by
 unfold impl_Net_cost.f
 simpa [sumW] using cost_l hg hw hk _ 0 rfl (Nat.zero_le _)
end Go.Proofs.Ytlhmljngjdfbpaa.Pure
end
section
set_option linter.unusedSimpArgs false
set_option linter.unusedVariables false
namespace Go.Proofs.Ytlhmljngjdfbpaa.Dd
def addZ (s : List Int) (x : Int) : List Int:=if x ∈ s then s else s ++ [x]
def dd (xs : List Int) : List Int:=xs.foldl addZ []
theorem addZ_mem {s : List Int} {x y : Int} : y ∈ addZ s x ↔ y ∈ s ∨ y = x:=by
 unfold addZ
 by_cases h : x ∈ s
 case neg =>
  rw [if_neg h];simp
 rw [if_pos h];exact ⟨Or.inl,fun e => e.elim id (fun e => by rw [e]; exact h)⟩
theorem addZ_nodup {s : List Int} {x : Int} (h : s.Nodup) : (addZ s x).Nodup:=by
 unfold addZ
 by_cases hx : x ∈ s
 case pos => rw [if_pos hx]; exact h
 rw [if_neg hx,List.nodup_append];exact ⟨h,by simp,fun a ha b hb e => hx (by rw [List.mem_singleton] at hb; rw [← hb,← e]; exact ha)⟩
theorem fold_nodup : ∀ (xs s : List Int),s.Nodup → (xs.foldl addZ s).Nodup
 | [],_,h => h
 | _ :: xs,s,h => fold_nodup xs _ (addZ_nodup h)
theorem fold_mem {y : Int} : ∀ (xs s : List Int),y ∈ xs.foldl addZ s ↔ y ∈ s ∨ y ∈ xs
 | [],_ => by simp
 | x :: xs,s => by
  rw [List.foldl_cons,fold_mem xs,addZ_mem,List.mem_cons];constructor
  ·rintro ((h | h) | h)
   ·exact .inl h
   ·exact .inr (.inl h)
   ·exact .inr (.inr h)
  ·rintro (h | h | h)
   ·exact .inl (.inl h)
   ·exact .inl (.inr h)
   ·exact .inr h
theorem dd_mem {xs : List Int} {y : Int} : y ∈ dd xs ↔ y ∈ xs:=by unfold dd; rw [fold_mem]; simp
theorem dd_nodup (xs : List Int) : (dd xs).Nodup:=fold_nodup xs [] List.nodup_nil
theorem dd_snoc (xs : List Int) (x : Int) : dd (xs ++ [x]) = addZ (dd xs) x:=by
 unfold dd
 rw [List.foldl_append];rfl
theorem sub_len : ∀ (a b : List Int),a.Nodup → (∀ x ∈ a,x ∈ b) → a.length ≤ b.length
 | [],b,_,_ => Nat.zero_le _
 | x :: a,b,hn,hs => by
  obtain ⟨h1,h2⟩:=List.nodup_cons.1 hn;have hx:=hs x (List.mem_cons_self ..);have ih:=sub_len a (b.erase x) h2 (fun y hy => (List.mem_erase_of_ne (fun e => h1 (by rw [← e]; exact hy))).2 (hs y (List.mem_cons_of_mem _ hy)));rw [List.length_erase_of_mem hx] at ih;have:=List.length_pos_of_mem hx;rw [List.length_cons];omega
end Go.Proofs.Ytlhmljngjdfbpaa.Dd
end
section
set_option linter.unusedSimpArgs false
set_option linter.unusedVariables false
namespace Go.Proofs.Ytlhmljngjdfbpaa.Dd
open Go.Lib
theorem compact_once (zs : List Int) (hs : zs.Pairwise (· ≤ ·)) : ∀ m,m ≤ zs.length → (compactUpTo zs.toArray m).Nodup ∧ ∀ x,x ∈ compactUpTo zs.toArray m ↔ x ∈ zs.take m
 | 0,_ => ⟨by simp [compactUpTo],by simp [compactUpTo]⟩
 | m + 1,hm => by
  obtain ⟨h1,h2⟩:=compact_once zs hs m (by omega);have hlt : m < zs.length:=hm;have e1 : zs.toArray[m]! = zs[m]:=by simp [getElem!_pos,hlt]
  have ht : ∀ x,x ∈ zs.take (m + 1) ↔ x ∈ zs.take m ∨ x = zs[m]:=fun x => by
   rw [List.take_succ_eq_append_getElem hlt,List.mem_append,List.mem_singleton]
  have hle : ∀ i (hi : i < zs.length) j (hj : j < zs.length),i < j → zs[i] ≤ zs[j]:=fun i hi j hj hij => List.pairwise_iff_getElem.1 hs i j hi hj hij
  rw [compactUpTo_succ,e1]
  by_cases hk : keeps zs.toArray m = true
  case neg =>
   rw [if_neg hk,List.append_nil];refine ⟨h1,fun x => ?_⟩;rw [h2,ht]
   unfold keeps at hk
   rw [decide_eq_true_eq,not_or,Classical.not_not] at hk;have e2 : zs.toArray[m - 1]! = zs[m - 1]:=by simp [getElem!_pos,show m - 1 < zs.length by omega]
   have e3:=hk.2;rw [e1,e2] at e3;refine ⟨Or.inl,fun h => h.elim id (fun e => ?_)⟩;rw [e,e3];have : m - 1 < (zs.take m).length:=by simp; omega
   have:=List.getElem_mem this
   rwa [List.getElem_take] at this
  rw [if_pos hk];have hn : zs[m] ∉ zs.take m:=by
   intro h;obtain ⟨i,hi,e⟩:=List.getElem_of_mem h;have hi2 : i < m:=by simp at hi; omega
   rw [List.getElem_take] at e
   unfold keeps at hk
   rw [decide_eq_true_eq] at hk
   rcases hk with hk | hk
   ·omega
   ·have e2 : zs.toArray[m - 1]! = zs[m - 1]:=by simp [getElem!_pos,show m - 1 < zs.length by omega]
    rw [e1,e2] at hk;have a1:=hle (m - 1) (by omega) m hlt (by omega)
    by_cases c : i = m - 1
    case pos => subst c; exact hk e.symm
    have a2:=hle i (by omega) (m - 1) (by omega) (by omega);omega
  refine ⟨?_,fun x => ?_⟩
  ·rw [List.nodup_append];exact ⟨h1,by simp,fun a ha b hb e => hn (by rw [List.mem_singleton] at hb; rw [← hb,← e]; exact (h2 a).1 ha)⟩
  ·rw [List.mem_append,List.mem_singleton,h2,ht]
theorem sorted_pw (x : List Int) : (x.mergeSort fun x y => decide (x ≤ y)).Pairwise (· ≤ ·):=by
 have:=List.pairwise_mergeSort (le:=fun x y : Int => decide (x ≤ y)) (fun a b c h1 h2 => by rw [decide_eq_true_eq] at *; omega) (fun a b => by
  rw [Bool.or_eq_true,decide_eq_true_eq,decide_eq_true_eq]; omega) x
 exact this.imp (fun h => by simpa using h)
theorem sum_same (f : Int → Int) : ∀ (a b : List Int),a.Nodup → b.Nodup → (∀ x,x ∈ a ↔ x ∈ b) → (a.map f).sum = (b.map f).sum
 | [],b,_,_,h => by
  have : b = []:=List.eq_nil_iff_forall_not_mem.2 (fun x hx => by have:=(h x).2 hx; simp at this);rw [this]
 | x :: a,b,hn,hb,h => by
  obtain ⟨h1,h2⟩:=List.nodup_cons.1 hn;have hx:=(h x).1 (List.mem_cons_self ..);obtain ⟨p,q,e⟩:=List.append_of_mem hx;subst e;have hb2:=List.nodup_append.1 hb;obtain ⟨hq1,hq2⟩:=List.nodup_cons.1 hb2.2.1;have hpx : x ∉ p:=fun hp => hb2.2.2 x hp x (List.mem_cons_self ..) rfl
  have ih:=sum_same f a (p ++ q) h2 (List.nodup_append.2 ⟨hb2.1,hq2,fun a ha b hb e => hb2.2.2 a ha b (List.mem_cons_of_mem _ hb) e⟩) (fun y => by
   have hy:=h y;rw [List.mem_cons,List.mem_append,List.mem_cons] at hy;rw [List.mem_append];constructor
   ·intro ha
    rcases hy.1 (.inr ha) with h | h | h
    ·exact .inl h
    ·subst h; exact absurd ha h1
    ·exact .inr h
   ·intro hm;have : y ≠ x:=fun e => by subst e; exact hm.elim hpx hq1
    rcases hy.2 (hm.elim .inl (fun h => .inr (.inr h))) with h | h
    ·exact absurd h this
    ·exact h)
  simp only [List.map_cons,List.sum_cons,List.map_append,List.sum_append] at ih ⊢;omega
end Go.Proofs.Ytlhmljngjdfbpaa.Dd
end
section
set_option linter.unusedSimpArgs false
set_option linter.unusedVariables false
namespace Go.Proofs.Ytlhmljngjdfbpaa.Pure
open Go.RowKit Go.Proofs.Ytlhmljngjdfbpaa.Pr Go.Proofs.YtlhmljngjdfbpaaW.PrintWords Go.Proofs.YtlhmljngjdfbpaaW.PrintLast Go.Proofs.YtlhmljngjdfbpaaW.PrintMore
open Go.Proofs.Ytlhmljngjdfbpaa.Dd (dd dd_mem dd_nodup addZ dd_snoc)
def costV (n : Int) (l : List Arc) (x : List Int) : Int:=if arcsB n l x = true then sumW l (dd x) else -1
theorem sumW_same (l : List Arc) {a b : List Int} (ha : a.Nodup) (hb : b.Nodup) (h : ∀ x,x ∈ a ↔ x ∈ b) : sumW l a = sumW l b:=Dd.sum_same _ a b ha hb h
theorem once_facts (x : List Int) : (sortedOnce x).Nodup ∧ ∀ y,y ∈ sortedOnce x ↔ y ∈ x:=by
 obtain ⟨h1,h2⟩:=Dd.compact_once (x.mergeSort fun x y => decide (x ≤ y)) (Dd.sorted_pw x) _ (Nat.le_refl _);refine ⟨h1,fun y => ?_⟩
 unfold sortedOnce
 rw [h2,List.take_length];exact (List.mergeSort_perm x _).mem_iff
theorem arcs_rng {n : Int} {l : List Arc} {x : List Int} (h : ∀ j,j < x.length → 0 ≤ nth x j ∧ nth x j < l.length) : ∀ k ∈ x,0 ≤ k ∧ k < l.length:=fun k hk => by
 obtain ⟨j,hj,rfl⟩:=mem_getD hk;exact h j hj
theorem implCost_ev (n : Int) (l : List Arc) (x : List Int) : Ev (fun k => impl_TreeCost.f k n l x) (costV n l x):=by
 unfold impl_TreeCost.f
 refine Ev.bind0 (show impl_arcsOk.f n l x = some (arcsB n l x) from rfl) ?_
 unfold costV
 cases h : arcsB n l x with
 | false => exact Ev.neg (by simp) (Ev.is (by simp))
 | true =>
  obtain ⟨hg,h16,hx⟩:=(arcsB_iff n l x).1 h;have hr:=arcs_rng (n:=n) hx;obtain ⟨N,rfl⟩ : ∃ N : Nat,n = (N : Int):=⟨n.toNat,by have:=hg.n1; omega⟩
  obtain ⟨o1,o2⟩:=once_facts x;have hl:=Dd.sub_len _ x o1 (fun y hy => (o2 y).1 hy);rw [if_pos rfl];refine Ev.pos rfl (Ev.pos (by omega) ((cost_ev hg (by omega) (fun k hk => hr k ((o2 k).1 hk))).cast ?_));exact sumW_same l o1 (dd_nodup x) (fun y => by rw [o2,dd_mem])
end Go.Proofs.Ytlhmljngjdfbpaa.Pure
end
section
set_option linter.unusedSectionVars false
namespace Go.Proofs.Ytlhmljngjdfbpaa.Pure
open Go.RowKit Go.Proofs.Ytlhmljngjdfbpaa.Pr Go.Proofs.YtlhmljngjdfbpaaW.PrintWords Go.Proofs.YtlhmljngjdfbpaaW.PrintLast Go.Proofs.YtlhmljngjdfbpaaW.PrintMore
section
variable {fr tw : Nat → Nat}
def LE (fr tw : Nat → Nat) (l : List Nat) (a b : Nat) : Prop:=∃ i,i ∈ l ∧ a = fr i ∧ b = tw i
abbrev Con (fr tw : Nat → Nat) (l : List Nat) (u v : Nat) : Prop:=Conn (LE fr tw l) u v
theorem Con.sub {l l' : List Nat} {u v : Nat} (h : Con fr tw l u v) (k : ∀ x,x ∈ l → x ∈ l') : Con fr tw l' u v :=
 h.mono (fun _ _ ⟨i,hi,e⟩ => ⟨i,k i hi,e⟩)
theorem Con.arc {l : List Nat} {k : Nat} (h : k ∈ l) : Con fr tw l (fr k) (tw k):=Conn.one (.inl ⟨k,h,rfl,rfl⟩)
theorem Con.via {l l' : List Nat} {u v : Nat} (h : Con fr tw l u v) (k : ∀ x,x ∈ l → Con fr tw l' (fr x) (tw x)) : Con fr tw l' u v:=by
 induction h with
 | refl => exact .refl _
 | tail _ e ih =>
  rcases e with ⟨i,hi,rfl,rfl⟩ | ⟨i,hi,rfl,rfl⟩
  ·exact ih.trans (k i hi)
  ·exact ih.trans (k i hi).symm
theorem con_add {l l' : List Nat} {e : Nat} (hl : ∀ x,x ∈ l' → x ∈ l ∨ x = e) {u v : Nat} (h : Con fr tw l' u v) : Con fr tw l u v ∨ (Con fr tw l u (fr e) ∧ Con fr tw l (tw e) v) ∨ (Con fr tw l u (tw e) ∧ Con fr tw l (fr e) v):=by
 induction h with
 | refl => exact .inl (.refl _)
 | @tail v w _ a ih =>
  have key : Con fr tw l v w ∨ (v = fr e ∧ w = tw e) ∨ (v = tw e ∧ w = fr e):=by
   rcases a with ⟨i,hi,rfl,rfl⟩ | ⟨i,hi,rfl,rfl⟩
   ·rcases hl i hi with h | rfl
    ·exact .inl (.arc h)
    ·exact .inr (.inl ⟨rfl,rfl⟩)
   ·rcases hl i hi with h | rfl
    ·exact .inl (Con.arc h).symm
    ·exact .inr (.inr ⟨rfl,rfl⟩)
  rcases key with k | ⟨rfl,rfl⟩ | ⟨rfl,rfl⟩
  ·rcases ih with h | ⟨h1,h2⟩ | ⟨h1,h2⟩
   ·exact .inl (h.trans k)
   ·exact .inr (.inl ⟨h1,h2.trans k⟩)
   ·exact .inr (.inr ⟨h1,h2.trans k⟩)
  ·rcases ih with h | ⟨h1,h2⟩ | ⟨h1,h2⟩
   ·exact .inr (.inl ⟨h,.refl _⟩)
   ·exact .inr (.inl ⟨h1,.refl _⟩)
   ·exact .inl h1
  ·rcases ih with h | ⟨h1,h2⟩ | ⟨h1,h2⟩
   ·exact .inr (.inr ⟨h,.refl _⟩)
   ·exact .inl h1
   ·exact .inr (.inr ⟨h1,.refl _⟩)
inductive Kru (fr tw : Nat → Nat) : List Nat → List Nat → List Nat → Prop
 | nil (o : List Nat) : Kru fr tw [] o o
 | skip {k : Nat} {ks o r : List Nat} : Con fr tw o (fr k) (tw k) → Kru fr tw ks o r → Kru fr tw (k :: ks) o r
 | take {k : Nat} {ks o r : List Nat} : ¬ Con fr tw o (fr k) (tw k) → Kru fr tw ks (o ++ [k]) r → Kru fr tw (k :: ks) o r
theorem Kru.ext {ks o r : List Nat} (h : Kru fr tw ks o r) : ∃ s,r = o ++ s ∧ ∀ x,x ∈ s → x ∈ ks:=by
 induction h with
 | nil => exact ⟨[],by simp,by simp⟩
 | skip _ _ ih =>
  obtain ⟨s,e,h⟩:=ih;exact ⟨s,e,fun x hx => List.mem_cons_of_mem _ (h x hx)⟩
 | @take k _ _ _ _ _ ih =>
  obtain ⟨s,e,h⟩:=ih;refine ⟨k :: s,by rw [e]; simp,fun x hx => ?_⟩
  rcases List.mem_cons.1 hx with rfl | hx
  ·simp
  ·exact List.mem_cons_of_mem _ (h x hx)
def Forest (fr tw : Nat → Nat) (r : List Nat) : Prop:=∀ p k q,r = p ++ k :: q → ¬ Con fr tw (p ++ q) (fr k) (tw k)
theorem forest_add {o : List Nat} {k : Nat} (h : Forest fr tw o) (hc : ¬ Con fr tw o (fr k) (tw k)) : Forest fr tw (o ++ [k]):=by
 intro p j q e
 by_cases hq : q = []
 case pos =>
  subst hq;have e1 : o = p ∧ k = j:=by
   have:=List.append_inj' e (by simp);exact ⟨this.1,by simpa using this.2⟩
  obtain ⟨rfl,rfl⟩:=e1
  simpa using hc
 obtain ⟨q',x,rfl⟩ : ∃ q' x,q = q' ++ [x]:=⟨q.dropLast,q.getLast hq,(List.dropLast_concat_getLast hq).symm⟩
 have e1 : o ++ [k] = (p ++ j :: q') ++ [x]:=by rw [e]; simp
 have e2:=List.append_inj' e1 (by simp);obtain rfl : k = x:=by simpa using e2.2
 have e3 : o = p ++ j :: q':=e2.1;have hf:=h p j q' e3;intro c;have up : ∀ {u v : Nat},Con fr tw (p ++ q') u v → Con fr tw o u v:=fun c => c.sub (fun x hx => by
  rw [e3]
  rcases List.mem_append.1 hx with h | h <;> simp [h])
 have hj : Con fr tw o (fr j) (tw j):=.arc (by rw [e3]; simp)
 rcases con_add (l:=p ++ q') (e:=k) (fun x hx => by
  rcases List.mem_append.1 hx with h | h
  ·exact .inl (by simp [h])
  ·rcases List.mem_append.1 h with h | h
   ·exact .inl (by simp [h])
   ·exact .inr (by simpa using h)) c with c | ⟨c1,c2⟩ | ⟨c1,c2⟩
 ·exact hf c
 ·exact hc (((up c1).symm.trans hj).trans (up c2).symm)
 ·exact hc (((up c2).trans hj.symm).trans (up c1))
theorem Kru.forest {ks o r : List Nat} (h : Kru fr tw ks o r) (hf : Forest fr tw o) : Forest fr tw r:=by
 induction h with
 | nil => exact hf
 | skip _ _ ih => exact ih hf
 | take c _ ih => exact ih (forest_add hf c)
theorem Kru.early {ks o r : List Nat} (h : Kru fr tw ks o r) : ∀ A k B p q,ks = A ++ k :: B → ks.Nodup → r = o ++ (p ++ k :: q) → k ∉ o → ∀ i,i ∈ A → Con fr tw (o ++ p) (fr i) (tw i):=by
 induction h with
 | nil => intro A k B p q e; simp at e
 | @skip x ks o r c h ih =>
  intro A k B p q e hn er hk i hi;cases A with
  | nil => simp at hi
  | cons a A =>
   simp only [List.cons_append,List.cons.injEq] at e;obtain ⟨rfl,e⟩:=e
   rcases List.mem_cons.1 hi with rfl | hi
   ·exact c.sub (fun y hy => by simp [hy])
   ·exact ih A k B p q e (List.nodup_cons.1 hn).2 er hk i hi
 | @take x ks o r c h ih =>
  intro A k B p q e hn er hk i hi;cases A with
  | nil => simp at hi
  | cons a A =>
   simp only [List.cons_append,List.cons.injEq] at e;obtain ⟨rfl,e⟩:=e;obtain ⟨s,e2,_⟩:=h.ext;have hxk : x ≠ k:=by
    rintro rfl;exact (List.nodup_cons.1 hn).1 (by rw [e]; simp)
   cases p with
   | nil =>
    rw [e2] at er;simp at er;exact absurd er.1 hxk
   | cons y p =>
    have er2:=er;rw [e2] at er2;simp at er2;obtain ⟨rfl,er3⟩:=er2
    rcases List.mem_cons.1 hi with rfl | hi
    ·exact .arc (by simp)
    ·have:=ih A k B p q e (List.nodup_cons.1 hn).2 (by rw [er]; simp) (by simp [hk,Ne.symm hxk]) i hi;exact this.sub (fun z hz => by simpa using hz)
theorem con_nil {u v : Nat} (h : Con fr tw [] u v) : u = v:=by
 induction h with
 | refl => rfl
 | tail _ e _ => rcases e with ⟨i,hi,_⟩ | ⟨i,hi,_⟩ <;> simp at hi
theorem Kru.nodup {ks o r : List Nat} (h : Kru fr tw ks o r) (hn : ks.Nodup) (ho : o.Nodup) (hd : ∀ x,x ∈ ks → x ∉ o) : r.Nodup:=by
 induction h with
 | nil => exact ho
 | skip _ _ ih => exact ih (List.nodup_cons.1 hn).2 ho (fun x hx => hd x (List.mem_cons_of_mem _ hx))
 | @take k ks o r _ _ ih =>
  refine ih (List.nodup_cons.1 hn).2 ?_ (fun x hx => ?_)
  ·rw [List.nodup_append];refine ⟨ho,by simp,fun a ha b hb => ?_⟩;rintro rfl;obtain rfl : a = k:=by simpa using hb
   exact hd a (by simp) ha
  ·intro hx2
   rcases List.mem_append.1 hx2 with h | h
   ·exact hd x (List.mem_cons_of_mem _ hx) h
   ·obtain rfl : x = k:=by simpa using h
    exact (List.nodup_cons.1 hn).1 hx
end
end Go.Proofs.Ytlhmljngjdfbpaa.Pure
end
section
set_option linter.unusedSimpArgs false
set_option linter.unusedVariables false
namespace Go.Proofs.Ytlhmljngjdfbpaa.Ins
section
variable {α : Type} {L : α → α → Prop}
theorem pw_uniq (irr : ∀ x,¬ L x x) (asy : ∀ x y,L x y → ¬ L y x) : ∀ (a b : List α),a.Pairwise L → b.Pairwise L → (∀ x,x ∈ a ↔ x ∈ b) → a = b
 | [],[],_,_,_ => rfl
 | [],y :: b,_,_,h => absurd ((h y).2 (List.mem_cons_self ..)) (by simp)
 | x :: a,[],_,_,h => absurd ((h x).1 (List.mem_cons_self ..)) (by simp)
 | x :: a,y :: b,ha,hb,h => by
  obtain ⟨ha1,ha2⟩:=List.pairwise_cons.1 ha;obtain ⟨hb1,hb2⟩:=List.pairwise_cons.1 hb;have e : x = y:=by
   rcases List.mem_cons.1 ((h x).1 (List.mem_cons_self ..)) with e | h1
   ·exact e
   ·rcases List.mem_cons.1 ((h y).2 (List.mem_cons_self ..)) with e | h2
    ·exact e.symm
    ·exact absurd (hb1 x h1) (asy _ _ (ha1 y h2))
  subst e
  congr 1
  refine pw_uniq irr asy a b ha2 hb2 (fun z => ⟨fun hz => ?_,fun hz => ?_⟩)
  ·rcases List.mem_cons.1 ((h z).1 (List.mem_cons_of_mem _ hz)) with e | h1
   ·subst e; exact absurd (ha1 z hz) (irr z)
   ·exact h1
  ·rcases List.mem_cons.1 ((h z).2 (List.mem_cons_of_mem _ hz)) with e | h1
   ·subst e; exact absurd (hb1 z hz) (irr z)
   ·exact h1
end
section
variable {α : Type} [Inhabited α] {lt : α → α → Bool}
theorem swp_list (d : Array α) (P R : List α) (x y : α) (h : d.toList = P ++ y :: x :: R) : (Go.Sort.swp d (P.length + 1) P.length).toList = P ++ x :: y :: R:=by
 have hs : d.size = P.length + (R.length + 2):=by rw [← Array.length_toList,h]; simp
 have e1 : d[P.length + 1]! = x:=by
  rw [getElem!_pos d (P.length + 1) (by omega),← Array.getElem_toList];simp [h]
 have e0 : d[P.length]! = y:=by
  rw [getElem!_pos d P.length (by omega),← Array.getElem_toList];simp [h]
 unfold Go.Sort.swp
 rw [e0,e1,Array.toList_setIfInBounds,Array.toList_setIfInBounds,h];rw [List.set_append_right _ _ (by omega),List.set_append_right _ _ (by omega)];simp
theorem insInner_list : ∀ (j : Nat) (d : Array α) (P R : List α) (x : α),P.length = j → d.toList = P ++ x :: R → ∃ A B,P = A ++ B ∧ (Go.Sort.insInner lt 0 j d).toList = A ++ x :: (B ++ R) ∧ (∀ b ∈ B,lt x b = true) ∧ (∀ A' a,A = A' ++ [a] → lt x a = false)
 | 0,d,P,R,x,hP,hd => by
  have : P = []:=List.length_eq_zero_iff.1 hP;subst this;exact ⟨[],[],rfl,by simpa [Go.Sort.insInner] using hd,by simp,by simp⟩
 | j + 1,d,P,R,x,hP,hd => by
  obtain ⟨P',y,rfl⟩ : ∃ P' y,P = P' ++ [y]:=by
   have hne : P ≠ []:=fun e => by rw [e] at hP; simp at hP
   exact ⟨P.dropLast,P.getLast hne,(List.dropLast_concat_getLast hne).symm⟩
  have hl : P'.length = j:=by simpa using hP
  have hd' : d.toList = P' ++ y :: x :: R:=by rw [hd]; simp
  have hs : d.size = P'.length + (R.length + 2):=by rw [← Array.length_toList,hd']; simp
  have e1 : d[j + 1]! = x:=by
   rw [getElem!_pos d (j + 1) (by omega),← Array.getElem_toList];simp [hd',← hl]
  have e0 : d[j]! = y:=by
   rw [getElem!_pos d j (by omega),← Array.getElem_toList];simp [hd',← hl]
  unfold Go.Sort.insInner
  rw [e0,e1];cases hlt : lt x y with
  | true =>
   rw [if_pos (by simp)];have hsw:=swp_list d P' R x y hd';rw [hl] at hsw;obtain ⟨A,B,h1,h2,h3,h4⟩:=insInner_list j (Go.Sort.swp d (j + 1) j) P' (y :: R) x hl hsw;refine ⟨A,B ++ [y],by rw [h1]; simp,by rw [h2]; simp,fun b hb => ?_,h4⟩
   rcases List.mem_append.1 hb with h | h
   ·exact h3 b h
   ·rw [List.mem_singleton.1 h]; exact hlt
  | false =>
   rw [if_neg (by simp)];refine ⟨P' ++ [y],[],by simp,by rw [hd]; simp,by simp,fun A' a e => ?_⟩;obtain ⟨_,e⟩:=List.append_inj' e rfl;injection e with e _
   rw [← e]; exact hlt
end
section
variable {key : Nat → Nat}
def Lk (key : Nat → Nat) (x y : Nat) : Prop:=key x < key y ∨ (key x = key y ∧ x < y)
theorem Lk.irr (x : Nat) : ¬ Lk key x x:=by unfold Lk; omega
theorem Lk.asy (x y : Nat) (h : Lk key x y) : ¬ Lk key y x:=by unfold Lk at h ⊢; omega
theorem put_in {A B : List Nat} {i : Nat} (hp : (A ++ B).Pairwise (Lk key)) (hi : ∀ x ∈ A ++ B,x < i) (hB : ∀ b ∈ B,key i < key b) (hA : ∀ A' a,A = A' ++ [a] → key a ≤ key i) : (A ++ i :: B).Pairwise (Lk key):=by
 have hA2 : ∀ a ∈ A,key a ≤ key i:=by
  intro a ha
  by_cases hne : A = []
  case pos => rw [hne] at ha; simp at ha
  have e:=List.dropLast_concat_getLast hne;have h1:=hA _ _ e.symm;rw [← e] at ha
  rcases List.mem_append.1 ha with h | h
  ·have hpa:=(List.pairwise_append.1 hp).1;rw [← e] at hpa;have:=(List.pairwise_append.1 hpa).2.2 a h _ (List.mem_singleton.2 rfl)
   unfold Lk at this
   omega
  ·rw [List.mem_singleton.1 h]; exact h1
 obtain ⟨h1,h2,h3⟩:=List.pairwise_append.1 hp;rw [List.pairwise_append];refine ⟨h1,List.pairwise_cons.2 ⟨fun b hb => .inl (hB b hb),h2⟩,fun a ha b hb => ?_⟩
 rcases List.mem_cons.1 hb with rfl | hb
 ·have:=hA2 a ha;have:=hi a (List.mem_append_left _ ha)
  unfold Lk
  omega
 ·exact h3 a ha b hb
end
section
variable {m : Nat} {lt : Fin (m + 1) → Fin (m + 1) → Bool} {key : Nat → Nat} (hlt : ∀ x y,lt x y = decide (key x.1 < key y.1))
include hlt
theorem outer_list : ∀ (s i : Nat) (d : Array (Fin (m + 1))) (S R : List (Fin (m + 1))),(m + 1) - i = s → i ≤ m + 1 → 0 < i → d.toList = S ++ R → S.length = i → (S.map fun x => x.1).Pairwise (Lk key) → (∀ x : Nat,x ∈ S.map (fun x => x.1) ↔ x < i) → R.map (fun x => x.1) = (List.range' i s) → ((Go.Sort.insOuter lt 0 (m + 1) i d).toList.map fun x => x.1).Pairwise (Lk key) ∧ ∀ x : Nat,x ∈ (Go.Sort.insOuter lt 0 (m + 1) i d).toList.map (fun x => x.1) ↔ x < m + 1:=by
 intro s
 induction s with
 | zero =>
  intro i d S R hs hi h0 hd hS hp hm hR;have : R = []:=by simpa using hR
  subst this;rw [Go.Sort.insOuter,if_neg (by omega),hd,List.append_nil];have : i = m + 1:=by omega
  subst this;exact ⟨hp,hm⟩
 | succ s ih =>
  intro i d S R hs hi h0 hd hS hp hm hR;rw [List.range'_succ] at hR;obtain ⟨x,R',rfl,hx,hR'⟩ : ∃ x R',R = x :: R' ∧ x.1 = i ∧ R'.map (fun x => x.1) = List.range' (i + 1) s:=by
   cases R with
   | nil => simp at hR
   | cons x R' => exact ⟨x,R',rfl,by simpa using (List.cons.inj hR).1,by simpa using (List.cons.inj hR).2⟩
  rw [Go.Sort.insOuter,if_pos (by omega)];obtain ⟨A,B,h1,h2,h3,h4⟩:=insInner_list (lt:=lt) i d S R' x hS hd;subst h1;refine ih (i + 1) _ (A ++ x :: B) R' (by omega) (by omega) (by omega) (by rw [h2]; simp) (by simp at hS ⊢; omega) ?_ ?_ hR'
  ·rw [List.map_append,List.map_cons,hx];rw [List.map_append] at hp hm;refine put_in hp (fun y hy => (hm y).1 hy) (fun b hb => ?_) (fun A' a e => ?_)
   ·obtain ⟨z,hz,rfl⟩:=List.mem_map.1 hb;have:=h3 z hz;rw [hlt,decide_eq_true_eq,hx] at this;exact this
   ·by_cases hne : A = []
    case pos => rw [hne] at e; simp at e
    have e2:=List.dropLast_concat_getLast hne;have h5:=h4 _ _ e2.symm;rw [hlt,decide_eq_false_iff_not,hx] at h5;rw [← e2,List.map_append] at e;obtain ⟨_,e⟩:=List.append_inj' e rfl;have e : (A.getLast hne).1 = a:=by simpa using e
    rw [← e];omega
  ·intro y;rw [List.map_append,List.map_cons,List.mem_append,List.mem_cons,hx];have:=hm y;rw [List.map_append,List.mem_append] at this;constructor
   ·rintro (h | h | h)
    ·have:=this.1 (.inl h); omega
    ·omega
    ·have:=this.1 (.inr h); omega
   ·intro h
    by_cases e : y = i
    case pos => exact .inr (.inl e)
    rcases this.2 (by omega) with h | h
    ·exact .inl h
    ·exact .inr (.inr h)
theorem sort_list : ((Go.Sort.insertionSort lt (Array.ofFn fun x : Fin (m + 1) => x) 0 (m + 1)).toList.map fun x => x.1).Pairwise (Lk key) ∧ ∀ x : Nat,x ∈ (Go.Sort.insertionSort lt (Array.ofFn fun x : Fin (m + 1) => x) 0 (m + 1)).toList.map (fun x => x.1) ↔ x < m + 1:=by
 have hd : (Array.ofFn fun x : Fin (m + 1) => x).toList = [⟨0,by omega⟩] ++ (List.ofFn fun x : Fin m => (⟨x.1 + 1,by omega⟩ : Fin (m + 1))):=by
  rw [Array.toList_ofFn,List.ofFn_succ];rfl
 refine outer_list hlt m 1 _ [⟨0,by omega⟩] (List.ofFn fun x : Fin m => (⟨x.1 + 1,by omega⟩ : Fin (m + 1))) (by omega) (by omega) (by omega) hd rfl (by simp) (fun x => by simp) ?_
 apply List.ext_getElem (by simp)
 intro i h1 h2;simp [List.getElem_range'];omega
end
end Go.Proofs.Ytlhmljngjdfbpaa.Ins
end
