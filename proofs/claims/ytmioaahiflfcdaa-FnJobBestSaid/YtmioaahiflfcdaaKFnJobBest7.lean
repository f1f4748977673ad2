/- For the statement FnJobBest of this seat: it is proved here, with no further conditions (part 8 of its texts: words, walks of the functions, the plain law, the row). -/
import Derived.RangeFuncFrom
import Derived.Shelf.SortM.SortNone
import Derived.Shelf.SortM.Plain
import Derived.Sort.OwnSortedInts
import Derived.Maps.AppendAt
import Derived.RangeFuncBox
import Derived.Laws.AppendOwn
import Derived.LoopIn
import Derived.TacticsInMore
import Derived.RegionIn
import Derived.OwnWalkIn
import Derived.ChangeArms
import Derived.ChangeSlices
import Derived.Deep.Slices
import Derived.WideShapes
import Derived.DataReads
import Derived.Test.YtmioaahiflfcdaaKFnJobBest6
section
namespace Go.Proofs.Ytmioaahiflfcdaa.Pr
open Go.RowKit Go.Proofs.YtmioaahiflfcdaaW.PrintWords Go.Proofs.YtmioaahiflfcdaaW.PrintLast Go.Proofs.YtmioaahiflfcdaaW.PrintMore
attribute [local go_sem] max2_int min2_int max_two min_two max_three min_three max_four min_four
set_option linter.unusedVariables false
set_option linter.unusedSimpArgs false
open List renaming setIfInBounds_toArray → Z,set_cons_zero → zx,set_cons_succ → zy
open Go.Proofs.YtmioaahiflfcdaaW.PrintWords.Aside0 renaming mk → zz
mutual
def spec_ManyAll.j0 : Nat → List Int → List Int → List (List Int) → Bool → Int → List (S80) → Option ((List (List Int)))
 | 0,_,_,_,_,_,_ => none
 | k + 1,x1,x2,x7,x27,p5,p6 => if x27 = true then (some ([] : List (List Int))) else (spec_ManyAll.l0 k x1 x2 x7 0 p5 p6)
def spec_ManyAll.l0 : Nat → List Int → List Int → List (List Int) → Int → Int → List (S80) → Option ((List (List Int)))
 | 0,_,_,_,_,_,_ => none
 | k + 1,x1,x2,x7,x8,p5,p6 => if x8 < (x1.length : Int) then (if 0 ≤ x8 then ((spec_l3All.f k p5 p6 (rd x1 x8)).bind fun t378 => (spec_ManyAll.l1 k x1 x2 x7 x8 t378 (([] : List Int)) 0 p5 p6)) else (none)) else (some x7)
def spec_ManyAll.l1 : Nat → List Int → List Int → List (List Int) → Int → List Int → List Int → Int → Int → List (S80) → Option ((List (List Int)))
 | 0,_,_,_,_,_,_,_,_,_ => none
 | k + 1,x1,x2,x7,x8,x9,x10,x11,p5,p6 => if x11 < (x2.length : Int) then (if 0 ≤ x11 then (if 0 ≤ (rd x2 x11) then (if (rd x2 x11) < (x9.length : Int) then (if x10.length < 17592186044416 then (spec_ManyAll.l1 k x1 x2 x7 x8 x9 (x10 ++ [rd x9 (rd x2 x11)]) (wrap64 (x11 + 1)) p5 p6) else (none)) else (none)) else (none)) else (none)) else (if x7.length < 5864062014805 then (spec_ManyAll.l0 k x1 x2 (x7 ++ [x10]) (wrap64 (x8 + 1)) p5 p6) else (none))
end
def spec_ManyAll.f (k : Nat) (a0_0 : Int) (l0_1 : List (S80)) (l1 : List Int) (l2 : List Int) : Option ((List (List Int))):=(some (([] : List (List Int)) : List (List Int))).bind fun y371 => ((spec_l1Ok.f k a0_0 l0_1).bind fun t374 => (if t374 = true then ((spec_l11Nodes.f k a0_0 l0_1 l1).bind fun t375 => (if t375 = true then ((spec_l11Nodes.f k a0_0 l0_1 l2).bind fun t376 => (spec_ManyAll.j0 k l1 l2 y371 (!t376) a0_0 l0_1)) else (spec_ManyAll.j0 k l1 l2 y371 true a0_0 l0_1))) else (spec_ManyAll.j0 k l1 l2 y371 true a0_0 l0_1)))
set_option maxHeartbeats 8000000 in
set_option maxRecDepth 100000 in
theorem spec_ManyAll.calls (k : Nat) (a0_0 : Int) (A0_1 : Option Addr) (c0_1 : Nat) (l0_1 : List (S80)) (A1 : Option Addr) (c1 : Nat) (l1 : List Int) (A2 : Option Addr) (c2 : Nat) (l2 : List Int) (r : List (List Int)) (w : World) (hr0_1 : Kd.C k80 w A0_1 l0_1.length l0_1) (hc0_1 : l0_1.length ≤ c0_1) (hr1 : Kd.C (Kd.int .i64) w A1 l1.length l1) (hc1 : l1.length ≤ c1) (hr2 : Kd.C (Kd.int .i64) w A2 l2.length l2) (hc2 : l2.length ≤ c2) (h : spec_ManyAll.f k a0_0 l0_1 l1 l2 = some r) :
  Calls Try.prog 37 #[.agg #[.int .i64 a0_0,.slice A0_1 l0_1.length c0_1],.slice A1 l1.length c1,.slice A2 l2.length c2] w fun e w' => ∃ v0_ : Value,e = .returned (v0_) ∧ Kd.S (Kd.slice 3 (Kd.int .i64)) 26 w' w.heap.size (fun _ => True) v0_ r ∧ Below w.heap.size w w':=by
 have hu25:=Try.underlying25;have q1:=zz hr0_1;have q2:=zz hc0_1;clear hr0_1 hc0_1;have HR1:=zz hr1;have HC1:=zz hc1;clear hr1 hc1;have HR2:=zz hr2;have HC2:=zz hc2;clear hr2 hc2;have HB:=zz (Below.refl w.heap.size w);have H : ((some (([] : List (List Int)) : List (List Int))).bind fun y371 => ((spec_l1Ok.f k a0_0 l0_1).bind fun t374 => (if t374 = true then ((spec_l11Nodes.f k a0_0 l0_1 l1).bind fun t375 => (if t375 = true then ((spec_l11Nodes.f k a0_0 l0_1 l2).bind fun t376 => (spec_ManyAll.j0 k l1 l2 y371 (!t376) a0_0 l0_1)) else (spec_ManyAll.j0 k l1 l2 y371 true a0_0 l0_1))) else (spec_ManyAll.j0 k l1 l2 y371 true a0_0 l0_1)))) = some r:=h;clear h;obtain ⟨y371,hy371⟩ : ∃ y_ : List (List Int),y_ = (([] : List (List Int))):=⟨_,rfl⟩
 replace H : ((spec_l1Ok.f k a0_0 l0_1).bind fun t374 => (if t374 = true then ((spec_l11Nodes.f k a0_0 l0_1 l1).bind fun t375 => (if t375 = true then ((spec_l11Nodes.f k a0_0 l0_1 l2).bind fun t376 => (spec_ManyAll.j0 k l1 l2 y371 (!t376) a0_0 l0_1)) else (spec_ManyAll.j0 k l1 l2 y371 true a0_0 l0_1))) else (spec_ManyAll.j0 k l1 l2 y371 true a0_0 l0_1))) = some r:=by first | (rw [hy371]; with_reducible exact H) | (have H2_:=(Option.bind_some _ _).symm.trans H; rw [hy371]; with_reducible exact H2_) | (have H2_:=(Option.bind_some _ _).symm.trans H; with_reducible exact H2_) | with_reducible exact H | (rw [hy371]; exact H) | exact H
 have Ny371:=zz hy371;clear hy371;have HC4:=zz H;clear H
 go_enter Try.func37,Try.ntmps37
 go_upto_region 2 with (first | ((with_reducible refine gate_dst (N:=3) rfl ?_); refine box_event ?hg (N:=3) ?hd (cs:=#[.int .i64 a0_0,.slice A0_1 l0_1.length c0_1]) (t:=25) ?hr ?_; (case hd => rfl); (case hg => rfl); (case hr => first | (go_simp; done) | (go_simp; rfl)); intro p1 hg w5 hbox hb; have n0_:=zz (below_step HB.out hb); have n1_:=zz (hbox); have n2_:=zz ((by rw [hg]; exact (below_size HB.out) : w.heap.size ≤ p1)); have n3_:=zz ((by rw [hg]; exact (below_size HB.out) : w.heap.size ≤ p1)); clear HB; have HB:=n0_; have p0:=n1_; have GW370:=n2_; have p9:=n3_; clear n0_ n1_ n2_ n3_; clear hb hbox hg) | ((with_reducible refine gate_dst (N:=12) rfl ?_); refine Kd.S_lit (Kd.slice 3 (Kd.int .i64)) _ 26 ?hg (N:=12) ?hd (xs:=([] : List (List Int))) (inner:=[]) (ok:=fun _ => True) (okp:=fun _ => True) ?hr ?hp (fun _ hk => hk) trivial (Below.refl _ _) (Nat.le_refl _) (by simp) ?_; (case hd => rfl); (case hg => rfl); (case hr => first | (go_simp; done) | (go_simp; rfl)); (case hp => exact (Reps.none _ _)); intro v372 w6 ho7 hb hg_ hnew_; clear hg_ hnew_; (first | rw [← Ny371.out] at ho7 | (simp only [Int.reduceToNat] at ho7; rw [← Ny371.out] at ho7)); have n0_:=zz (Kd.S_lower ho7 (below_size HB.out)); have n1_:=zz (blk_below (g:=p1) (o:=.cells #[.int .i64 a0_0,.slice A0_1 l0_1.length c0_1] 25 (0,0)) p0.out hb); have n2_:=zz (below_step HB.out hb); clear p0; clear HB; have HO373:=n0_; have p0:=n1_; have HB:=n2_; clear n0_ n1_ n2_; clear hb ho7))
 (try simp only [Act.put,Z,zx,zy])
 go_cut [27] (fun v27 wc => ∃ (kq : Nat) (t3 : Bool),v27 = .bool t3 ∧ Aside0 (spec_ManyAll.j0 kq l1 l2 y371 t3 a0_0 l0_1 = some r) ∧ Aside0 (kq ≤ k) ∧ Aside0 (Kd.S (Kd.slice 3 (Kd.int .i64)) 26 wc w.heap.size (fun _ => True) v372 y371) ∧ Aside0 (wc.heap[p1]? = some (.cells #[.int .i64 a0_0,(.slice A0_1 l0_1.length c0_1)] 25 (0,0))) ∧ Aside0 (Below w.heap.size w wc))
 case first =>
  have H:=HC4.out;clear HC4;replace H:=Option.bind_eq_some_iff.mp H;obtain ⟨t374,A80,H⟩:=H;replace H : (if t374 = true then ((spec_l11Nodes.f k a0_0 l0_1 l1).bind fun t375 => (if t375 = true then ((spec_l11Nodes.f k a0_0 l0_1 l2).bind fun t376 => (spec_ManyAll.j0 k l1 l2 y371 (!t376) a0_0 l0_1)) else (spec_ManyAll.j0 k l1 l2 y371 true a0_0 l0_1))) else (spec_ManyAll.j0 k l1 l2 y371 true a0_0 l0_1)) = some r:=H;have A8:=zz A80;clear A80
  by_cases c9 : t374 = true
  case neg =>
   replace c9:=Bool.eq_false_iff.mpr c9;subst c9;have H1 : (spec_ManyAll.j0 k l1 l2 y371 true a0_0 l0_1) = some r:=by rw [if_neg (show ¬ (false = true) by decide)] at H; exact H
   clear H;have H:=H1;clear H1;have H':=zz H;clear H;have s8 : w6.cell? ⟨p1,0,none⟩ = some (.int .i64 a0_0):=(blk_cell p0.out 0).trans rfl;have s9 : w6.cell? ⟨p1,1,none⟩ = some (.slice A0_1 l0_1.length c0_1):=(blk_cell p0.out 1).trans rfl;have t0:=blk_frozen p0.out 0;have t1:=blk_frozen p0.out 1
   go_wp2_with (first | ((with_reducible refine gate_callee (f:=58) rfl ?_); refine goesL_ (some 14) rfl rfl Try.func58 (by kernel_rfl) rfl #[.agg #[.int .i64 a0_0,.slice A0_1 l0_1.length c0_1]] rfl (by (try simp only [List.map_toArray,List.map_cons,List.map_nil]); first | done | rfl | (simp only [List.length_drop,List.length_take]; rfl)) ?_; (with_reducible refine (spec_l1Ok.calls k a0_0 _ _ l0_1 false _ ?side1 ?side2 A8.out).mono ?_); (case side1 => repeat (first | exact (Kd.C_below q1.out HB.out) | (with_reducible refine Kd.C_alloc ?_ _) | (with_reducible refine Kd.C_drewN ?_ _) | (with_reducible refine Kd.C_drew ?_))); (case side2 => exact q2.out); rintro e w24 ⟨rfl,hb⟩; refine ⟨_,rfl,?_⟩; have n0_:=zz (Kd.S_below HO373.out hb); have n1_:=zz (blk_below (g:=p1) (o:=.cells #[.int .i64 a0_0,.slice A0_1 l0_1.length c0_1] 25 (0,0)) p0.out hb); have n2_:=zz (below_step HB.out hb); clear HO373; clear p0; clear HB; have HO373:=n0_; have p0:=n1_; have HB:=n2_; clear n0_ n1_ n2_; (try clear hb); (try clear hb2); (try clear hk); (try clear hi)))
   go_meet
   case rel => exact ⟨_,(true),(by first | rfl | (simp; done) | (simp [*]; done)),H',⟨by first | omega | exact Nat.le_refl _⟩,⟨by (with_reducible repeat (first | apply Kd.S_alloc | apply Kd.S_drewN | apply Kd.S_drew)); exact HO373.out⟩,⟨by (with_reducible repeat (first | refine blk_drewN ?_ _ | refine blk_drew ?_ | refine blk_alloc ?_ _)); exact p0.out⟩,⟨by repeat (first | (with_reducible first | exact HB.out | apply below_alloc | apply pw_below_drewN | apply below_drew1 | refine below_set ?_ p9.out) | exact HB.out)⟩⟩
  subst c9;have H1 : ((spec_l11Nodes.f k a0_0 l0_1 l1).bind fun t375 => (if t375 = true then ((spec_l11Nodes.f k a0_0 l0_1 l2).bind fun t376 => (spec_ManyAll.j0 k l1 l2 y371 (!t376) a0_0 l0_1)) else (spec_ManyAll.j0 k l1 l2 y371 true a0_0 l0_1))) = some r:=by rw [if_pos rfl] at H; exact H
  clear H;have H:=H1;clear H1;replace H:=Option.bind_eq_some_iff.mp H;obtain ⟨t375,A100,H⟩:=H;replace H : (if t375 = true then ((spec_l11Nodes.f k a0_0 l0_1 l2).bind fun t376 => (spec_ManyAll.j0 k l1 l2 y371 (!t376) a0_0 l0_1)) else (spec_ManyAll.j0 k l1 l2 y371 true a0_0 l0_1)) = some r:=H;have A10:=zz A100;clear A100
  by_cases c11 : t375 = true
  case neg =>
   replace c11:=Bool.eq_false_iff.mpr c11;subst c11;have H1 : (spec_ManyAll.j0 k l1 l2 y371 true a0_0 l0_1) = some r:=by rw [if_neg (show ¬ (false = true) by decide)] at H; exact H
   clear H;have H:=H1;clear H1;have H':=zz H;clear H;have r7 : w6.cell? ⟨p1,0,none⟩ = some (.int .i64 a0_0):=(blk_cell p0.out 0).trans rfl;have r8 : w6.cell? ⟨p1,1,none⟩ = some (.slice A0_1 l0_1.length c0_1):=(blk_cell p0.out 1).trans rfl;have r9:=blk_frozen p0.out 0;have s3:=blk_frozen p0.out 1
   go_wp2_with (first | ((with_reducible refine gate_callee (f:=58) rfl ?_); refine goesL_ (some 14) rfl rfl Try.func58 (by kernel_rfl) rfl #[.agg #[.int .i64 a0_0,.slice A0_1 l0_1.length c0_1]] rfl (by (try simp only [List.map_toArray,List.map_cons,List.map_nil]); first | done | rfl | (simp only [List.length_drop,List.length_take]; rfl)) ?_; (with_reducible refine (spec_l1Ok.calls k a0_0 _ _ l0_1 true _ ?side1 ?side2 A8.out).mono ?_); (case side1 => repeat (first | exact (Kd.C_below q1.out HB.out) | (with_reducible refine Kd.C_alloc ?_ _) | (with_reducible refine Kd.C_drewN ?_ _) | (with_reducible refine Kd.C_drew ?_))); (case side2 => exact q2.out); rintro e w20 ⟨rfl,hb⟩; refine ⟨_,rfl,?_⟩; have n0_:=zz (Kd.S_below HO373.out hb); have n1_:=zz (blk_below (g:=p1) (o:=.cells #[.int .i64 a0_0,.slice A0_1 l0_1.length c0_1] 25 (0,0)) p0.out hb); have n2_:=zz (below_step HB.out hb); clear HO373; clear p0; clear HB; have HO373:=n0_; have p0:=n1_; have HB:=n2_; clear n0_ n1_ n2_; (try clear hb); (try clear hb2); (try clear hk); (try clear hi); have s4 : w20.cell? ⟨p1,0,none⟩ = some (.int .i64 a0_0):=(blk_cell p0.out 0).trans rfl; have s5 : w20.cell? ⟨p1,1,none⟩ = some (.slice A0_1 l0_1.length c0_1):=(blk_cell p0.out 1).trans rfl; have s6:=blk_frozen p0.out 0; have s7:=blk_frozen p0.out 1) | (go_at_call 62; (with_reducible refine (spec_l11Nodes.calls k a0_0 _ _ l0_1 _ _ l1 false _ ?side1 ?side2 ?side3 ?side4 A10.out).mono ?_); (case side1 => repeat (first | exact (Kd.C_below q1.out HB.out) | (with_reducible refine Kd.C_alloc ?_ _) | (with_reducible refine Kd.C_drewN ?_ _) | (with_reducible refine Kd.C_drew ?_))); (case side2 => exact q2.out); (case side3 => repeat (first | exact (Kd.C_below HR1.out HB.out) | (with_reducible refine Kd.C_alloc ?_ _) | (with_reducible refine Kd.C_drewN ?_ _) | (with_reducible refine Kd.C_drew ?_))); (case side4 => exact HC1.out); rintro e w22 ⟨rfl,hb⟩; have n0_:=zz (Kd.S_below HO373.out hb); have n1_:=zz (blk_below (g:=p1) (o:=.cells #[.int .i64 a0_0,.slice A0_1 l0_1.length c0_1] 25 (0,0)) p0.out hb); have n2_:=zz (below_step HB.out hb); clear HO373; clear p0; clear HB; have HO373:=n0_; have p0:=n1_; have HB:=n2_; clear n0_ n1_ n2_; (try clear hb); (try clear hb2); (try clear hk); (try clear hi)))
   go_meet
   case rel => exact ⟨_,(true),(by first | rfl | (simp; done) | (simp [*]; done)),H',⟨by first | omega | exact Nat.le_refl _⟩,⟨by (with_reducible repeat (first | apply Kd.S_alloc | apply Kd.S_drewN | apply Kd.S_drew)); exact HO373.out⟩,⟨by (with_reducible repeat (first | refine blk_drewN ?_ _ | refine blk_drew ?_ | refine blk_alloc ?_ _)); exact p0.out⟩,⟨by repeat (first | (with_reducible first | exact HB.out | apply below_alloc | apply pw_below_drewN | apply below_drew1 | refine below_set ?_ p9.out) | exact HB.out)⟩⟩
  subst c11;have H1 : ((spec_l11Nodes.f k a0_0 l0_1 l2).bind fun t376 => (spec_ManyAll.j0 k l1 l2 y371 (!t376) a0_0 l0_1)) = some r:=by rw [if_pos rfl] at H; exact H
  clear H;have H:=H1;clear H1;replace H:=Option.bind_eq_some_iff.mp H;obtain ⟨t376,A120,H⟩:=H;replace H : (spec_ManyAll.j0 k l1 l2 y371 (!t376) a0_0 l0_1) = some r:=H;have A12:=zz A120;clear A120;have H':=zz H;clear H;have q5 : w6.cell? ⟨p1,0,none⟩ = some (.int .i64 a0_0):=(blk_cell p0.out 0).trans rfl;have q6 : w6.cell? ⟨p1,1,none⟩ = some (.slice A0_1 l0_1.length c0_1):=(blk_cell p0.out 1).trans rfl;have q7:=blk_frozen p0.out 0;have q8:=blk_frozen p0.out 1
  go_wp2_with (first | ((with_reducible refine gate_callee (f:=58) rfl ?_); refine goesL_ (some 14) rfl rfl Try.func58 (by kernel_rfl) rfl #[.agg #[.int .i64 a0_0,.slice A0_1 l0_1.length c0_1]] rfl (by (try simp only [List.map_toArray,List.map_cons,List.map_nil]); first | done | rfl | (simp only [List.length_drop,List.length_take]; rfl)) ?_; (with_reducible refine (spec_l1Ok.calls k a0_0 _ _ l0_1 true _ ?side1 ?side2 A8.out).mono ?_); (case side1 => repeat (first | exact (Kd.C_below q1.out HB.out) | (with_reducible refine Kd.C_alloc ?_ _) | (with_reducible refine Kd.C_drewN ?_ _) | (with_reducible refine Kd.C_drew ?_))); (case side2 => exact q2.out); rintro e w14 ⟨rfl,hb⟩; refine ⟨_,rfl,?_⟩; have n0_:=zz (Kd.S_below HO373.out hb); have n1_:=zz (blk_below (g:=p1) (o:=.cells #[.int .i64 a0_0,.slice A0_1 l0_1.length c0_1] 25 (0,0)) p0.out hb); have n2_:=zz (below_step HB.out hb); clear HO373; clear p0; clear HB; have HO373:=n0_; have p0:=n1_; have HB:=n2_; clear n0_ n1_ n2_; (try clear hb); (try clear hb2); (try clear hk); (try clear hi); have q9 : w14.cell? ⟨p1,0,none⟩ = some (.int .i64 a0_0):=(blk_cell p0.out 0).trans rfl; have r0 : w14.cell? ⟨p1,1,none⟩ = some (.slice A0_1 l0_1.length c0_1):=(blk_cell p0.out 1).trans rfl; have r1:=blk_frozen p0.out 0; have r2:=blk_frozen p0.out 1) | (go_at_call 62; (with_reducible refine (spec_l11Nodes.calls k a0_0 _ _ l0_1 _ _ l1 true _ ?side1 ?side2 ?side3 ?side4 A10.out).mono ?_); (case side1 => repeat (first | exact (Kd.C_below q1.out HB.out) | (with_reducible refine Kd.C_alloc ?_ _) | (with_reducible refine Kd.C_drewN ?_ _) | (with_reducible refine Kd.C_drew ?_))); (case side2 => exact q2.out); (case side3 => repeat (first | exact (Kd.C_below HR1.out HB.out) | (with_reducible refine Kd.C_alloc ?_ _) | (with_reducible refine Kd.C_drewN ?_ _) | (with_reducible refine Kd.C_drew ?_))); (case side4 => exact HC1.out); rintro e w16 ⟨rfl,hb⟩; have n0_:=zz (Kd.S_below HO373.out hb); have n1_:=zz (blk_below (g:=p1) (o:=.cells #[.int .i64 a0_0,.slice A0_1 l0_1.length c0_1] 25 (0,0)) p0.out hb); have n2_:=zz (below_step HB.out hb); clear HO373; clear p0; clear HB; have HO373:=n0_; have p0:=n1_; have HB:=n2_; clear n0_ n1_ n2_; (try clear hb); (try clear hb2); (try clear hk); (try clear hi); have r3 : w16.cell? ⟨p1,0,none⟩ = some (.int .i64 a0_0):=(blk_cell p0.out 0).trans rfl; have r4 : w16.cell? ⟨p1,1,none⟩ = some (.slice A0_1 l0_1.length c0_1):=(blk_cell p0.out 1).trans rfl; have r5:=blk_frozen p0.out 0; have r6:=blk_frozen p0.out 1) | (go_at_call 62; (with_reducible refine (spec_l11Nodes.calls k a0_0 _ _ l0_1 _ _ l2 t376 _ ?side1 ?side2 ?side3 ?side4 A12.out).mono ?_); (case side1 => repeat (first | exact (Kd.C_below q1.out HB.out) | (with_reducible refine Kd.C_alloc ?_ _) | (with_reducible refine Kd.C_drewN ?_ _) | (with_reducible refine Kd.C_drew ?_))); (case side2 => exact q2.out); (case side3 => repeat (first | exact (Kd.C_below HR2.out HB.out) | (with_reducible refine Kd.C_alloc ?_ _) | (with_reducible refine Kd.C_drewN ?_ _) | (with_reducible refine Kd.C_drew ?_))); (case side4 => exact HC2.out); rintro e w18 ⟨rfl,hb⟩; have n0_:=zz (Kd.S_below HO373.out hb); have n1_:=zz (blk_below (g:=p1) (o:=.cells #[.int .i64 a0_0,.slice A0_1 l0_1.length c0_1] 25 (0,0)) p0.out hb); have n2_:=zz (below_step HB.out hb); clear HO373; clear p0; clear HB; have HO373:=n0_; have p0:=n1_; have HB:=n2_; clear n0_ n1_ n2_; (try clear hb); (try clear hb2); (try clear hk); (try clear hi)))
  go_meet
  case rel => exact ⟨_,(!t376),(by first | rfl | (simp; done) | (simp [*]; done)),H',⟨by first | omega | exact Nat.le_refl _⟩,⟨by (with_reducible repeat (first | apply Kd.S_alloc | apply Kd.S_drewN | apply Kd.S_drew)); exact HO373.out⟩,⟨by (with_reducible repeat (first | refine blk_drewN ?_ _ | refine blk_drew ?_ | refine blk_alloc ?_ _)); exact p0.out⟩,⟨by repeat (first | (with_reducible first | exact HB.out | apply below_alloc | apply pw_below_drewN | apply below_drew1 | refine below_set ?_ p9.out) | exact HB.out)⟩⟩
 case rest =>
  clear HC4
  try clear c1
  try clear c2
  try clear p2
  try clear c3
  try clear c5
  try clear c9
  try clear c11
  try clear q5
  try clear q6
  try clear q9
  try clear r0
  try clear r3
  try clear r4
  try clear r7
  try clear r8
  try clear s4
  try clear s5
  try clear s8
  try clear s9
  try clear q7
  try clear q8
  try clear r1
  try clear r2
  try clear r5
  try clear r6
  try clear r9
  try clear s3
  try clear s6
  try clear s7
  try clear t0
  try clear t1
  obtain ⟨kq,t3,rfl,HA,HJ3,HO_7,p0,HB⟩:=hcut;cases kq with
  | zero => exact absurd HA.out (by simp [spec_ManyAll.j0])
  | succ kj3 =>
   have H:=HA.out;clear HA;simp only [spec_ManyAll.j0] at H
   by_cases c25 : t3 = true
   case pos =>
    subst c25;have H1 : (some ([] : List (List Int))) = some r:=by rw [if_pos rfl] at H; exact H
    clear H;have H:=H1;clear H1;obtain rfl:=Option.some.inj H
    go_wp2
    go_ret;exact ⟨_,by first | rfl | (simp [errW_none,errW_some] <;> rfl) | (simp [*,errW_none,errW_some] <;> rfl),by first | exact Kd.S_nil _ _ _ _ _ | exact Kd.N_nil _ _ _ _ _ | exact Kd.V_nil _ _ _ _ _ | exact Kd.Q_nil _ _ _ _ _ | exact Kd.R_nil _ _ _ _ _,by repeat (first | (with_reducible first | exact HB.out | apply below_alloc | apply pw_below_drewN | apply below_drew1 | refine below_set ?_ p9.out) | exact HB.out)⟩
   replace c25:=Bool.eq_false_iff.mpr c25;subst c25;have H1 : (spec_ManyAll.l0 kj3 l1 l2 y371 0 a0_0 l0_1) = some r:=by rw [if_neg (show ¬ (false = true) by decide)] at H; exact H
   clear H;have H:=H1;clear H1;have H':=zz H;clear H
   go_wp2
   go_loopg [7,8] kj3 (fun kq v7 v8 w' => ∃ (x7_2 : List (List Int)) (x8_2 : Int),v8 = .int .i64 x8_2 ∧ Aside0 (spec_ManyAll.l0 kq l1 l2 x7_2 x8_2 a0_0 l0_1 = some r) ∧ Aside0 (kq ≤ kj3) ∧ Aside0 (Kd.S (Kd.slice 3 (Kd.int .i64)) 26 w' w.heap.size (fun _ => True) v7 x7_2) ∧ Aside0 (w'.heap[p1]? = some (.cells #[.int .i64 a0_0,(.slice A0_1 l0_1.length c0_1)] 25 (0,0))) ∧ Aside0 (Below w.heap.size w w'))
   case atStart => exact ⟨(y371),(0),(by first | rfl | (simp; done) | (simp [*]; done)),H',⟨Nat.le_refl _⟩,⟨by (with_reducible repeat (first | apply Kd.S_alloc | apply Kd.S_drewN | apply Kd.S_drew)); exact HO_7.out⟩,⟨by (with_reducible repeat (first | refine blk_drewN ?_ _ | refine blk_drew ?_ | refine blk_alloc ?_ _)); exact p0.out⟩,⟨by repeat (first | (with_reducible first | exact HB.out | apply below_alloc | apply pw_below_drewN | apply below_drew1 | refine below_set ?_ p9.out) | exact HB.out)⟩⟩
   case round =>
    clear H'
    try clear c1
    try clear c2
    try clear p2
    try clear c3
    try clear c5
    try clear c9
    try clear c11
    try clear c25
    try clear q5
    try clear q6
    try clear q9
    try clear r0
    try clear r3
    try clear r4
    try clear r7
    try clear r8
    try clear s4
    try clear s5
    try clear s8
    try clear s9
    try clear q7
    try clear q8
    try clear r1
    try clear r2
    try clear r5
    try clear r6
    try clear r9
    try clear s3
    try clear s6
    try clear s7
    try clear t0
    try clear t1
    try clear p2
    obtain ⟨x7_2,x8_2,rfl,HA,HK2,HO_7,p0,HB⟩:=hrel;cases gk with
    | zero => exact absurd HA.out (by simp [spec_ManyAll.l0])
    | succ k2 =>
     have H:=HA.out;clear HA;simp only [spec_ManyAll.l0] at H
     by_cases c26 : x8_2 < (l1.length : Int)
     case neg =>
      rw [if_neg c26] at H;have c26b0 : decide (x8_2 < (l1.length : Int)) = false:=decide_eq_false c26;clear c26;obtain rfl:=Option.some.inj H
      go_wp2
      go_ret;exact ⟨_,by first | rfl | (simp [errW_none,errW_some] <;> rfl) | (simp [*,errW_none,errW_some] <;> rfl),by (with_reducible repeat (first | apply Kd.S_alloc | apply Kd.S_drewN | apply Kd.S_drew)); exact HO_7.out,by repeat (first | (with_reducible first | exact HB.out | apply below_alloc | apply pw_below_drewN | apply below_drew1 | refine below_set ?_ p9.out) | exact HB.out)⟩
     rw [if_pos c26] at H;have c26b0 : decide (x8_2 < (l1.length : Int)) = true:=decide_eq_true c26;clear c26
     by_cases c27 : 0 ≤ x8_2
     case neg =>
      rw [if_neg c27] at H;exact absurd H (by simp)
     rw [if_pos c27] at H;have c27b0 : decide (0 ≤ x8_2) = true:=decide_eq_true c27;clear c27;replace H:=Option.bind_eq_some_iff.mp H;obtain ⟨t378,A280,H⟩:=H;replace H : (spec_ManyAll.l1 k2 l1 l2 x7_2 x8_2 t378 (([] : List Int)) 0 a0_0 l0_1) = some r:=H;have A28:=zz A280;clear A280;obtain ⟨y381,hy381⟩ : ∃ y_ : List Int,y_ = (([] : List Int)):=⟨_,rfl⟩
     replace H : (spec_ManyAll.l1 k2 l1 l2 x7_2 x8_2 t378 y381 0 a0_0 l0_1) = some r:=by first | (rw [hy381]; with_reducible exact H) | (have H2_:=(Option.bind_some _ _).symm.trans H; rw [hy381]; with_reducible exact H2_) | (have H2_:=(Option.bind_some _ _).symm.trans H; with_reducible exact H2_) | with_reducible exact H | (rw [hy381]; exact H) | exact H
     have Ny381:=zz hy381;clear hy381;have H':=zz H;clear H
     try go_wp2
     have n0_:=zz (Kd.S_drew HO_7.out);have n1_:=zz (blk_drew p0.out);have n2_:=zz (below_drew1 HB.out);clear HO_7;clear p0;clear HB;have HO_7:=n0_;have p0:=n1_;have HB:=n2_;clear n0_ n1_ n2_;have p377 : 0 ≤ (x8_2 : Int):=of_decide_eq_true (by first | (with_reducible assumption) | assumption);have q377 : x8_2 < (l1.length : Int):=of_decide_eq_true (by first | (with_reducible assumption) | assumption);obtain ⟨ad377,e377,p7⟩:=Kd.at_int HR1.out x8_2 p377 q377;have q0:=p7;cases e377;replace p7:=(HB.out.cell (World.block_lt_of_cell? w _ p7)).trans p7;replace p377:=eq_true p377;replace q377:=eq_true q377;refine start_ (n:=7) (S:=fun w' => w'.cell? ⟨p1,0,none⟩ = some (.int .i64 a0_0) ∧ w'.cell? ⟨p1,1,none⟩ = some (.slice A0_1 l0_1.length c0_1) ∧ w'.cell? (ad377.add (x8_2).toNat) = some (.int .i64 (rd l1 x8_2))) (ds:=[]) #[false,false,false,false,false,false,false] (by kernel_rfl) rfl rfl ⟨(blk_cell p0.out 0).trans rfl,(blk_cell p0.out 1).trans rfl,((HB.out.cell (World.block_lt_of_cell? w _ q0)).trans q0)⟩ (fun hHeld => ?_);generalize wr.drew = w29 at HO_7 p0 HB p7 hHeld ⊢;refine pure_ (i:=1) (N:=some 35) (v:=?_) (a':=?_) #[false,true,false,false,false,false,false] rfl rfl (by kernel_rfl) (fun _ _ _ h => h) (Or.inl ⟨by rfl,?_⟩) ?_ ?_;rotate_left
     ·intro w';go_simp;with_reducible rfl
     rotate_left
     ·simp only [Act.put,Z,zx,zy,i64_w,i32_w];rfl
     refine pure_ (i:=2) (N:=some 36) (v:=?_) (a':=?_) #[false,true,true,false,false,false,false] rfl rfl (by kernel_rfl) (fun _ _ _ h => h) (Or.inl ⟨by rfl,?_⟩) ?_ ?_;rotate_left
     ·intro w';go_simp;with_reducible rfl
     rotate_left
     ·simp only [Act.put,Z,zx,zy,i64_w,i32_w];rfl
     refine pure_ (i:=3) (N:=some 37) (v:=?_) (a':=?_) #[false,true,true,true,false,false,false] rfl rfl (by kernel_rfl) (fun _ _ _ h => h) (Or.inl ⟨by rfl,?_⟩) ?_ ?_;rotate_left
     ·intro w';go_simp;with_reducible rfl
     rotate_left
     ·simp only [Act.put,Z,zx,zy,i64_w,i32_w];rfl
     refine take_ (i:=0) (N:=some 34) (v:=?_) (a':=?_) #[true,true,true,true,false,false,false] rfl rfl (by kernel_rfl) (fun _ _ _ h => h) (Or.inl ⟨by rfl,?_⟩) hHeld ?_ ?_;rotate_left
     ·rintro w' ⟨s0,s1,s2⟩;go_simp;with_reducible rfl
     rotate_left
     ·simp only [Act.put,Z,zx,zy,i64_w,i32_w];rfl
     refine take_ (i:=4) (N:=some 38) (v:=?_) (a':=?_) #[true,true,true,true,true,false,false] rfl rfl (by kernel_rfl) (fun _ _ _ h => h) (Or.inl ⟨by rfl,?_⟩) hHeld ?_ ?_;rotate_left
     ·rintro w' ⟨s0,s1,s2⟩;go_simp;with_reducible rfl
     rotate_left
     ·simp only [Act.put,Z,zx,zy,i64_w,i32_w];rfl
     refine one_ (i:=5) (N:=some 39) #[true,true,true,true,true,true,false] rfl rfl (by kernel_rfl) (by decide) (fun K hK => ?_);refine goes_ Try.func63 (by kernel_rfl) rfl #[.agg #[.int .i64 a0_0,.slice A0_1 l0_1.length c0_1],.int .i64 (rd l1 x8_2)] (by rfl) rfl rfl (by (try simp only [List.map_toArray,List.map_cons,List.map_nil]); first | done | rfl | (simp only [List.length_drop,List.length_take]; rfl)) ?_;with_reducible refine (spec_l3All.calls k2 a0_0 _ _ l0_1 (rd l1 x8_2) t378 _ ?side1 ?side2 A28.out).mono ?_
     (case side1 => repeat (first | exact (Kd.C_below q1.out HB.out) | (with_reducible refine Kd.C_alloc ?_ _) | (with_reducible refine Kd.C_drewN ?_ _) | (with_reducible refine Kd.C_drew ?_)))
     (case side2 => exact q2.out)
     rintro e w30 ⟨v379,rfl,ho0,hb⟩;refine ⟨_,rfl,?_⟩;have n0_:=zz (Kd.S_elder' HO_7.out (Kd.R_base ho0) hb);have n1_:=zz (Kd.R_lower ho0 (below_size HB.out));have n2_:=zz (blk_below (g:=p1) (o:=.cells #[.int .i64 a0_0,.slice A0_1 l0_1.length c0_1] 25 (0,0)) p0.out hb);have n3_:=zz (below_step HB.out hb);clear HO_7;clear p0;clear HB;have HO_7:=n0_;have HO380:=n1_;have p0:=n2_;have HB:=n3_;clear n0_ n1_ n2_ n3_
     (try clear hb)
     (try clear hb2)
     (try clear hk)
     (try clear hi)
     (try clear ho0)
     refine hK.out _ _ ⟨(blk_cell p0.out 0).trans rfl,(blk_cell p0.out 1).trans rfl,((HB.out.cell (World.block_lt_of_cell? w _ q0)).trans q0)⟩ (fun hHeld => ?_);clear hK K;refine norm_ (a':=?_) ?_ ?_;rotate_left
     ·show Act.put _ (some 39) _ = _
      simp only [Act.put,Z,zx,zy,i64_w,i32_w];rfl
     refine pure_ (i:=6) (N:=some 9) (v:=?_) (a':=?_) #[true,true,true,true,true,true,true] rfl rfl (by kernel_rfl) (fun _ _ _ h => h) (Or.inl ⟨by rfl,?_⟩) ?_ ?_;rotate_left
     ·intro w';go_simp;with_reducible rfl
     rotate_left
     ·simp only [Act.put,Z,zx,zy,i64_w,i32_w];rfl
     refine done_ (by kernel_rfl) ?_
     try go_wp2_with (first | ((with_reducible refine gate_dst (N:=40) rfl ?_); refine Kd.R_lit (Kd.int .i64) _ 3 ?hg (N:=40) ?hd (xs:=([] : List Int)) (inner:=[]) (ok:=fun _ => True) (okp:=fun _ => True) ?hr ?hp (fun _ hk => hk) trivial (Below.refl _ _) (Nat.le_refl _) (by simp) ?_; (case hd => rfl); (case hg => rfl); (case hr => first | (go_simp; done) | (go_simp; rfl)); (case hp => exact (Reps.none _ _)); intro v382 w31 ho32 hb hg_ hnew_; clear hg_ hnew_; (first | rw [← Ny381.out] at ho32 | (simp only [Int.reduceToNat] at ho32; rw [← Ny381.out] at ho32)); have n0_:=zz (Kd.S_elder' HO_7.out (Kd.R_base ho32) hb); have n1_:=zz (Kd.R_elder' HO380.out (Kd.R_base ho32) hb); have n2_:=zz (Kd.R_lower (Kd.R_new' ho32 (Kd.R_lt HO380.out)) (below_size HB.out)); have n3_:=zz (blk_below (g:=p1) (o:=.cells #[.int .i64 a0_0,.slice A0_1 l0_1.length c0_1] 25 (0,0)) p0.out hb); have n4_:=zz (below_step HB.out hb); clear HO_7; clear HO380; clear p0; clear HB; have HO_7:=n0_; have HO380:=n1_; have HO383:=n2_; have p0:=n3_; have HB:=n4_; clear n0_ n1_ n2_ n3_ n4_; clear hb ho32))
     go_loopg [10,11] k2 (fun kq v10 v11 w' => ∃ (p8 : List Int) (p4 : Int),v11 = .int .i64 p4 ∧ Aside0 (spec_ManyAll.l1 kq l1 l2 x7_2 x8_2 t378 p8 p4 a0_0 l0_1 = some r) ∧ Aside0 (kq ≤ k2) ∧ Aside0 (Kd.S (Kd.slice 3 (Kd.int .i64)) 26 w' w.heap.size (fun k_ => some k_ ≠ (v379 : Value).ownBlock ∧ some k_ ≠ (v10 : Value).ownBlock) u7 x7_2) ∧ Aside0 (Kd.R (Kd.int .i64) 3 w' w.heap.size (fun k_ => some k_ ≠ (v10 : Value).ownBlock) v379 t378) ∧ Aside0 (Kd.R (Kd.int .i64) 3 w' w.heap.size (fun k_ => some k_ ≠ (v379 : Value).ownBlock) v10 p8) ∧ Aside0 (w'.heap[p1]? = some (.cells #[.int .i64 a0_0,(.slice A0_1 l0_1.length c0_1)] 25 (0,0))) ∧ Aside0 (Below w.heap.size w w'))
     case atStart => exact ⟨(y381),(0),(by first | rfl | (simp; done) | (simp [*]; done)),H',⟨Nat.le_refl _⟩,⟨by (with_reducible repeat (first | apply Kd.S_alloc | apply Kd.S_drewN | apply Kd.S_drew)); exact Kd.S_mono HO_7.out (fun _ hk => ⟨hk.1.2,hk.2⟩)⟩,⟨by (with_reducible repeat (first | apply Kd.R_alloc | apply Kd.R_drewN | apply Kd.R_drew)); exact Kd.R_mono HO380.out (fun _ hk => hk.2)⟩,⟨by (with_reducible repeat (first | apply Kd.R_alloc | apply Kd.R_drewN | apply Kd.R_drew)); exact Kd.R_mono HO383.out (fun _ hk => hk.2)⟩,⟨by (with_reducible repeat (first | refine blk_drewN ?_ _ | refine blk_drew ?_ | refine blk_alloc ?_ _)); exact p0.out⟩,⟨by repeat (first | (with_reducible first | exact HB.out | apply below_alloc | apply pw_below_drewN | apply below_drew1 | refine below_set ?_ p9.out) | exact HB.out)⟩⟩
     case round =>
      clear H'
      try clear c1
      try clear c2
      try clear p2
      try clear c3
      try clear p3
      try clear q3
      try clear hx3
      try clear c5
      try clear c6
      try clear c9
      try clear c11
      try clear c25
      try clear c26
      try clear c26b0
      try clear c27
      try clear c27b0
      try clear q5
      try clear q6
      try clear q9
      try clear r0
      try clear r3
      try clear r4
      try clear r7
      try clear r8
      try clear s4
      try clear s5
      try clear s8
      try clear s9
      try clear q7
      try clear q8
      try clear r1
      try clear r2
      try clear r5
      try clear r6
      try clear r9
      try clear s3
      try clear s6
      try clear s7
      try clear t0
      try clear t1
      try clear p7
      try clear p2
      try clear p377
      try clear q377
      obtain ⟨p8,p4,rfl,HA,HK3,HO_7,HO_9,q4,p0,HB⟩:=hrel;cases gk with
      | zero => exact absurd HA.out (by simp [spec_ManyAll.l1])
      | succ k3 =>
       have H:=HA.out;clear HA;simp only [spec_ManyAll.l1] at H
       by_cases c33 : p4 < (l2.length : Int)
       case neg =>
        rw [if_neg c33] at H;have c33b0 : decide (p4 < (l2.length : Int)) = false:=decide_eq_false c33;clear c33
        by_cases c40 : x7_2.length < 5864062014805
        case neg =>
         rw [if_neg c40] at H;exact absurd H (by simp)
        rw [if_pos c40] at H;have LMc40:=zz c40;clear c40;obtain ⟨y389,hy389⟩ : ∃ y_ : List (List Int),y_ = (x7_2 ++ [p8]):=⟨_,rfl⟩
        replace H : (spec_ManyAll.l0 k3 l1 l2 y389 (wrap64 (x8_2 + 1)) a0_0 l0_1) = some r:=by first | (rw [hy389]; with_reducible exact H) | (have H2_:=(Option.bind_some _ _).symm.trans H; rw [hy389]; with_reducible exact H2_) | (have H2_:=(Option.bind_some _ _).symm.trans H; with_reducible exact H2_) | with_reducible exact H | (rw [hy389]; exact H) | exact H
        have Ny389:=zz hy389;clear hy389;have H':=zz H;clear H;obtain ⟨Ao42,co42,eo42⟩:=Kd.R_slice q4.out;subst eo42
        go_wp2_with (first | ((with_reducible refine gate_builtin (b:=.append) (xs:=#[.tmp 57,.tmp 59]) rfl ?_); at_builtin; refine Kd.S_append (Kd.slice 3 (Kd.int .i64)) (w0:=w) w.heap.size rfl (.tmp 57) (.tmp 59) 56 26 (.slice none 0 0) 24 rfl Try.underlying56 info26 rfl (by decide) (by omega) u7 x7_2 p8 [.slice Ao42 p8.length co42] (fun k_ => some k_ ≠ (v379 : Value).ownBlock) (fun k_ => some k_ = (.slice Ao42 p8.length co42 : Value).ownBlock) rfl rfl ?aP (fun k_ hk_ => ((Kd.R_mono (ok':=fun k_ => ((fun k_ => some k_ ≠ (v379 : Value).ownBlock)) k_ ∧ some k_ ≠ (u7 : Value).ownBlock) (Kd.R_apart' (q4.out) (Kd.S_typed HO_7.out) (by decide)) (fun k_ hk => ⟨hk.1,hk.2⟩))).1 k_ hk_.symm) ?aF ?aO ?aB ?aS ?aL ?_; (case aP => exact Kd.M_row (Kd.R_mono (Kd.R_tight rfl (Kd.R_mono (ok':=fun k_ => ((fun k_ => some k_ ≠ (v379 : Value).ownBlock)) k_ ∧ some k_ ≠ (u7 : Value).ownBlock) (Kd.R_apart' (q4.out) (Kd.S_typed HO_7.out) (by decide)) (fun k_ hk => ⟨hk.1,hk.2⟩))) (fun _ h_ => h_))); (case aB => exact HB.out); (case aF => exact (fun k_ hk => Kd.fresh' (Kd.R_lt HO_9.out) k_ hk)); (case aO => exact (by (with_reducible repeat (first | apply Kd.S_alloc | apply Kd.S_drewN | apply Kd.S_drew)); exact Kd.S_mono HO_7.out (fun k_ hk => ⟨hk.1,fun e_ => hk.2 e_⟩))); (case aS => exact (below_size HB.out)); (case aL => have:=LMc40.out; omega); intro v390 w41 ho hb hg hat; rw [← Ny389.out] at ho; have n0_:=zz (Kd.R_over' HO_9.out (Kd.S_typed HO_7.out) (by decide) hg); have n1_:=zz (blk_grown (g:=p1) (o:=.cells #[.int .i64 a0_0,.slice A0_1 l0_1.length c0_1] 25 (0,0)) p0.out hg (Kd.S_ne HO_7.out p0.out (by decide))); have n2_:=zz (hb); have n3_:=zz (ho); clear HO_9; clear p0; clear HB; clear HO_7; clear q4; have HO_9:=n0_; have p0:=n1_; have HB:=n2_; have HO391:=n3_; clear n0_ n1_ n2_ n3_; clear ho hb hg hat))
        go_roundg k3
        case measure => have:=HJ3.out; have:=HK2.out; have:=HK3.out; omega
        case rel => exact ⟨(y389),(wrap64 (x8_2 + 1)),(by first | rfl | (simp; done) | (simp [*]; done)),H',⟨by have:=HJ3.out; have:=HK2.out; have:=HK3.out; omega⟩,⟨by (with_reducible repeat (first | apply Kd.S_alloc | apply Kd.S_drewN | apply Kd.S_drew)); exact Kd.S_mono HO391.out (fun _ hk => trivial)⟩,⟨by (with_reducible repeat (first | refine blk_drewN ?_ _ | refine blk_drew ?_ | refine blk_alloc ?_ _)); exact p0.out⟩,⟨by repeat (first | (with_reducible first | exact HB.out | apply below_alloc | apply pw_below_drewN | apply below_drew1 | refine below_set ?_ p9.out) | exact HB.out)⟩⟩
       rw [if_pos c33] at H;have c33b0 : decide (p4 < (l2.length : Int)) = true:=decide_eq_true c33;clear c33
       by_cases c34 : 0 ≤ p4
       case neg =>
        rw [if_neg c34] at H;exact absurd H (by simp)
       rw [if_pos c34] at H;have c34b0 : decide (0 ≤ p4) = true:=decide_eq_true c34;clear c34
       by_cases c35 : 0 ≤ (rd l2 p4)
       case neg =>
        rw [if_neg c35] at H;exact absurd H (by simp)
       rw [if_pos c35] at H;have c35b0 : decide (0 ≤ (rd l2 p4)) = true:=decide_eq_true c35;clear c35
       by_cases c36 : (rd l2 p4) < (t378.length : Int)
       case neg =>
        rw [if_neg c36] at H;exact absurd H (by simp)
       rw [if_pos c36] at H;have c36b0 : decide ((rd l2 p4) < (t378.length : Int)) = true:=decide_eq_true c36;clear c36
       by_cases c37 : p8.length < 17592186044416
       case neg =>
        rw [if_neg c37] at H;exact absurd H (by simp)
       rw [if_pos c37] at H;have LMc37:=zz c37;clear c37;obtain ⟨y386,hy386⟩ : ∃ y_ : List Int,y_ = (p8 ++ [rd t378 (rd l2 p4)]):=⟨_,rfl⟩
       replace H : (spec_ManyAll.l1 k3 l1 l2 x7_2 x8_2 t378 y386 (wrap64 (p4 + 1)) a0_0 l0_1) = some r:=by first | (rw [hy386]; with_reducible exact H) | (have H2_:=(Option.bind_some _ _).symm.trans H; rw [hy386]; with_reducible exact H2_) | (have H2_:=(Option.bind_some _ _).symm.trans H; with_reducible exact H2_) | with_reducible exact H | (rw [hy386]; exact H) | exact H
       have Ny386:=zz hy386;clear hy386;have H':=zz H;clear H;have p384 : 0 ≤ (p4 : Int):=of_decide_eq_true (by first | (with_reducible assumption) | assumption);have q384 : p4 < (l2.length : Int):=of_decide_eq_true (by first | (with_reducible assumption) | assumption);obtain ⟨ad384,e384,t2⟩:=Kd.at_int HR2.out p4 p384 q384;cases e384;replace t2:=(HB.out.cell (World.block_lt_of_cell? w _ t2)).trans t2;replace p384:=eq_true p384;replace q384:=eq_true q384;obtain ⟨Ao38,co38,eo38⟩:=Kd.R_slice HO_9.out;subst eo38;have p385 : 0 ≤ ((rd l2 p4) : Int):=of_decide_eq_true (by first | (with_reducible assumption) | assumption);have q385 : (rd l2 p4) < (t378.length : Int):=of_decide_eq_true (by first | (with_reducible assumption) | assumption);obtain ⟨ad385,e385,hx385_0⟩:=Kd.at_int (Kd.R_reads' HO_9.out).2.2 (rd l2 p4) p385 q385;cases e385;replace p385:=eq_true p385;replace q385:=eq_true q385
       go_wp2_with (first | ((with_reducible refine gate_builtin (b:=.append) (xs:=#[.tmp 47,.tmp 55]) rfl ?_); at_builtin; refine Kd.R_append (Kd.int .i64) (w0:=w) w.heap.size rfl (.tmp 47) (.tmp 55) 26 3 (.int .i64 0) 8 rfl Try.underlying26 info3 rfl (by decide) (by omega) u10 p8 (rd t378 (rd l2 p4)) [.int .i64 (rd t378 (rd l2 p4))] (fun k_ => some k_ ≠ (.slice (some ad385) t378.length co38 : Value).ownBlock) (fun _ => False) rfl rfl ?aP (fun _ hk => hk.elim) ?aF ?aO ?aB ?aS ?aL ?_; (case aP => exact rfl); (case aB => exact HB.out); (case aF => exact (fun k_ hk => Kd.fresh' (Kd.R_lt HO_9.out) k_ hk)); (case aO => exact q4.out); (case aS => exact (below_size HB.out)); (case aL => have:=LMc37.out; omega); intro v387 w39 ho hb hg hat; rw [← Ny386.out] at ho; have n0_:=zz (Kd.S_after (ok:=(fun k_ => some k_ ≠ (.slice (some ad385) t378.length co38 : Value).ownBlock)) HO_7.out hg hat); have n1_:=zz (Kd.R_after (ok:=(fun _ => True)) (Kd.R_mono HO_9.out (fun _ hk => ⟨trivial,hk⟩)) hg hat); have n2_:=zz (blk_grown (g:=p1) (o:=.cells #[.int .i64 a0_0,.slice A0_1 l0_1.length c0_1] 25 (0,0)) p0.out hg (Kd.R_ne q4.out p0.out (by decide))); have n3_:=zz (hb); have n4_:=zz (ho); clear HO_7; clear HO_9; clear p0; clear HB; clear q4; have HO_7:=n0_; have HO_9:=n1_; have p0:=n2_; have HB:=n3_; have HO388:=n4_; clear n0_ n1_ n2_ n3_ n4_; clear ho hb hg hat))
       go_roundg k3
       case measure => have:=HJ3.out; have:=HK2.out; have:=HK3.out; omega
       case rel => exact ⟨(y386),(wrap64 (p4 + 1)),(by first | rfl | (simp; done) | (simp [*]; done)),H',⟨by have:=HJ3.out; have:=HK2.out; have:=HK3.out; omega⟩,⟨by (with_reducible repeat (first | apply Kd.S_alloc | apply Kd.S_drewN | apply Kd.S_drew)); exact HO_7.out⟩,⟨by (with_reducible repeat (first | apply Kd.R_alloc | apply Kd.R_drewN | apply Kd.R_drew)); exact Kd.R_mono HO_9.out (fun _ hk => hk.2)⟩,⟨by (with_reducible repeat (first | apply Kd.R_alloc | apply Kd.R_drewN | apply Kd.R_drew)); exact HO388.out⟩,⟨by (with_reducible repeat (first | refine blk_drewN ?_ _ | refine blk_drew ?_ | refine blk_alloc ?_ _)); exact p0.out⟩,⟨by repeat (first | (with_reducible first | exact HB.out | apply below_alloc | apply pw_below_drewN | apply below_drew1 | refine below_set ?_ p9.out) | exact HB.out)⟩⟩
def spec_JobBest.f (k : Nat) (a0_0 : Int) (l0_1 : List (S80)) (l1 : List Int) (l2 : List Int) : Option (List Int × Int):=(spec_l27Ok.f k a0_0 l0_1 l1 l2).bind fun t393 => (if t393 = true then ((spec_ManyAll.f k a0_0 l0_1 l1 l2).bind fun t394 => ((spec_l27Try.f k t394 ([] : List Int) ([] : List Int) 99999).bind fun bt397 => (some (bt397.1,bt397.2)))) else (some (([] : List Int),(-1))))
set_option maxHeartbeats 8000000 in
set_option maxRecDepth 100000 in
theorem spec_JobBest.calls (k : Nat) (a0_0 : Int) (A0_1 : Option Addr) (c0_1 : Nat) (l0_1 : List (S80)) (A1 : Option Addr) (c1 : Nat) (l1 : List Int) (A2 : Option Addr) (c2 : Nat) (l2 : List Int) (r1 : List Int) (r2 : Int) (w : World) (hr0_1 : Kd.C k80 w A0_1 l0_1.length l0_1) (hc0_1 : l0_1.length ≤ c0_1) (hr1 : Kd.C (Kd.int .i64) w A1 l1.length l1) (hc1 : l1.length ≤ c1) (hr2 : Kd.C (Kd.int .i64) w A2 l2.length l2) (hc2 : l2.length ≤ c2) (h : spec_JobBest.f k a0_0 l0_1 l1 l2 = some (r1,r2)) :
  Calls Try.prog 10 #[.agg #[.int .i64 a0_0,.slice A0_1 l0_1.length c0_1],.slice A1 l1.length c1,.slice A2 l2.length c2] w fun e w' => ∃ v0_ : Value,e = .returned (.tuple #[v0_,.int .i64 r2]) ∧ Kd.V (Kd.int .i64) 3 w' w.heap.size (fun k_ => (w.heap.size ≤ k_)) v0_ r1 ∧ Below w.heap.size w w':=by
 have hu25:=Try.underlying25;have HR0_1:=zz hr0_1;have HC0_1:=zz hc0_1;clear hr0_1 hc0_1;have HR1:=zz hr1;have HC1:=zz hc1;clear hr1 hc1;have HR2:=zz hr2;have HC2:=zz hc2;clear hr2 hc2;have HB:=zz (Below.refl w.heap.size w);have H : ((spec_l27Ok.f k a0_0 l0_1 l1 l2).bind fun t393 => (if t393 = true then ((spec_ManyAll.f k a0_0 l0_1 l1 l2).bind fun t394 => ((spec_l27Try.f k t394 ([] : List Int) ([] : List Int) 99999).bind fun bt397 => (some (bt397.1,bt397.2)))) else (some (([] : List Int),(-1))))) = some (r1,r2):=h;clear h;replace H:=Option.bind_eq_some_iff.mp H;obtain ⟨t393,A40,H⟩:=H;replace H : (if t393 = true then ((spec_ManyAll.f k a0_0 l0_1 l1 l2).bind fun t394 => ((spec_l27Try.f k t394 ([] : List Int) ([] : List Int) 99999).bind fun bt397 => (some (bt397.1,bt397.2)))) else (some (([] : List Int),(-1)))) = some (r1,r2):=H;have A4:=zz A40;clear A40
 by_cases c5 : t393 = true
 case neg =>
  replace c5:=Bool.eq_false_iff.mpr c5;subst c5;have H1 : (some (([] : List Int),(-1))) = some (r1,r2):=by rw [if_neg (show ¬ (false = true) by decide)] at H; exact H
  clear H;have H:=H1;clear H1;simp only [Option.some.injEq,Prod.mk.injEq] at H;obtain ⟨rfl,rfl⟩:=H
  go_enter Try.func10,Try.ntmps10
  go_wp2_with (first | ((with_reducible refine gate_dst (N:=3) rfl ?_); refine box_event ?hg (N:=3) ?hd (cs:=#[.int .i64 a0_0,.slice A0_1 l0_1.length c0_1]) (t:=25) ?hr ?_; (case hd => rfl); (case hg => rfl); (case hr => first | (go_simp; done) | (go_simp; rfl)); intro gb392 hg w15 hbox hb; have n0_:=zz (below_step (by repeat (first | (with_reducible first | exact HB.out | apply below_alloc | apply pw_below_drewN | apply below_drew1) | exact HB.out)) hb); have n1_:=zz (hbox); have n2_:=zz ((by rw [hg]; exact (below_size (by repeat (first | (with_reducible first | exact HB.out | apply below_alloc | apply pw_below_drewN | apply below_drew1) | exact HB.out))) : w.heap.size ≤ gb392)); have n3_:=zz ((by rw [hg]; exact (below_size (by repeat (first | (with_reducible first | exact HB.out | apply below_alloc | apply pw_below_drewN | apply below_drew1) | exact HB.out))) : w.heap.size ≤ gb392)); clear HB; have HB:=n0_; have BK392:=n1_; have GW392:=n2_; have GE392:=n3_; clear n0_ n1_ n2_ n3_; clear hb hbox hg; have hcz16_0 : w15.cell? ⟨gb392,0,none⟩ = some (.int .i64 a0_0):=(blk_cell BK392.out 0).trans rfl; have hcz16_1 : w15.cell? ⟨gb392,1,none⟩ = some (.slice A0_1 l0_1.length c0_1):=(blk_cell BK392.out 1).trans rfl; have hfz16_0:=blk_frozen BK392.out 0; have hfz16_1:=blk_frozen BK392.out 1) | ((with_reducible refine gate_callee (f:=35) rfl ?_); refine goesL_ (some 11) rfl rfl Try.func35 (by kernel_rfl) rfl #[.agg #[.int .i64 a0_0,.slice A0_1 l0_1.length c0_1],.slice A1 l1.length c1,.slice A2 l2.length c2] rfl (by (try simp only [List.map_toArray,List.map_cons,List.map_nil]); first | done | rfl | (simp only [List.length_drop,List.length_take]; rfl)) ?_; (with_reducible refine (spec_l27Ok.calls k a0_0 _ _ l0_1 _ _ l1 _ _ l2 false _ ?side1 ?side2 ?side3 ?side4 ?side5 ?side6 A4.out).mono ?_); (case side1 => repeat (first | exact (Kd.C_below HR0_1.out HB.out) | (with_reducible refine Kd.C_alloc ?_ _) | (with_reducible refine Kd.C_drewN ?_ _) | (with_reducible refine Kd.C_drew ?_))); (case side2 => exact HC0_1.out); (case side3 => repeat (first | exact (Kd.C_below HR1.out HB.out) | (with_reducible refine Kd.C_alloc ?_ _) | (with_reducible refine Kd.C_drewN ?_ _) | (with_reducible refine Kd.C_drew ?_))); (case side4 => exact HC1.out); (case side5 => repeat (first | exact (Kd.C_below HR2.out HB.out) | (with_reducible refine Kd.C_alloc ?_ _) | (with_reducible refine Kd.C_drewN ?_ _) | (with_reducible refine Kd.C_drew ?_))); (case side6 => exact HC2.out); rintro e w17 ⟨rfl,hb⟩; refine ⟨_,rfl,?_⟩; have n0_:=zz (blk_below (g:=gb392) (o:=.cells #[.int .i64 a0_0,.slice A0_1 l0_1.length c0_1] 25 (0,0)) (by (with_reducible repeat (first | refine blk_drewN ?_ _ | refine blk_drew ?_ | refine blk_alloc ?_ _)); exact BK392.out) hb); have n1_:=zz (below_step (by repeat (first | (with_reducible first | exact HB.out | apply below_alloc | apply pw_below_drewN | apply below_drew1 | refine below_set ?_ GE392.out) | exact HB.out)) hb); clear BK392; clear HB; have BK392:=n0_; have HB:=n1_; clear n0_ n1_; (try clear hb); (try clear hb2); (try clear hk); (try clear hi)))
  go_ret2;exact ⟨_,by first | rfl | (simp [errW_none,errW_some] <;> rfl) | (simp [*,errW_none,errW_some] <;> rfl),Kd.R_V (by first | exact Kd.R_nil _ _ _ w.heap.size _ | exact Kd.N_nil _ _ _ _ _ | exact Kd.V_nil _ _ _ _ _ | exact Kd.Q_nil _ _ _ _ _ | exact Kd.S_nil _ _ _ _ _),by repeat (first | (with_reducible first | exact HB.out | apply below_alloc | apply pw_below_drewN | apply below_drew1 | refine below_set ?_ GE392.out) | exact HB.out)⟩
 subst c5;have H1 : ((spec_ManyAll.f k a0_0 l0_1 l1 l2).bind fun t394 => ((spec_l27Try.f k t394 ([] : List Int) ([] : List Int) 99999).bind fun bt397 => (some (bt397.1,bt397.2)))) = some (r1,r2):=by rw [if_pos rfl] at H; exact H
 clear H;have H:=H1;clear H1;replace H:=Option.bind_eq_some_iff.mp H;obtain ⟨t394,A60,H⟩:=H;replace H : ((spec_l27Try.f k t394 ([] : List Int) ([] : List Int) 99999).bind fun bt397 => (some (bt397.1,bt397.2))) = some (r1,r2):=H;have A6:=zz A60;clear A60;replace H:=Option.bind_eq_some_iff.mp H;obtain ⟨⟨t397,t400⟩,A70,H⟩:=H;replace H : (some (t397,t400)) = some (r1,r2):=H;have A7:=zz A70;clear A70;simp only [Option.some.injEq,Prod.mk.injEq] at H;obtain ⟨rfl,rfl⟩:=H
 go_enter Try.func10,Try.ntmps10
 go_wp2_with (first | ((with_reducible refine gate_dst (N:=3) rfl ?_); refine box_event ?hg (N:=3) ?hd (cs:=#[.int .i64 a0_0,.slice A0_1 l0_1.length c0_1]) (t:=25) ?hr ?_; (case hd => rfl); (case hg => rfl); (case hr => first | (go_simp; done) | (go_simp; rfl)); intro gb392 hg w8 hbox hb; have n0_:=zz (below_step (by repeat (first | (with_reducible first | exact HB.out | apply below_alloc | apply pw_below_drewN | apply below_drew1) | exact HB.out)) hb); have n1_:=zz (hbox); have n2_:=zz ((by rw [hg]; exact (below_size (by repeat (first | (with_reducible first | exact HB.out | apply below_alloc | apply pw_below_drewN | apply below_drew1) | exact HB.out))) : w.heap.size ≤ gb392)); have n3_:=zz ((by rw [hg]; exact (below_size (by repeat (first | (with_reducible first | exact HB.out | apply below_alloc | apply pw_below_drewN | apply below_drew1) | exact HB.out))) : w.heap.size ≤ gb392)); clear HB; have HB:=n0_; have BK392:=n1_; have GW392:=n2_; have GE392:=n3_; clear n0_ n1_ n2_ n3_; clear hb hbox hg; have hcz9_0 : w8.cell? ⟨gb392,0,none⟩ = some (.int .i64 a0_0):=(blk_cell BK392.out 0).trans rfl; have hcz9_1 : w8.cell? ⟨gb392,1,none⟩ = some (.slice A0_1 l0_1.length c0_1):=(blk_cell BK392.out 1).trans rfl; have hfz9_0:=blk_frozen BK392.out 0; have hfz9_1:=blk_frozen BK392.out 1) | ((with_reducible refine gate_callee (f:=35) rfl ?_); refine goesL_ (some 11) rfl rfl Try.func35 (by kernel_rfl) rfl #[.agg #[.int .i64 a0_0,.slice A0_1 l0_1.length c0_1],.slice A1 l1.length c1,.slice A2 l2.length c2] rfl (by (try simp only [List.map_toArray,List.map_cons,List.map_nil]); first | done | rfl | (simp only [List.length_drop,List.length_take]; rfl)) ?_; (with_reducible refine (spec_l27Ok.calls k a0_0 _ _ l0_1 _ _ l1 _ _ l2 true _ ?side1 ?side2 ?side3 ?side4 ?side5 ?side6 A4.out).mono ?_); (case side1 => repeat (first | exact (Kd.C_below HR0_1.out HB.out) | (with_reducible refine Kd.C_alloc ?_ _) | (with_reducible refine Kd.C_drewN ?_ _) | (with_reducible refine Kd.C_drew ?_))); (case side2 => exact HC0_1.out); (case side3 => repeat (first | exact (Kd.C_below HR1.out HB.out) | (with_reducible refine Kd.C_alloc ?_ _) | (with_reducible refine Kd.C_drewN ?_ _) | (with_reducible refine Kd.C_drew ?_))); (case side4 => exact HC1.out); (case side5 => repeat (first | exact (Kd.C_below HR2.out HB.out) | (with_reducible refine Kd.C_alloc ?_ _) | (with_reducible refine Kd.C_drewN ?_ _) | (with_reducible refine Kd.C_drew ?_))); (case side6 => exact HC2.out); rintro e w10 ⟨rfl,hb⟩; refine ⟨_,rfl,?_⟩; have n0_:=zz (blk_below (g:=gb392) (o:=.cells #[.int .i64 a0_0,.slice A0_1 l0_1.length c0_1] 25 (0,0)) (by (with_reducible repeat (first | refine blk_drewN ?_ _ | refine blk_drew ?_ | refine blk_alloc ?_ _)); exact BK392.out) hb); have n1_:=zz (below_step (by repeat (first | (with_reducible first | exact HB.out | apply below_alloc | apply pw_below_drewN | apply below_drew1 | refine below_set ?_ GE392.out) | exact HB.out)) hb); clear BK392; clear HB; have BK392:=n0_; have HB:=n1_; clear n0_ n1_; (try clear hb); (try clear hb2); (try clear hk); (try clear hi); have hcz11_0 : w10.cell? ⟨gb392,0,none⟩ = some (.int .i64 a0_0):=(blk_cell BK392.out 0).trans rfl; have hcz11_1 : w10.cell? ⟨gb392,1,none⟩ = some (.slice A0_1 l0_1.length c0_1):=(blk_cell BK392.out 1).trans rfl; have hfz11_0:=blk_frozen BK392.out 0; have hfz11_1:=blk_frozen BK392.out 1) | ((with_reducible refine gate_callee (f:=37) rfl ?_); refine goesL_ (some 16) rfl rfl Try.func37 (by kernel_rfl) rfl #[.agg #[.int .i64 a0_0,.slice A0_1 l0_1.length c0_1],.slice A1 l1.length c1,.slice A2 l2.length c2] rfl (by (try simp only [List.map_toArray,List.map_cons,List.map_nil]); first | done | rfl | (simp only [List.length_drop,List.length_take]; rfl)) ?_; (with_reducible refine (spec_ManyAll.calls k a0_0 _ _ l0_1 _ _ l1 _ _ l2 t394 _ ?side1 ?side2 ?side3 ?side4 ?side5 ?side6 A6.out).mono ?_); (case side1 => repeat (first | exact (Kd.C_below HR0_1.out HB.out) | (with_reducible refine Kd.C_alloc ?_ _) | (with_reducible refine Kd.C_drewN ?_ _) | (with_reducible refine Kd.C_drew ?_))); (case side2 => exact HC0_1.out); (case side3 => repeat (first | exact (Kd.C_below HR1.out HB.out) | (with_reducible refine Kd.C_alloc ?_ _) | (with_reducible refine Kd.C_drewN ?_ _) | (with_reducible refine Kd.C_drew ?_))); (case side4 => exact HC1.out); (case side5 => repeat (first | exact (Kd.C_below HR2.out HB.out) | (with_reducible refine Kd.C_alloc ?_ _) | (with_reducible refine Kd.C_drewN ?_ _) | (with_reducible refine Kd.C_drew ?_))); (case side6 => exact HC2.out); rintro e w12 ⟨v395,rfl,ho0,hb⟩; refine ⟨_,rfl,?_⟩; have n0_:=zz (Kd.S_lower (Kd.S_newM (M:=fun k_ => (w.heap.size ≤ k_)) ho0 (below_size (by repeat (first | (with_reducible first | exact HB.out | apply below_alloc | apply pw_below_drewN | apply below_drew1 | refine below_set ?_ GE392.out) | exact HB.out))) (fun k_ h_ => h_)) (below_size (by repeat (first | (with_reducible first | exact HB.out | apply below_alloc | apply pw_below_drewN | apply below_drew1 | refine below_set ?_ GE392.out) | exact HB.out)))); have n1_:=zz (blk_below (g:=gb392) (o:=.cells #[.int .i64 a0_0,.slice A0_1 l0_1.length c0_1] 25 (0,0)) (by (with_reducible repeat (first | refine blk_drewN ?_ _ | refine blk_drew ?_ | refine blk_alloc ?_ _)); exact BK392.out) hb); have n2_:=zz (below_step (by repeat (first | (with_reducible first | exact HB.out | apply below_alloc | apply pw_below_drewN | apply below_drew1 | refine below_set ?_ GE392.out) | exact HB.out)) hb); clear BK392; clear HB; have HO396:=n0_; have BK392:=n1_; have HB:=n2_; clear n0_ n1_ n2_; (try clear hb); (try clear hb2); (try clear hk); (try clear hi); (try clear ho0); obtain ⟨Ao13,co13,eo13⟩:=Kd.S_slice HO396.out; subst eo13) | ((with_reducible refine gate_callee (f:=36) rfl ?_); refine goesL_ (some 17) rfl rfl Try.func36 (by kernel_rfl) rfl #[.slice Ao13 t394.length co13,.slice none 0 0,.slice none 0 0,.int .i64 99999] rfl (by (try simp only [List.map_toArray,List.map_cons,List.map_nil]); first | done | rfl | (simp only [List.length_drop,List.length_take]; rfl)) ?_; (refine (spec_l27Try.calls k _ _ t394 _ _ ([] : List Int) (fun k_ => False) _ _ ([] : List Int) 99999 t397 t400 _ ?side1 ?side2 ?side3 ?side4 ?side5 A7.out).mono ?_); (case side1 => repeat (first | exact (Kd.S_reads' HO396.out).2.2 | (with_reducible refine Kd.C_alloc ?_ _) | (with_reducible refine Kd.C_drewN ?_ _) | (with_reducible refine Kd.C_drew ?_))); (case side2 => exact (Kd.S_reads' HO396.out).2.1); (case side3 => exact Kd.C_nil _ _); (case side4 => exact Nat.le_refl _); (case side5 => exact Kd.V_nil _ _ _ _ _); rintro e w14 ⟨v398,rfl,ho0,hb⟩; refine ⟨_,rfl,?_⟩; have n0_:=zz (Kd.S_below (by (with_reducible repeat (first | apply Kd.S_alloc | apply Kd.S_drewN | apply Kd.S_drew)); exact HO396.out) hb); have n1_:=zz (Kd.V_lower (Kd.V_mono (ok':=fun k_ => (w.heap.size ≤ k_) ∧ some k_ ≠ (.slice Ao13 t394.length co13 : Value).ownBlock ∧ k_ ≠ gb392) ho0 (fun k_ hk_ => ⟨Or.elim hk_ (fun hs_ => (hs_).elim) (fun hn_ => (Nat.le_trans (below_size (by repeat (first | (with_reducible first | exact HB.out | apply below_alloc | apply pw_below_drewN | apply below_drew1 | refine below_set ?_ GE392.out) | exact HB.out))) hn_)),Or.elim hk_ (fun hs_ => (hs_).elim) (fun hn_ => (Kd.fresh' (Kd.S_lt (by (with_reducible repeat (first | apply Kd.S_alloc | apply Kd.S_drewN | apply Kd.S_drew)); exact HO396.out)) k_ hn_)),Or.elim hk_ (fun hs_ => (hs_).elim) (fun hn_ => (Kd.freshB (g:=gb392) (o:=.cells #[.int .i64 a0_0,.slice A0_1 l0_1.length c0_1] 25 (0,0)) (by (with_reducible repeat (first | refine blk_drewN ?_ _ | refine blk_drew ?_ | refine blk_alloc ?_ _)); exact BK392.out) k_ hn_))⟩)) (below_size (by repeat (first | (with_reducible first | exact HB.out | apply below_alloc | apply pw_below_drewN | apply below_drew1 | refine below_set ?_ GE392.out) | exact HB.out)))); have n2_:=zz (blk_below (g:=gb392) (o:=.cells #[.int .i64 a0_0,.slice A0_1 l0_1.length c0_1] 25 (0,0)) (by (with_reducible repeat (first | refine blk_drewN ?_ _ | refine blk_drew ?_ | refine blk_alloc ?_ _)); exact BK392.out) hb); have n3_:=zz (below_step (by repeat (first | (with_reducible first | exact HB.out | apply below_alloc | apply pw_below_drewN | apply below_drew1 | refine below_set ?_ GE392.out) | exact HB.out)) hb); clear HO396; clear BK392; clear HB; have HO396:=n0_; have HO399:=n1_; have BK392:=n2_; have HB:=n3_; clear n0_ n1_ n2_ n3_; (try clear hb); (try clear hb2); (try clear hk); (try clear hi); (try clear ho0)))
 go_ret2;exact ⟨_,by first | rfl | (simp [errW_none,errW_some] <;> rfl) | (simp [*,errW_none,errW_some] <;> rfl),by (with_reducible repeat (first | apply Kd.V_alloc | apply Kd.V_drewN | apply Kd.V_drew)); exact Kd.V_mono HO399.out (fun _ hk => hk.1),by repeat (first | (with_reducible first | exact HB.out | apply below_alloc | apply pw_below_drewN | apply below_drew1 | refine below_set ?_ GE392.out) | exact HB.out)⟩
def laws_wkInts.l0 : Nat → List Int → List Int → Int → Option (Bool)
 | 0,_,_,_ => none
 | k + 1,x0,x1,x5 => if x5 < (x0.length : Int) then (if 0 ≤ x5 then (if x5 < (x1.length : Int) then (if (rd x0 x5) = (rd x1 x5) then (laws_wkInts.l0 k x0 x1 (wrap64 (x5 + 1))) else (some false)) else (none)) else (none)) else (some true)
def laws_wkInts.f (k : Nat) (l0 : List Int) (l1 : List Int) : Option (Bool):=if (l0.length : Int) = (l1.length : Int) then (laws_wkInts.l0 k l0 l1 0) else (some false)
set_option maxHeartbeats 8000000 in
set_option maxRecDepth 100000 in
theorem laws_wkInts.calls (k : Nat) (A0 : Option Addr) (c0 : Nat) (l0 : List Int) (A1 : Option Addr) (c1 : Nat) (l1 : List Int) (r : Bool) (w : World) (hr0 : Kd.C (Kd.int .i64) w A0 l0.length l0) (hc0 : l0.length ≤ c0) (hr1 : Kd.C (Kd.int .i64) w A1 l1.length l1) (hc1 : l1.length ≤ c1) (h : laws_wkInts.f k l0 l1 = some r) :
  Calls Try.prog 11 #[.slice A0 l0.length c0,.slice A1 l1.length c1] w fun e w' => e = .returned (.bool r) ∧ Drawn0 w w':=by
 have HR0:=zz hr0;have HC0:=zz hc0;clear hr0 hc0;have HR1:=zz hr1;have HC1:=zz hc1;clear hr1 hc1;have H : (if (l0.length : Int) = (l1.length : Int) then (laws_wkInts.l0 k l0 l1 0) else (some false)) = some r:=h;clear h
 by_cases c3 : (l0.length : Int) = (l1.length : Int)
 case neg =>
  rw [if_neg c3] at H;have c3b0 : ((l0.length : Int) == (l1.length : Int)) = false:=beq_eq_false_iff_ne.mpr c3;have c3b1 : ((l0.length : Int) != (l1.length : Int)) = true:=bne_iff_ne.mpr c3;have c3b2 : (l0.length == l1.length) = false:=by first | simpa using c3 | (simp at c3 ⊢; omega)
  obtain rfl:=Option.some.inj H
  go_enter Try.func11,Try.ntmps11
  go_wp2
  repeat (go_quiet (fail); try go_wp2)
  go_ret;exact ⟨by first | rfl | (simp; done) | (simp [*]; done),by repeat (first | exact Drawn0.refl _ | apply Drawn0.step)⟩
 rw [if_pos c3] at H;have c3b0 : ((l0.length : Int) == (l1.length : Int)) = true:=beq_iff_eq.mpr c3;have c3b1 : ((l0.length : Int) != (l1.length : Int)) = false:=bne_eq_false_iff_eq.mpr c3;have c3b2 : (l0.length == l1.length) = true:=by first | simpa using c3 | (simp at c3 ⊢; omega)
 clear c3;have H':=zz H;clear H
 go_enter Try.func11,Try.ntmps11
 go_wp2
 repeat (go_quiet (fail); try go_wp2)
 go_loopg [5] k (fun kq v5 w' => ∃ (x5_1 : Int),v5 = .int .i64 x5_1 ∧ Aside0 (laws_wkInts.l0 kq l0 l1 x5_1 = some r) ∧ Aside0 (kq ≤ k) ∧ Drawn0 w w')
 case atStart => exact ⟨(0),(by first | rfl | (simp; done) | (simp [*]; done)),H',⟨Nat.le_refl _⟩,by repeat (first | exact Drawn0.refl _ | apply Drawn0.step)⟩
 case round =>
  clear H'
  try clear c1
  try clear p2
  try clear c3
  try clear c3b0
  try clear c3b1
  try clear c3b2
  obtain ⟨x5_1,rfl,HA,HK1,⟨m1,rfl⟩⟩:=hrel;cases gk with
  | zero => exact absurd HA.out (by simp [laws_wkInts.l0])
  | succ k1 =>
   have H:=HA.out;clear HA;simp only [laws_wkInts.l0] at H
   by_cases c4 : x5_1 < (l0.length : Int)
   case neg =>
    rw [if_neg c4] at H;have c4b0 : decide (x5_1 < (l0.length : Int)) = false:=decide_eq_false c4;clear c4;obtain rfl:=Option.some.inj H
    go_wp2
    repeat (go_quiet (fail); try go_wp2)
    go_ret;exact ⟨by first | rfl | (simp; done) | (simp [*]; done),by repeat (first | exact Drawn0.refl _ | apply Drawn0.step)⟩
   rw [if_pos c4] at H;have c4b0 : decide (x5_1 < (l0.length : Int)) = true:=decide_eq_true c4;clear c4
   by_cases c5 : 0 ≤ x5_1
   case neg =>
    rw [if_neg c5] at H;exact absurd H (by simp)
   rw [if_pos c5] at H;have c5b0 : decide (0 ≤ x5_1) = true:=decide_eq_true c5;clear c5
   by_cases c6 : x5_1 < (l1.length : Int)
   case neg =>
    rw [if_neg c6] at H;exact absurd H (by simp)
   rw [if_pos c6] at H;have c6b0 : decide (x5_1 < (l1.length : Int)) = true:=decide_eq_true c6;clear c6
   by_cases c7 : (rd l0 x5_1) = (rd l1 x5_1)
   case neg =>
    rw [if_neg c7] at H;have c7b0 : ((rd l0 x5_1) == (rd l1 x5_1)) = false:=beq_eq_false_iff_ne.mpr c7;have c7b1 : ((rd l0 x5_1) != (rd l1 x5_1)) = true:=bne_iff_ne.mpr c7;obtain rfl:=Option.some.inj H;have p401 : 0 ≤ (x5_1 : Int):=of_decide_eq_true (by first | (with_reducible assumption) | assumption);have q401 : x5_1 < (l0.length : Int):=of_decide_eq_true (by first | (with_reducible assumption) | assumption);obtain ⟨ad401,e401,hx401_0⟩:=Kd.at_int HR0.out x5_1 p401 q401;cases e401;replace p401:=eq_true p401;replace q401:=eq_true q401;have p402 : 0 ≤ (x5_1 : Int):=of_decide_eq_true (by first | (with_reducible assumption) | assumption);have q402 : x5_1 < (l1.length : Int):=of_decide_eq_true (by first | (with_reducible assumption) | assumption);obtain ⟨ad402,e402,hx402_0⟩:=Kd.at_int HR1.out x5_1 p402 q402;cases e402;replace p402:=eq_true p402;replace q402:=eq_true q402
    go_wp2
    repeat (go_quiet (fail); try go_wp2)
    go_ret;exact ⟨by first | rfl | (simp; done) | (simp [*]; done),by repeat (first | exact Drawn0.refl _ | apply Drawn0.step)⟩
   rw [if_pos c7] at H;have c7b0 : ((rd l0 x5_1) == (rd l1 x5_1)) = true:=beq_iff_eq.mpr c7;have c7b1 : ((rd l0 x5_1) != (rd l1 x5_1)) = false:=bne_eq_false_iff_eq.mpr c7;clear c7;have H':=zz H;clear H;have p401 : 0 ≤ (x5_1 : Int):=of_decide_eq_true (by first | (with_reducible assumption) | assumption);have q401 : x5_1 < (l0.length : Int):=of_decide_eq_true (by first | (with_reducible assumption) | assumption);obtain ⟨ad401,e401,hx401_0⟩:=Kd.at_int HR0.out x5_1 p401 q401;cases e401;replace p401:=eq_true p401;replace q401:=eq_true q401;have p402 : 0 ≤ (x5_1 : Int):=of_decide_eq_true (by first | (with_reducible assumption) | assumption);have q402 : x5_1 < (l1.length : Int):=of_decide_eq_true (by first | (with_reducible assumption) | assumption);obtain ⟨ad402,e402,hx402_0⟩:=Kd.at_int HR1.out x5_1 p402 q402;cases e402;replace p402:=eq_true p402;replace q402:=eq_true q402
   go_wp2
   repeat (go_quiet (fail); try go_wp2)
   go_roundg k1
   case measure => have:=HK1.out; omega
   case rel => exact ⟨(wrap64 (x5_1 + 1)),(by first | rfl | (simp; done) | (simp [*]; done)),H',⟨by have:=HK1.out; omega⟩,by repeat (first | exact Drawn0.refl _ | apply Drawn0.step)⟩
end Go.Proofs.Ytmioaahiflfcdaa.Pr
end
section
namespace Go.Proofs.Ytmioaahiflfcdaa.Pr
open Go.RowKit Go.Proofs.YtmioaahiflfcdaaW.PrintWords Go.Proofs.YtmioaahiflfcdaaW.PrintLast Go.Proofs.YtmioaahiflfcdaaW.PrintMore
attribute [local go_sem] max2_int min2_int max_two min_two max_three min_three max_four min_four
set_option linter.unusedVariables false
set_option linter.unusedSimpArgs false
open List renaming setIfInBounds_toArray → Z, set_cons_zero → zx, set_cons_succ → zy
open Go.Proofs.YtmioaahiflfcdaaW.PrintWords.Aside0 renaming mk → zz
set_option maxHeartbeats 2000000 in
set_option maxRecDepth 100000 in
theorem values_calls (A : Option Addr) (n c : Nat) (w : World) : Calls Try.prog 70 #[.slice A n c] w fun e w' => ∃ g, e = .returned (.func (.func 79) #[] #[.pointer (some ⟨g, 0, none⟩)]) ∧ w'.heap[g]? = some (.cells #[.slice A n c] 26 (0, 0)) ∧ w.heap.size ≤ g ∧ Below w.heap.size w w' := by
 go_enter Try.func70, Try.ntmps70
 go_wp2_with (first | ((with_reducible refine gate_dst (N := 1) rfl ?_); refine box_event ?hg (N := 1) ?hd (cs := #[.slice A n c]) (t := 26) ?hr ?_; (case hd => rfl); (case hg => rfl); (case hr => first | (go_simp; done) | (go_simp; rfl)); intro gB hgB w1 hbox hb; have HB := zz hbox; have H1 := zz hb; have H2 := zz (show w.heap.size ≤ gB by rw [hgB]; exact Nat.le_refl _); clear hbox hb hgB))
 go_ret;exact ⟨gB, rfl, HB.out, H2.out, H1.out⟩
set_option maxHeartbeats 2000000 in
set_option maxRecDepth 100000 in
theorem values_stops (F : Fence) (n : Nat) (hf : F.fn 79) (hro : F.round = none) (hn : 1 ≤ n) (Bm : Nat) (A : Option Addr) (c : Nat) (xs : List Int) (hx : xs.length ≤ 2000000) (w : World) (hm : w.heap[Bm]? = some (.cells #[.slice A xs.length c] 26 (0, 0))) (hr : Kd.C (Kd.int .i64) w A xs.length xs) :
  SeqStopsK F n Try.prog 79 #[.pointer (some ⟨Bm, 0, none⟩)] (fun x : Int => #[.int .i64 x]) (Below w.heap.size) (fun ss => ss = xs) (fun _ => True) xs.length w := by
 intro l J Jx W hW _ _ hY h0;have HR := zz (Kd.C_below hr hW);have HWl := zz (show w.heap.size ≤ W.heap.size from hW.size);have HY := zz hY;have H0 := zz h0;have HX := zz hx;have q0 : W.cell? ⟨Bm, 0, none⟩ = some (.slice A xs.length c) := (blk_cell (blk_below hm hW) 0).trans rfl;have hrow : ∀ W', Below w.heap.size W W' → Kd.C (Kd.int .i64) W' A xs.length xs := fun W' hB => Kd.C_below hr (hW.trans hB)
 have HROW := zz hrow;clear hm hr hY h0 hx hW hrow;refine callsIn_of_wp Try.func79 rfl hf ?_ hro;simp only [Try.ntmps79, List.size_toArray, List.length_cons, List.length_nil, Nat.reduceAdd, Nat.reduceSub, Array.replicate_succ, Array.replicate_zero, List.push_toArray, List.append_toArray, List.nil_append, List.cons_append]
 gi_wp2
 clear q0
 gi_loopw [7] (fun i wr => ∃ j : Nat, i = .int .i64 (j : Int) ∧ Aside0 (j ≤ xs.length) ∧ Aside0 (J (xs.take j) wr) ∧ Aside0 (Below w.heap.size W wr)) (fun i _ => xs.length - (intOf i).toNat)
 case atStart => exact ⟨0, rfl, ⟨Nat.zero_le _⟩, H0, ⟨Below.refl _ _⟩⟩
 case round =>
  obtain ⟨j, rfl, J0, J1, J2⟩ := hrel
  by_cases hj : j < xs.length
  case neg =>
   have c1 : decide ((j : Int) < (xs.length : Int)) = false := decide_eq_false (by omega);have c2 : decide (j < xs.length) = false := decide_eq_false hj;have hjx : j = xs.length := by have := J0.out; omega
   have hJx : J xs wr := by have h := J1.out; rwa [hjx, List.take_length] at h
   clear hj hjx
   gi_wp2
   go_end0
   exact ⟨⟨_, rfl⟩, .inl ⟨_, rfl, hJx⟩⟩
  have c1 : decide ((j : Int) < (xs.length : Int)) = true := decide_eq_true (by omega);have c2 : decide (j < xs.length) = true := decide_eq_true hj;obtain ⟨ad, e, hxc⟩ := Kd.at_int (HROW.out _ J2.out) (j : Int) (by omega) (by omega);cases e;rw [Int.toNat_natCast] at hxc;have hrd : rd xs (j : Int) = xs[j] := by simp [rd, hj]
  have hnext : xs.take j ++ [rd xs (j : Int)] = xs.take (j + 1) := by rw [hrd, List.take_succ_eq_append_getElem hj]
  have HN := zz hnext;obtain ⟨fn, tmps, assign, body, hy, hR⟩ := HY.out (xs.take j) (rd xs (j : Int)) wr J1.out (by rw [List.length_take]; omega);generalize rd xs (j : Int) = x at hxc hy hR HN;have p0 : ((0 : Int) ≤ (j : Int)) = True := eq_true (by omega);have p1 : ((j : Int) < (xs.length : Int)) = True := eq_true (by omega);have hw : wrap64 ((j : Int) + 1) = ((j + 1 : Nat) : Int) := by have h1 := HX.out; unfold wrap64; omega
  have HW := zz hw;have HJ2 := zz hj;clear hw hj hrd hnext
  gi_wp2
  refine hR.mono ?_;rintro e W3 (⟨rfl, hJ3, hk3⟩ | ⟨rfl, hJx⟩)
  ·have K2 := zz (show Below w.heap.size W W3 from J2.out.trans hk3);clear hR hy hxc hk3 J1 J2
   gi_wp2
   have hj2 := HJ2.out
   go_roundw
   case rel => exact ⟨j + 1, by rw [HW.out], ⟨by omega⟩, ⟨by rw [← HN.out]; exact hJ3⟩, K2⟩
   case measure =>
    rw [HW.out]
    show xs.length - (((j + 1 : Nat) : Int)).toNat < xs.length - ((j : Int)).toNat
    omega
  ·clear hR hy hxc J1 J2
   gi_wp2
   refine bodyPost_ret (results_none rfl _ _ _) rfl ?_;exact ⟨⟨_, rfl⟩, .inr ⟨_, trivial, hJx⟩⟩
theorem below_setCell {B b : Nat} {A W : World} (h : Below B A W) (hb : B ≤ b) (u : Value) : Below B A (W.setCell ⟨b, 0, none⟩ u) := h.setCell hb u
theorem _root_.Go.World.ownsRow.setCell_other {w : World} {base e size n b : Nat} {v : Value} {xs : List Value} (h : w.ownsRow base e size v n xs) (u : Value) (hne : v.ownBlock = none ∨ v.ownBlock ≠ some b) : (w.setCell ⟨b, 0, none⟩ u).ownsRow base e size v n xs :=
 h.kept (row := some b) (grownBy_setCell' w b u) hne
set_option maxHeartbeats 4000000 in
set_option maxRecDepth 100000 in
theorem appendSeq_in (F : Fence) (n : Nat) (h11 : F.fn 83) (hro : F.round = none) (hn : 3 ≤ n) (g : Nat) (lb : Array Value) (hFg : F.fn g) (eg : ∀ args w, (callFunc g args).run Try.prog w = .ok (.enter g args) w) (xs : List Int) (hx : xs.length ≤ 2000000) (w0 w : World) (hb : Below w0.heap.size w0 w) (hs0 : w0.heap.size ≤ w.heap.size) (hseq : SeqStopsK F (n - 1) Try.prog g lb (fun x : Int => #[.int .i64 x]) (Below w0.heap.size) (fun ss => ss = xs) (fun _ => True) xs.length w0) :
  CallsIn F n Try.prog 83 #[.slice none 0 0, .func (.func g) #[] lb] w fun e w' => ∃ v, e = .returned v ∧ w'.ownsRow w.heap.size 3 1 v xs.length (xs.map (Value.int .i64)) ∧ Below w.heap.size w w' := by
 have h1 : 1 ≤ n := by omega
 obtain ⟨i0, hi, hz0, hz1, hz2⟩ := info_parts info3;refine callsIn_of_wp_marks Try.func83 rfl h11 ?_ hro;simp only [Try.ntmps83, List.size_toArray, List.length_cons, List.length_nil, Nat.reduceAdd, Nat.reduceSub, Array.replicate_succ, Array.replicate_zero, List.push_toArray, List.append_toArray, List.nil_append, List.cons_append]
 gi_wp2
 have hv0 := heap_alloc_new w (.cells #[.slice none 0 0] 26);have hB0 : Below w.heap.size w (w.alloc (.cells #[.slice none 0 0] 26)) := below_alloc (Below.refl _ _) _;have hsz : (w.alloc (.cells #[.slice none 0 0] 26)).heap.size = w.heap.size + 1 := by simp
 have hb1 : Below w0.heap.size w0 (w.alloc (.cells #[.slice none 0 0] 26)) := hb.trans (hB0.mono hs0);generalize w.alloc (.cells #[.slice none 0 0] 26) = w1 at hv0 hB0 hsz hb1 ⊢;have own_ne : ∀ {W : World} {v : Value} {k : Nat} {ys : List Value} {j : Nat} {o : Obj}, W.ownsRow w.heap.size 3 1 v k ys → W.heap[j]? = some o → (∀ cur, o ≠ .cells cur 3 (0, 0)) → v.ownBlock = none ∨ v.ownBlock ≠ some j := by
  intro W v k ys j o ho hj hno
  rcases ho.2 with ⟨rfl, _⟩ | ⟨g', cap', cur', rfl, _, hh, _⟩
  ·exact .inl (by simp [Value.ownBlock])
  ·refine .inr (fun e => ?_);have e2 : g' = j := by simpa [Value.ownBlock] using e
   subst e2;rw [hh] at hj;exact hno _ (Option.some.inj hj).symm
 refine wpIn_rangeFunc_ownF hro h1 (gf := g) (lb := lb) rfl hFg eg hseq (fun h k => h.trans k) (fun W l o o' hl hh _ _ => (Below.refl _ W).grown (grownBy_putObj' W l o') (by have := (Array.getElem?_eq_some_iff.1 hh).1; omega) (fun k e => by cases e; omega)) hb1 (fun _ => rfl)
  (fun ss W => ∃ v, W.heap[w.heap.size]? = some (.cells #[v] 26 (0, 0)) ∧ W.ownsRow w.heap.size 3 1 v ss.length (ss.map (Value.int .i64)) ∧ Below w.heap.size w W)
  (fun _ _ _ => False) ?hI (fun _ _ _ _ _ hs _ _ => hs) ⟨_, hv0, ⟨rfl, .inl ⟨rfl, rfl⟩⟩, hB0⟩
  (fun x => { tmps := #[.slice none 0 0, .func (.func g) #[] lb, .pointer (some ⟨w.heap.size, 0, none⟩), undef, .slice none 0 0, .int .i64 x, .func (.func g) #[] lb, .int .i64 x, undef, undef, undef, undef, undef], defers := [] }) ?assign ?body ?done ?stop
 case hI =>
  rintro s W W' row ⟨v, a1, a2, a3⟩ hg hr;refine ⟨v, blk_grown a1 hg (fun e => ?_), a2.kept hg ?_, a3.grown hg a3.size (fun k e => by have := (hr k e).1; omega)⟩
  ·obtain ⟨_, o, ho, hc⟩ := hr _ e.symm;rw [a1] at ho;obtain rfl := Option.some.inj ho;cases hc
  ·cases row with
   | none =>
    rcases a2.2 with ⟨rfl, _⟩ | ⟨g', cap', cur', rfl, _⟩
    ·exact .inl (by simp [Value.ownBlock])
    ·exact .inr (by simp [Value.ownBlock])
   | some r =>
    obtain ⟨_, o, ho, hc⟩ := hr r rfl;exact own_ne a2 ho (fun cur e => by subst e; cases hc)
 case assign =>
  intro l x W K hK
  gi_wp2_with (first | (rw [Oper.semAt_eq _ _ _ (fun c h => by cases h)]; go_simp; try go_bits))
  exact hK
 case body =>
  rintro l pre x W ⟨v, a1, a2, a3⟩ hlt;have hc1 : W.cell? ⟨w.heap.size, 0, none⟩ = some v := (blk_cell a1 0).trans rfl;have hs1 : w.heap.size < W.heap.size := (Array.getElem?_eq_some_iff.1 a1).1;have hne2 : some w.heap.size ≠ v.ownBlock := by
   rcases own_ne a2 a1 (fun cur e => absurd (Obj.cells.inj e).2.1 (by decide)) with e | e
   ·rw [e]; simp
   ·exact fun e2 => e e2.symm
  gi_wp2_with (first
   | (gi_at_builtin; refine wpListIn_append_own _ rfl _ _ 26 rfl w.heap.size 3 i0 (.int .i64 0) 1 8 Try.underlying26 hi hz0 hz1 hz2 rfl (by decide) v pre.length (pre.map (Value.int .i64)) rfl (a2.alloc _) ⟨W.heap.size, 0, none⟩ 1 1 [.int .i64 x] rfl rfl (cell_one_new _ _ _) (by simp [Value.oneCell']) (by unfold maxLen; omega) (by omega) (by simp; omega) ?_; intro v' w3 hown' hg3 hnil3; have hv3 : w3.heap[w.heap.size]? = some (.cells #[v] 26 (0, 0)) := (hg3.block _ (by simp; omega) hne2).trans ((Below.heap_alloc _ _ _ hs1).trans a1); have hc3 : w3.cell? ⟨w.heap.size, 0, none⟩ = some v := (blk_cell hv3 0).trans rfl; have hf3 : w3.frozen? ⟨w.heap.size, 0, none⟩ = false := blk_frozen hv3 0; obtain ⟨g', cap', rfl⟩ : ∃ g' cap', v' = .slice (some ⟨g', 0, none⟩) (pre.length + 1) cap' := (by rcases hown'.2 with ⟨_, h0⟩ | ⟨g', cap', cur', e, _⟩; (exact absurd h0 (by omega)); exact ⟨g', cap', e⟩))
   | (rw [Oper.semAt_eq _ _ _ (fun c h => by cases h)]; go_simp; try go_bits))
  have hw3 : W.heap.size + 1 ≤ w3.heap.size := by have := hg3.size; simpa using this
  have hk3 : KeepsOthers (W.alloc (.cells #[.int .i64 x] 3)) w3 := KeepsOthers.of_grownBy hg3 (fun j o hj ho => by
   rcases (a2.alloc (.cells #[.int .i64 x] 3)).2 with ⟨rfl, _⟩ | ⟨g', cap', cur', rfl, _, hh, _⟩
   ·simp [Value.ownBlock] at hj
   ·have e2 : g' = j := by simpa [Value.ownBlock] using hj
    subst e2;rw [hh] at ho;rw [← Option.some.inj ho];rfl)
  have hb3 : Below w.heap.size w w3 := (a3.alloc a3.size _).grown hg3 (by have := a3.size; simp; omega) (fun k e => by
   rcases a2.2 with ⟨rfl, _⟩ | ⟨g', cap', cur', rfl, hb', _⟩
   ·simp [Value.ownBlock] at e
   ·have e2 : g' = k := by simpa [Value.ownBlock] using e
    omega)
  have hK3 : Below w0.heap.size W w3 := ((Below.refl w0.heap.size W).alloc (by have := a3.size; omega) _).grown hg3 (by have := a3.size; simp; omega) (fun k e => by
   rcases a2.2 with ⟨rfl, _⟩ | ⟨g', cap', cur', rfl, hb', _⟩
   ·simp [Value.ownBlock] at e
   ·have e2 : g' = k := by simpa [Value.ownBlock] using e
    omega)
  refine ⟨((KeepsOthers.alloc W _).trans hk3).trans (KeepsOthers.setCell _ _ _), below_setCell hK3 hs0 _, .slice (some ⟨g', 0, none⟩) (pre.length + 1) cap', ?_, ?_, below_setCell hb3 (Nat.le_refl _) _⟩
  ·exact blk_set hv3 0 _
  ·rw [List.length_append, List.map_append];exact hown'.setCell_other _ (own_ne hown' hv3 (fun cur e => absurd (Obj.cells.inj e).2.1 (by decide)))
 case done =>
  rintro D ss W hD rfl ⟨v, a1, a2, a3⟩ hK;have hc1 : W.cell? ⟨w.heap.size, 0, none⟩ = some v := (blk_cell a1 0).trans rfl
  gi_wp2
  refine ⟨by simp, .inl ⟨_, _, rfl, run_takeDeferred hK, ?_⟩⟩;refine ⟨_, results_tmp rfl _ _ _, v, rfl, a2.kept (grownBy_putObj' _ _ _) (own_ne a2 hK (fun cur e => by cases e)), a3.grown (grownBy_putObj' _ _ _) a3.size (fun k e => by cases e; omega)⟩
 case stop =>
  rintro D c pre W _ _ h _;exact h.elim
def rho_m5 : Go.Shelf.Ren := ⟨fun n => if n = 5 then 78 else if n = 7 then 84 else if n = 8 then 85 else if n = 10 then 87 else if n = 11 then 88 else if n = 12 then 89 else if n = 13 then 90 else if n = 14 then 91 else if n = 15 then 92 else if n = 16 then 93 else if n = 17 then 94 else if n = 18 then 95 else if n = 19 then 96 else if n = 20 then 97 else if n = 30 then 100 else if n = 31 then 101 else if n = 32 then 102 else if n = 33 then 103 else if n = 34 then 104 else if n = 35 then 105 else if n = 40 then 106 else n, fun n => if n = 22 then 26 else if n = 23 then 26 else if n = 25 then 3 else if n = 32 then 108 else if n = 35 then 112 else if n = 36 then 113 else if n = 41 then 118 else if n = 44 then 121 else if n = 46 then 123 else if n = 53 then 128 else if n = 57 then 132 else if n = 63 then 134 else if n = 64 then 135 else n, fun n => n⟩
theorem lays_m5 : Go.Proofs.SlLaysM.n5 Try.prog rho_m5 where
 mixed := by kernel_rfl
 f5 := ⟨"slices.Sort[[]int,int]", by decide, by kernel_rfl⟩
 f7 := ⟨"slices.pdqsortOrdered[int]", by decide, by kernel_rfl⟩
 f8 := by kernel_rfl
 f10 := ⟨"slices.insertionSortOrdered[int]", by decide, by kernel_rfl⟩
 f11 := ⟨"slices.heapSortOrdered[int]", by decide, by kernel_rfl⟩
 f12 := ⟨"slices.breakPatternsOrdered[int]", by decide, by kernel_rfl⟩
 f13 := ⟨"slices.choosePivotOrdered[int]", by decide, by kernel_rfl⟩
 f14 := ⟨"slices.reverseRangeOrdered[int]", by decide, by kernel_rfl⟩
 f15 := ⟨"slices.partialInsertionSortOrdered[int]", by decide, by kernel_rfl⟩
 f16 := ⟨"cmp.Less[int]", by decide, by kernel_rfl⟩
 f17 := ⟨"slices.partitionEqualOrdered[int]", by decide, by kernel_rfl⟩
 f18 := ⟨"slices.partitionOrdered[int]", by decide, by kernel_rfl⟩
 f19 := by kernel_rfl
 f20 := by kernel_rfl
 f30 := ⟨"slices.siftDownOrdered[int]", by decide, by kernel_rfl⟩
 f31 := by kernel_rfl
 f32 := by kernel_rfl
 f33 := ⟨"slices.medianAdjacentOrdered[int]", by decide, by kernel_rfl⟩
 f34 := ⟨"slices.medianOrdered[int]", by decide, by kernel_rfl⟩
 f35 := ⟨"cmp.isNaN[int]", by decide, by kernel_rfl⟩
 f40 := ⟨"slices.order2Ordered[int]", by decide, by kernel_rfl⟩
 t0 := by kernel_rfl
 a0 := fun w => by kernel_rfl
 z0 := fun w => by kernel_rfl
 v0 := fun w => by kernel_rfl
 t3 := by kernel_rfl
 a3 := fun w => by kernel_rfl
 z3 := fun w => by kernel_rfl
 v3 := fun w => by kernel_rfl
 t4 := by kernel_rfl
 a4 := fun w => by kernel_rfl
 z4 := fun w => by kernel_rfl
 v4 := fun w => by kernel_rfl
 t5 := by kernel_rfl
 a5 := fun w => by kernel_rfl
 z5 := fun w => by kernel_rfl
 v5 := fun w => by kernel_rfl
 t9 := by kernel_rfl
 a9 := fun w => by kernel_rfl
 z9 := fun w => by kernel_rfl
 v9 := fun w => by kernel_rfl
 t22 := by kernel_rfl
 a22 := fun w => by kernel_rfl
 z22 := fun w => by kernel_rfl
 v22 := fun w => by kernel_rfl
 t23 := by kernel_rfl
 a23 := fun w => by kernel_rfl
 z23 := fun w => by kernel_rfl
 v23 := fun w => by kernel_rfl
 t25 := by kernel_rfl
 a25 := fun w => by kernel_rfl
 z25 := fun w => by kernel_rfl
 v25 := fun w => by kernel_rfl
 t32 := by kernel_rfl
 a32 := fun w => by kernel_rfl
 z32 := fun w => by kernel_rfl
 v32 := fun w => by kernel_rfl
 t35 := by kernel_rfl
 a35 := fun w => by kernel_rfl
 z35 := fun w => by kernel_rfl
 v35 := fun w => by kernel_rfl
 t36 := by kernel_rfl
 a36 := fun w => by kernel_rfl
 z36 := fun w => by kernel_rfl
 v36 := fun w => by kernel_rfl
 t41 := by kernel_rfl
 a41 := fun w => by kernel_rfl
 z41 := fun w => by kernel_rfl
 v41 := fun w => by kernel_rfl
 t44 := by kernel_rfl
 a44 := fun w => by kernel_rfl
 z44 := fun w => by kernel_rfl
 v44 := fun w => by kernel_rfl
 t46 := by kernel_rfl
 a46 := fun w => by kernel_rfl
 z46 := fun w => by kernel_rfl
 v46 := fun w => by kernel_rfl
 t53 := by kernel_rfl
 a53 := fun w => by kernel_rfl
 z53 := fun w => by kernel_rfl
 v53 := fun w => by kernel_rfl
 t57 := by kernel_rfl
 a57 := fun w => by kernel_rfl
 z57 := fun w => by kernel_rfl
 v57 := fun w => by kernel_rfl
 t63 := by kernel_rfl
 a63 := fun w => by kernel_rfl
 z63 := fun w => by kernel_rfl
 v63 := fun w => by kernel_rfl
 t64 := by kernel_rfl
 a64 := fun w => by kernel_rfl
 z64 := fun w => by kernel_rfl
 v64 := fun w => by kernel_rfl
set_option maxHeartbeats 2000000 in
set_option maxRecDepth 100000 in
theorem collect_calls (Bm : Nat) (A : Option Addr) (c : Nat) (xs : List Int) (hx : xs.length ≤ 2000000) (w : World) (hm : w.heap[Bm]? = some (.cells #[.slice A xs.length c] 26 (0, 0))) (hr : Kd.C (Kd.int .i64) w A xs.length xs) :
  Calls Try.prog 77 #[.func (.func 79) #[] #[.pointer (some ⟨Bm, 0, none⟩)]] w fun e w' => ∃ v, e = .returned v ∧ w'.ownsRow w.heap.size 3 1 v xs.length (xs.map (Value.int .i64)) ∧ Below w.heap.size w w' := by
 have hv := values_stops Fence.wide 2 trivial rfl (by omega) Bm A c xs hx w hm hr;have ha := callsIn_wide.1 (appendSeq_in Fence.wide 3 trivial rfl (by omega) 79 #[.pointer (some ⟨Bm, 0, none⟩)] trivial (enters_of Try.func79 (by kernel_rfl) rfl) xs hx w w (Below.refl _ _) (Nat.le_refl _) hv);clear hv hm hr
 go_enter Try.func77, Try.ntmps77
 go_wp2_with (go_at_call 83; refine ha.mono ?_; rintro e W ⟨v, rfl, hrow, hb⟩)
 go_ret;exact ⟨v, rfl, hrow, hb⟩
set_option maxHeartbeats 2000000 in
set_option maxRecDepth 100000 in
theorem sorted_calls (Bm : Nat) (A : Option Addr) (c : Nat) (xs : List Int) (hx : xs.length ≤ 2000000) (w : World) (hm : w.heap[Bm]? = some (.cells #[.slice A xs.length c] 26 (0, 0))) (hr : Kd.C (Kd.int .i64) w A xs.length xs) :
  Calls Try.prog 69 #[.func (.func 79) #[] #[.pointer (some ⟨Bm, 0, none⟩)]] w fun e w' => ∃ v, e = .returned v ∧ Kd.R (Kd.int .i64) 3 w' w.heap.size (fun _ => True) v (xs.mergeSort fun x y => decide (x ≤ y)) ∧ Below w.heap.size w w' := by
 have hcol := collect_calls Bm A c xs hx w hm hr;clear hm hr
 go_enter Try.func69, Try.ntmps69
 go_wp2_with (go_at_call 77; refine hcol.mono ?_; rintro e W ⟨v, rfl, hrow, hb⟩)
 have hlen : (xs.mergeSort fun x y => decide (x ≤ y)).length = xs.length := List.length_mergeSort _
 rcases hrow.2 with ⟨rfl, hz⟩ | ⟨gb, cap, cur, rfl, hbase, hgb, r1, r2, r3, r4⟩
 ·have hss : xs = [] := List.eq_nil_of_length_eq_zero hz;subst hss;have hs := Go.Proofs.AnyM.slices_Sort_int_none lays_m5 none 0 W
  change Calls Try.prog 78 _ _ _ at hs
  go_wp2_with (go_at_call 78; refine hs.mono ?_; rintro e w' ⟨rfl, rfl⟩)
  go_ret;refine ⟨_, rfl, ?_, hb⟩;rw [show (([] : List Int).mergeSort fun x y => decide (x ≤ y)) = [] from List.mergeSort_nil];exact Kd.R_nil _ _ _ _ _
 ·have hH : Go.Sort.Holds (Value.int .i64) W gb 0 xs.toArray := by
   intro j hj;have hj : j < xs.length := by simpa using hj
   refine ⟨?_, blk_frozen hgb _⟩;rw [Nat.zero_add, blk_cell hgb];have h4 : (cur.toList.take (xs.length * 1))[j]? = (xs.map (Value.int .i64))[j]? := by rw [r4]
   rw [List.getElem?_take_of_lt (by omega), Array.getElem?_toList] at h4;rw [h4];simp [hj]
  have hs := Go.Proofs.AnyM.slices_Sort_int lays_m5 gb 0 cap xs W hH (blk_lt hgb) (by omega)
  change Calls Try.prog 78 _ _ _ at hs
  go_wp2_with (go_at_call 78; refine hs.mono ?_; rintro e w' ⟨rfl, nn, os, rfl⟩)
  go_ret;have hR := Go.ownsRow_sortedI (n := nn) (os := os) hlen hbase hgb r1 r2 r3;have hg := Go.grownBy_sortedI (w := W) (g := gb) (n := nn) (os := os) (xs.mergeSort fun x y => decide (x ≤ y)).toArray;refine ⟨_, rfl, Kd.R_of_own (World.ownsRow.two (by rw [hlen]; exact hR)) (fun _ _ => trivial), hb.grown hg hb.size (fun j hj => by cases hj; exact hbase)⟩
end Go.Proofs.Ytmioaahiflfcdaa.Pr
end
section
namespace Go.Proofs.Ytmioaahiflfcdaa.Pr
open Go.RowKit Go.Proofs.YtmioaahiflfcdaaW.PrintWords Go.Proofs.YtmioaahiflfcdaaW.PrintLast Go.Proofs.YtmioaahiflfcdaaW.PrintMore
attribute [local go_sem] max2_int min2_int max_two min_two max_three min_three max_four min_four
set_option linter.unusedVariables false
set_option linter.unusedSimpArgs false
open List renaming setIfInBounds_toArray → Z,set_cons_zero → zx,set_cons_succ → zy
open Go.Proofs.YtmioaahiflfcdaaW.PrintWords.Aside0 renaming mk → zz
def sortedL (x : List Int) : List Int:=x.mergeSort fun x y => decide (x ≤ y)
theorem sortedL_len (x : List Int) : (sortedL x).length = x.length:=List.length_mergeSort x
def countL (n : Nat) : List Int:=(List.range n).map fun i => ((i : Nat) : Int)
theorem countL_at {n j : Nat} (h : j < n) : rd (countL n) (j : Int) = (j : Int):=by simp [rd,countL,h]
theorem countL_all {ys : List Int} {n : Nat} (hl : ys.length = n) (h : ∀ j,j < n → rd ys (j : Int) = (j : Int)) : ys = countL n:=by
 apply List.ext_getElem (by simp [countL,hl])
 intro i h1 h2;have:=h i (by omega);simp [rd,h1] at this;simp [countL,this]
def impl_permuted.f (l0 : List Int) (a1 : Int) : Option Bool:=if l0.length ≤ 2000000 then some (decide (sortedL l0 = countL l0.length) && decide ((l0.length : Int) = a1)) else none
set_option maxHeartbeats 4000000 in
set_option maxRecDepth 100000 in
theorem impl_permuted.calls (A0 : Option Addr) (c0 : Nat) (l0 : List Int) (a1 : Int) (r : Bool) (w : World) (hr0 : Kd.C (Kd.int .i64) w A0 l0.length l0) (hc0 : l0.length ≤ c0) (h : impl_permuted.f l0 a1 = some r) :
  Calls Try.prog 46 #[.slice A0 l0.length c0,.int .i64 a1] w fun e w' => e = .returned (.bool r) ∧ Below w.heap.size w w':=by
 have hx : l0.length ≤ 2000000:=by
  by_cases hc : l0.length ≤ 2000000
  case pos => exact hc
  unfold impl_permuted.f at h; rw [if_neg hc] at h; exact absurd h (by simp)
 have hr : (decide (sortedL l0 = countL l0.length) && decide ((l0.length : Int) = a1)) = r:=by unfold impl_permuted.f at h; rw [if_pos hx] at h; exact Option.some.inj h
 have HR:=zz hr0;have HX:=zz hx;have HRR:=zz hr;have HSL:=zz (sortedL_len l0);clear hr0 hx hr h
 go_enter Try.func46,Try.ntmps46
 go_wp2_with (first
  | (go_at_call 70; refine (values_calls A0 l0.length c0 w).mono ?_; rintro e w1 ⟨gB,rfl,hB1,hB2,hB3⟩; have V1:=zz hB1; have B1:=zz hB3; clear hB1 hB2 hB3)
  | (go_at_call 69; refine (sorted_calls gB A0 c0 l0 HX.out w1 V1.out (Kd.C_below HR.out B1.out)).mono ?_; rintro e w2 ⟨v2,rfl,hR,hb⟩; obtain ⟨A2,c2,rfl⟩:=Kd.R_slice hR; have C2:=zz (Kd.R_reads' hR).2.2; have B2:=zz (below_step B1.out hb); clear hR hb V1 B1))
 change Aside0 (Kd.C (Kd.int .i64) w2 A2 (sortedL l0).length (sortedL l0)) at C2
 have HB:=zz B2.out;clear B2
 go_loopg [13] l0.length (fun gg s13 wr => ∃ n : Nat,s13 = .int .i64 (n : Int) ∧ Aside0 (n ≤ l0.length) ∧ Aside0 (l0.length - n ≤ gg) ∧ Aside0 (∀ j,j < n → rd (sortedL l0) (j : Int) = (j : Int)) ∧ Drawn0 w2 wr)
 case atStart => exact ⟨0,rfl,⟨by omega⟩,⟨by omega⟩,⟨fun j hj => absurd hj (by omega)⟩,by repeat (first | exact Drawn0.refl _ | apply Drawn0.step)⟩
 case round =>
  obtain ⟨n,rfl,N1,N2,N3,⟨m1,rfl⟩⟩:=hrel
  by_cases hn : n < l0.length
  case neg =>
   have c1 : decide ((n : Int) < (l0.length : Int)) = false:=decide_eq_false (by omega);have c2 : decide (n < l0.length) = false:=decide_eq_false hn;have hall : sortedL l0 = countL l0.length:=countL_all HSL.out (fun j hj => N3.out j (by omega));have hr2 : r = decide ((l0.length : Int) = a1):=by rw [← HRR.out,decide_eq_true hall,Bool.true_and]
   subst hr2;clear hn hall
   go_wp2
   go_ret;exact ⟨by first | rfl | simp,by (with_reducible repeat (first | exact HB.out | apply pw_below_drewN | apply below_drew))⟩
  have c1 : decide ((n : Int) < (l0.length : Int)) = true:=decide_eq_true (by omega);have c2 : decide (n < l0.length) = true:=decide_eq_true hn;have p1 : (0 : Int) ≤ (n : Int):=by omega
  have q1 : (n : Int) < ((sortedL l0).length : Int):=by have:=HSL.out; omega
  obtain ⟨ad2,e,hx2⟩:=Kd.at_int C2.out (n : Int) p1 q1;cases e;have hx3 : w2.cell? (ad2.add n) = some (.int .i64 (rd (sortedL l0) (n : Int))):=by simpa using hx2
  clear hx2;have hw : wrap64 ((n : Int) + 1) = ((n + 1 : Nat) : Int):=by have:=HX.out; unfold wrap64; omega
  have HW:=zz hw;have HNN:=zz hn;have p2:=eq_true p1;have q2:=eq_true q1;have q3 : ((n : Int) < (l0.length : Int)) = True:=eq_true (by omega);have q4 : (n < l0.length) = True:=eq_true hn;clear hw hn p1 q1
  by_cases ce : rd (sortedL l0) (n : Int) = (n : Int)
  case pos =>
   rw [ce] at hx3;have CE:=zz ce;clear ce
   go_wp2
   go_roundg (l0.length - (n + 1))
   case measure => have:=N2.out; have:=HNN.out; omega
   case rel => exact ⟨n + 1,by rw [HW.out],⟨by have:=HNN.out; omega⟩,⟨Nat.le_refl _⟩,⟨fun j hj => by
    by_cases e : j = n
    case pos => subst e; exact CE.out
    exact N3.out j (by omega)⟩,by repeat (first | exact Drawn0.refl _ | apply Drawn0.step)⟩
  have hno : r = false:=by
   rw [← HRR.out,decide_eq_false,Bool.false_and];intro e
   apply ce
   rw [e];exact countL_at HNN.out
  subst hno;have hne : ¬ (n : Int) = rd (sortedL l0) (n : Int):=fun e => ce e.symm
  have d1 : ((n : Int) == rd (sortedL l0) (n : Int)) = false:=by rw [beq_eq_false_iff_ne]; exact hne
  have d2 : decide ((n : Int) = rd (sortedL l0) (n : Int)) = false:=decide_eq_false hne;have d3 : ((n : Int) = rd (sortedL l0) (n : Int)) = False:=eq_false hne;clear ce hne
  go_wp2
  go_ret;exact ⟨rfl,by (with_reducible repeat (first | exact HB.out | apply pw_below_drewN | apply below_drew))⟩
def impl_JobCost.j0 : Nat → List Int → List Int → List Int → Bool → Int → List (S80) → Option (Int)
 | 0,_,_,_,_,_,_ => none
 | k + 1,x1,x2,x3,x20,x572000,x572001 => if x20 = true then (some (-1)) else ((impl_Net_table.f k x572000 x572001).bind fun t574 => ((impl_assigned.f k t574 x1 x2 x3).bind fun t577 => (some t577)))
def impl_JobCost.f (k : Nat) (a0_0 : Int) (l0_1 : List (S80)) (l1 : List Int) (l2 : List Int) (l3 : List Int) : Option (Int):=(impl_jobsOk.f a0_0 l0_1 l1 l2).bind fun t572 => (if t572 = true then ((impl_permuted.f l3 (l1.length : Int)).bind fun t573 => (impl_JobCost.j0 k l1 l2 l3 (!t573) a0_0 l0_1)) else (impl_JobCost.j0 k l1 l2 l3 true a0_0 l0_1))
set_option maxHeartbeats 8000000 in
set_option maxRecDepth 100000 in
theorem impl_JobCost.calls (k : Nat) (a0_0 : Int) (A0_1 : Option Addr) (c0_1 : Nat) (l0_1 : List (S80)) (A1 : Option Addr) (c1 : Nat) (l1 : List Int) (A2 : Option Addr) (c2 : Nat) (l2 : List Int) (A3 : Option Addr) (c3 : Nat) (l3 : List Int) (r : Int) (w : World) (hr0_1 : Kd.C k80 w A0_1 l0_1.length l0_1) (hc0_1 : l0_1.length ≤ c0_1) (hr1 : Kd.C (Kd.int .i64) w A1 l1.length l1) (hc1 : l1.length ≤ c1) (hr2 : Kd.C (Kd.int .i64) w A2 l2.length l2) (hc2 : l2.length ≤ c2) (hr3 : Kd.C (Kd.int .i64) w A3 l3.length l3) (hc3 : l3.length ≤ c3) (h : impl_JobCost.f k a0_0 l0_1 l1 l2 l3 = some r) :
  Calls Try.prog 22 #[.agg #[.int .i64 a0_0,.slice A0_1 l0_1.length c0_1],.slice A1 l1.length c1,.slice A2 l2.length c2,.slice A3 l3.length c3] w fun e w' => e = .returned (.int .i64 r) ∧ Below w.heap.size w w':=by
 have hu25:=Try.underlying25;have HR0_1:=zz hr0_1;have HC0_1:=zz hc0_1;clear hr0_1 hc0_1;have HR1:=zz hr1;have HC1:=zz hc1;clear hr1 hc1;have HR2:=zz hr2;have HC2:=zz hc2;clear hr2 hc2;have HR3:=zz hr3;have HC3:=zz hc3;clear hr3 hc3;have HB:=zz (Below.refl w.heap.size w);have H : ((impl_jobsOk.f a0_0 l0_1 l1 l2).bind fun t572 => (if t572 = true then ((impl_permuted.f l3 (l1.length : Int)).bind fun t573 => (impl_JobCost.j0 k l1 l2 l3 (!t573) a0_0 l0_1)) else (impl_JobCost.j0 k l1 l2 l3 true a0_0 l0_1))) = some r:=h;clear h;have HC5:=zz H;clear H
 go_enter Try.func22,Try.ntmps22
 go_upto_region 1 with (first | ((with_reducible refine gate_dst (N:=4) rfl ?_); (try (refine gate_guard (by rfl) ?_; dsimp only)); refine box_event ?hg (N:=4) ?hd (cs:=#[.int .i64 a0_0,.slice A0_1 l0_1.length c0_1]) (t:=25) ?hr ?_; (case hd => rfl); (case hg => rfl); (case hr => first | (go_simp; done) | (go_simp; rfl)); intro gb571 hg w6 hbox hb; have n0_:=zz (below_step (by repeat (first | (with_reducible first | exact HB.out | apply below_alloc | apply pw_below_drewN | apply below_drew1) | exact HB.out)) hb); have n1_:=zz (hbox); have n2_:=zz ((by rw [hg]; exact (below_size (by repeat (first | (with_reducible first | exact HB.out | apply below_alloc | apply pw_below_drewN | apply below_drew1) | exact HB.out))) : w.heap.size ≤ gb571)); have n3_:=zz ((by rw [hg]; exact (below_size (by repeat (first | (with_reducible first | exact HB.out | apply below_alloc | apply pw_below_drewN | apply below_drew1) | exact HB.out))) : w.heap.size ≤ gb571)); clear HB; have HB:=n0_; have BK571:=n1_; have GW571:=n2_; have GE571:=n3_; clear n0_ n1_ n2_ n3_; clear hb hbox hg))
 (try simp only [Act.put,Z,zx,zy])
 go_cut [20] (fun v20 wc => ∃ (kq : Nat) (x20_4 : Bool),v20 = .bool x20_4 ∧ Aside0 (impl_JobCost.j0 kq l1 l2 l3 x20_4 a0_0 l0_1 = some r) ∧ Aside0 (kq ≤ k) ∧ Aside0 (wc.heap[gb571]? = some (.cells #[.int .i64 a0_0,(.slice A0_1 l0_1.length c0_1)] 25 (0,0))) ∧ Aside0 (Below w.heap.size w wc))
 case first =>
  have H:=HC5.out;clear HC5;replace H:=Option.bind_eq_some_iff.mp H;obtain ⟨t572,A70,H⟩:=H;replace H : (if t572 = true then ((impl_permuted.f l3 (l1.length : Int)).bind fun t573 => (impl_JobCost.j0 k l1 l2 l3 (!t573) a0_0 l0_1)) else (impl_JobCost.j0 k l1 l2 l3 true a0_0 l0_1)) = some r:=H;have A7:=zz A70;clear A70
  by_cases c8 : t572 = true
  case neg =>
   replace c8:=Bool.eq_false_iff.mpr c8;subst c8;have H1 : (impl_JobCost.j0 k l1 l2 l3 true a0_0 l0_1) = some r:=by rw [if_neg (show ¬ (false = true) by decide)] at H; exact H
   clear H;have H:=H1;clear H1;have H':=zz H;clear H;have hcz13_0 : w6.cell? ⟨gb571,0,none⟩ = some (.int .i64 a0_0):=(blk_cell BK571.out 0).trans rfl;have hcz13_1 : w6.cell? ⟨gb571,1,none⟩ = some (.slice A0_1 l0_1.length c0_1):=(blk_cell BK571.out 1).trans rfl;have hfz13_0:=blk_frozen BK571.out 0;have hfz13_1:=blk_frozen BK571.out 1
   go_wp2_with (first | ((with_reducible refine gate_callee (f:=28) rfl ?_); refine goesL_ (some 12) rfl rfl Try.func28 (by kernel_rfl) rfl #[.agg #[.int .i64 a0_0,.slice A0_1 l0_1.length c0_1],.slice A1 l1.length c1,.slice A2 l2.length c2] rfl (by (try simp only [List.map_toArray,List.map_cons,List.map_nil]); first | done | rfl | (simp only [List.length_drop,List.length_take]; rfl)) ?_; (with_reducible refine (impl_jobsOk.calls a0_0 _ _ l0_1 _ _ l1 _ _ l2 false _ ?side1 ?side2 ?side3 ?side4 ?side5 ?side6 A7.out).mono ?_); (case side1 => repeat (first | exact (Kd.C_below HR0_1.out HB.out) | (with_reducible refine Kd.C_alloc ?_ _) | (with_reducible refine Kd.C_drewN ?_ _) | (with_reducible refine Kd.C_drew ?_))); (case side2 => exact HC0_1.out); (case side3 => repeat (first | exact (Kd.C_below HR1.out HB.out) | (with_reducible refine Kd.C_alloc ?_ _) | (with_reducible refine Kd.C_drewN ?_ _) | (with_reducible refine Kd.C_drew ?_))); (case side4 => exact HC1.out); (case side5 => repeat (first | exact (Kd.C_below HR2.out HB.out) | (with_reducible refine Kd.C_alloc ?_ _) | (with_reducible refine Kd.C_drewN ?_ _) | (with_reducible refine Kd.C_drew ?_))); (case side6 => exact HC2.out); rintro e w14 ⟨rfl,hb⟩; refine ⟨_,rfl,?_⟩; have n0_:=zz (blk_below (g:=gb571) (o:=.cells #[.int .i64 a0_0,.slice A0_1 l0_1.length c0_1] 25 (0,0)) (by (with_reducible repeat (first | refine blk_drewN ?_ _ | refine blk_drew ?_ | refine blk_alloc ?_ _)); exact BK571.out) hb); have n1_:=zz (below_step (by repeat (first | (with_reducible first | exact HB.out | apply below_alloc | apply pw_below_drewN | apply below_drew1 | refine below_set ?_ GE571.out) | exact HB.out)) hb); clear BK571; clear HB; have BK571:=n0_; have HB:=n1_; clear n0_ n1_; (try clear hb); (try clear hb2); (try clear hk); (try clear hi)))
   go_meet
   case rel => exact ⟨_,(true),(by first | rfl | (simp; done) | (simp [*]; done)),H',⟨by first | omega | exact Nat.le_refl _⟩,⟨by (with_reducible repeat (first | refine blk_drewN ?_ _ | refine blk_drew ?_ | refine blk_alloc ?_ _)); exact BK571.out⟩,⟨by repeat (first | (with_reducible first | exact HB.out | apply below_alloc | apply pw_below_drewN | apply below_drew1 | refine below_set ?_ GE571.out) | exact HB.out)⟩⟩
  subst c8;have H1 : ((impl_permuted.f l3 (l1.length : Int)).bind fun t573 => (impl_JobCost.j0 k l1 l2 l3 (!t573) a0_0 l0_1)) = some r:=by rw [if_pos rfl] at H; exact H
  clear H;have H:=H1;clear H1;replace H:=Option.bind_eq_some_iff.mp H;obtain ⟨t573,A90,H⟩:=H;replace H : (impl_JobCost.j0 k l1 l2 l3 (!t573) a0_0 l0_1) = some r:=H;have A9:=zz A90;clear A90;have H':=zz H;clear H;have hcz10_0 : w6.cell? ⟨gb571,0,none⟩ = some (.int .i64 a0_0):=(blk_cell BK571.out 0).trans rfl;have hcz10_1 : w6.cell? ⟨gb571,1,none⟩ = some (.slice A0_1 l0_1.length c0_1):=(blk_cell BK571.out 1).trans rfl;have hfz10_0:=blk_frozen BK571.out 0;have hfz10_1:=blk_frozen BK571.out 1
  go_wp2_with (first | ((with_reducible refine gate_callee (f:=28) rfl ?_); refine goesL_ (some 12) rfl rfl Try.func28 (by kernel_rfl) rfl #[.agg #[.int .i64 a0_0,.slice A0_1 l0_1.length c0_1],.slice A1 l1.length c1,.slice A2 l2.length c2] rfl (by (try simp only [List.map_toArray,List.map_cons,List.map_nil]); first | done | rfl | (simp only [List.length_drop,List.length_take]; rfl)) ?_; (with_reducible refine (impl_jobsOk.calls a0_0 _ _ l0_1 _ _ l1 _ _ l2 true _ ?side1 ?side2 ?side3 ?side4 ?side5 ?side6 A7.out).mono ?_); (case side1 => repeat (first | exact (Kd.C_below HR0_1.out HB.out) | (with_reducible refine Kd.C_alloc ?_ _) | (with_reducible refine Kd.C_drewN ?_ _) | (with_reducible refine Kd.C_drew ?_))); (case side2 => exact HC0_1.out); (case side3 => repeat (first | exact (Kd.C_below HR1.out HB.out) | (with_reducible refine Kd.C_alloc ?_ _) | (with_reducible refine Kd.C_drewN ?_ _) | (with_reducible refine Kd.C_drew ?_))); (case side4 => exact HC1.out); (case side5 => repeat (first | exact (Kd.C_below HR2.out HB.out) | (with_reducible refine Kd.C_alloc ?_ _) | (with_reducible refine Kd.C_drewN ?_ _) | (with_reducible refine Kd.C_drew ?_))); (case side6 => exact HC2.out); rintro e w11 ⟨rfl,hb⟩; refine ⟨_,rfl,?_⟩; have n0_:=zz (blk_below (g:=gb571) (o:=.cells #[.int .i64 a0_0,.slice A0_1 l0_1.length c0_1] 25 (0,0)) (by (with_reducible repeat (first | refine blk_drewN ?_ _ | refine blk_drew ?_ | refine blk_alloc ?_ _)); exact BK571.out) hb); have n1_:=zz (below_step (by repeat (first | (with_reducible first | exact HB.out | apply below_alloc | apply pw_below_drewN | apply below_drew1 | refine below_set ?_ GE571.out) | exact HB.out)) hb); clear BK571; clear HB; have BK571:=n0_; have HB:=n1_; clear n0_ n1_; (try clear hb); (try clear hb2); (try clear hk); (try clear hi)) | (go_at_call 46; (with_reducible refine (impl_permuted.calls _ _ l3 (l1.length : Int) t573 _ ?side1 ?side2 A9.out).mono ?_); (case side1 => repeat (first | exact (Kd.C_below HR3.out HB.out) | (with_reducible refine Kd.C_alloc ?_ _) | (with_reducible refine Kd.C_drewN ?_ _) | (with_reducible refine Kd.C_drew ?_))); (case side2 => exact HC3.out); rintro e w12 ⟨rfl,hb⟩; have n0_:=zz (blk_below (g:=gb571) (o:=.cells #[.int .i64 a0_0,.slice A0_1 l0_1.length c0_1] 25 (0,0)) (by (with_reducible repeat (first | refine blk_drewN ?_ _ | refine blk_drew ?_ | refine blk_alloc ?_ _)); exact BK571.out) hb); have n1_:=zz (below_step (by repeat (first | (with_reducible first | exact HB.out | apply below_alloc | apply pw_below_drewN | apply below_drew1 | refine below_set ?_ GE571.out) | exact HB.out)) hb); clear BK571; clear HB; have BK571:=n0_; have HB:=n1_; clear n0_ n1_; (try clear hb); (try clear hb2); (try clear hk); (try clear hi)))
  go_meet
  case rel => exact ⟨_,(!t573),(by first | rfl | (simp; done) | (simp [*]; done)),H',⟨by first | omega | exact Nat.le_refl _⟩,⟨by (with_reducible repeat (first | refine blk_drewN ?_ _ | refine blk_drew ?_ | refine blk_alloc ?_ _)); exact BK571.out⟩,⟨by repeat (first | (with_reducible first | exact HB.out | apply below_alloc | apply pw_below_drewN | apply below_drew1 | refine below_set ?_ GE571.out) | exact HB.out)⟩⟩
 case rest =>
  clear HC5
  try clear c1
  try clear c2
  try clear p2
  try clear c3
  try clear c8
  try clear hcz10_0
  try clear hcz10_1
  try clear hcz13_0
  try clear hcz13_1
  try clear hfz10_0
  try clear hfz10_1
  try clear hfz13_0
  try clear hfz13_1
  obtain ⟨kq,x20_4,rfl,HA,HJ4,BK571,HB⟩:=hcut;cases kq with
  | zero => exact absurd HA.out (by simp [impl_JobCost.j0])
  | succ kj4 =>
   have H:=HA.out;clear HA;simp only [impl_JobCost.j0] at H
   by_cases c15 : x20_4 = true
   case pos =>
    subst c15;have H1 : (some (-1)) = some r:=by rw [if_pos rfl] at H; exact H
    clear H;have H:=H1;clear H1;obtain rfl:=Option.some.inj H
    go_wp2
    go_ret;exact ⟨by first | rfl | (simp [errW_none,errW_some] <;> rfl) | (simp [*,errW_none,errW_some] <;> rfl),by repeat (first | (with_reducible first | exact HB.out | apply below_alloc | apply pw_below_drewN | apply below_drew1 | refine below_set ?_ GE571.out) | exact HB.out)⟩
   replace c15:=Bool.eq_false_iff.mpr c15;subst c15;have H1 : ((impl_Net_table.f kj4 a0_0 l0_1).bind fun t574 => ((impl_assigned.f kj4 t574 l1 l2 l3).bind fun t577 => (some t577))) = some r:=by rw [if_neg (show ¬ (false = true) by decide)] at H; exact H
   clear H;have H:=H1;clear H1;replace H:=Option.bind_eq_some_iff.mp H;obtain ⟨t574,A160,H⟩:=H;replace H : ((impl_assigned.f kj4 t574 l1 l2 l3).bind fun t577 => (some t577)) = some r:=H;have A16:=zz A160;clear A160;replace H:=Option.bind_eq_some_iff.mp H;obtain ⟨t577,A170,H⟩:=H;replace H : (some t577) = some r:=H;have A17:=zz A170;clear A170;obtain rfl:=Option.some.inj H;have hcz18_0 : wc.cell? ⟨gb571,0,none⟩ = some (.int .i64 a0_0):=(blk_cell BK571.out 0).trans rfl;have hcz18_1 : wc.cell? ⟨gb571,1,none⟩ = some (.slice A0_1 l0_1.length c0_1):=(blk_cell BK571.out 1).trans rfl;have hfz18_0:=blk_frozen BK571.out 0;have hfz18_1:=blk_frozen BK571.out 1
   go_wp2_with (first | ((with_reducible refine gate_callee (f:=29) rfl ?_); refine goesL_ (some 22) rfl rfl Try.func29 (by kernel_rfl) rfl #[.agg #[.int .i64 a0_0,.slice A0_1 l0_1.length c0_1]] rfl (by (try simp only [List.map_toArray,List.map_cons,List.map_nil]); first | done | rfl | (simp only [List.length_drop,List.length_take]; rfl)) ?_; (with_reducible refine (impl_Net_table.calls kj4 a0_0 _ _ l0_1 t574 _ ?side1 ?side2 A16.out).mono ?_); (case side1 => repeat (first | exact (Kd.C_below HR0_1.out HB.out) | (with_reducible refine Kd.C_alloc ?_ _) | (with_reducible refine Kd.C_drewN ?_ _) | (with_reducible refine Kd.C_drew ?_))); (case side2 => exact HC0_1.out); rintro e w19 ⟨v575,rfl,ho0,hb⟩; refine ⟨_,rfl,?_⟩; have n0_:=zz (Kd.S_lower ho0 (below_size (by repeat (first | (with_reducible first | exact HB.out | apply below_alloc | apply pw_below_drewN | apply below_drew1 | refine below_set ?_ GE571.out) | exact HB.out)))); have n1_:=zz (blk_below (g:=gb571) (o:=.cells #[.int .i64 a0_0,.slice A0_1 l0_1.length c0_1] 25 (0,0)) (by (with_reducible repeat (first | refine blk_drewN ?_ _ | refine blk_drew ?_ | refine blk_alloc ?_ _)); exact BK571.out) hb); have n2_:=zz (below_step (by repeat (first | (with_reducible first | exact HB.out | apply below_alloc | apply pw_below_drewN | apply below_drew1 | refine below_set ?_ GE571.out) | exact HB.out)) hb); clear BK571; clear HB; have HO576:=n0_; have BK571:=n1_; have HB:=n2_; clear n0_ n1_ n2_; (try clear hb); (try clear hb2); (try clear hk); (try clear hi); (try clear ho0); obtain ⟨Ao20,co20,eo20⟩:=Kd.S_slice HO576.out; subst eo20) | ((with_reducible refine gate_callee (f:=32) rfl ?_); refine goesL_ (some 26) rfl rfl Try.func32 (by kernel_rfl) rfl #[.slice Ao20 t574.length co20,.slice A1 l1.length c1,.slice A2 l2.length c2,.slice A3 l3.length c3] rfl (by (try simp only [List.map_toArray,List.map_cons,List.map_nil]); first | done | rfl | (simp only [List.length_drop,List.length_take]; rfl)) ?_; (with_reducible refine (impl_assigned.calls kj4 _ _ t574 _ _ l1 _ _ l2 _ _ l3 t577 _ ?side1 ?side2 ?side3 ?side4 ?side5 ?side6 ?side7 ?side8 A17.out).mono ?_); (case side1 => repeat (first | exact (Kd.S_reads' HO576.out).2.2 | (with_reducible refine Kd.C_alloc ?_ _) | (with_reducible refine Kd.C_drewN ?_ _) | (with_reducible refine Kd.C_drew ?_))); (case side2 => exact (Kd.S_reads' HO576.out).2.1); (case side3 => repeat (first | exact (Kd.C_below HR1.out HB.out) | (with_reducible refine Kd.C_alloc ?_ _) | (with_reducible refine Kd.C_drewN ?_ _) | (with_reducible refine Kd.C_drew ?_))); (case side4 => exact HC1.out); (case side5 => repeat (first | exact (Kd.C_below HR2.out HB.out) | (with_reducible refine Kd.C_alloc ?_ _) | (with_reducible refine Kd.C_drewN ?_ _) | (with_reducible refine Kd.C_drew ?_))); (case side6 => exact HC2.out); (case side7 => repeat (first | exact (Kd.C_below HR3.out HB.out) | (with_reducible refine Kd.C_alloc ?_ _) | (with_reducible refine Kd.C_drewN ?_ _) | (with_reducible refine Kd.C_drew ?_))); (case side8 => exact HC3.out); rintro e w' ⟨rfl,⟨nd,rfl⟩⟩; refine ⟨_,rfl,?_⟩))
   go_ret;exact ⟨by first | rfl | (simp [errW_none,errW_some] <;> rfl) | (simp [*,errW_none,errW_some] <;> rfl),by repeat (first | (with_reducible first | exact HB.out | apply below_alloc | apply pw_below_drewN | apply below_drew1 | refine below_set ?_ GE571.out) | exact HB.out)⟩
mutual
def laws_FnJobBest.j0 : Nat → List Int → List Int → Bool → Option (Bool)
 | 0,_,_,_ => none
 | k + 1,x0,x1,x23 => if x23 = true then (some true) else ((spec_DrawJobBest.f k x0).bind fun bt708 => ((impl_JobBest.f k bt708.1 bt708.2.1 bt708.2.2.1 bt708.2.2.2).bind fun bt719 => ((spec_JobBest.f k bt708.1 bt708.2.1 bt708.2.2.1 bt708.2.2.2).bind fun bt723 => (if bt719.2 = bt723.2 then ((laws_wkInts.f k bt719.1 bt723.1).bind fun t727 => (if t727 = true then (if bt719.2 < 0 then (laws_FnJobBest.j1 k x1 bt708.2.2.1 bt708.2.2.2 bt719.1 bt719.2 bt723.1 bt723.2 true bt708.1 bt708.2.1) else (laws_FnJobBest.j1 k x1 bt708.2.2.1 bt708.2.2.2 bt719.1 bt719.2 bt723.1 bt723.2 ((bt719.1.length : Int) == 0) bt708.1 bt708.2.1)) else (laws_FnJobBest.j1 k x1 bt708.2.2.1 bt708.2.2.2 bt719.1 bt719.2 bt723.1 bt723.2 true bt708.1 bt708.2.1))) else (laws_FnJobBest.j1 k x1 bt708.2.2.1 bt708.2.2.2 bt719.1 bt719.2 bt723.1 bt723.2 true bt708.1 bt708.2.1)))))
def laws_FnJobBest.j1 : Nat → List Int → List Int → List Int → List Int → Int → List Int → Int → Bool → Int → List (S80) → Option (Bool)
 | 0,_,_,_,_,_,_,_,_,_,_ => none
 | k + 1,x1,x6,x7,x8,x9,x10,x11,x61,p8,p9 => if x61 = true then (if x9 = x11 then ((laws_wkInts.f k x8 x10).bind fun t728 => (if t728 = true then (if (x8.length : Int) > 0 then (some true) else (if x9 < 0 then (some true) else (some (x9 == 99999)))) else (some false))) else (some false)) else (if (x8.length : Int) = 0 then (none) else ((some (([] : List Int) : List Int)).bind fun y729 => (if y729.length + x8.length < 17592186044416 then ((some (y729 ++ x8 : List Int)).bind fun y732 => (if 0 ≤ ((x1.length : Int) % (x8.length : Int)) then (if ((x1.length : Int) % (x8.length : Int)) < (y732.length : Int) then (if 0 ≤ (Int.tmod (wrap64 ((x1.length : Int) / (x8.length : Int))) (x8.length : Int)) then (if (Int.tmod (wrap64 ((x1.length : Int) / (x8.length : Int))) (x8.length : Int)) < (y732.length : Int) then ((impl_JobCost.f k p8 p9 x6 x7 x8).bind fun t739 => (if t739 = x9 then ((impl_JobCost.f k p8 p9 x6 x7 ((y732.set (((x1.length : Int) % (x8.length : Int)) : Int).toNat (rd y732 (Int.tmod (wrap64 ((x1.length : Int) / (x8.length : Int))) (x8.length : Int)))).set ((Int.tmod (wrap64 ((x1.length : Int) / (x8.length : Int))) (x8.length : Int)) : Int).toNat (rd y732 ((x1.length : Int) % (x8.length : Int))))).bind fun t740 => (some (decide (t740 ≥ x9)))) else (some false))) else (none)) else (none)) else (none)) else (none))) else (none))))
end
def laws_FnJobBest.f (k : Nat) (l0 : List Int) (l1 : List Int) : Option (Bool):=if (l0.length : Int) > 1048576 then (laws_FnJobBest.j0 k l0 l1 true) else (laws_FnJobBest.j0 k l0 l1 (decide ((l1.length : Int) > 1048576)))
set_option maxHeartbeats 8000000 in
set_option maxRecDepth 100000 in
theorem laws_FnJobBest.calls (k : Nat) (A0 : Option Addr) (c0 : Nat) (l0 : List Int) (A1 : Option Addr) (c1 : Nat) (l1 : List Int) (r : Bool) (w : World) (hr0 : Kd.C (Kd.int .u8) w A0 l0.length l0) (hc0 : l0.length ≤ c0) (hr1 : Kd.C (Kd.int .u8) w A1 l1.length l1) (hc1 : l1.length ≤ c1) (h : laws_FnJobBest.f k l0 l1 = some r) (hrT_ : r = true:=by rfl) :
  Calls Try.prog 7 #[.slice A0 l0.length c0,.slice A1 l1.length c1] w fun e w' => e = .returned (.bool r) ∧ Below w.heap.size w w':=by
 have HRT_:=zz hrT_;clear hrT_;have hu25:=Try.underlying25;have HR0:=zz hr0;have HC0:=zz hc0;clear hr0 hc0;have HR1:=zz hr1;have HC1:=zz hc1;clear hr1 hc1;have HB:=zz (Below.refl w.heap.size w);have H : (if (l0.length : Int) > 1048576 then (laws_FnJobBest.j0 k l0 l1 true) else (laws_FnJobBest.j0 k l0 l1 (decide ((l1.length : Int) > 1048576)))) = some r:=h;clear h;have HC3:=zz H;clear H
 go_enter Try.func7,Try.ntmps7
 go_upto_region 1 with (fail)
 go_cut [23] (fun v23 wc => ∃ (kq : Nat) (q0 : Bool),v23 = .bool q0 ∧ Aside0 (laws_FnJobBest.j0 kq l0 l1 q0 = some r) ∧ Aside0 (kq ≤ k) ∧ Aside0 (Below w.heap.size w wc))
 case first =>
  have H:=HC3.out;clear HC3
  by_cases c4 : (l0.length : Int) > 1048576
  case pos =>
   rw [if_pos c4] at H;have c4b0 : decide (1048576 < (l0.length : Int)) = true:=decide_eq_true c4;have c4b1 : decide (1048576 < l0.length) = true:=decide_eq_true (by omega);clear c4
   (first | rw [c4b0] | (simp only [i64_w,i32_w]; rw [c4b0]) | skip)
   have H':=zz H;clear H
   go_wp2
   go_meet
   case rel => exact ⟨_,(true),(by first | rfl | (simp; done) | (simp [*]; done)),H',⟨by first | omega | exact Nat.le_refl _⟩,⟨by repeat (first | (with_reducible first | exact HB.out | apply below_alloc | apply pw_below_drewN | apply below_drew1) | exact HB.out)⟩⟩
  rw [if_neg c4] at H;have c4b0 : decide (1048576 < (l0.length : Int)) = false:=decide_eq_false c4;have c4b1 : decide (1048576 < l0.length) = false:=decide_eq_false (by omega);clear c4
  (first | rw [c4b0] | (simp only [i64_w,i32_w]; rw [c4b0]) | skip)
  have H':=zz H;clear H
  go_wp2
  go_meet
  case rel => exact ⟨_,(decide ((l1.length : Int) > 1048576)),(by first | rfl | (simp; done) | (simp [*]; done)),H',⟨by first | omega | exact Nat.le_refl _⟩,⟨by repeat (first | (with_reducible first | exact HB.out | apply below_alloc | apply pw_below_drewN | apply below_drew1) | exact HB.out)⟩⟩
 case rest =>
  clear HC3
  try clear c1
  try clear p2
  try clear c4
  try clear c4b0
  try clear c4b1
  obtain ⟨kq,q0,rfl,HA,HJ2,HB⟩:=hcut;cases kq with
  | zero => exact absurd HA.out (by simp [laws_FnJobBest.j0])
  | succ kj2 =>
   have H:=HA.out;clear HA;simp only [laws_FnJobBest.j0] at H
   by_cases c5 : q0 = true
   case pos =>
    subst c5;have H1 : (some true) = some r:=by rw [if_pos rfl] at H; exact H
    clear H;have H:=H1;clear H1;obtain rfl:=Option.some.inj H
    go_wp2
    go_ret;exact ⟨by first | rfl | (simp [errW_none,errW_some] <;> rfl) | (simp [*,errW_none,errW_some] <;> rfl),by repeat (first | (with_reducible first | exact HB.out | apply below_alloc | apply pw_below_drewN | apply below_drew1) | exact HB.out)⟩
   replace c5:=Bool.eq_false_iff.mpr c5;subst c5;have H1 : ((spec_DrawJobBest.f kj2 l0).bind fun bt708 => ((impl_JobBest.f kj2 bt708.1 bt708.2.1 bt708.2.2.1 bt708.2.2.2).bind fun bt719 => ((spec_JobBest.f kj2 bt708.1 bt708.2.1 bt708.2.2.1 bt708.2.2.2).bind fun bt723 => (if bt719.2 = bt723.2 then ((laws_wkInts.f kj2 bt719.1 bt723.1).bind fun t727 => (if t727 = true then (if bt719.2 < 0 then (laws_FnJobBest.j1 kj2 l1 bt708.2.2.1 bt708.2.2.2 bt719.1 bt719.2 bt723.1 bt723.2 true bt708.1 bt708.2.1) else (laws_FnJobBest.j1 kj2 l1 bt708.2.2.1 bt708.2.2.2 bt719.1 bt719.2 bt723.1 bt723.2 ((bt719.1.length : Int) == 0) bt708.1 bt708.2.1)) else (laws_FnJobBest.j1 kj2 l1 bt708.2.2.1 bt708.2.2.2 bt719.1 bt719.2 bt723.1 bt723.2 true bt708.1 bt708.2.1))) else (laws_FnJobBest.j1 kj2 l1 bt708.2.2.1 bt708.2.2.2 bt719.1 bt719.2 bt723.1 bt723.2 true bt708.1 bt708.2.1))))) = some r:=by rw [if_neg (show ¬ (false = true) by decide)] at H; exact H
   clear H;have H:=H1;clear H1;replace H:=Option.bind_eq_some_iff.mp H;obtain ⟨⟨t708,t709,t712,t715⟩,A60,H⟩:=H;replace H : ((impl_JobBest.f kj2 t708 t709 t712 t715).bind fun bt719 => ((spec_JobBest.f kj2 t708 t709 t712 t715).bind fun bt723 => (if bt719.2 = bt723.2 then ((laws_wkInts.f kj2 bt719.1 bt723.1).bind fun t727 => (if t727 = true then (if bt719.2 < 0 then (laws_FnJobBest.j1 kj2 l1 t712 t715 bt719.1 bt719.2 bt723.1 bt723.2 true t708 t709) else (laws_FnJobBest.j1 kj2 l1 t712 t715 bt719.1 bt719.2 bt723.1 bt723.2 ((bt719.1.length : Int) == 0) t708 t709)) else (laws_FnJobBest.j1 kj2 l1 t712 t715 bt719.1 bt719.2 bt723.1 bt723.2 true t708 t709))) else (laws_FnJobBest.j1 kj2 l1 t712 t715 bt719.1 bt719.2 bt723.1 bt723.2 true t708 t709)))) = some r:=H;have A6:=zz A60;clear A60;replace H:=Option.bind_eq_some_iff.mp H;obtain ⟨⟨t719,t722⟩,A70,H⟩:=H;replace H : ((spec_JobBest.f kj2 t708 t709 t712 t715).bind fun bt723 => (if t722 = bt723.2 then ((laws_wkInts.f kj2 t719 bt723.1).bind fun t727 => (if t727 = true then (if t722 < 0 then (laws_FnJobBest.j1 kj2 l1 t712 t715 t719 t722 bt723.1 bt723.2 true t708 t709) else (laws_FnJobBest.j1 kj2 l1 t712 t715 t719 t722 bt723.1 bt723.2 ((t719.length : Int) == 0) t708 t709)) else (laws_FnJobBest.j1 kj2 l1 t712 t715 t719 t722 bt723.1 bt723.2 true t708 t709))) else (laws_FnJobBest.j1 kj2 l1 t712 t715 t719 t722 bt723.1 bt723.2 true t708 t709))) = some r:=H;have A7:=zz A70;clear A70;replace H:=Option.bind_eq_some_iff.mp H;obtain ⟨⟨t723,t726⟩,A80,H⟩:=H;replace H : (if t722 = t726 then ((laws_wkInts.f kj2 t719 t723).bind fun t727 => (if t727 = true then (if t722 < 0 then (laws_FnJobBest.j1 kj2 l1 t712 t715 t719 t722 t723 t726 true t708 t709) else (laws_FnJobBest.j1 kj2 l1 t712 t715 t719 t722 t723 t726 ((t719.length : Int) == 0) t708 t709)) else (laws_FnJobBest.j1 kj2 l1 t712 t715 t719 t722 t723 t726 true t708 t709))) else (laws_FnJobBest.j1 kj2 l1 t712 t715 t719 t722 t723 t726 true t708 t709)) = some r:=H;have A8:=zz A80;clear A80;have HC9:=zz H;clear H
   go_upto_region 6 with (first | ((with_reducible refine gate_callee (f:=8) rfl ?_); refine goesL_ (some 26) rfl rfl Try.func8 (by kernel_rfl) rfl #[.slice A0 l0.length c0] rfl (by (try simp only [List.map_toArray,List.map_cons,List.map_nil]); first | done | rfl | (simp only [List.length_drop,List.length_take]; rfl)) ?_; (with_reducible refine (spec_DrawJobBest.calls kj2 _ _ l0 t708 t709 t712 t715 _ ?side1 ?side2 A6.out).mono ?_); (case side1 => repeat (first | exact (Kd.C_below HR0.out HB.out) | (with_reducible refine Kd.C_alloc ?_ _) | (with_reducible refine Kd.C_drewN ?_ _) | (with_reducible refine Kd.C_drew ?_))); (case side2 => exact HC0.out); rintro e w10 ⟨v710,v713,v716,rfl,ho0,ho1,ho2,hb⟩; refine ⟨_,rfl,?_⟩; have n0_:=zz (Kd.R_lower ho0 (below_size HB.out)); have n1_:=zz (Kd.R_lower ho1 (below_size HB.out)); have n2_:=zz (Kd.R_lower ho2 (below_size HB.out)); have n3_:=zz (below_step HB.out hb); clear HB; have HO711:=n0_; have HO714:=n1_; have HO717:=n2_; have HB:=n3_; clear n0_ n1_ n2_ n3_; (try clear hb); (try clear hb2); (try clear hk); (try clear hi); (try clear ho0); (try clear ho1); (try clear ho2)) | ((with_reducible refine gate_dst (N:=5) rfl ?_); (try (refine gate_guard (by rfl) ?_; dsimp only)); refine box_event ?hg (N:=5) ?hd (cs:=#[.int .i64 0,.slice none 0 0]) (t:=25) ?hr ?_; (case hd => rfl); (case hg => rfl); (case hr => first | (go_simp; done) | (go_simp; rfl)); intro p3 hg w11 hbox hb; have n0_:=zz (Kd.R_below HO711.out hb); have n1_:=zz (Kd.R_below HO714.out hb); have n2_:=zz (Kd.R_below HO717.out hb); have n3_:=zz (below_step HB.out hb); have n4_:=zz (hbox); have n5_:=zz ((by rw [hg]; exact (below_size HB.out) : w.heap.size ≤ p3)); have n6_:=zz ((by rw [hg]; exact (below_size HB.out) : w.heap.size ≤ p3)); clear HO711; clear HO714; clear HO717; clear HB; have HO711:=n0_; have HO714:=n1_; have HO717:=n2_; have HB:=n3_; have p1:=n4_; have GW718:=n5_; have p5:=n6_; clear n0_ n1_ n2_ n3_ n4_ n5_ n6_; clear hb hbox hg; have q5 : w11.cell? ⟨p3,0,none⟩ = some (.int .i64 0):=(blk_cell p1.out 0).trans rfl; have q6 : w11.cell? ⟨p3,1,none⟩ = some (.slice none 0 0):=(blk_cell p1.out 1).trans rfl; have q7:=blk_frozen p1.out 0; have q8:=blk_frozen p1.out 1; obtain ⟨Ao13,co13,eo13⟩:=Kd.R_slice HO711.out; subst eo13; obtain ⟨Ao14,co14,eo14⟩:=Kd.R_slice HO714.out; subst eo14; obtain ⟨Ao15,co15,eo15⟩:=Kd.R_slice HO717.out; subst eo15) | ((with_reducible refine gate_callee (f:=9) rfl ?_); refine goesL_ (some 34) rfl rfl Try.func9 (by kernel_rfl) rfl #[.agg #[.int .i64 t708,.slice Ao13 t709.length co13],.slice Ao14 t712.length co14,.slice Ao15 t715.length co15] rfl (by (try simp only [List.map_toArray,List.map_cons,List.map_nil]); first | done | rfl | (simp only [List.length_drop,List.length_take]; rfl)) ?_; (with_reducible refine (impl_JobBest.calls kj2 t708 _ _ t709 _ _ t712 _ _ t715 t719 t722 _ ?side1 ?side2 ?side3 ?side4 ?side5 ?side6 A7.out).mono ?_); (case side1 => refine (Kd.R_reads' (e:=80) (base:=w.heap.size) (ok:=fun k_ => True) (n:=t709.length) (c:=co13) ?_).2.2; exact (Kd.R_mono (Kd.R_far (p:=⟨p3,1,none⟩) (Kd.R_far (p:=⟨p3,0,none⟩) (Kd.R_types HO711.out p1.out (by decide)) (fun _ hk => hk.2) (.int .i64 t708)) (fun _ hk => hk.2) (.slice Ao13 t709.length co13)) (fun _ h_ => h_.1))); (case side2 => exact (Kd.R_reads' HO711.out).2.1); (case side3 => refine (Kd.R_reads' (e:=3) (base:=w.heap.size) (ok:=fun k_ => some k_ ≠ (.slice Ao15 t715.length co15 : Value).ownBlock) (n:=t712.length) (c:=co14) ?_).2.2; exact (Kd.R_mono (Kd.R_far (p:=⟨p3,1,none⟩) (Kd.R_far (p:=⟨p3,0,none⟩) (Kd.R_types HO714.out p1.out (by decide)) (fun _ hk => hk.2) (.int .i64 t708)) (fun _ hk => hk.2) (.slice Ao13 t709.length co13)) (fun _ h_ => h_.1))); (case side4 => exact (Kd.R_reads' HO714.out).2.1); (case side5 => refine (Kd.R_reads' (e:=3) (base:=w.heap.size) (ok:=fun k_ => some k_ ≠ (.slice Ao14 t712.length co14 : Value).ownBlock) (n:=t715.length) (c:=co15) ?_).2.2; exact (Kd.R_mono (Kd.R_far (p:=⟨p3,1,none⟩) (Kd.R_far (p:=⟨p3,0,none⟩) (Kd.R_types HO717.out p1.out (by decide)) (fun _ hk => hk.2) (.int .i64 t708)) (fun _ hk => hk.2) (.slice Ao13 t709.length co13)) (fun _ h_ => h_.1))); (case side6 => exact (Kd.R_reads' HO717.out).2.1); rintro e w16 ⟨v720,rfl,ho0,hb⟩; refine ⟨_,rfl,?_⟩; have n0_:=zz (Kd.R_below (Kd.R_mono (Kd.R_far (p:=⟨p3,1,none⟩) (Kd.R_far (p:=⟨p3,0,none⟩) (Kd.R_types HO711.out p1.out (by decide)) (fun _ hk => hk.2) (.int .i64 t708)) (fun _ hk => hk.2) (.slice Ao13 t709.length co13)) (fun _ h_ => h_.1)) hb); have n1_:=zz (Kd.R_elder' (Kd.R_mono (Kd.R_far (p:=⟨p3,1,none⟩) (Kd.R_far (p:=⟨p3,0,none⟩) (Kd.R_types HO714.out p1.out (by decide)) (fun _ hk => hk.2) (.int .i64 t708)) (fun _ hk => hk.2) (.slice Ao13 t709.length co13)) (fun _ h_ => h_.1)) (Kd.R_base ho0) hb); have n2_:=zz (Kd.R_elder' (Kd.R_mono (Kd.R_far (p:=⟨p3,1,none⟩) (Kd.R_far (p:=⟨p3,0,none⟩) (Kd.R_types HO717.out p1.out (by decide)) (fun _ hk => hk.2) (.int .i64 t708)) (fun _ hk => hk.2) (.slice Ao13 t709.length co13)) (fun _ h_ => h_.1)) (Kd.R_base ho0) hb); have n3_:=zz (Kd.R_lower (Kd.R_new' (Kd.R_new' ho0 (Kd.R_lt (Kd.R_mono (Kd.R_far (p:=⟨p3,1,none⟩) (Kd.R_far (p:=⟨p3,0,none⟩) (Kd.R_types HO714.out p1.out (by decide)) (fun _ hk => hk.2) (.int .i64 t708)) (fun _ hk => hk.2) (.slice Ao13 t709.length co13)) (fun _ h_ => h_.1)))) (Kd.R_lt (Kd.R_mono (Kd.R_far (p:=⟨p3,1,none⟩) (Kd.R_far (p:=⟨p3,0,none⟩) (Kd.R_types HO717.out p1.out (by decide)) (fun _ hk => hk.2) (.int .i64 t708)) (fun _ hk => hk.2) (.slice Ao13 t709.length co13)) (fun _ h_ => h_.1)))) (below_size (by repeat (first | (with_reducible first | exact HB.out | apply below_alloc | apply pw_below_drewN | apply below_drew1 | refine below_set ?_ p5.out) | exact HB.out)))); have n4_:=zz (blk_below (g:=p3) (o:=.cells #[.int .i64 t708,.slice Ao13 t709.length co13] 25 (0,0)) (by (with_reducible repeat (first | refine blk_drewN ?_ _ | refine blk_drew ?_ | refine blk_alloc ?_ _)); refine blk_put (cs:=#[.int .i64 t708,.slice none 0 0]) ?_ 1 _ rfl; (with_reducible repeat (first | refine blk_drewN ?_ _ | refine blk_drew ?_ | refine blk_alloc ?_ _)); refine blk_put (cs:=#[.int .i64 0,.slice none 0 0]) ?_ 0 _ rfl; (with_reducible repeat (first | refine blk_drewN ?_ _ | refine blk_drew ?_ | refine blk_alloc ?_ _)); exact p1.out) hb); have n5_:=zz (below_step (by repeat (first | (with_reducible first | exact HB.out | apply below_alloc | apply pw_below_drewN | apply below_drew1 | refine below_set ?_ p5.out) | exact HB.out)) hb); clear HO711; clear HO714; clear HO717; clear p1; clear HB; have HO711:=n0_; have HO714:=n1_; have HO717:=n2_; have HO721:=n3_; have p1:=n4_; have HB:=n5_; clear n0_ n1_ n2_ n3_ n4_ n5_; (try clear hb); (try clear hb2); (try clear hk); (try clear hi); (try clear ho0); have q9 : w16.cell? ⟨p3,0,none⟩ = some (.int .i64 t708):=(blk_cell p1.out 0).trans rfl; have r0 : w16.cell? ⟨p3,1,none⟩ = some (.slice Ao13 t709.length co13):=(blk_cell p1.out 1).trans rfl; have r1:=blk_frozen p1.out 0; have r2:=blk_frozen p1.out 1) | ((with_reducible refine gate_callee (f:=10) rfl ?_); refine goesL_ (some 41) rfl rfl Try.func10 (by kernel_rfl) rfl #[.agg #[.int .i64 t708,.slice Ao13 t709.length co13],.slice Ao14 t712.length co14,.slice Ao15 t715.length co15] rfl (by (try simp only [List.map_toArray,List.map_cons,List.map_nil]); first | done | rfl | (simp only [List.length_drop,List.length_take]; rfl)) ?_; (with_reducible refine (spec_JobBest.calls kj2 t708 _ _ t709 _ _ t712 _ _ t715 t723 t726 _ ?side1 ?side2 ?side3 ?side4 ?side5 ?side6 A8.out).mono ?_); (case side1 => repeat (first | exact (Kd.R_reads' HO711.out).2.2 | (with_reducible refine Kd.C_alloc ?_ _) | (with_reducible refine Kd.C_drewN ?_ _) | (with_reducible refine Kd.C_drew ?_))); (case side2 => exact (Kd.R_reads' HO711.out).2.1); (case side3 => repeat (first | exact (Kd.R_reads' HO714.out).2.2 | (with_reducible refine Kd.C_alloc ?_ _) | (with_reducible refine Kd.C_drewN ?_ _) | (with_reducible refine Kd.C_drew ?_))); (case side4 => exact (Kd.R_reads' HO714.out).2.1); (case side5 => repeat (first | exact (Kd.R_reads' HO717.out).2.2 | (with_reducible refine Kd.C_alloc ?_ _) | (with_reducible refine Kd.C_drewN ?_ _) | (with_reducible refine Kd.C_drew ?_))); (case side6 => exact (Kd.R_reads' HO717.out).2.1); rintro e w18 ⟨v724,rfl,ho0,hb⟩; refine ⟨_,rfl,?_⟩; have n0_:=zz (Kd.R_below HO711.out hb); have n1_:=zz (Kd.R_below HO714.out hb); have n2_:=zz (Kd.R_below HO717.out hb); have n3_:=zz (Kd.R_below HO721.out hb); have n4_:=zz (Kd.V_lower (Kd.V_mono (ok':=fun k_ => some k_ ≠ (.slice Ao13 t709.length co13 : Value).ownBlock ∧ some k_ ≠ (.slice Ao14 t712.length co14 : Value).ownBlock ∧ some k_ ≠ (.slice Ao15 t715.length co15 : Value).ownBlock ∧ some k_ ≠ (v720 : Value).ownBlock ∧ k_ ≠ p3) ho0 (fun k_ hk_ => ⟨(Kd.fresh' (Kd.R_lt HO711.out) k_ hk_),(Kd.fresh' (Kd.R_lt HO714.out) k_ hk_),(Kd.fresh' (Kd.R_lt HO717.out) k_ hk_),(Kd.fresh' (Kd.R_lt HO721.out) k_ hk_),(Kd.freshB (g:=p3) (o:=.cells #[.int .i64 t708,.slice Ao13 t709.length co13] 25 (0,0)) p1.out k_ hk_)⟩)) (below_size HB.out)); have n5_:=zz (blk_below (g:=p3) (o:=.cells #[.int .i64 t708,.slice Ao13 t709.length co13] 25 (0,0)) p1.out hb); have n6_:=zz (below_step HB.out hb); clear HO711; clear HO714; clear HO717; clear HO721; clear p1; clear HB; have HO711:=n0_; have HO714:=n1_; have HO717:=n2_; have HO721:=n3_; have HO725:=n4_; have p1:=n5_; have HB:=n6_; clear n0_ n1_ n2_ n3_ n4_ n5_ n6_; (try clear hb); (try clear hb2); (try clear hk); (try clear hi); (try clear ho0)))
   (try simp only [Act.put,Z,zx,zy])
   go_cut [61] (fun v61 wc => ∃ (kq : Nat) (q1 : Bool),v61 = .bool q1 ∧ Aside0 (laws_FnJobBest.j1 kq l1 t712 t715 t719 t722 t723 t726 q1 t708 t709 = some r) ∧ Aside0 (kq ≤ kj2) ∧ Aside0 (Kd.R (Kd.int .i64) 3 wc w.heap.size (fun k_ => some k_ ≠ ((.slice Ao15 t715.length co15) : Value).ownBlock ∧ some k_ ≠ (v720 : Value).ownBlock) (.slice Ao14 t712.length co14) t712) ∧ Aside0 (Kd.R (Kd.int .i64) 3 wc w.heap.size (fun k_ => some k_ ≠ ((.slice Ao14 t712.length co14) : Value).ownBlock ∧ some k_ ≠ (v720 : Value).ownBlock) (.slice Ao15 t715.length co15) t715) ∧ Aside0 (Kd.R (Kd.int .i64) 3 wc w.heap.size (fun k_ => some k_ ≠ ((.slice Ao14 t712.length co14) : Value).ownBlock ∧ some k_ ≠ ((.slice Ao15 t715.length co15) : Value).ownBlock) v720 t719) ∧ Aside0 (Kd.V (Kd.int .i64) 3 wc w.heap.size (fun k_ => some k_ ≠ ((.slice Ao14 t712.length co14) : Value).ownBlock ∧ some k_ ≠ ((.slice Ao15 t715.length co15) : Value).ownBlock ∧ some k_ ≠ (v720 : Value).ownBlock ∧ some k_ ≠ ((.slice Ao13 t709.length co13) : Value).ownBlock ∧ k_ ≠ p3) v724 t723) ∧ Aside0 (Kd.R k80 80 wc w.heap.size (fun _ => True) (.slice Ao13 t709.length co13) t709) ∧ Aside0 (wc.heap[p3]? = some (.cells #[.int .i64 t708,(.slice Ao13 t709.length co13)] 25 (0,0))) ∧ Aside0 (Below w.heap.size w wc))
   case first =>
    have H:=HC9.out;clear HC9
    by_cases c19 : t722 = t726
    case neg =>
     rw [if_neg c19] at H;have c19b0 : (t722 == t726) = false:=beq_eq_false_iff_ne.mpr c19;have c19b1 : (t722 != t726) = true:=bne_iff_ne.mpr c19
     (first | rw [c19b0] | (simp only [i64_w,i32_w]; rw [c19b0]) | skip)
     have H':=zz H;clear H
     go_wp2
     go_meet
     case rel => exact ⟨_,(true),(by first | rfl | (simp; done) | (simp [*]; done)),H',⟨by have:=HJ2.out; first | omega | exact Nat.le_refl _⟩,⟨by (with_reducible repeat (first | apply Kd.R_alloc | apply Kd.R_drewN | apply Kd.R_drew)); exact HO714.out⟩,⟨by (with_reducible repeat (first | apply Kd.R_alloc | apply Kd.R_drewN | apply Kd.R_drew)); exact HO717.out⟩,⟨by (with_reducible repeat (first | apply Kd.R_alloc | apply Kd.R_drewN | apply Kd.R_drew)); exact Kd.R_mono HO721.out (fun _ hk => ⟨hk.1.2,hk.2⟩)⟩,⟨by (with_reducible repeat (first | apply Kd.V_alloc | apply Kd.V_drewN | apply Kd.V_drew)); exact Kd.V_mono HO725.out (fun _ hk => ⟨hk.2.1,⟨hk.2.2.1,⟨hk.2.2.2.1,⟨hk.1,hk.2.2.2.2⟩⟩⟩⟩)⟩,⟨by (with_reducible repeat (first | apply Kd.R_alloc | apply Kd.R_drewN | apply Kd.R_drew)); exact HO711.out⟩,⟨by (with_reducible repeat (first | refine blk_drewN ?_ _ | refine blk_drew ?_ | refine blk_alloc ?_ _)); exact p1.out⟩,⟨by repeat (first | (with_reducible first | exact HB.out | apply below_alloc | apply pw_below_drewN | apply below_drew1 | refine below_set ?_ p5.out) | exact HB.out)⟩⟩
    rw [if_pos c19] at H;have c19b0 : (t722 == t726) = true:=beq_iff_eq.mpr c19;have c19b1 : (t722 != t726) = false:=bne_eq_false_iff_eq.mpr c19;clear c19
    (first | rw [c19b0] | (simp only [i64_w,i32_w]; rw [c19b0]) | skip)
    replace H:=Option.bind_eq_some_iff.mp H;obtain ⟨t727,A200,H⟩:=H;replace H : (if t727 = true then (if t722 < 0 then (laws_FnJobBest.j1 kj2 l1 t712 t715 t719 t722 t723 t726 true t708 t709) else (laws_FnJobBest.j1 kj2 l1 t712 t715 t719 t722 t723 t726 ((t719.length : Int) == 0) t708 t709)) else (laws_FnJobBest.j1 kj2 l1 t712 t715 t719 t722 t723 t726 true t708 t709)) = some r:=H;have A20:=zz A200;clear A200
    by_cases c21 : t727 = true
    case neg =>
     replace c21:=Bool.eq_false_iff.mpr c21;subst c21;have H1 : (laws_FnJobBest.j1 kj2 l1 t712 t715 t719 t722 t723 t726 true t708 t709) = some r:=by rw [if_neg (show ¬ (false = true) by decide)] at H; exact H
     clear H;have H:=H1;clear H1;have H':=zz H;clear H;obtain ⟨Ao27,co27,eo27⟩:=Kd.R_slice HO721.out;subst eo27;obtain ⟨Ao28,co28,eo28⟩:=Kd.V_slice HO725.out;subst eo28
     go_wp2_with (first | (go_at_call 11; (with_reducible refine (laws_wkInts.calls kj2 _ _ t719 _ _ t723 false _ ?side1 ?side2 ?side3 ?side4 A20.out).mono ?_); (case side1 => repeat (first | exact (Kd.R_reads' HO721.out).2.2 | (with_reducible refine Kd.C_alloc ?_ _) | (with_reducible refine Kd.C_drewN ?_ _) | (with_reducible refine Kd.C_drew ?_))); (case side2 => exact (Kd.R_reads' HO721.out).2.1); (case side3 => repeat (first | exact (Kd.V_reads' HO725.out).2.2 | (with_reducible refine Kd.C_alloc ?_ _) | (with_reducible refine Kd.C_drewN ?_ _) | (with_reducible refine Kd.C_drew ?_))); (case side4 => exact (Kd.V_reads' HO725.out).2.1); rintro e w' ⟨rfl,⟨nd,rfl⟩⟩))
     go_meet
     case rel => exact ⟨_,(true),(by first | rfl | (simp; done) | (simp [*]; done)),H',⟨by have:=HJ2.out; first | omega | exact Nat.le_refl _⟩,⟨by (with_reducible repeat (first | apply Kd.R_alloc | apply Kd.R_drewN | apply Kd.R_drew)); exact HO714.out⟩,⟨by (with_reducible repeat (first | apply Kd.R_alloc | apply Kd.R_drewN | apply Kd.R_drew)); exact HO717.out⟩,⟨by (with_reducible repeat (first | apply Kd.R_alloc | apply Kd.R_drewN | apply Kd.R_drew)); exact Kd.R_mono HO721.out (fun _ hk => ⟨hk.1.2,hk.2⟩)⟩,⟨by (with_reducible repeat (first | apply Kd.V_alloc | apply Kd.V_drewN | apply Kd.V_drew)); exact Kd.V_mono HO725.out (fun _ hk => ⟨hk.2.1,⟨hk.2.2.1,⟨hk.2.2.2.1,⟨hk.1,hk.2.2.2.2⟩⟩⟩⟩)⟩,⟨by (with_reducible repeat (first | apply Kd.R_alloc | apply Kd.R_drewN | apply Kd.R_drew)); exact HO711.out⟩,⟨by (with_reducible repeat (first | refine blk_drewN ?_ _ | refine blk_drew ?_ | refine blk_alloc ?_ _)); exact p1.out⟩,⟨by repeat (first | (with_reducible first | exact HB.out | apply below_alloc | apply pw_below_drewN | apply below_drew1 | refine below_set ?_ p5.out) | exact HB.out)⟩⟩
    subst c21;have H1 : (if t722 < 0 then (laws_FnJobBest.j1 kj2 l1 t712 t715 t719 t722 t723 t726 true t708 t709) else (laws_FnJobBest.j1 kj2 l1 t712 t715 t719 t722 t723 t726 ((t719.length : Int) == 0) t708 t709)) = some r:=by rw [if_pos rfl] at H; exact H
    clear H;have H:=H1;clear H1
    by_cases c22 : t722 < 0
    case pos =>
     rw [if_pos c22] at H;have c22b0 : decide (t722 < 0) = true:=decide_eq_true c22;clear c22;have H':=zz H;clear H;obtain ⟨Ao23,co23,eo23⟩:=Kd.R_slice HO721.out;subst eo23;obtain ⟨Ao24,co24,eo24⟩:=Kd.V_slice HO725.out;subst eo24
     go_wp2_with (first | (go_at_call 11; (with_reducible refine (laws_wkInts.calls kj2 _ _ t719 _ _ t723 true _ ?side1 ?side2 ?side3 ?side4 A20.out).mono ?_); (case side1 => repeat (first | exact (Kd.R_reads' HO721.out).2.2 | (with_reducible refine Kd.C_alloc ?_ _) | (with_reducible refine Kd.C_drewN ?_ _) | (with_reducible refine Kd.C_drew ?_))); (case side2 => exact (Kd.R_reads' HO721.out).2.1); (case side3 => repeat (first | exact (Kd.V_reads' HO725.out).2.2 | (with_reducible refine Kd.C_alloc ?_ _) | (with_reducible refine Kd.C_drewN ?_ _) | (with_reducible refine Kd.C_drew ?_))); (case side4 => exact (Kd.V_reads' HO725.out).2.1); rintro e w' ⟨rfl,⟨nd,rfl⟩⟩))
     go_meet
     case rel => exact ⟨_,(true),(by first | rfl | (simp; done) | (simp [*]; done)),H',⟨by have:=HJ2.out; first | omega | exact Nat.le_refl _⟩,⟨by (with_reducible repeat (first | apply Kd.R_alloc | apply Kd.R_drewN | apply Kd.R_drew)); exact HO714.out⟩,⟨by (with_reducible repeat (first | apply Kd.R_alloc | apply Kd.R_drewN | apply Kd.R_drew)); exact HO717.out⟩,⟨by (with_reducible repeat (first | apply Kd.R_alloc | apply Kd.R_drewN | apply Kd.R_drew)); exact Kd.R_mono HO721.out (fun _ hk => ⟨hk.1.2,hk.2⟩)⟩,⟨by (with_reducible repeat (first | apply Kd.V_alloc | apply Kd.V_drewN | apply Kd.V_drew)); exact Kd.V_mono HO725.out (fun _ hk => ⟨hk.2.1,⟨hk.2.2.1,⟨hk.2.2.2.1,⟨hk.1,hk.2.2.2.2⟩⟩⟩⟩)⟩,⟨by (with_reducible repeat (first | apply Kd.R_alloc | apply Kd.R_drewN | apply Kd.R_drew)); exact HO711.out⟩,⟨by (with_reducible repeat (first | refine blk_drewN ?_ _ | refine blk_drew ?_ | refine blk_alloc ?_ _)); exact p1.out⟩,⟨by repeat (first | (with_reducible first | exact HB.out | apply below_alloc | apply pw_below_drewN | apply below_drew1 | refine below_set ?_ p5.out) | exact HB.out)⟩⟩
    rw [if_neg c22] at H;have c22b0 : decide (t722 < 0) = false:=decide_eq_false c22;clear c22;have H':=zz H;clear H;obtain ⟨Ao25,co25,eo25⟩:=Kd.R_slice HO721.out;subst eo25;obtain ⟨Ao26,co26,eo26⟩:=Kd.V_slice HO725.out;subst eo26
    go_wp2_with (first | (go_at_call 11; (with_reducible refine (laws_wkInts.calls kj2 _ _ t719 _ _ t723 true _ ?side1 ?side2 ?side3 ?side4 A20.out).mono ?_); (case side1 => repeat (first | exact (Kd.R_reads' HO721.out).2.2 | (with_reducible refine Kd.C_alloc ?_ _) | (with_reducible refine Kd.C_drewN ?_ _) | (with_reducible refine Kd.C_drew ?_))); (case side2 => exact (Kd.R_reads' HO721.out).2.1); (case side3 => repeat (first | exact (Kd.V_reads' HO725.out).2.2 | (with_reducible refine Kd.C_alloc ?_ _) | (with_reducible refine Kd.C_drewN ?_ _) | (with_reducible refine Kd.C_drew ?_))); (case side4 => exact (Kd.V_reads' HO725.out).2.1); rintro e w' ⟨rfl,⟨nd,rfl⟩⟩))
    go_meet
    case rel => exact ⟨_,(((t719.length : Int) == 0)),(by first | rfl | (simp; done) | (simp [*]; done)),H',⟨by have:=HJ2.out; first | omega | exact Nat.le_refl _⟩,⟨by (with_reducible repeat (first | apply Kd.R_alloc | apply Kd.R_drewN | apply Kd.R_drew)); exact HO714.out⟩,⟨by (with_reducible repeat (first | apply Kd.R_alloc | apply Kd.R_drewN | apply Kd.R_drew)); exact HO717.out⟩,⟨by (with_reducible repeat (first | apply Kd.R_alloc | apply Kd.R_drewN | apply Kd.R_drew)); exact Kd.R_mono HO721.out (fun _ hk => ⟨hk.1.2,hk.2⟩)⟩,⟨by (with_reducible repeat (first | apply Kd.V_alloc | apply Kd.V_drewN | apply Kd.V_drew)); exact Kd.V_mono HO725.out (fun _ hk => ⟨hk.2.1,⟨hk.2.2.1,⟨hk.2.2.2.1,⟨hk.1,hk.2.2.2.2⟩⟩⟩⟩)⟩,⟨by (with_reducible repeat (first | apply Kd.R_alloc | apply Kd.R_drewN | apply Kd.R_drew)); exact HO711.out⟩,⟨by (with_reducible repeat (first | refine blk_drewN ?_ _ | refine blk_drew ?_ | refine blk_alloc ?_ _)); exact p1.out⟩,⟨by repeat (first | (with_reducible first | exact HB.out | apply below_alloc | apply pw_below_drewN | apply below_drew1 | refine below_set ?_ p5.out) | exact HB.out)⟩⟩
   case rest =>
    clear HC9
    try clear c1
    try clear c2
    try clear p2
    try clear c4
    try clear c4b0
    try clear c4b1
    try clear c5
    try clear c7
    try clear c8
    try clear c9
    try clear c10
    try clear c19
    try clear c19b0
    try clear c19b1
    try clear c21
    try clear c22
    try clear c22b0
    try clear q5
    try clear q6
    try clear q9
    try clear r0
    try clear q7
    try clear q8
    try clear r1
    try clear r2
    try clear p2
    obtain ⟨kq,q1,rfl,HA,HJ8,HO_6,HO_7,HO_8,p4,p0,p1,HB⟩:=hcut;cases kq with
    | zero => exact absurd HA.out (by simp [laws_FnJobBest.j1])
    | succ kj8 =>
     have H:=HA.out;clear HA;simp only [laws_FnJobBest.j1] at H
     by_cases c29 : q1 = true
     case pos =>
      subst c29;have H1 : (if t722 = t726 then ((laws_wkInts.f kj8 t719 t723).bind fun t728 => (if t728 = true then (if (t719.length : Int) > 0 then (some true) else (if t722 < 0 then (some true) else (some (t722 == 99999)))) else (some false))) else (some false)) = some r:=by rw [if_pos rfl] at H; exact H
      clear H;have H:=H1;clear H1
      by_cases c30 : t722 = t726
      case neg =>
       rw [if_neg c30] at H;have c30b0 : (t722 == t726) = false:=beq_eq_false_iff_ne.mpr c30;have c30b1 : (t722 != t726) = true:=bne_iff_ne.mpr c30;obtain rfl:=Option.some.inj H
       go_wp2
       go_ret;exact ⟨by first | rfl | (simp [errW_none,errW_some] <;> rfl) | (simp [*,errW_none,errW_some] <;> rfl),by repeat (first | (with_reducible first | exact HB.out | apply below_alloc | apply pw_below_drewN | apply below_drew1 | refine below_set ?_ p5.out) | exact HB.out)⟩
      rw [if_pos c30] at H;have c30b0 : (t722 == t726) = true:=beq_iff_eq.mpr c30;have c30b1 : (t722 != t726) = false:=bne_eq_false_iff_eq.mpr c30;clear c30;replace H:=Option.bind_eq_some_iff.mp H;obtain ⟨t728,A310,H⟩:=H;replace H : (if t728 = true then (if (t719.length : Int) > 0 then (some true) else (if t722 < 0 then (some true) else (some (t722 == 99999)))) else (some false)) = some r:=H;have A31:=zz A310;clear A310
      by_cases c32 : t728 = true
      case neg =>
       replace c32:=Bool.eq_false_iff.mpr c32;subst c32;have H1 : (some false) = some r:=by rw [if_neg (show ¬ (false = true) by decide)] at H; exact H
       exact absurd ((Option.some.inj H1).trans HRT_.out) (by decide)
      subst c32;have H1 : (if (t719.length : Int) > 0 then (some true) else (if t722 < 0 then (some true) else (some (t722 == 99999)))) = some r:=by rw [if_pos rfl] at H; exact H
      clear H;have H:=H1;clear H1
      by_cases c33 : (t719.length : Int) > 0
      case pos =>
       rw [if_pos c33] at H;have c33b0 : decide (0 < (t719.length : Int)) = true:=decide_eq_true c33;have c33b1 : decide (0 < t719.length) = true:=decide_eq_true (by omega);clear c33;obtain rfl:=Option.some.inj H;obtain ⟨Ao34,co34,eo34⟩:=Kd.R_slice HO_8.out;subst eo34;obtain ⟨Ao35,co35,eo35⟩:=Kd.V_slice p4.out;subst eo35
       go_wp2_with (first | (go_at_call 11; (with_reducible refine (laws_wkInts.calls kj8 _ _ t719 _ _ t723 true _ ?side1 ?side2 ?side3 ?side4 A31.out).mono ?_); (case side1 => repeat (first | exact (Kd.R_reads' HO_8.out).2.2 | (with_reducible refine Kd.C_alloc ?_ _) | (with_reducible refine Kd.C_drewN ?_ _) | (with_reducible refine Kd.C_drew ?_))); (case side2 => exact (Kd.R_reads' HO_8.out).2.1); (case side3 => repeat (first | exact (Kd.V_reads' p4.out).2.2 | (with_reducible refine Kd.C_alloc ?_ _) | (with_reducible refine Kd.C_drewN ?_ _) | (with_reducible refine Kd.C_drew ?_))); (case side4 => exact (Kd.V_reads' p4.out).2.1); rintro e w' ⟨rfl,⟨nd,rfl⟩⟩))
       go_ret;exact ⟨by first | rfl | (simp [errW_none,errW_some] <;> rfl) | (simp [*,errW_none,errW_some] <;> rfl),by repeat (first | (with_reducible first | exact HB.out | apply below_alloc | apply pw_below_drewN | apply below_drew1 | refine below_set ?_ p5.out) | exact HB.out)⟩
      rw [if_neg c33] at H;have c33b0 : decide (0 < (t719.length : Int)) = false:=decide_eq_false c33;have c33b1 : decide (0 < t719.length) = false:=decide_eq_false (by omega);clear c33
      by_cases c36 : t722 < 0
      case pos =>
       rw [if_pos c36] at H;have c36b0 : decide (t722 < 0) = true:=decide_eq_true c36;clear c36;obtain rfl:=Option.some.inj H;obtain ⟨Ao37,co37,eo37⟩:=Kd.R_slice HO_8.out;subst eo37;obtain ⟨Ao38,co38,eo38⟩:=Kd.V_slice p4.out;subst eo38
       go_wp2_with (first | (go_at_call 11; (with_reducible refine (laws_wkInts.calls kj8 _ _ t719 _ _ t723 true _ ?side1 ?side2 ?side3 ?side4 A31.out).mono ?_); (case side1 => repeat (first | exact (Kd.R_reads' HO_8.out).2.2 | (with_reducible refine Kd.C_alloc ?_ _) | (with_reducible refine Kd.C_drewN ?_ _) | (with_reducible refine Kd.C_drew ?_))); (case side2 => exact (Kd.R_reads' HO_8.out).2.1); (case side3 => repeat (first | exact (Kd.V_reads' p4.out).2.2 | (with_reducible refine Kd.C_alloc ?_ _) | (with_reducible refine Kd.C_drewN ?_ _) | (with_reducible refine Kd.C_drew ?_))); (case side4 => exact (Kd.V_reads' p4.out).2.1); rintro e w' ⟨rfl,⟨nd,rfl⟩⟩))
       go_ret;exact ⟨by first | rfl | (simp [errW_none,errW_some] <;> rfl) | (simp [*,errW_none,errW_some] <;> rfl),by repeat (first | (with_reducible first | exact HB.out | apply below_alloc | apply pw_below_drewN | apply below_drew1 | refine below_set ?_ p5.out) | exact HB.out)⟩
      rw [if_neg c36] at H;have c36b0 : decide (t722 < 0) = false:=decide_eq_false c36;clear c36;obtain rfl:=Option.some.inj H;obtain ⟨Ao39,co39,eo39⟩:=Kd.R_slice HO_8.out;subst eo39;obtain ⟨Ao40,co40,eo40⟩:=Kd.V_slice p4.out;subst eo40
      go_wp2_with (first | (go_at_call 11; (with_reducible refine (laws_wkInts.calls kj8 _ _ t719 _ _ t723 true _ ?side1 ?side2 ?side3 ?side4 A31.out).mono ?_); (case side1 => repeat (first | exact (Kd.R_reads' HO_8.out).2.2 | (with_reducible refine Kd.C_alloc ?_ _) | (with_reducible refine Kd.C_drewN ?_ _) | (with_reducible refine Kd.C_drew ?_))); (case side2 => exact (Kd.R_reads' HO_8.out).2.1); (case side3 => repeat (first | exact (Kd.V_reads' p4.out).2.2 | (with_reducible refine Kd.C_alloc ?_ _) | (with_reducible refine Kd.C_drewN ?_ _) | (with_reducible refine Kd.C_drew ?_))); (case side4 => exact (Kd.V_reads' p4.out).2.1); rintro e w' ⟨rfl,⟨nd,rfl⟩⟩))
      go_ret;exact ⟨by first | rfl | (simp [errW_none,errW_some] <;> rfl) | (simp [*,errW_none,errW_some] <;> rfl),by repeat (first | (with_reducible first | exact HB.out | apply below_alloc | apply pw_below_drewN | apply below_drew1 | refine below_set ?_ p5.out) | exact HB.out)⟩
     replace c29:=Bool.eq_false_iff.mpr c29;subst c29;have H1 : (if (t719.length : Int) = 0 then (none) else ((some (([] : List Int) : List Int)).bind fun y729 => (if y729.length + t719.length < 17592186044416 then ((some (y729 ++ t719 : List Int)).bind fun y732 => (if 0 ≤ ((l1.length : Int) % (t719.length : Int)) then (if ((l1.length : Int) % (t719.length : Int)) < (y732.length : Int) then (if 0 ≤ (Int.tmod (wrap64 ((l1.length : Int) / (t719.length : Int))) (t719.length : Int)) then (if (Int.tmod (wrap64 ((l1.length : Int) / (t719.length : Int))) (t719.length : Int)) < (y732.length : Int) then ((impl_JobCost.f kj8 t708 t709 t712 t715 t719).bind fun t739 => (if t739 = t722 then ((impl_JobCost.f kj8 t708 t709 t712 t715 ((y732.set (((l1.length : Int) % (t719.length : Int)) : Int).toNat (rd y732 (Int.tmod (wrap64 ((l1.length : Int) / (t719.length : Int))) (t719.length : Int)))).set ((Int.tmod (wrap64 ((l1.length : Int) / (t719.length : Int))) (t719.length : Int)) : Int).toNat (rd y732 ((l1.length : Int) % (t719.length : Int))))).bind fun t740 => (some (decide (t740 ≥ t722)))) else (some false))) else (none)) else (none)) else (none)) else (none))) else (none)))) = some r:=by rw [if_neg (show ¬ (false = true) by decide)] at H; exact H
     clear H;have H:=H1;clear H1
     by_cases c43 : (t719.length : Int) = 0
     case pos =>
      rw [if_pos c43] at H;exact absurd H (by simp)
     rw [if_neg c43] at H;have c43b0 : ((t719.length : Int) == 0) = false:=beq_eq_false_iff_ne.mpr c43;have c43b1 : ((t719.length : Int) != 0) = true:=bne_iff_ne.mpr c43;have c43b2 : ¬ (t719 = []):=fun h_ => c43 (by rw [h_]; rfl)
     obtain ⟨y729,hy729⟩ : ∃ y_ : List Int,y_ = (([] : List Int)):=⟨_,rfl⟩
     replace H : (if y729.length + t719.length < 17592186044416 then ((some (y729 ++ t719 : List Int)).bind fun y732 => (if 0 ≤ ((l1.length : Int) % (t719.length : Int)) then (if ((l1.length : Int) % (t719.length : Int)) < (y732.length : Int) then (if 0 ≤ (Int.tmod (wrap64 ((l1.length : Int) / (t719.length : Int))) (t719.length : Int)) then (if (Int.tmod (wrap64 ((l1.length : Int) / (t719.length : Int))) (t719.length : Int)) < (y732.length : Int) then ((impl_JobCost.f kj8 t708 t709 t712 t715 t719).bind fun t739 => (if t739 = t722 then ((impl_JobCost.f kj8 t708 t709 t712 t715 ((y732.set (((l1.length : Int) % (t719.length : Int)) : Int).toNat (rd y732 (Int.tmod (wrap64 ((l1.length : Int) / (t719.length : Int))) (t719.length : Int)))).set ((Int.tmod (wrap64 ((l1.length : Int) / (t719.length : Int))) (t719.length : Int)) : Int).toNat (rd y732 ((l1.length : Int) % (t719.length : Int))))).bind fun t740 => (some (decide (t740 ≥ t722)))) else (some false))) else (none)) else (none)) else (none)) else (none))) else (none)) = some r:=by first | (rw [hy729]; with_reducible exact H) | (have H2_:=(Option.bind_some _ _).symm.trans H; rw [hy729]; with_reducible exact H2_) | (have H2_:=(Option.bind_some _ _).symm.trans H; with_reducible exact H2_) | with_reducible exact H | (rw [hy729]; exact H) | exact H
     have q2:=zz hy729;clear hy729
     by_cases c44 : y729.length + t719.length < 17592186044416
     case neg =>
      rw [if_neg c44] at H;exact absurd H (by simp)
     rw [if_pos c44] at H;have LMc44:=zz c44;clear c44;obtain ⟨y732,hy732⟩ : ∃ y_ : List Int,y_ = (y729 ++ t719):=⟨_,rfl⟩
     replace H : (if 0 ≤ ((l1.length : Int) % (t719.length : Int)) then (if ((l1.length : Int) % (t719.length : Int)) < (y732.length : Int) then (if 0 ≤ (Int.tmod (wrap64 ((l1.length : Int) / (t719.length : Int))) (t719.length : Int)) then (if (Int.tmod (wrap64 ((l1.length : Int) / (t719.length : Int))) (t719.length : Int)) < (y732.length : Int) then ((impl_JobCost.f kj8 t708 t709 t712 t715 t719).bind fun t739 => (if t739 = t722 then ((impl_JobCost.f kj8 t708 t709 t712 t715 ((y732.set (((l1.length : Int) % (t719.length : Int)) : Int).toNat (rd y732 (Int.tmod (wrap64 ((l1.length : Int) / (t719.length : Int))) (t719.length : Int)))).set ((Int.tmod (wrap64 ((l1.length : Int) / (t719.length : Int))) (t719.length : Int)) : Int).toNat (rd y732 ((l1.length : Int) % (t719.length : Int))))).bind fun t740 => (some (decide (t740 ≥ t722)))) else (some false))) else (none)) else (none)) else (none)) else (none)) = some r:=by first | (rw [hy732]; with_reducible exact H) | (have H2_:=(Option.bind_some _ _).symm.trans H; rw [hy732]; with_reducible exact H2_) | (have H2_:=(Option.bind_some _ _).symm.trans H; with_reducible exact H2_) | with_reducible exact H | (rw [hy732]; exact H) | exact H
     have Ny732:=zz hy732;clear hy732;obtain ⟨ji45,hji45⟩ : ∃ j_ : Int,((l1.length : Int) % (t719.length : Int)) = j_:=⟨_,rfl⟩
     replace H : (if 0 ≤ (ji45) then (if (ji45) < (y732.length : Int) then (if 0 ≤ (Int.tmod (wrap64 ((l1.length : Int) / (t719.length : Int))) (t719.length : Int)) then (if (Int.tmod (wrap64 ((l1.length : Int) / (t719.length : Int))) (t719.length : Int)) < (y732.length : Int) then ((impl_JobCost.f kj8 t708 t709 t712 t715 t719).bind fun t739 => (if t739 = t722 then ((impl_JobCost.f kj8 t708 t709 t712 t715 ((y732.set ((ji45) : Int).toNat (rd y732 (Int.tmod (wrap64 ((l1.length : Int) / (t719.length : Int))) (t719.length : Int)))).set ((Int.tmod (wrap64 ((l1.length : Int) / (t719.length : Int))) (t719.length : Int)) : Int).toNat (rd y732 (ji45)))).bind fun t740 => (some (decide (t740 ≥ t722)))) else (some false))) else (none)) else (none)) else (none)) else (none)) = some r:=by first | (rw [hji45] at H; exact H) | (simp only [hji45] at H ⊢; exact H)
     by_cases c46 : 0 ≤ (ji45)
     case neg =>
      rw [if_neg c46] at H;exact absurd H (by simp)
     rw [if_pos c46] at H;have c46b0 : decide (0 ≤ (ji45)) = true:=decide_eq_true c46;clear c46
     by_cases c47 : (ji45) < (y732.length : Int)
     case neg =>
      rw [if_neg c47] at H;exact absurd H (by simp)
     rw [if_pos c47] at H;have c47b0 : decide ((ji45) < (y732.length : Int)) = true:=decide_eq_true c47;clear c47;obtain ⟨ji48,hji48⟩ : ∃ j_ : Int,(Int.tmod (wrap64 ((l1.length : Int) / (t719.length : Int))) (t719.length : Int)) = j_:=⟨_,rfl⟩
     replace H : (if 0 ≤ (ji48) then (if (ji48) < (y732.length : Int) then ((impl_JobCost.f kj8 t708 t709 t712 t715 t719).bind fun t739 => (if t739 = t722 then ((impl_JobCost.f kj8 t708 t709 t712 t715 ((y732.set ((ji45) : Int).toNat (rd y732 (ji48))).set ((ji48) : Int).toNat (rd y732 (ji45)))).bind fun t740 => (some (decide (t740 ≥ t722)))) else (some false))) else (none)) else (none)) = some r:=by first | (rw [hji48] at H; exact H) | (simp only [hji48] at H ⊢; exact H)
     by_cases c49 : 0 ≤ (ji48)
     case neg =>
      rw [if_neg c49] at H;exact absurd H (by simp)
     rw [if_pos c49] at H;have c49b0 : decide (0 ≤ (ji48)) = true:=decide_eq_true c49;clear c49
     by_cases c50 : (ji48) < (y732.length : Int)
     case neg =>
      rw [if_neg c50] at H;exact absurd H (by simp)
     rw [if_pos c50] at H;have c50b0 : decide ((ji48) < (y732.length : Int)) = true:=decide_eq_true c50;clear c50;obtain ⟨y737,hy737⟩ : ∃ y_ : List Int,y_ = (y732.set ((ji45) : Int).toNat (rd y732 (ji48))):=⟨_,rfl⟩
     replace H : ((impl_JobCost.f kj8 t708 t709 t712 t715 t719).bind fun t739 => (if t739 = t722 then ((impl_JobCost.f kj8 t708 t709 t712 t715 (y737.set ((ji48) : Int).toNat (rd y732 (ji45)))).bind fun t740 => (some (decide (t740 ≥ t722)))) else (some false))) = some r:=by first | (rw [hy737]; with_reducible exact H) | (have H2_:=(Option.bind_some _ _).symm.trans H; rw [hy737]; with_reducible exact H2_) | (have H2_:=(Option.bind_some _ _).symm.trans H; with_reducible exact H2_) | with_reducible exact H | (rw [hy737]; exact H) | exact H
     have Ny737:=zz hy737;clear hy737;obtain ⟨y738,hy738⟩ : ∃ y_ : List Int,y_ = (y737.set ((ji48) : Int).toNat (rd y732 (ji45))):=⟨_,rfl⟩
     replace H : ((impl_JobCost.f kj8 t708 t709 t712 t715 t719).bind fun t739 => (if t739 = t722 then ((impl_JobCost.f kj8 t708 t709 t712 t715 y738).bind fun t740 => (some (decide (t740 ≥ t722)))) else (some false))) = some r:=by first | (rw [hy738]; with_reducible exact H) | (have H2_:=(Option.bind_some _ _).symm.trans H; rw [hy738]; with_reducible exact H2_) | (have H2_:=(Option.bind_some _ _).symm.trans H; with_reducible exact H2_) | with_reducible exact H | (rw [hy738]; exact H) | exact H
     have Ny738:=zz hy738;clear hy738;replace H:=Option.bind_eq_some_iff.mp H;obtain ⟨t739,A530,H⟩:=H;replace H : (if t739 = t722 then ((impl_JobCost.f kj8 t708 t709 t712 t715 y738).bind fun t740 => (some (decide (t740 ≥ t722)))) else (some false)) = some r:=H;have A53:=zz A530;clear A530
     by_cases c54 : t739 = t722
     case neg =>
      rw [if_neg c54] at H;have c54b0 : (t739 == t722) = false:=beq_eq_false_iff_ne.mpr c54;have c54b1 : (t739 != t722) = true:=bne_iff_ne.mpr c54;obtain rfl:=Option.some.inj H;obtain ⟨Ao69,co69,eo69⟩:=Kd.R_slice HO_8.out;subst eo69
      go_wp2_with (first | ((with_reducible refine gate_dst (N:=96) rfl ?_); (try (refine gate_guard (by rfl) ?_; dsimp only)); refine Kd.R_lit (Kd.int .i64) _ 3 ?hg (N:=96) ?hd (xs:=([] : List Int)) (inner:=[]) (ok:=fun _ => True) (okp:=fun _ => True) ?hr ?hp (fun _ hk => hk) trivial (Below.refl _ _) (Nat.le_refl _) (by simp) ?_; (case hd => rfl); (case hg => rfl); (case hr => first | (go_simp; done) | (go_simp; rfl)); (case hp => exact (Reps.none _ _)); intro v730 w70 ho71 hb hg_ hnew_; clear hg_ hnew_; (first | rw [← q2.out] at ho71 | (simp only [Int.reduceToNat] at ho71; rw [← q2.out] at ho71)); have n0_:=zz (Kd.R_elder' HO_6.out (Kd.R_base ho71) hb); have n1_:=zz (Kd.R_elder' HO_7.out (Kd.R_base ho71) hb); have n2_:=zz (Kd.R_elder' HO_8.out (Kd.R_base ho71) hb); have n3_:=zz (Kd.V_elder' p4.out (Kd.R_base ho71) hb); have n4_:=zz (Kd.R_below p0.out hb); have n5_:=zz (Kd.R_lower (Kd.R_new' (Kd.R_new' (Kd.R_new' ho71 (Kd.R_lt HO_6.out)) (Kd.R_lt HO_7.out)) (Kd.R_lt HO_8.out)) (below_size HB.out)); have n6_:=zz (blk_below (g:=p3) (o:=.cells #[.int .i64 t708,.slice Ao13 t709.length co13] 25 (0,0)) p1.out hb); have n7_:=zz (below_step HB.out hb); clear HO_6; clear HO_7; clear HO_8; clear p4; clear p0; clear p1; clear HB; have HO_6:=n0_; have HO_7:=n1_; have HO_8:=n2_; have p4:=n3_; have p0:=n4_; have HO731:=n5_; have p1:=n6_; have HB:=n7_; clear n0_ n1_ n2_ n3_ n4_ n5_ n6_ n7_; clear hb ho71) | ((with_reducible refine gate_builtin (b:=.append) (xs:=#[.tmp 96,.tmp 97]) rfl ?_); (try (refine gate_guard (by rfl) ?_; dsimp only)); at_builtin; refine Kd.R_append_rows (Kd.int .i64) (w0:=w) w.heap.size rfl (.tmp 96) (.tmp 97) 26 3 (.int .i64 0) 8 rfl Try.underlying26 info3 rfl (by decide) (by omega) v730 y729 t719 _ _ _ (fun k_ => some k_ ≠ (.slice Ao14 t712.length co14 : Value).ownBlock ∧ some k_ ≠ (.slice Ao15 t715.length co15 : Value).ownBlock ∧ some k_ ≠ (.slice Ao69 t719.length co69 : Value).ownBlock) (fun _ => False) rfl rfl ?aO ?aR (fun _ _ h => h) (fun _ h => h.elim) ?aF ?aB ?aS ?aL ?_; (case aR => repeat (first | exact (Kd.R_reads' HO_8.out).2.2 | (with_reducible refine Kd.C_alloc ?_ _) | (with_reducible refine Kd.C_drewN ?_ _) | (with_reducible refine Kd.C_drew ?_))); (case aB => exact HB.out); (case aF => exact (fun k_ hk => ⟨Kd.fresh' (Kd.R_lt HO_6.out) k_ hk,Kd.fresh' (Kd.R_lt HO_7.out) k_ hk,Kd.fresh' (Kd.R_lt HO_8.out) k_ hk⟩)); (case aO => exact (Kd.R_mono HO731.out (fun _ hk => ⟨hk.1.1.2,⟨hk.1.2,hk.2⟩⟩))); (case aS => exact (below_size HB.out)); (case aL => have:=LMc44.out; omega); intro v733 w72 ho hb hg hat; rw [← Ny732.out] at ho; have n0_:=zz (Kd.R_after (ok:=(fun k_ => some k_ ≠ (.slice Ao15 t715.length co15 : Value).ownBlock ∧ some k_ ≠ (.slice Ao69 t719.length co69 : Value).ownBlock)) HO_6.out hg hat); have n1_:=zz (Kd.R_after (ok:=(fun k_ => some k_ ≠ (.slice Ao14 t712.length co14 : Value).ownBlock ∧ some k_ ≠ (.slice Ao69 t719.length co69 : Value).ownBlock)) HO_7.out hg hat); have n2_:=zz (Kd.R_after (ok:=(fun k_ => some k_ ≠ (.slice Ao14 t712.length co14 : Value).ownBlock ∧ some k_ ≠ (.slice Ao15 t715.length co15 : Value).ownBlock)) HO_8.out hg hat); have n3_:=zz (Kd.V_afterv (ok:=(fun k_ => some k_ ≠ (.slice Ao14 t712.length co14 : Value).ownBlock ∧ some k_ ≠ (.slice Ao15 t715.length co15 : Value).ownBlock ∧ some k_ ≠ (.slice Ao69 t719.length co69 : Value).ownBlock ∧ some k_ ≠ (.slice Ao13 t709.length co13 : Value).ownBlock ∧ k_ ≠ p3)) p4.out hg hat); have n4_:=zz (Kd.R_over' p0.out (Kd.R_typed HO731.out) (by decide) hg); have n5_:=zz (blk_grown (g:=p3) (o:=.cells #[.int .i64 t708,.slice Ao13 t709.length co13] 25 (0,0)) p1.out hg (Kd.R_ne HO731.out p1.out (by decide))); have n6_:=zz (hb); have n7_:=zz (ho); clear HO_6; clear HO_7; clear HO_8; clear p4; clear p0; clear p1; clear HB; clear HO731; have HO_6:=n0_; have HO_7:=n1_; have HO_8:=n2_; have p4:=n3_; have p0:=n4_; have p1:=n5_; have HB:=n6_; have HO734:=n7_; clear n0_ n1_ n2_ n3_ n4_ n5_ n6_ n7_; clear ho hb hg hat; obtain ⟨Ao73,co73,eo73⟩:=Kd.R_slice HO734.out; subst eo73; have p735 : 0 ≤ ((ji45) : Int):=of_decide_eq_true (by first | (with_reducible assumption) | assumption); have q735 : (ji45) < (y732.length : Int):=of_decide_eq_true (by first | (with_reducible assumption) | assumption); obtain ⟨q3,e735,p6⟩:=Kd.at_int (Kd.R_reads' HO734.out).2.2 (ji45) p735 q735; cases e735; replace p735:=eq_true p735; replace q735:=eq_true q735; have p736 : 0 ≤ ((ji48) : Int):=of_decide_eq_true (by first | (with_reducible assumption) | assumption); have q736 : (ji48) < (y732.length : Int):=of_decide_eq_true (by first | (with_reducible assumption) | assumption); obtain ⟨q4,e736,p7⟩:=Kd.at_int (Kd.R_reads' HO734.out).2.2 (ji48) p736 q736; obtain rfl : q3 = q4:=(by injection e736); replace p736:=eq_true p736; replace q736:=eq_true q736; have p51 : 0 ≤ ((ji45) : Int):=of_decide_eq_true (by first | (with_reducible assumption) | assumption); have q51 : ((ji45) : Int) < ((y732.length : Int) : Int):=of_decide_eq_true (by first | (with_reducible assumption) | assumption); obtain ⟨go51,co51,eo51,gb51,gl51,cl51,HG51⟩:=Kd.R_form HO734.out (by omega); (first | cases eo51 | (injection eo51 with ea_ en_ ec_; (first | subst ea_ | (injection ea_ with ea_; subst ea_)); subst ec_; clear en_)); have GB51:=zz gb51; have GG51:=zz HG51; clear gb51 gl51 HG51; (first | simp only [add_plain] at p6 | skip); (first | simp only [add_plain] at p7 | skip); obtain ⟨hx51_0,hf51_0⟩:=Kd.R_celln 0 HO734.out ((ji45) : Int) p51 q51; replace p51:=eq_true p51; replace q51:=eq_true q51; obtain ⟨hy74_,hz74_⟩:=Kd.R_celln 0 HO734.out ((ji45) : Int) (of_decide_eq_true (by first | (with_reducible assumption) | assumption)) (of_decide_eq_true (by first | (with_reducible assumption) | assumption)); have HP74:=Kd.R_putg HO734.out ((ji45) : Int) (rd y732 (ji48))) | ((with_reducible refine gate_store (t:=3) (p:=109) rfl ?_); refine store_event (t:=3) (p:=109) (v:=?vo_w75) (w1:=(w72.setCell ⟨go51,((ji45) : Int).toNat,none⟩ (.int .i64 (rd y732 (ji48))))) ?hg ?ho ?hn ?hr ?_; (case ho => rfl); (case hg => rfl); (case hn => rfl); (case hr => first | (go_simp; done) | (go_simp; rfl)); intro w75 hw; have hg : w72.grownBy w75 (some go51):=(by rw [hw]; exact HP74.2); have hp_ : Kd.R (Kd.int .i64) 3 w75 w.heap.size (fun k_ => some k_ ≠ (.slice Ao14 t712.length co14 : Value).ownBlock ∧ some k_ ≠ (.slice Ao15 t715.length co15 : Value).ownBlock ∧ some k_ ≠ (.slice Ao69 t719.length co69 : Value).ownBlock) (.slice (some ⟨go51,0,none⟩) y732.length co73) y737:=(by rw [hw,Ny737.out]; exact HP74.1); clear HP74; have n0_:=zz (Kd.R_after (v:=(.slice (some ⟨go51,0,none⟩) y732.length co73)) (v1:=(.slice (some ⟨go51,0,none⟩) y732.length co73)) (ok:=(fun k_ => some k_ ≠ (.slice Ao15 t715.length co15 : Value).ownBlock ∧ some k_ ≠ (.slice Ao69 t719.length co69 : Value).ownBlock)) HO_6.out hg (.inl rfl)); have n1_:=zz (Kd.R_after (v:=(.slice (some ⟨go51,0,none⟩) y732.length co73)) (v1:=(.slice (some ⟨go51,0,none⟩) y732.length co73)) (ok:=(fun k_ => some k_ ≠ (.slice Ao14 t712.length co14 : Value).ownBlock ∧ some k_ ≠ (.slice Ao69 t719.length co69 : Value).ownBlock)) HO_7.out hg (.inl rfl)); have n2_:=zz (Kd.R_after (v:=(.slice (some ⟨go51,0,none⟩) y732.length co73)) (v1:=(.slice (some ⟨go51,0,none⟩) y732.length co73)) (ok:=(fun k_ => some k_ ≠ (.slice Ao14 t712.length co14 : Value).ownBlock ∧ some k_ ≠ (.slice Ao15 t715.length co15 : Value).ownBlock)) HO_8.out hg (.inl rfl)); have n3_:=zz (Kd.V_afterv (v:=(.slice (some ⟨go51,0,none⟩) y732.length co73)) (v1:=(.slice (some ⟨go51,0,none⟩) y732.length co73)) (ok:=(fun k_ => some k_ ≠ (.slice Ao14 t712.length co14 : Value).ownBlock ∧ some k_ ≠ (.slice Ao15 t715.length co15 : Value).ownBlock ∧ some k_ ≠ (.slice Ao69 t719.length co69 : Value).ownBlock ∧ some k_ ≠ (.slice Ao13 t709.length co13 : Value).ownBlock ∧ k_ ≠ p3)) p4.out hg (.inl rfl)); have n4_:=zz (Kd.R_over' (v:=(.slice (some ⟨go51,0,none⟩) y732.length co73)) p0.out (Kd.R_typed HO734.out) (by decide) hg); have n5_:=zz (blk_grown (g:=p3) (o:=.cells #[.int .i64 t708,.slice Ao13 t709.length co13] 25 (0,0)) p1.out hg (Kd.R_ne HO734.out p1.out (by decide))); have n6_:=zz (hp_); have n7_:=zz ((by rw [hw]; exact below_set (HB.out) GB51.out : Below w.heap.size w w75)); clear HO_6; clear HO_7; clear HO_8; clear p4; clear p0; clear p1; clear HO734; clear HB; have HO_6:=n0_; have HO_7:=n1_; have HO_8:=n2_; have p4:=n3_; have p0:=n4_; have p1:=n5_; have HO734:=n6_; have HB:=n7_; clear n0_ n1_ n2_ n3_ n4_ n5_ n6_ n7_; clear hg hw hp_; have p52 : 0 ≤ ((ji48) : Int):=of_decide_eq_true (by first | (with_reducible assumption) | assumption); have q52 : ((ji48) : Int) < ((y732.length : Int) : Int):=of_decide_eq_true (by first | (with_reducible assumption) | assumption); obtain ⟨hx52_0,hf52_0⟩:=Kd.R_celln 0 HO734.out ((ji48) : Int) p52 q52; replace p52:=eq_true p52; replace q52:=eq_true q52; obtain ⟨hy76_,hz76_⟩:=Kd.R_celln 0 HO734.out ((ji48) : Int) (of_decide_eq_true (by first | (with_reducible assumption) | assumption)) (of_decide_eq_true (by first | (with_reducible assumption) | assumption)); have HP76:=Kd.R_putg HO734.out ((ji48) : Int) (rd y732 (ji45))) | ((with_reducible refine gate_store (t:=3) (p:=113) rfl ?_); refine store_event (t:=3) (p:=113) (v:=?vo_w77) (w1:=(w75.setCell ⟨go51,((ji48) : Int).toNat,none⟩ (.int .i64 (rd y732 (ji45))))) ?hg ?ho ?hn ?hr ?_; (case ho => rfl); (case hg => rfl); (case hn => rfl); (case hr => first | (go_simp; done) | (go_simp; rfl)); intro w77 hw; have hg : w75.grownBy w77 (some go51):=(by rw [hw]; exact HP76.2); have hp_ : Kd.R (Kd.int .i64) 3 w77 w.heap.size (fun k_ => some k_ ≠ (.slice Ao14 t712.length co14 : Value).ownBlock ∧ some k_ ≠ (.slice Ao15 t715.length co15 : Value).ownBlock ∧ some k_ ≠ (.slice Ao69 t719.length co69 : Value).ownBlock) (.slice (some ⟨go51,0,none⟩) y732.length co73) y738:=(by rw [hw,Ny738.out]; exact HP76.1); clear HP76; have n0_:=zz (Kd.R_after (v:=(.slice (some ⟨go51,0,none⟩) y732.length co73)) (v1:=(.slice (some ⟨go51,0,none⟩) y732.length co73)) (ok:=(fun k_ => some k_ ≠ (.slice Ao15 t715.length co15 : Value).ownBlock ∧ some k_ ≠ (.slice Ao69 t719.length co69 : Value).ownBlock)) HO_6.out hg (.inl rfl)); have n1_:=zz (Kd.R_after (v:=(.slice (some ⟨go51,0,none⟩) y732.length co73)) (v1:=(.slice (some ⟨go51,0,none⟩) y732.length co73)) (ok:=(fun k_ => some k_ ≠ (.slice Ao14 t712.length co14 : Value).ownBlock ∧ some k_ ≠ (.slice Ao69 t719.length co69 : Value).ownBlock)) HO_7.out hg (.inl rfl)); have n2_:=zz (Kd.R_after (v:=(.slice (some ⟨go51,0,none⟩) y732.length co73)) (v1:=(.slice (some ⟨go51,0,none⟩) y732.length co73)) (ok:=(fun k_ => some k_ ≠ (.slice Ao14 t712.length co14 : Value).ownBlock ∧ some k_ ≠ (.slice Ao15 t715.length co15 : Value).ownBlock)) HO_8.out hg (.inl rfl)); have n3_:=zz (Kd.V_afterv (v:=(.slice (some ⟨go51,0,none⟩) y732.length co73)) (v1:=(.slice (some ⟨go51,0,none⟩) y732.length co73)) (ok:=(fun k_ => some k_ ≠ (.slice Ao14 t712.length co14 : Value).ownBlock ∧ some k_ ≠ (.slice Ao15 t715.length co15 : Value).ownBlock ∧ some k_ ≠ (.slice Ao69 t719.length co69 : Value).ownBlock ∧ some k_ ≠ (.slice Ao13 t709.length co13 : Value).ownBlock ∧ k_ ≠ p3)) p4.out hg (.inl rfl)); have n4_:=zz (Kd.R_over' (v:=(.slice (some ⟨go51,0,none⟩) y732.length co73)) p0.out (Kd.R_typed HO734.out) (by decide) hg); have n5_:=zz (blk_grown (g:=p3) (o:=.cells #[.int .i64 t708,.slice Ao13 t709.length co13] 25 (0,0)) p1.out hg (Kd.R_ne HO734.out p1.out (by decide))); have n6_:=zz (hp_); have n7_:=zz ((by rw [hw]; exact below_set (HB.out) GB51.out : Below w.heap.size w w77)); clear HO_6; clear HO_7; clear HO_8; clear p4; clear p0; clear p1; clear HO734; clear HB; have HO_6:=n0_; have HO_7:=n1_; have HO_8:=n2_; have p4:=n3_; have p0:=n4_; have p1:=n5_; have HO734:=n6_; have HB:=n7_; clear n0_ n1_ n2_ n3_ n4_ n5_ n6_ n7_; clear hg hw hp_; have hcz78_0 : w77.cell? ⟨p3,0,none⟩ = some (.int .i64 t708):=(blk_cell p1.out 0).trans rfl; have hcz78_1 : w77.cell? ⟨p3,1,none⟩ = some (.slice Ao13 t709.length co13):=(blk_cell p1.out 1).trans rfl; have hfz78_0:=blk_frozen p1.out 0; have hfz78_1:=blk_frozen p1.out 1) | ((with_reducible refine gate_callee (f:=22) rfl ?_); refine goesL_ (some 118) rfl rfl Try.func22 (by kernel_rfl) rfl #[.agg #[.int .i64 t708,.slice Ao13 t709.length co13],.slice Ao14 t712.length co14,.slice Ao15 t715.length co15,.slice Ao69 t719.length co69] rfl (by (try simp only [List.map_toArray,List.map_cons,List.map_nil]); first | done | rfl | (simp only [List.length_drop,List.length_take]; rfl)) ?_; (with_reducible refine (impl_JobCost.calls kj8 t708 _ _ t709 _ _ t712 _ _ t715 _ _ t719 t739 _ ?side1 ?side2 ?side3 ?side4 ?side5 ?side6 ?side7 ?side8 A53.out).mono ?_); (case side1 => repeat (first | exact (Kd.R_reads' p0.out).2.2 | (with_reducible refine Kd.C_alloc ?_ _) | (with_reducible refine Kd.C_drewN ?_ _) | (with_reducible refine Kd.C_drew ?_))); (case side2 => exact (Kd.R_reads' p0.out).2.1); (case side3 => repeat (first | exact (Kd.R_reads' HO_6.out).2.2 | (with_reducible refine Kd.C_alloc ?_ _) | (with_reducible refine Kd.C_drewN ?_ _) | (with_reducible refine Kd.C_drew ?_))); (case side4 => exact (Kd.R_reads' HO_6.out).2.1); (case side5 => repeat (first | exact (Kd.R_reads' HO_7.out).2.2 | (with_reducible refine Kd.C_alloc ?_ _) | (with_reducible refine Kd.C_drewN ?_ _) | (with_reducible refine Kd.C_drew ?_))); (case side6 => exact (Kd.R_reads' HO_7.out).2.1); (case side7 => repeat (first | exact (Kd.R_reads' HO_8.out).2.2 | (with_reducible refine Kd.C_alloc ?_ _) | (with_reducible refine Kd.C_drewN ?_ _) | (with_reducible refine Kd.C_drew ?_))); (case side8 => exact (Kd.R_reads' HO_8.out).2.1); rintro e w79 ⟨rfl,hb⟩; refine ⟨_,rfl,?_⟩; have n0_:=zz (Kd.R_below HO_6.out hb); have n1_:=zz (Kd.R_below HO_7.out hb); have n2_:=zz (Kd.R_below HO_8.out hb); have n3_:=zz (Kd.V_below p4.out hb); have n4_:=zz (Kd.R_below p0.out hb); have n5_:=zz (Kd.R_below HO734.out hb); have n6_:=zz (blk_below (g:=p3) (o:=.cells #[.int .i64 t708,.slice Ao13 t709.length co13] 25 (0,0)) p1.out hb); have n7_:=zz (below_step HB.out hb); clear HO_6; clear HO_7; clear HO_8; clear p4; clear p0; clear HO734; clear p1; clear HB; have HO_6:=n0_; have HO_7:=n1_; have HO_8:=n2_; have p4:=n3_; have p0:=n4_; have HO734:=n5_; have p1:=n6_; have HB:=n7_; clear n0_ n1_ n2_ n3_ n4_ n5_ n6_ n7_; (try clear hb); (try clear hb2); (try clear hk); (try clear hi)))
      go_ret;exact ⟨by first | rfl | (simp [errW_none,errW_some] <;> rfl) | (simp only [← hji45,← hji48]; first | rfl | (simp [errW_none,errW_some] <;> rfl)) | (simp [*,errW_none,errW_some] <;> rfl),by repeat (first | (with_reducible first | exact HB.out | apply below_alloc | apply pw_below_drewN | apply below_drew1 | refine below_set ?_ p5.out) | exact HB.out)⟩
     rw [if_pos c54] at H;have c54b0 : (t739 == t722) = true:=beq_iff_eq.mpr c54;have c54b1 : (t739 != t722) = false:=bne_eq_false_iff_eq.mpr c54;clear c54;replace H:=Option.bind_eq_some_iff.mp H;obtain ⟨t740,A550,H⟩:=H;replace H : (some (decide (t740 ≥ t722))) = some r:=H;have A55:=zz A550;clear A550;obtain rfl:=Option.some.inj H;obtain ⟨Ao56,co56,eo56⟩:=Kd.R_slice HO_8.out;subst eo56
     go_wp2_with (first | ((with_reducible refine gate_dst (N:=96) rfl ?_); (try (refine gate_guard (by rfl) ?_; dsimp only)); refine Kd.R_lit (Kd.int .i64) _ 3 ?hg (N:=96) ?hd (xs:=([] : List Int)) (inner:=[]) (ok:=fun _ => True) (okp:=fun _ => True) ?hr ?hp (fun _ hk => hk) trivial (Below.refl _ _) (Nat.le_refl _) (by simp) ?_; (case hd => rfl); (case hg => rfl); (case hr => first | (go_simp; done) | (go_simp; rfl)); (case hp => exact (Reps.none _ _)); intro v730 w57 ho58 hb hg_ hnew_; clear hg_ hnew_; (first | rw [← q2.out] at ho58 | (simp only [Int.reduceToNat] at ho58; rw [← q2.out] at ho58)); have n0_:=zz (Kd.R_elder' HO_6.out (Kd.R_base ho58) hb); have n1_:=zz (Kd.R_elder' HO_7.out (Kd.R_base ho58) hb); have n2_:=zz (Kd.R_elder' HO_8.out (Kd.R_base ho58) hb); have n3_:=zz (Kd.V_elder' p4.out (Kd.R_base ho58) hb); have n4_:=zz (Kd.R_below p0.out hb); have n5_:=zz (Kd.R_lower (Kd.R_new' (Kd.R_new' (Kd.R_new' ho58 (Kd.R_lt HO_6.out)) (Kd.R_lt HO_7.out)) (Kd.R_lt HO_8.out)) (below_size HB.out)); have n6_:=zz (blk_below (g:=p3) (o:=.cells #[.int .i64 t708,.slice Ao13 t709.length co13] 25 (0,0)) p1.out hb); have n7_:=zz (below_step HB.out hb); clear HO_6; clear HO_7; clear HO_8; clear p4; clear p0; clear p1; clear HB; have HO_6:=n0_; have HO_7:=n1_; have HO_8:=n2_; have p4:=n3_; have p0:=n4_; have HO731:=n5_; have p1:=n6_; have HB:=n7_; clear n0_ n1_ n2_ n3_ n4_ n5_ n6_ n7_; clear hb ho58) | ((with_reducible refine gate_builtin (b:=.append) (xs:=#[.tmp 96,.tmp 97]) rfl ?_); (try (refine gate_guard (by rfl) ?_; dsimp only)); at_builtin; refine Kd.R_append_rows (Kd.int .i64) (w0:=w) w.heap.size rfl (.tmp 96) (.tmp 97) 26 3 (.int .i64 0) 8 rfl Try.underlying26 info3 rfl (by decide) (by omega) v730 y729 t719 _ _ _ (fun k_ => some k_ ≠ (.slice Ao14 t712.length co14 : Value).ownBlock ∧ some k_ ≠ (.slice Ao15 t715.length co15 : Value).ownBlock ∧ some k_ ≠ (.slice Ao56 t719.length co56 : Value).ownBlock) (fun _ => False) rfl rfl ?aO ?aR (fun _ _ h => h) (fun _ h => h.elim) ?aF ?aB ?aS ?aL ?_; (case aR => repeat (first | exact (Kd.R_reads' HO_8.out).2.2 | (with_reducible refine Kd.C_alloc ?_ _) | (with_reducible refine Kd.C_drewN ?_ _) | (with_reducible refine Kd.C_drew ?_))); (case aB => exact HB.out); (case aF => exact (fun k_ hk => ⟨Kd.fresh' (Kd.R_lt HO_6.out) k_ hk,Kd.fresh' (Kd.R_lt HO_7.out) k_ hk,Kd.fresh' (Kd.R_lt HO_8.out) k_ hk⟩)); (case aO => exact (Kd.R_mono HO731.out (fun _ hk => ⟨hk.1.1.2,⟨hk.1.2,hk.2⟩⟩))); (case aS => exact (below_size HB.out)); (case aL => have:=LMc44.out; omega); intro v733 w59 ho hb hg hat; rw [← Ny732.out] at ho; have n0_:=zz (Kd.R_after (ok:=(fun k_ => some k_ ≠ (.slice Ao15 t715.length co15 : Value).ownBlock ∧ some k_ ≠ (.slice Ao56 t719.length co56 : Value).ownBlock)) HO_6.out hg hat); have n1_:=zz (Kd.R_after (ok:=(fun k_ => some k_ ≠ (.slice Ao14 t712.length co14 : Value).ownBlock ∧ some k_ ≠ (.slice Ao56 t719.length co56 : Value).ownBlock)) HO_7.out hg hat); have n2_:=zz (Kd.R_after (ok:=(fun k_ => some k_ ≠ (.slice Ao14 t712.length co14 : Value).ownBlock ∧ some k_ ≠ (.slice Ao15 t715.length co15 : Value).ownBlock)) HO_8.out hg hat); have n3_:=zz (Kd.V_afterv (ok:=(fun k_ => some k_ ≠ (.slice Ao14 t712.length co14 : Value).ownBlock ∧ some k_ ≠ (.slice Ao15 t715.length co15 : Value).ownBlock ∧ some k_ ≠ (.slice Ao56 t719.length co56 : Value).ownBlock ∧ some k_ ≠ (.slice Ao13 t709.length co13 : Value).ownBlock ∧ k_ ≠ p3)) p4.out hg hat); have n4_:=zz (Kd.R_over' p0.out (Kd.R_typed HO731.out) (by decide) hg); have n5_:=zz (blk_grown (g:=p3) (o:=.cells #[.int .i64 t708,.slice Ao13 t709.length co13] 25 (0,0)) p1.out hg (Kd.R_ne HO731.out p1.out (by decide))); have n6_:=zz (hb); have n7_:=zz (ho); clear HO_6; clear HO_7; clear HO_8; clear p4; clear p0; clear p1; clear HB; clear HO731; have HO_6:=n0_; have HO_7:=n1_; have HO_8:=n2_; have p4:=n3_; have p0:=n4_; have p1:=n5_; have HB:=n6_; have HO734:=n7_; clear n0_ n1_ n2_ n3_ n4_ n5_ n6_ n7_; clear ho hb hg hat; obtain ⟨Ao60,co60,eo60⟩:=Kd.R_slice HO734.out; subst eo60; have p735 : 0 ≤ ((ji45) : Int):=of_decide_eq_true (by first | (with_reducible assumption) | assumption); have q735 : (ji45) < (y732.length : Int):=of_decide_eq_true (by first | (with_reducible assumption) | assumption); obtain ⟨q3,e735,p6⟩:=Kd.at_int (Kd.R_reads' HO734.out).2.2 (ji45) p735 q735; cases e735; replace p735:=eq_true p735; replace q735:=eq_true q735; have p736 : 0 ≤ ((ji48) : Int):=of_decide_eq_true (by first | (with_reducible assumption) | assumption); have q736 : (ji48) < (y732.length : Int):=of_decide_eq_true (by first | (with_reducible assumption) | assumption); obtain ⟨q4,e736,p7⟩:=Kd.at_int (Kd.R_reads' HO734.out).2.2 (ji48) p736 q736; obtain rfl : q3 = q4:=(by injection e736); replace p736:=eq_true p736; replace q736:=eq_true q736; have p51 : 0 ≤ ((ji45) : Int):=of_decide_eq_true (by first | (with_reducible assumption) | assumption); have q51 : ((ji45) : Int) < ((y732.length : Int) : Int):=of_decide_eq_true (by first | (with_reducible assumption) | assumption); obtain ⟨go51,co51,eo51,gb51,gl51,cl51,HG51⟩:=Kd.R_form HO734.out (by omega); (first | cases eo51 | (injection eo51 with ea_ en_ ec_; (first | subst ea_ | (injection ea_ with ea_; subst ea_)); subst ec_; clear en_)); have GB51:=zz gb51; have GG51:=zz HG51; clear gb51 gl51 HG51; (first | simp only [add_plain] at p6 | skip); (first | simp only [add_plain] at p7 | skip); obtain ⟨hx51_0,hf51_0⟩:=Kd.R_celln 0 HO734.out ((ji45) : Int) p51 q51; replace p51:=eq_true p51; replace q51:=eq_true q51; obtain ⟨hy61_,hz61_⟩:=Kd.R_celln 0 HO734.out ((ji45) : Int) (of_decide_eq_true (by first | (with_reducible assumption) | assumption)) (of_decide_eq_true (by first | (with_reducible assumption) | assumption)); have HP61:=Kd.R_putg HO734.out ((ji45) : Int) (rd y732 (ji48))) | ((with_reducible refine gate_store (t:=3) (p:=109) rfl ?_); refine store_event (t:=3) (p:=109) (v:=?vo_w62) (w1:=(w59.setCell ⟨go51,((ji45) : Int).toNat,none⟩ (.int .i64 (rd y732 (ji48))))) ?hg ?ho ?hn ?hr ?_; (case ho => rfl); (case hg => rfl); (case hn => rfl); (case hr => first | (go_simp; done) | (go_simp; rfl)); intro w62 hw; have hg : w59.grownBy w62 (some go51):=(by rw [hw]; exact HP61.2); have hp_ : Kd.R (Kd.int .i64) 3 w62 w.heap.size (fun k_ => some k_ ≠ (.slice Ao14 t712.length co14 : Value).ownBlock ∧ some k_ ≠ (.slice Ao15 t715.length co15 : Value).ownBlock ∧ some k_ ≠ (.slice Ao56 t719.length co56 : Value).ownBlock) (.slice (some ⟨go51,0,none⟩) y732.length co60) y737:=(by rw [hw,Ny737.out]; exact HP61.1); clear HP61; have n0_:=zz (Kd.R_after (v:=(.slice (some ⟨go51,0,none⟩) y732.length co60)) (v1:=(.slice (some ⟨go51,0,none⟩) y732.length co60)) (ok:=(fun k_ => some k_ ≠ (.slice Ao15 t715.length co15 : Value).ownBlock ∧ some k_ ≠ (.slice Ao56 t719.length co56 : Value).ownBlock)) HO_6.out hg (.inl rfl)); have n1_:=zz (Kd.R_after (v:=(.slice (some ⟨go51,0,none⟩) y732.length co60)) (v1:=(.slice (some ⟨go51,0,none⟩) y732.length co60)) (ok:=(fun k_ => some k_ ≠ (.slice Ao14 t712.length co14 : Value).ownBlock ∧ some k_ ≠ (.slice Ao56 t719.length co56 : Value).ownBlock)) HO_7.out hg (.inl rfl)); have n2_:=zz (Kd.R_after (v:=(.slice (some ⟨go51,0,none⟩) y732.length co60)) (v1:=(.slice (some ⟨go51,0,none⟩) y732.length co60)) (ok:=(fun k_ => some k_ ≠ (.slice Ao14 t712.length co14 : Value).ownBlock ∧ some k_ ≠ (.slice Ao15 t715.length co15 : Value).ownBlock)) HO_8.out hg (.inl rfl)); have n3_:=zz (Kd.V_afterv (v:=(.slice (some ⟨go51,0,none⟩) y732.length co60)) (v1:=(.slice (some ⟨go51,0,none⟩) y732.length co60)) (ok:=(fun k_ => some k_ ≠ (.slice Ao14 t712.length co14 : Value).ownBlock ∧ some k_ ≠ (.slice Ao15 t715.length co15 : Value).ownBlock ∧ some k_ ≠ (.slice Ao56 t719.length co56 : Value).ownBlock ∧ some k_ ≠ (.slice Ao13 t709.length co13 : Value).ownBlock ∧ k_ ≠ p3)) p4.out hg (.inl rfl)); have n4_:=zz (Kd.R_over' (v:=(.slice (some ⟨go51,0,none⟩) y732.length co60)) p0.out (Kd.R_typed HO734.out) (by decide) hg); have n5_:=zz (blk_grown (g:=p3) (o:=.cells #[.int .i64 t708,.slice Ao13 t709.length co13] 25 (0,0)) p1.out hg (Kd.R_ne HO734.out p1.out (by decide))); have n6_:=zz (hp_); have n7_:=zz ((by rw [hw]; exact below_set (HB.out) GB51.out : Below w.heap.size w w62)); clear HO_6; clear HO_7; clear HO_8; clear p4; clear p0; clear p1; clear HO734; clear HB; have HO_6:=n0_; have HO_7:=n1_; have HO_8:=n2_; have p4:=n3_; have p0:=n4_; have p1:=n5_; have HO734:=n6_; have HB:=n7_; clear n0_ n1_ n2_ n3_ n4_ n5_ n6_ n7_; clear hg hw hp_; have p52 : 0 ≤ ((ji48) : Int):=of_decide_eq_true (by first | (with_reducible assumption) | assumption); have q52 : ((ji48) : Int) < ((y732.length : Int) : Int):=of_decide_eq_true (by first | (with_reducible assumption) | assumption); obtain ⟨hx52_0,hf52_0⟩:=Kd.R_celln 0 HO734.out ((ji48) : Int) p52 q52; replace p52:=eq_true p52; replace q52:=eq_true q52; obtain ⟨hy63_,hz63_⟩:=Kd.R_celln 0 HO734.out ((ji48) : Int) (of_decide_eq_true (by first | (with_reducible assumption) | assumption)) (of_decide_eq_true (by first | (with_reducible assumption) | assumption)); have HP63:=Kd.R_putg HO734.out ((ji48) : Int) (rd y732 (ji45))) | ((with_reducible refine gate_store (t:=3) (p:=113) rfl ?_); refine store_event (t:=3) (p:=113) (v:=?vo_w64) (w1:=(w62.setCell ⟨go51,((ji48) : Int).toNat,none⟩ (.int .i64 (rd y732 (ji45))))) ?hg ?ho ?hn ?hr ?_; (case ho => rfl); (case hg => rfl); (case hn => rfl); (case hr => first | (go_simp; done) | (go_simp; rfl)); intro w64 hw; have hg : w62.grownBy w64 (some go51):=(by rw [hw]; exact HP63.2); have hp_ : Kd.R (Kd.int .i64) 3 w64 w.heap.size (fun k_ => some k_ ≠ (.slice Ao14 t712.length co14 : Value).ownBlock ∧ some k_ ≠ (.slice Ao15 t715.length co15 : Value).ownBlock ∧ some k_ ≠ (.slice Ao56 t719.length co56 : Value).ownBlock) (.slice (some ⟨go51,0,none⟩) y732.length co60) y738:=(by rw [hw,Ny738.out]; exact HP63.1); clear HP63; have n0_:=zz (Kd.R_after (v:=(.slice (some ⟨go51,0,none⟩) y732.length co60)) (v1:=(.slice (some ⟨go51,0,none⟩) y732.length co60)) (ok:=(fun k_ => some k_ ≠ (.slice Ao15 t715.length co15 : Value).ownBlock ∧ some k_ ≠ (.slice Ao56 t719.length co56 : Value).ownBlock)) HO_6.out hg (.inl rfl)); have n1_:=zz (Kd.R_after (v:=(.slice (some ⟨go51,0,none⟩) y732.length co60)) (v1:=(.slice (some ⟨go51,0,none⟩) y732.length co60)) (ok:=(fun k_ => some k_ ≠ (.slice Ao14 t712.length co14 : Value).ownBlock ∧ some k_ ≠ (.slice Ao56 t719.length co56 : Value).ownBlock)) HO_7.out hg (.inl rfl)); have n2_:=zz (Kd.R_after (v:=(.slice (some ⟨go51,0,none⟩) y732.length co60)) (v1:=(.slice (some ⟨go51,0,none⟩) y732.length co60)) (ok:=(fun k_ => some k_ ≠ (.slice Ao14 t712.length co14 : Value).ownBlock ∧ some k_ ≠ (.slice Ao15 t715.length co15 : Value).ownBlock)) HO_8.out hg (.inl rfl)); have n3_:=zz (Kd.V_afterv (v:=(.slice (some ⟨go51,0,none⟩) y732.length co60)) (v1:=(.slice (some ⟨go51,0,none⟩) y732.length co60)) (ok:=(fun k_ => some k_ ≠ (.slice Ao14 t712.length co14 : Value).ownBlock ∧ some k_ ≠ (.slice Ao15 t715.length co15 : Value).ownBlock ∧ some k_ ≠ (.slice Ao56 t719.length co56 : Value).ownBlock ∧ some k_ ≠ (.slice Ao13 t709.length co13 : Value).ownBlock ∧ k_ ≠ p3)) p4.out hg (.inl rfl)); have n4_:=zz (Kd.R_over' (v:=(.slice (some ⟨go51,0,none⟩) y732.length co60)) p0.out (Kd.R_typed HO734.out) (by decide) hg); have n5_:=zz (blk_grown (g:=p3) (o:=.cells #[.int .i64 t708,.slice Ao13 t709.length co13] 25 (0,0)) p1.out hg (Kd.R_ne HO734.out p1.out (by decide))); have n6_:=zz (hp_); have n7_:=zz ((by rw [hw]; exact below_set (HB.out) GB51.out : Below w.heap.size w w64)); clear HO_6; clear HO_7; clear HO_8; clear p4; clear p0; clear p1; clear HO734; clear HB; have HO_6:=n0_; have HO_7:=n1_; have HO_8:=n2_; have p4:=n3_; have p0:=n4_; have p1:=n5_; have HO734:=n6_; have HB:=n7_; clear n0_ n1_ n2_ n3_ n4_ n5_ n6_ n7_; clear hg hw hp_; have hcz65_0 : w64.cell? ⟨p3,0,none⟩ = some (.int .i64 t708):=(blk_cell p1.out 0).trans rfl; have hcz65_1 : w64.cell? ⟨p3,1,none⟩ = some (.slice Ao13 t709.length co13):=(blk_cell p1.out 1).trans rfl; have hfz65_0:=blk_frozen p1.out 0; have hfz65_1:=blk_frozen p1.out 1) | ((with_reducible refine gate_callee (f:=22) rfl ?_); refine goesL_ (some 118) rfl rfl Try.func22 (by kernel_rfl) rfl #[.agg #[.int .i64 t708,.slice Ao13 t709.length co13],.slice Ao14 t712.length co14,.slice Ao15 t715.length co15,.slice Ao56 t719.length co56] rfl (by (try simp only [List.map_toArray,List.map_cons,List.map_nil]); first | done | rfl | (simp only [List.length_drop,List.length_take]; rfl)) ?_; (with_reducible refine (impl_JobCost.calls kj8 t708 _ _ t709 _ _ t712 _ _ t715 _ _ t719 t739 _ ?side1 ?side2 ?side3 ?side4 ?side5 ?side6 ?side7 ?side8 A53.out).mono ?_); (case side1 => repeat (first | exact (Kd.R_reads' p0.out).2.2 | (with_reducible refine Kd.C_alloc ?_ _) | (with_reducible refine Kd.C_drewN ?_ _) | (with_reducible refine Kd.C_drew ?_))); (case side2 => exact (Kd.R_reads' p0.out).2.1); (case side3 => repeat (first | exact (Kd.R_reads' HO_6.out).2.2 | (with_reducible refine Kd.C_alloc ?_ _) | (with_reducible refine Kd.C_drewN ?_ _) | (with_reducible refine Kd.C_drew ?_))); (case side4 => exact (Kd.R_reads' HO_6.out).2.1); (case side5 => repeat (first | exact (Kd.R_reads' HO_7.out).2.2 | (with_reducible refine Kd.C_alloc ?_ _) | (with_reducible refine Kd.C_drewN ?_ _) | (with_reducible refine Kd.C_drew ?_))); (case side6 => exact (Kd.R_reads' HO_7.out).2.1); (case side7 => repeat (first | exact (Kd.R_reads' HO_8.out).2.2 | (with_reducible refine Kd.C_alloc ?_ _) | (with_reducible refine Kd.C_drewN ?_ _) | (with_reducible refine Kd.C_drew ?_))); (case side8 => exact (Kd.R_reads' HO_8.out).2.1); rintro e w66 ⟨rfl,hb⟩; refine ⟨_,rfl,?_⟩; have n0_:=zz (Kd.R_below HO_6.out hb); have n1_:=zz (Kd.R_below HO_7.out hb); have n2_:=zz (Kd.R_below HO_8.out hb); have n3_:=zz (Kd.V_below p4.out hb); have n4_:=zz (Kd.R_below p0.out hb); have n5_:=zz (Kd.R_below HO734.out hb); have n6_:=zz (blk_below (g:=p3) (o:=.cells #[.int .i64 t708,.slice Ao13 t709.length co13] 25 (0,0)) p1.out hb); have n7_:=zz (below_step HB.out hb); clear HO_6; clear HO_7; clear HO_8; clear p4; clear p0; clear HO734; clear p1; clear HB; have HO_6:=n0_; have HO_7:=n1_; have HO_8:=n2_; have p4:=n3_; have p0:=n4_; have HO734:=n5_; have p1:=n6_; have HB:=n7_; clear n0_ n1_ n2_ n3_ n4_ n5_ n6_ n7_; (try clear hb); (try clear hb2); (try clear hk); (try clear hi); have hcz67_0 : w66.cell? ⟨p3,0,none⟩ = some (.int .i64 t708):=(blk_cell p1.out 0).trans rfl; have hcz67_1 : w66.cell? ⟨p3,1,none⟩ = some (.slice Ao13 t709.length co13):=(blk_cell p1.out 1).trans rfl; have hfz67_0:=blk_frozen p1.out 0; have hfz67_1:=blk_frozen p1.out 1) | (go_at_call 22; refine calls_of_args (args':=#[.agg #[.int .i64 t708,.slice Ao13 t709.length co13],.slice Ao14 t712.length co14,.slice Ao15 t715.length co15,.slice (some ⟨go51,0,none⟩) y738.length co60]) (by first | (rw [show y738.length = y732.length from (Kd.R_reads' HO734.out).1.symm] <;> rfl) | rfl) ?_; (with_reducible refine (impl_JobCost.calls kj8 t708 _ _ t709 _ _ t712 _ _ t715 _ _ y738 t740 _ ?side1 ?side2 ?side3 ?side4 ?side5 ?side6 ?side7 ?side8 A55.out).mono ?_); (case side1 => repeat (first | exact (Kd.R_reads' p0.out).2.2 | (with_reducible refine Kd.C_alloc ?_ _) | (with_reducible refine Kd.C_drewN ?_ _) | (with_reducible refine Kd.C_drew ?_))); (case side2 => exact (Kd.R_reads' p0.out).2.1); (case side3 => repeat (first | exact (Kd.R_reads' HO_6.out).2.2 | (with_reducible refine Kd.C_alloc ?_ _) | (with_reducible refine Kd.C_drewN ?_ _) | (with_reducible refine Kd.C_drew ?_))); (case side4 => exact (Kd.R_reads' HO_6.out).2.1); (case side5 => repeat (first | exact (Kd.R_reads' HO_7.out).2.2 | (with_reducible refine Kd.C_alloc ?_ _) | (with_reducible refine Kd.C_drewN ?_ _) | (with_reducible refine Kd.C_drew ?_))); (case side6 => exact (Kd.R_reads' HO_7.out).2.1); (case side7 => repeat (first | exact (Kd.R_reads' HO734.out).2.2 | (with_reducible refine Kd.C_alloc ?_ _) | (with_reducible refine Kd.C_drewN ?_ _) | (with_reducible refine Kd.C_drew ?_))); (case side8 => rw [show y738.length = y732.length from (Kd.R_reads' HO734.out).1.symm]; exact (Kd.R_reads' HO734.out).2.1); rintro e w68 ⟨rfl,hb⟩; have n0_:=zz (Kd.R_below HO_6.out hb); have n1_:=zz (Kd.R_below HO_7.out hb); have n2_:=zz (Kd.R_below HO_8.out hb); have n3_:=zz (Kd.V_below p4.out hb); have n4_:=zz (Kd.R_below p0.out hb); have n5_:=zz (Kd.R_below HO734.out hb); have n6_:=zz (blk_below (g:=p3) (o:=.cells #[.int .i64 t708,.slice Ao13 t709.length co13] 25 (0,0)) p1.out hb); have n7_:=zz (below_step HB.out hb); clear HO_6; clear HO_7; clear HO_8; clear p4; clear p0; clear HO734; clear p1; clear HB; have HO_6:=n0_; have HO_7:=n1_; have HO_8:=n2_; have p4:=n3_; have p0:=n4_; have HO734:=n5_; have p1:=n6_; have HB:=n7_; clear n0_ n1_ n2_ n3_ n4_ n5_ n6_ n7_; (try clear hb); (try clear hb2); (try clear hk); (try clear hi)))
     go_ret;exact ⟨by first | rfl | (simp [errW_none,errW_some] <;> rfl) | (simp only [← hji45,← hji48]; first | rfl | (simp [errW_none,errW_some] <;> rfl)) | (simp [*,errW_none,errW_some] <;> rfl),by repeat (first | (with_reducible first | exact HB.out | apply below_alloc | apply pw_below_drewN | apply below_drew1 | refine below_set ?_ p5.out) | exact HB.out)⟩
end Go.Proofs.Ytmioaahiflfcdaa.Pr
end
section
set_option linter.unusedVariables false
namespace Go.Proofs.YtmioaahiflfcdaaW.PrintWords
open Go.RowKit Go.ChangeShapes Go.WideShapes
def Opens (P : Program) {α : Type} (d : Kd α) (t : TypeId) (wf : α → Prop) : Prop :=
 ∀ {H : Type} {enc : TypeId × Value → H} {w : World} {sp : Nat → Bool} {held : Bool} {fuel : Nat} {cs : List Value} {x : DataW H × List MemPlace},DataW.trod enc P w 0 sp held fuel t cs = some x → ∃ a,d.K w a cs ∧ wf a
section
variable {P : Program} {α β : Type}
theorem opens_int {t : TypeId} {k : IntKind} (ht : P.underlying t = some (.int k)) : Opens P (Kd.int k) t (fun n => (Lit.int k n).wf = true):=by
 intro H enc w sp held fuel cs x h;obtain ⟨n,rfl,_,hw⟩:=DataW.trod_int ht h;exact ⟨n,rfl,hw⟩
theorem addr_add_add (a : Addr) (i j : Nat) : (a.add i).add j = a.add (i + j):=by
 unfold Addr.add
 by_cases hi : i = 0 <;> by_cases hj : j = 0 <;> simp [hi,hj,Nat.add_assoc]
theorem opens_slice [Inhabited α] {d : Kd α} {t e : TypeId} {wf : α → Prop} (ht : P.underlying t = some (.slice e)) (hc : P.cellsOf e = d.sz) (he : Opens P d e wf) : Opens P (Kd.slice e d) t (fun l => l.length ≤ maxLen ∧ ∀ x ∈ l,wf x):=by
 intro H enc w sp held fuel cs x h
 rcases Deep.open_slice ht h with ⟨rfl,_⟩ | ⟨a,len,cap,m,n,D,Pl,rfl,_,hl,hm,hmm,_,hel⟩
 ·exact ⟨[],⟨none,0,rfl,Nat.le_refl _,Kd.C_nil d w⟩,by simp,by simp⟩
 ·have hlm : len ≤ m:=by rw [hmm]; split <;> omega
  have hx : ∀ i,i < len → ∃ y : α,(∃ c,c.length = d.sz ∧ d.K w y c ∧ ∀ j u,c[j]? = some u → w.cell? (a.add (i * d.sz + j)) = some u) ∧ wf y:=by
   intro i hi;obtain ⟨cs',hcs,htr⟩:=hel i (by omega);obtain ⟨y,hk,hw⟩:=he htr;obtain ⟨_,hlen,hcell⟩:=World.cells?_some hcs;refine ⟨y,⟨cs',d.K_len hk,hk,fun j u hu => ?_⟩,hw⟩;have hj : j < P.cellsOf e:=by
    have:=(List.getElem?_eq_some_iff.1 hu).1;omega
   have:=hcell j hj;rw [addr_add_add,hc,hu] at this;exact this
  obtain ⟨f,hf⟩:=Deep.choose_lt hx;refine ⟨(List.range len).map f,⟨some a,cap,by simp,by simpa using hl,by simp,by simp only [maxLen] at hm; simp; omega,fun _ => ⟨a,rfl,fun j p hj => ?_⟩⟩,by simp; omega,fun y hy => ?_⟩
  ·obtain ⟨hj1,hj2⟩:=List.getElem?_eq_some_iff.1 hj;simp at hj1 hj2;subst hj2;exact (hf j hj1).1
  ·simp only [List.mem_map,List.mem_range] at hy;obtain ⟨i,hi,rfl⟩:=hy;exact (hf i hi).2
end
end Go.Proofs.YtmioaahiflfcdaaW.PrintWords
end
section
namespace Go.Proofs.Ytmioaahiflfcdaa.Pr
open Go.RowKit Go.Proofs.YtmioaahiflfcdaaW.PrintWords Go.Proofs.YtmioaahiflfcdaaW.PrintLast Go.Proofs.YtmioaahiflfcdaaW.PrintMore
open List renaming setIfInBounds_toArray → Z,set_cons_zero → zx,set_cons_succ → zy
open Go.Proofs.YtmioaahiflfcdaaW.PrintWords.Aside0 renaming mk → zz
def laws_FnJobBest.Asked : Prop:=∀ (l0 : List Int) (l1 : List Int),(l0.length ≤ maxLen ∧ ∀ x_ ∈ l0,(Lit.int .u8 x_).wf = true) → (l1.length ≤ maxLen ∧ ∀ x_ ∈ l1,(Lit.int .u8 x_).wf = true) → ∃ k,laws_FnJobBest.f k l0 l1 = some true
end Go.Proofs.Ytmioaahiflfcdaa.Pr
end
section
set_option linter.unusedSectionVars false
namespace Go.Proofs.Ytmioaahiflfcdaa.Fl
def sm (F : Nat → Int) : Nat → Int
 | 0 => 0
 | n + 1 => sm F n + F n
section
variable {n m : Nat} {fr tw : Nat → Nat} {f : Nat → Int} (hf : ∀ i,i < m → fr i < n) (ht : ∀ i,i < m → tw i < n)
def net (m : Nat) (fr tw : Nat → Nat) (f : Nat → Int) (v : Nat) : Int:=sm (fun i => (if fr i = v then f i else 0) - (if tw i = v then f i else 0)) m
include hf ht
end
section
variable {n m : Nat} {fr tw : Nat → Nat} {f cap : Nat → Int} (hf : ∀ i,i < m → fr i < n) (ht : ∀ i,i < m → tw i < n) (h0 : ∀ i,i < m → 0 ≤ f i ∧ f i ≤ cap i) {s t : Nat} (hs : s < n) (hz : ∀ v,v < n → v ≠ s → v ≠ t → net m fr tw f v = 0)
include hf ht h0 hs hz
end
end Go.Proofs.Ytmioaahiflfcdaa.Fl
end
section
set_option linter.unusedSectionVars false
namespace Go.Proofs.Ytmioaahiflfcdaa.Pm
def perms (n : Nat) : Nat → List Nat → List (List Nat)
 | 0,b => [b]
 | f + 1,b => ((List.range n).filter fun i => !b.contains i).flatMap fun i => perms n f (b ++ [i])
theorem perms_len {n f : Nat} {b p : List Nat} (h : p ∈ perms n f b) : p.length = b.length + f:=by
 induction f generalizing b with
 | zero => simp [perms] at h; simp [h]
 | succ f ih =>
  simp only [perms,List.mem_flatMap] at h;obtain ⟨i,_,h2⟩:=h;have:=ih h2;simp at this;omega
theorem perms_ok {n f : Nat} {b p : List Nat} (hb : b.Nodup) (hl : ∀ x ∈ b,x < n) (h : p ∈ perms n f b) : p.Nodup ∧ ∀ x ∈ p,x < n:=by
 induction f generalizing b with
 | zero => simp [perms] at h; subst h; exact ⟨hb,hl⟩
 | succ f ih =>
  simp only [perms,List.mem_flatMap,List.mem_filter,List.mem_range] at h;obtain ⟨i,⟨h1,h3⟩,h2⟩:=h;refine ih ?_ ?_ h2
  ·rw [List.nodup_append];refine ⟨hb,by simp,fun a ha c hc => ?_⟩;rintro rfl;obtain rfl : a = i:=by simpa using hc
   simp [ha] at h3
  ·intro x hx
   rcases List.mem_append.1 hx with h | h
   ·exact hl x h
   ·obtain rfl : x = i:=by simpa using h
    exact h1
theorem perms_all {n f : Nat} {b q : List Nat} (hn : (b ++ q).Nodup) (hl : ∀ x ∈ q,x < n) (hf : q.length = f) : b ++ q ∈ perms n f b:=by
 induction f generalizing b q with
 | zero =>
  obtain rfl : q = []:=List.length_eq_zero_iff.1 hf;simp [perms]
 | succ f ih =>
  cases q with
  | nil => simp at hf
  | cons i q =>
   simp only [perms,List.mem_flatMap,List.mem_filter,List.mem_range];refine ⟨i,⟨hl i (by simp),?_⟩,?_⟩
   ·have : i ∉ b:=fun hb => (List.nodup_append.1 hn).2.2 i hb i (by simp) rfl
    simp [this]
   ·have:=ih (b:=b ++ [i]) (q:=q) (by simpa using hn) (fun x hx => hl x (by simp [hx])) (by simpa using hf)
    simpa using this
def pick (cost : List Nat → Int) : List (List Nat) → List Nat × Int → List Nat × Int
 | [],s => s
 | p :: l,s => pick cost l (if cost p < s.2 then (p,cost p) else s)
theorem pick_append (cost : List Nat → Int) (l l' : List (List Nat)) : ∀ s,pick cost (l ++ l') s = pick cost l' (pick cost l s):=by
 induction l with
 | nil => intro s; rfl
 | cons p l ih => intro s; exact ih _
theorem pick_le (cost : List Nat → Int) : ∀ (l : List (List Nat)) (s : List Nat × Int),(pick cost l s).2 ≤ s.2 ∧ ∀ p ∈ l,(pick cost l s).2 ≤ cost p:=by
 intro l
 induction l with
 | nil => intro s; exact ⟨Int.le_refl _,by simp⟩
 | cons q l ih =>
  intro s;obtain ⟨h1,h2⟩:=ih (if cost q < s.2 then (q,cost q) else s);have h3 : (if cost q < s.2 then (q,cost q) else s).2 ≤ s.2 ∧ (if cost q < s.2 then (q,cost q) else s).2 ≤ cost q:=by
   split
   ·exact ⟨by dsimp only; omega,by dsimp only; omega⟩
   ·exact ⟨by omega,by omega⟩
  simp only [pick];refine ⟨by omega,fun p hp => ?_⟩
  rcases List.mem_cons.1 hp with rfl | hp
  ·omega
  ·exact h2 p hp
theorem pick_from (cost : List Nat → Int) : ∀ (l : List (List Nat)) (s : List Nat × Int),pick cost l s = s ∨ ∃ p ∈ l,pick cost l s = (p,cost p) ∧ cost p < s.2:=by
 intro l
 induction l with
 | nil => intro s; exact .inl rfl
 | cons q l ih =>
  intro s;simp only [pick]
  by_cases c : cost q < s.2
  case neg =>
   rw [if_neg c]
   rcases ih s with h | ⟨p,h1,h2,h3⟩
   ·exact .inl h
   ·exact .inr ⟨p,by simp [h1],h2,h3⟩
  rw [if_pos c]
  rcases ih (q,cost q) with h | ⟨p,h1,h2,h3⟩
  ·exact .inr ⟨q,by simp,h,c⟩
  ·exact .inr ⟨p,by simp [h1],h2,by dsimp only at h3; omega⟩
end Go.Proofs.Ytmioaahiflfcdaa.Pm
namespace Go.Proofs.Ytmioaahiflfcdaa.Pm
open Go.Proofs.Ytmioaahiflfcdaa.Fl
def at_ (p : List Nat) (i : Nat) : Nat:=p.getD i 0
structure IsPerm (n : Nat) (p : List Nat) : Prop where
 len : p.length = n
 nd : p.Nodup
 lt : ∀ x ∈ p,x < n
theorem perm_mem_all {n : Nat} {p : List Nat} (h : IsPerm n p) : ∀ k,k < n → k ∈ p:=by
 intro k hk
 apply Classical.byContradiction
 intro hc;have : ∀ (n : Nat) (l : List Nat),l.Nodup → (∀ x ∈ l,x < n) → l.length ≤ n:=by
  intro n
  induction n with
  | zero =>
   intro l _ h;cases l with
   | nil => simp
   | cons a l => exact absurd (h a (by simp)) (by omega)
  | succ n ih =>
   intro l hn h;have h1:=ih (l.erase n) (hn.erase n) (fun x hx => by
    have h2:=h x (List.mem_of_mem_erase hx);have h3 : x ≠ n:=by
     rintro rfl;exact (List.Nodup.not_mem_erase hn) hx
    omega)
   have h4 : l.length ≤ (l.erase n).length + 1:=by
    rw [List.length_erase]
    split <;> omega
   omega
 have h1:=this n (k :: p) (List.nodup_cons.2 ⟨hc,h.nd⟩) (fun x hx => by
  rcases List.mem_cons.1 hx with rfl | hx
  ·exact hk
  ·exact h.lt x hx)
 have:=h.len;simp at h1;omega
def inv (n : Nat) (p : List Nat) : List Nat:=(List.range n).map fun k => p.idxOf k
theorem inv_at {n : Nat} {p : List Nat} (h : IsPerm n p) {k : Nat} (hk : k < n) : at_ (inv n p) k < n ∧ at_ p (at_ (inv n p) k) = k:=by
 have hm:=perm_mem_all h k hk;have h1:=List.idxOf_lt_length_of_mem hm;have e : at_ (inv n p) k = p.idxOf k:=by simp [at_,inv,hk]
 rw [e];refine ⟨by rw [← h.len]; exact h1,?_⟩;simp only [at_,List.getD_eq_getElem?_getD,List.getElem?_eq_getElem h1,Option.getD_some];exact List.getElem_idxOf h1
noncomputable def costOf (n : Nat) (D : Nat → Nat → Int) (p : List Nat) : Int:=@ite _ (∃ i,i < n ∧ D i (at_ p i) = 99999) (Classical.propDecidable _) 99999 (sm (fun i => D i (at_ p i)) n)
end Go.Proofs.Ytmioaahiflfcdaa.Pm
end
section
set_option linter.unusedVariables false
namespace Go.Proofs.YtmioaahiflfcdaaW.PrintWords
open Go.RowKit
section
variable {α β : Type}
theorem Ev.pos {c : Prop} [Decidable c] {t e : Nat → Option α} {r : α} (h : c) (k : Ev t r) : Ev (fun n => if c then t n else e n) r:=by
 simp only [if_pos h]; exact k
theorem Ev.neg {c : Prop} [Decidable c] {t e : Nat → Option α} {r : α} (h : ¬ c) (k : Ev e r) : Ev (fun n => if c then t n else e n) r:=by
 simp only [if_neg h]; exact k
theorem Ev.bind0 {g : Option α} {f : Nat → α → Option β} {a : α} {r : β} (h : g = some a) (k : Ev (fun n => f n a) r) : Ev (fun n => g.bind (f n)) r:=by
 subst h; exact k
theorem Ev.is {a r : α} (h : a = r) : Ev (fun _ => some a) r:=by subst h; exact Ev.now _
theorem Ev.cast {g : Nat → Option α} {a r : α} (k : Ev g a) (h : a = r) : Ev g r:=h ▸ k
theorem Ev.go {g f : Nat → Option α} {r : α} (k : Ev f r) (h : ∀ k,g (k + 1) = f k) : Ev g r:=Ev.step h k
end
theorem w64 {n : Int} (h : -9223372036854775808 ≤ n) (h' : n ≤ 9223372036854775807) : wrap64 n = n:=by unfold wrap64; omega
theorem rd_nat {l : List Int} {i : Nat} (h : i < l.length) : rd l (i : Int) = l[i]:=by simp [rd,h]
end Go.Proofs.YtmioaahiflfcdaaW.PrintWords
end
section
set_option linter.unusedSimpArgs false
set_option linter.unusedVariables false
namespace Go.Proofs.Ytmioaahiflfcdaa.Pure
open Go.RowKit Go.Proofs.Ytmioaahiflfcdaa.Pr Go.Proofs.YtmioaahiflfcdaaW.PrintWords Go.Proofs.YtmioaahiflfcdaaW.PrintLast Go.Proofs.YtmioaahiflfcdaaW.PrintMore
def inB (x a b : Int) : Bool:=decide (a ≤ x) && decide (x ≤ b)
theorem inB_iff {x a b : Int} : inB x a b = true ↔ a ≤ x ∧ x ≤ b:=by simp [inB]
theorem in1 (x a b : Int) : spec_l1In.f x a b = some (inB x a b):=by
 unfold spec_l1In.f inB
 by_cases h : x ≥ a
 case pos => rw [if_pos h]; simp [show a ≤ x from h]
 rw [if_neg h]; simp [show ¬ a ≤ x from h]
theorem within1 (x a b : Int) : impl_within.f x a b = some (inB x a b):=by
 unfold impl_within.f inB
 by_cases h : x ≥ a
 case pos => rw [if_pos h]; simp [show a ≤ x from h]
 rw [if_neg h]; simp [show ¬ a ≤ x from h]
theorem up1 {i n : Nat} (h : i < n) (hn : n ≤ maxLen) : wrap64 ((i : Int) + 1) = ((i + 1 : Nat) : Int):=by
 simp only [maxLen] at hn;rw [w64 (by omega) (by omega)]; omega
theorem rdn {l : List Int} {i : Nat} (h : i < l.length) : rd l (i : Int) = l[i]:=rd_nat h
def nth (l : List Int) (i : Nat) : Int:=l.getD i 0
theorem rdg {l : List Int} (i : Nat) : rd l (i : Int) = nth l i:=by simp [rd,nth]
theorem nth_get {l : List Int} {i : Nat} (h : i < l.length) : nth l i = l[i]:=by simp [nth,h]
theorem getD_mem {l : List Int} {i : Nat} (h : i < l.length) : nth l i ∈ l:=by
 rw [nth_get h];exact List.getElem_mem h
theorem mem_getD {l : List Int} {x : Int} (h : x ∈ l) : ∃ i,i < l.length ∧ nth l i = x:=by
 obtain ⟨i,hi,rfl⟩:=List.getElem_of_mem h;exact ⟨i,hi,nth_get hi⟩
theorem drop_cons {α : Type} {l : List α} {i : Nat} (h : i < l.length) : l.drop i = l[i] :: l.drop (i + 1):=List.drop_eq_getElem_cons h
def Pv {α : Type} (g : Nat → Option α) (P : α → Prop) : Prop:=∃ r,Ev g r ∧ P r
section
variable {α β : Type} {P : α → Prop}
theorem Pv.of {g : Nat → Option α} {r : α} (h : Ev g r) (hp : P r) : Pv g P:=⟨r,h,hp⟩
theorem Pv.now {a : α} (h : P a) : Pv (fun _ => some a) P:=⟨a,Ev.now a,h⟩
theorem Pv.pos {c : Prop} [Decidable c] {t e : Nat → Option α} (h : c) (k : Pv t P) : Pv (fun n => if c then t n else e n) P:=by
 obtain ⟨r,k,hp⟩:=k;exact ⟨r,Ev.pos h k,hp⟩
theorem Pv.neg {c : Prop} [Decidable c] {t e : Nat → Option α} (h : ¬ c) (k : Pv e P) : Pv (fun n => if c then t n else e n) P:=by
 obtain ⟨r,k,hp⟩:=k;exact ⟨r,Ev.neg h k,hp⟩
theorem Pv.ite {c : Prop} [Decidable c] {t e : Nat → Option α} (h : c → Pv t P) (k : ¬ c → Pv e P) : Pv (fun n => if c then t n else e n) P:=by
 by_cases hc : c
 case neg => exact Pv.neg hc (k hc)
 exact Pv.pos hc (h hc)
theorem Pv.bind {g : Nat → Option β} {f : Nat → β → Option α} {R : β → Prop} (h : Pv g R) (k : ∀ b,R b → Pv (fun n => f n b) P) : Pv (fun n => (g n).bind (f n)) P:=by
 obtain ⟨b,h,hb⟩:=h;obtain ⟨r,k,hp⟩:=k b hb;exact ⟨r,Ev.bind h k,hp⟩
theorem Pv.bind0 {g : Option β} {f : Nat → β → Option α} {b : β} (h : g = some b) (k : Pv (fun n => f n b) P) : Pv (fun n => g.bind (f n)) P:=by
 obtain ⟨r,k,hp⟩:=k;exact ⟨r,Ev.bind0 h k,hp⟩
theorem Pv.go {g f : Nat → Option α} (k : Pv f P) (h : ∀ k,g (k + 1) = f k) : Pv g P:=by
 obtain ⟨r,k,hp⟩:=k;exact ⟨r,Ev.go k h,hp⟩
theorem Pv.mono {g : Nat → Option α} {R : α → Prop} (h : Pv g R) (k : ∀ a,R a → P a) : Pv g P:=by
 obtain ⟨r,h,hr⟩:=h;exact ⟨r,h,k r hr⟩
end
theorem Pv.rounds {g : Nat → Option Bool} (h : Pv g (· = true)) : ∃ k,g k = some true:=by
 obtain ⟨r,h,rfl⟩:=h;exact Ev.rounds h
end Go.Proofs.Ytmioaahiflfcdaa.Pure
end
section
set_option linter.unusedSimpArgs false
set_option linter.unusedVariables false
namespace Go.Proofs.Ytmioaahiflfcdaa.Pure
open Go.RowKit Go.Proofs.Ytmioaahiflfcdaa.Pr Go.Proofs.YtmioaahiflfcdaaW.PrintWords Go.Proofs.YtmioaahiflfcdaaW.PrintLast Go.Proofs.YtmioaahiflfcdaaW.PrintMore
section
variable {t e : Nat → Option Bool} {r : Bool}
theorem Ev.and {b : Bool} (k : Ev t r) : Ev (fun n => if b = true then t n else some false) (b && r):=by
 cases b with
 | false => exact Ev.neg (by simp) (Ev.now _)
 | true => exact Ev.pos rfl k
theorem Ev.nand {c : Prop} [Decidable c] (k : Ev t r) : Ev (fun n => if c then some false else t n) (!decide c && r):=by
 by_cases h : c
 case pos => exact Ev.pos h (Ev.is (by simp [h]))
 exact Ev.neg h (k.cast (by simp [h]))
end
abbrev Arc:=S80
def arc (l : List Arc) (i : Nat) : Arc:=rd_T80 l (i : Int)
theorem rda (l : List Arc) (i : Nat) : rd_T80 l (i : Int) = arc l i:=rfl
theorem arc_get {l : List Arc} {i : Nat} (h : i < l.length) : arc l i = l[i]:=by simp [arc,rd_T80,h]
theorem arc_mem {l : List Arc} {i : Nat} (h : i < l.length) : arc l i ∈ l:=by
 rw [arc_get h];exact List.getElem_mem h
attribute [irreducible] arc
def okArcW (n : Int) (a : Arc) : Bool:=inB a.f0 0 (wrap64 (n - 1)) && (inB a.f1 0 (wrap64 (n - 1)) && (!decide (a.f0 = a.f1) && (inB a.f2 0 99 && (inB a.f3 0 99 && inB a.f4 0 9))))
theorem l1Ok_l (n : Int) (l : List Arc) (hm : l.length ≤ maxLen) : ∀ (m i : Nat),l.length - i = m → i ≤ l.length → Ev (fun k => spec_l1Ok.l0 k (i : Int) n l) ((l.drop i).all (okArcW n) && (inB n 1 8 && decide ((l.length : Int) ≤ 16))):=by
 intro m
 induction m with
 | zero =>
  intro i hd hi;refine Ev.go ?_ (fun k => by rw [spec_l1Ok.l0]);refine Ev.neg (by omega) (Ev.bind0 (in1 _ _ _) ?_);rw [List.drop_of_length_le (by omega)];exact (Ev.and (Ev.now _)).cast (by simp)
 | succ m ih =>
  intro i hd hi;have hlt : i < l.length:=by omega
  refine Ev.go ?_ (fun k => by rw [spec_l1Ok.l0]);rw [drop_cons hlt,← arc_get hlt,List.all_cons,rda,up1 hlt hm];refine Ev.pos (by omega) (Ev.pos (by omega) ?_);refine Ev.cast (Ev.bind0 (in1 _ _ _) (Ev.and (Ev.bind0 (in1 _ _ _) (Ev.and (Ev.nand (Ev.bind0 (in1 _ _ _) (Ev.and (Ev.bind0 (in1 _ _ _) (Ev.and (Ev.bind0 (in1 _ _ _) (Ev.and (ih (i + 1) (by omega) (by omega))))))))))))) ?_;simp only [okArcW,Bool.and_assoc]
theorem okArcW_okArc {n : Int} (h : 1 ≤ n) (h8 : n ≤ 8) (a : Arc) : okArcW n a = okArc n a:=by
 unfold okArcW okArc inB okN okC
 rw [w64 (by omega) (by omega)];have e : (a.f4 ≤ 9) ↔ (a.f4 ≤ 10 - 1):=by omega
 have e2 : (a.f0 == a.f1) = decide (a.f0 = a.f1):=by
  by_cases c : a.f0 = a.f1 <;> simp [c]
 rw [e2];simp only [Bool.and_assoc,e]
theorem l1Ok_ev (n : Int) (l : List Arc) (hm : l.length ≤ maxLen) : Ev (fun k => spec_l1Ok.f k n l) (netOkB n l):=by
 unfold spec_l1Ok.f
 refine (l1Ok_l n l hm _ 0 rfl (by omega)).cast ?_
 unfold netOkB
 rw [List.drop_zero]
 by_cases h : 1 ≤ n ∧ n ≤ 8
 case pos =>
  have e : l.all (okArcW n) = l.all (okArc n):=by
   congr 1
   funext a
   exact okArcW_okArc h.1 h.2 a
  rw [e,show inB n 1 8 = true from inB_iff.2 h];simp [h.1,h.2,Bool.and_comm]
 have e : inB n 1 8 = false:=by
  cases c : inB n 1 8 with
  | false => rfl
  | true => exact absurd (inB_iff.1 c) h
 rw [e];have e2 : (decide (1 ≤ n) && decide (n ≤ 8)) = false:=e;simp only [e2,Bool.false_and,Bool.and_false]
structure NetGood (n : Int) (l : List Arc) : Prop where
 n1 : 1 ≤ n
 n8 : n ≤ 8
 len : l.length ≤ 16
 ok : ∀ i,i < l.length → (0 ≤ (arc l i).f0 ∧ (arc l i).f0 < n) ∧ (0 ≤ (arc l i).f1 ∧ (arc l i).f1 < n) ∧ (arc l i).f0 ≠ (arc l i).f1 ∧ (0 ≤ (arc l i).f2 ∧ (arc l i).f2 ≤ 99) ∧ (0 ≤ (arc l i).f3 ∧ (arc l i).f3 ≤ 99) ∧ (0 ≤ (arc l i).f4 ∧ (arc l i).f4 ≤ 9)
theorem okArc_iff (n : Int) (a : Arc) : okArc n a = true ↔ (0 ≤ a.f0 ∧ a.f0 < n) ∧ (0 ≤ a.f1 ∧ a.f1 < n) ∧ a.f0 ≠ a.f1 ∧ (0 ≤ a.f2 ∧ a.f2 ≤ 99) ∧ (0 ≤ a.f3 ∧ a.f3 ≤ 99) ∧ (0 ≤ a.f4 ∧ a.f4 ≤ 9):=by
 simp only [okArc,okN,okC,Bool.and_eq_true,decide_eq_true_eq,Bool.not_eq_true',beq_eq_false_iff_ne];constructor
 ·rintro ⟨⟨⟨⟨⟨⟨a1,a2⟩,a3,a4⟩,a5⟩,a6⟩,a7⟩,a8,a9⟩;exact ⟨⟨a1,by omega⟩,⟨a3,by omega⟩,a5,a6,a7,a8,by omega⟩
 ·rintro ⟨⟨a1,a2⟩,⟨a3,a4⟩,a5,a6,a7,a8,a9⟩;exact ⟨⟨⟨⟨⟨⟨a1,by omega⟩,a3,by omega⟩,a5⟩,a6⟩,a7⟩,a8,by omega⟩
theorem netOkB_iff (n : Int) (l : List Arc) : netOkB n l = true ↔ NetGood n l:=by
 simp only [netOkB,Bool.and_eq_true,decide_eq_true_eq,List.all_eq_true];constructor
 ·rintro ⟨⟨⟨h1,h2⟩,h3⟩,h4⟩;exact ⟨h1,h2,by omega,fun i hi => (okArc_iff n _).1 (h4 _ (arc_mem hi))⟩
 ·rintro ⟨h1,h2,h3,h4⟩;refine ⟨⟨⟨h1,h2⟩,by omega⟩,fun a ha => ?_⟩;obtain ⟨i,hi,rfl⟩:=List.getElem_of_mem ha;rw [← arc_get hi];exact (okArc_iff n _).2 (h4 i hi)
theorem hasOf {n : Int} {l : List Arc} (h : NetGood n l) (v : List Int) : impl_Net_has.f n l v = some (v.all (okN n)):=by
 have:=h.n1;have:=h.n8
 unfold impl_Net_has.f
 rw [if_pos (by omega),if_pos (by omega)]
theorem nodesIn_eq (n : Int) (l : List Arc) (v : List Int) : impl_nodesIn.f n l v = some (netOkB n l && v.all (okN n)):=by
 unfold impl_nodesIn.f
 rw [show impl_NetOk.f n l = some (netOkB n l) from rfl,Option.bind_some];cases h : netOkB n l with
 | false => rfl
 | true => rw [if_pos rfl,hasOf ((netOkB_iff n l).1 h),Option.bind_some,Bool.true_and]
end Go.Proofs.Ytmioaahiflfcdaa.Pure
end
section
set_option linter.unusedSimpArgs false
set_option linter.unusedVariables false
namespace Go.Proofs.Ytmioaahiflfcdaa.Pure
open Go.RowKit Go.Proofs.Ytmioaahiflfcdaa.Pr Go.Proofs.YtmioaahiflfcdaaW.PrintWords Go.Proofs.YtmioaahiflfcdaaW.PrintLast Go.Proofs.YtmioaahiflfcdaaW.PrintMore
def flip (a : Arc) : Arc:=⟨a.f1,a.f0,a.f2,a.f3,a.f4⟩
def back (l : List Arc) : List Arc:=l.map flip
theorem back_len (l : List Arc) : (back l).length = l.length:=by simp [back]
theorem back_arc {l : List Arc} {i : Nat} (h : i < l.length) : arc (back l) i = flip (arc l i):=by
 rw [arc_get (by rw [back_len]; exact h),arc_get h];simp [back]
theorem back_good {n : Int} {l : List Arc} (h : NetGood n l) : NetGood n (back l):=by
 refine ⟨h.n1,h.n8,by rw [back_len]; exact h.len,fun i hi => ?_⟩;rw [back_len] at hi;obtain ⟨a1,a2,a3,a4⟩:=h.ok i hi;rw [back_arc hi];exact ⟨a2,a1,fun e => a3 e.symm,a4⟩
theorem implBack_l (n : Int) (l : List Arc) (hm : l.length ≤ 1000) : ∀ (m i : Nat),l.length - i = m → i ≤ l.length → Ev (fun k => impl_Net_back.l0 k l (l.length : Int) (i : Int) n ((back l).take i)) (n,back l):=by
 intro m
 induction m with
 | zero =>
  intro i hd hi;refine Ev.go ?_ (fun k => by rw [impl_Net_back.l0]);refine Ev.neg (by omega) (Ev.is ?_);rw [List.take_of_length_le (by rw [back_len]; omega)]
 | succ m ih =>
  intro i hd hi;have hlt : i < l.length:=by omega
  refine Ev.go ?_ (fun k => by rw [impl_Net_back.l0]);have ih:=ih (i + 1) (by omega) (by omega);have hlt2 : i < (back l).length:=by rw [back_len]; exact hlt
  rw [List.take_succ_eq_append_getElem hlt2,← arc_get hlt2,back_arc hlt] at ih;rw [up1 hlt (by simp only [maxLen]; omega),rda];exact Ev.pos (by omega) (Ev.pos (by omega) (Ev.pos (by omega) (Ev.pos (by simp; omega) ih)))
theorem implBack_ev (n : Int) (l : List Arc) (hm : l.length ≤ 1000) : Ev (fun k => impl_Net_back.f k n l) (n,back l):=by
 unfold impl_Net_back.f
 exact Ev.pos (by omega) (Ev.pos (by omega) (by simpa using implBack_l n l hm _ 0 rfl (Nat.zero_le _)))
def lst (n : Nat) (F : Nat → Int) : List Int:=(List.range n).map F
theorem lst_len (n : Nat) (F : Nat → Int) : (lst n F).length = n:=by simp [lst]
theorem lst_nth {n v : Nat} (F : Nat → Int) (h : v < n) : nth (lst n F) v = F v:=by
 simp [nth,lst,h]
theorem lst_rd {n v : Nat} (F : Nat → Int) (h : v < n) : rd (lst n F) (v : Int) = F v:=by rw [rdg,lst_nth F h]
theorem lst_congr {n : Nat} {F G : Nat → Int} (h : ∀ v,v < n → F v = G v) : lst n F = lst n G:=by
 unfold lst
 exact List.map_congr_left (fun v hv => h v (List.mem_range.1 hv))
theorem lst_snoc (n : Nat) (F : Nat → Int) : lst n F ++ [F n] = lst (n + 1) F:=by
 simp [lst,List.range_succ]
def upd (F : Nat → Int) (a : Nat) (x : Int) : Nat → Int:=fun v => if v = a then x else F v
theorem lst_set {n a : Nat} (F : Nat → Int) (x : Int) : (lst n F).set a x = lst n (upd F a x):=by
 apply List.ext_getElem (by simp [lst])
 intro i h1 h2;have hi : i < n:=by simpa [lst] using h2
 simp only [List.getElem_set]
 by_cases e : a = i
 case pos => subst e; simp [lst,upd]
 simp [lst,upd,e,show ¬ i = a from fun h => e h.symm]
inductive Conn (E : Nat → Nat → Prop) : Nat → Nat → Prop
 | refl (v : Nat) : Conn E v v
 | tail {u v w : Nat} : Conn E u v → (E v w ∨ E w v) → Conn E u w
end Go.Proofs.Ytmioaahiflfcdaa.Pure
end
section
set_option linter.unusedSectionVars false
namespace Go.Proofs.Ytmioaahiflfcdaa.Sp
structure G where
 n : Nat
 m : Nat
 fr : Nat → Nat
 tw : Nat → Nat
 w : Nat → Int
 use : Nat → Bool
structure G.Ok (g : G) : Prop where
 fl : ∀ i,i < g.m → g.fr i < g.n
 tl : ∀ i,i < g.m → g.tw i < g.n
 w0 : ∀ i,i < g.m → 0 ≤ g.w i
inductive Wk (g : G) : Nat → Nat → Nat → Int → Prop
 | nil (v : Nat) : Wk g v v 0 0
 | cons {i v k : Nat} {c : Int} : i < g.m → g.use i = true → Wk g (g.tw i) v k c → Wk g (g.fr i) v (k + 1) (g.w i + c)
theorem Wk.cast {g : G} {u v k k' : Nat} {c c' : Int} (h : Wk g u v k c) (hk : k = k') (hc : c = c') : Wk g u v k' c':=by
 subst hk; subst hc; exact h
theorem Wk.nonneg {g : G} (ok : g.Ok) {u v k : Nat} {c : Int} (h : Wk g u v k c) : 0 ≤ c:=by
 induction h with
 | nil => omega
 | cons hi _ _ ih => have:=ok.w0 _ hi; omega
theorem nodup_len : ∀ (n : Nat) (l : List Nat),l.Nodup → (∀ x ∈ l,x < n) → l.length ≤ n:=by
 intro n
 induction n with
 | zero =>
  intro l _ h;cases l with
  | nil => simp
  | cons a l => exact absurd (h a (by simp)) (by omega)
 | succ n ih =>
  intro l hn h;have h1:=ih (l.erase n) (hn.erase n) (fun x hx => by
   have h2:=h x (List.mem_of_mem_erase hx);have h3 : x ≠ n:=by
    rintro rfl;exact (List.Nodup.not_mem_erase hn) hx
   omega)
  have:=List.length_erase_le (a:=n) (l:=l);have h4 : l.length ≤ (l.erase n).length + 1:=by
   rw [List.length_erase]
   split <;> omega
  omega
inductive Sm (g : G) (t : Nat) : Nat → List Nat → Nat → Int → Prop
 | nil : Sm g t t [t] 0 0
 | cons {i k : Nat} {L : List Nat} {c : Int} : i < g.m → g.use i = true → Sm g t (g.tw i) L k c → g.fr i ∉ L → Sm g t (g.fr i) (g.fr i :: L) (k + 1) (g.w i + c)
theorem Sm.wk {g : G} {t u k : Nat} {L : List Nat} {c : Int} (h : Sm g t u L k c) : Wk g u t k c:=by
 induction h with
 | nil => exact .nil _
 | cons hi hu _ _ ih => exact .cons hi hu ih
theorem Sm.facts {g : G} (ok : g.Ok) {t u k : Nat} (ht : t < g.n) {L : List Nat} {c : Int} (h : Sm g t u L k c) : L.Nodup ∧ (∀ x ∈ L,x < g.n) ∧ L.length = k + 1:=by
 induction h with
 | nil => simp [ht]
 | cons hi _ _ hn ih =>
  refine ⟨List.nodup_cons.2 ⟨hn,ih.1⟩,?_,by simp [ih.2.2]⟩;intro x hx
  rcases List.mem_cons.1 hx with rfl | hx
  ·exact ok.fl _ hi
  ·exact ih.2.1 x hx
theorem Sm.tail {g : G} (ok : g.Ok) {t u k : Nat} {L : List Nat} {c : Int} (h : Sm g t u L k c) {x : Nat} (hx : x ∈ L) : ∃ L' k' c',Sm g t x L' k' c' ∧ k' ≤ k ∧ c' ≤ c:=by
 induction h with
 | nil =>
  obtain rfl : x = t:=by simpa using hx
  exact ⟨_,_,_,.nil,Nat.le_refl _,Int.le_refl _⟩
 | cons hi hu h hn ih =>
  rcases List.mem_cons.1 hx with rfl | hx
  ·exact ⟨_,_,_,.cons hi hu h hn,Nat.le_refl _,Int.le_refl _⟩
  ·obtain ⟨L',k',c',h1,h2,h3⟩:=ih hx;have:=ok.w0 _ hi;exact ⟨L',k',c',h1,by omega,by omega⟩
theorem Wk.simple {g : G} (ok : g.Ok) {u v k : Nat} {c : Int} (h : Wk g u v k c) : ∃ L k' c',Sm g v u L k' c' ∧ k' ≤ k ∧ c' ≤ c:=by
 induction h with
 | nil v => exact ⟨_,_,_,.nil,Nat.le_refl _,Int.le_refl _⟩
 | @cons i v k c hi hu h ih =>
  obtain ⟨L,k',c',h1,h2,h3⟩:=ih
  by_cases hm : g.fr i ∈ L
  case neg => exact ⟨_,_,_,.cons hi hu h1 hm,by omega,by omega⟩
  obtain ⟨L'',k'',c'',h4,h5,h6⟩:=h1.tail ok hm;have:=ok.w0 _ hi;exact ⟨L'',k'',c'',h4,by omega,by omega⟩
theorem Wk.short {g : G} (ok : g.Ok) {u v k : Nat} (hv : v < g.n) {c : Int} (h : Wk g u v k c) : ∃ k' c',Wk g u v k' c' ∧ k' < g.n ∧ k' ≤ k ∧ c' ≤ c:=by
 obtain ⟨L,k',c',h1,h2,h3⟩:=h.simple ok;obtain ⟨f1,f2,f3⟩:=h1.facts ok hv;have:=nodup_len _ _ f1 f2;exact ⟨k',c',h1.wk,by omega,h2,h3⟩
def Opt (g : G) (t : Nat) (L : Nat → Option Int) : Prop:=∀ v,v < g.n → (∀ x,L v = some x → ∃ k,Wk g v t k x) ∧ (∀ k c,Wk g v t k c → ∃ x,L v = some x ∧ x ≤ c)
theorem Opt.uniq {g : G} {t : Nat} {L L' : Nat → Option Int} (h : Opt g t L) (h' : Opt g t L') : ∀ v,v < g.n → L v = L' v:=by
 intro v hv;obtain ⟨a,b⟩:=h v hv;obtain ⟨a',b'⟩:=h' v hv;cases e : L v with
 | none =>
  cases e' : L' v with
  | none => rfl
  | some y =>
   obtain ⟨k,hk⟩:=a' y e';obtain ⟨x,hx,_⟩:=b k y hk;rw [e] at hx; cases hx
 | some x =>
  obtain ⟨k,hk⟩:=a x e;obtain ⟨y,hy,h1⟩:=b' k x hk;obtain ⟨k',hk'⟩:=a' y hy;obtain ⟨x',hx',h2⟩:=b k' y hk';rw [e] at hx';obtain rfl:=Option.some.inj hx';rw [hy]
  congr 1
  omega
def lts (a : Int) : Option Int → Bool
 | none => true
 | some y => decide (a < y)
def put (L : Nat → Option Int) (a : Nat) (x : Int) : Nat → Option Int:=fun v => if v = a then some x else L v
def relax (g : G) (L : Nat → Option Int) (i : Nat) : Nat → Option Int :=
 if g.use i = true then
  match L (g.tw i) with
  | none => L
  | some x => if lts (x + g.w i) (L (g.fr i)) = true then put L (g.fr i) (x + g.w i) else L
 else L
theorem relax_cases (g : G) (L : Nat → Option Int) (i : Nat) : (relax g L i = L ∧ (g.use i = true → ∀ x,L (g.tw i) = some x → lts (x + g.w i) (L (g.fr i)) = false)) ∨ (g.use i = true ∧ ∃ x,L (g.tw i) = some x ∧ lts (x + g.w i) (L (g.fr i)) = true ∧ relax g L i = put L (g.fr i) (x + g.w i)):=by
 unfold relax
 by_cases hu : g.use i = true
 case neg =>
  rw [if_neg hu];exact .inl ⟨rfl,fun h => absurd h hu⟩
 rw [if_pos hu];cases e : L (g.tw i) with
 | none => exact .inl ⟨rfl,fun _ x hx => by cases hx⟩
 | some x =>
  dsimp only
  by_cases hl : lts (x + g.w i) (L (g.fr i)) = true
  case pos =>
   rw [if_pos hl];exact .inr ⟨hu,x,rfl,hl,rfl⟩
  rw [if_neg hl];refine .inl ⟨rfl,fun _ y hy => ?_⟩;obtain rfl:=Option.some.inj hy
  simpa using hl
def sweep (g : G) (L : Nat → Option Int) : Nat → (Nat → Option Int)
 | 0 => L
 | i + 1 => relax g (sweep g L i) i
def Le (a b : Option Int) : Prop:=∀ y,b = some y → ∃ x,a = some x ∧ x ≤ y
theorem Le.refl (a : Option Int) : Le a a:=fun y h => ⟨y,h,Int.le_refl _⟩
theorem Le.trans {a b c : Option Int} (h : Le a b) (k : Le b c) : Le a c:=by
 intro y hy;obtain ⟨x,hx,h1⟩:=k y hy;obtain ⟨z,hz,h2⟩:=h x hx;exact ⟨z,hz,by omega⟩
theorem put_same (L : Nat → Option Int) (a : Nat) (x : Int) : put L a x a = some x:=by simp [put]
theorem put_far (L : Nat → Option Int) {a v : Nat} (x : Int) (h : v ≠ a) : put L a x v = L v:=by simp [put,h]
theorem relax_le (g : G) (L : Nat → Option Int) (i v : Nat) : Le (relax g L i v) (L v):=by
 rcases relax_cases g L i with ⟨e,_⟩ | ⟨_,x,hx,hl,e⟩
 ·rw [e]; exact Le.refl _
 ·rw [e]
  by_cases hv : v = g.fr i
  case neg => rw [put_far _ _ hv]; exact Le.refl _
  subst hv;rw [put_same];intro y hy;rw [hy] at hl;exact ⟨_,rfl,by simp [lts] at hl; omega⟩
theorem relax_arc (g : G) (L : Nat → Option Int) (i : Nat) (hu : g.use i = true) {x : Int} (hx : L (g.tw i) = some x) : Le (relax g L i (g.fr i)) (some (x + g.w i)):=by
 intro y hy;obtain rfl:=Option.some.inj hy
 unfold relax
 rw [if_pos hu,hx];dsimp only
 split
 ·exact ⟨_,by simp [put],Int.le_refl _⟩
 ·rename_i hl;cases e : L (g.fr i) with
  | none => rw [e] at hl; simp [lts] at hl
  | some z => rw [e] at hl; exact ⟨z,rfl,by simp [lts] at hl; omega⟩
theorem sweep_le (g : G) (L : Nat → Option Int) (i s v : Nat) : Le (sweep g L (i + s) v) (sweep g L i v):=by
 induction s with
 | zero => exact Le.refl _
 | succ s ih => exact (relax_le g _ _ v).trans ih
theorem sweep_arc (g : G) (L : Nat → Option Int) {i : Nat} (hi : i < g.m) (hu : g.use i = true) {x : Int} (hx : L (g.tw i) = some x) : ∃ y,sweep g L g.m (g.fr i) = some y ∧ y ≤ x + g.w i:=by
 have h0:=sweep_le g L 0 i (g.tw i);rw [Nat.zero_add] at h0;obtain ⟨x',hx',h1⟩:=h0 x hx;have h2:=relax_arc g (sweep g L i) i hu hx';have h3:=sweep_le g L (i + 1) (g.m - (i + 1)) (g.fr i);rw [show i + 1 + (g.m - (i + 1)) = g.m by omega] at h3;obtain ⟨y,hy,h4⟩:=(h3.trans h2) _ rfl;exact ⟨y,hy,by omega⟩
def Real (g : G) (t : Nat) (L : Nat → Option Int) : Prop:=∀ v x,L v = some x → ∃ k,Wk g v t k x
theorem relax_real {g : G} {t : Nat} {L : Nat → Option Int} (h : Real g t L) {i : Nat} (hi : i < g.m) : Real g t (relax g L i):=by
 intro v x hx
 rcases relax_cases g L i with ⟨e,_⟩ | ⟨hu,y,hy,hl,e⟩
 ·rw [e] at hx; exact h v x hx
 ·rw [e] at hx
  by_cases hv : v = g.fr i
  case neg => rw [put_far _ _ hv] at hx; exact h v x hx
  subst hv;rw [put_same] at hx;obtain rfl:=Option.some.inj hx;obtain ⟨k,hk⟩:=h _ _ hy;exact ⟨k + 1,(Wk.cons hi hu hk).cast rfl (by omega)⟩
theorem sweep_real {g : G} {t : Nat} {L : Nat → Option Int} (h : Real g t L) : ∀ i,i ≤ g.m → Real g t (sweep g L i):=by
 intro i
 induction i with
 | zero => exact fun _ => h
 | succ i ih => exact fun hi => relax_real (ih (by omega)) (by omega)
theorem opt_of_fix {g : G} {t : Nat} {L : Nat → Option Int} (h : Real g t L) (ht : Le (L t) (some 0)) (hf : ∀ v,sweep g L g.m v = L v) : Opt g t L:=by
 intro v hv0;clear hv0;refine ⟨fun x hx => h v x hx,fun k c hw => ?_⟩;clear h
 induction hw with
 | nil =>
  obtain ⟨x,hx,h1⟩:=ht 0 rfl;exact ⟨x,hx,h1⟩
 | cons hi hu _ ih =>
  obtain ⟨x,hx,h1⟩:=ih ht;obtain ⟨y,hy,h2⟩:=sweep_arc g L hi hu hx;rw [hf] at hy;exact ⟨y,hy,by omega⟩
def start (t : Nat) : Nat → Option Int:=fun v => if v = t then some 0 else none
def rounds (g : G) (t : Nat) : Nat → (Nat → Option Int)
 | 0 => start t
 | r + 1 => sweep g (rounds g t r) g.m
theorem start_real (g : G) (t : Nat) : Real g t (start t):=by
 intro v x hx
 unfold start at hx
 split at hx
 ·rename_i e;obtain rfl:=Option.some.inj hx;subst e;exact ⟨0,.nil _⟩
 ·cases hx
theorem rounds_real (g : G) (t : Nat) : ∀ r,Real g t (rounds g t r):=by
 intro r
 induction r with
 | zero => exact start_real g t
 | succ r ih => exact sweep_real ih _ (Nat.le_refl _)
theorem rounds_le (g : G) (t r s v : Nat) : Le (rounds g t (r + s) v) (rounds g t r v):=by
 induction s with
 | zero => exact Le.refl _
 | succ s ih =>
  have:=sweep_le g (rounds g t (r + s)) 0 g.m v;rw [Nat.zero_add] at this;exact this.trans ih
theorem rounds_t (g : G) (t r : Nat) : Le (rounds g t r t) (some 0):=by
 have:=rounds_le g t 0 r t;rw [Nat.zero_add] at this;exact this.trans (by simp [rounds,start]; exact Le.refl _)
theorem rounds_walk {g : G} {t r u k : Nat} {c : Int} (h : Wk g u t k c) (hk : k ≤ r) : ∃ x,rounds g t r u = some x ∧ x ≤ c:=by
 induction h generalizing r with
 | nil => exact rounds_t g _ r 0 rfl
 | cons hi hu _ ih =>
  obtain ⟨r,rfl⟩ : ∃ q,r = q + 1:=⟨r - 1,by omega⟩
  obtain ⟨x,hx,h1⟩:=ih (r:=r) (by omega);obtain ⟨y,hy,h2⟩:=sweep_arc g _ hi hu hx;exact ⟨y,hy,by omega⟩
theorem rounds_opt {g : G} (ok : g.Ok) {t r : Nat} (ht : t < g.n) (hr : g.n ≤ r + 1) : Opt g t (rounds g t r):=by
 intro v _;refine ⟨fun x hx => rounds_real g t r v x hx,fun k c hw => ?_⟩;obtain ⟨k',c',h1,h2,h3,h4⟩:=hw.short ok ht;obtain ⟨x,hx,h5⟩:=rounds_walk (r:=r) h1 (by omega);exact ⟨x,hx,by omega⟩
theorem relax_none {g : G} {L : Nat → Option Int} (hn : ∀ v,g.n ≤ v → L v = none) (ok : g.Ok) {i : Nat} (hi : i < g.m) : ∀ v,g.n ≤ v → relax g L i v = none:=by
 intro v hv
 rcases relax_cases g L i with ⟨e,_⟩ | ⟨_,x,hx,hl,e⟩
 ·rw [e]; exact hn v hv
 ·rw [e,put_far _ _ (by have:=ok.fl i hi; omega)]; exact hn v hv
theorem sweep_none {g : G} {L : Nat → Option Int} (ok : g.Ok) (hn : ∀ v,g.n ≤ v → L v = none) : ∀ i,i ≤ g.m → ∀ v,g.n ≤ v → sweep g L i v = none:=by
 intro i
 induction i with
 | zero => exact fun _ => hn
 | succ i ih => exact fun hi => relax_none (ih (by omega)) ok (by omega)
theorem rounds_none {g : G} (ok : g.Ok) {t : Nat} (ht : t < g.n) : ∀ r v,g.n ≤ v → rounds g t r v = none:=by
 intro r
 induction r with
 | zero => intro v hv; simp [rounds,start]; omega
 | succ r ih => exact sweep_none ok ih _ (Nat.le_refl _)
theorem rounds_fix {g : G} (ok : g.Ok) {t r : Nat} (ht : t < g.n) (hr : g.n ≤ r + 1) : ∀ v,rounds g t (r + 1) v = rounds g t r v:=by
 intro v
 by_cases hv : v < g.n
 case pos => exact (rounds_opt ok ht (by omega)).uniq (rounds_opt ok ht hr) v hv
 rw [rounds_none ok ht _ v (by omega),rounds_none ok ht _ v (by omega)]
theorem sweep_same {g : G} {L : Nat → Option Int} (h : ∀ v,sweep g L g.m v = L v) {i : Nat} (hi : i ≤ g.m) : ∀ v,sweep g L i v = L v:=by
 intro v;have h1:=sweep_le g L 0 i v;have h2:=sweep_le g L i (g.m - i) v;rw [Nat.zero_add] at h1;rw [show i + (g.m - i) = g.m by omega,h v] at h2;cases e : L v with
 | none =>
  cases e' : sweep g L i v with
  | none => rfl
  | some y =>
   obtain ⟨x,hx,_⟩:=h2 y e';rw [e] at hx; cases hx
 | some x =>
  obtain ⟨y,hy,a1⟩:=h1 x (by simpa [sweep] using e);obtain ⟨x',hx',a2⟩:=h2 y hy;rw [e] at hx';obtain rfl:=Option.some.inj hx';rw [hy]; congr 1; omega
theorem relax_bd {g : G} {L : Nat → Option Int} {B : Int} (h : ∀ v x,L v = some x → 0 ≤ x ∧ x ≤ B) {i : Nat} {w1 : Int} (hw0 : 0 ≤ g.w i) (hw : g.w i ≤ w1) : ∀ v x,relax g L i v = some x → 0 ≤ x ∧ x ≤ B + w1:=by
 intro v x hx
 rcases relax_cases g L i with ⟨e,_⟩ | ⟨_,y,hy,hl,e⟩
 ·rw [e] at hx; have:=h v x hx; omega
 ·rw [e] at hx
  by_cases hv : v = g.fr i
  case neg => rw [put_far _ _ hv] at hx; have:=h v x hx; omega
  subst hv;rw [put_same] at hx;obtain rfl:=Option.some.inj hx;have:=h _ _ hy; omega
end Go.Proofs.Ytmioaahiflfcdaa.Sp
namespace Go.Proofs.Ytmioaahiflfcdaa.Sp
structure Dbl (g e s : G) (D : Nat → Option Int) : Prop where
 en : e.n = g.n
 em : e.m = g.m
 ef : e.fr = g.fr
 et : e.tw = g.tw
 eu : e.use = g.use
 ew : ∀ i,i < g.m → e.w i = 1000 * g.w i + 1
 sn : s.n = g.n
 sm : s.m = g.m
 sf : s.fr = g.fr
 st : s.tw = g.tw
 sw : ∀ i,i < g.m → s.w i = 1
 su : ∀ i,i < g.m → (s.use i = true ↔ g.use i = true ∧ ∃ x,D (g.tw i) = some x ∧ D (g.fr i) = some (g.w i + x))
def both (D S : Nat → Option Int) : Nat → Option Int:=fun v =>
 match D v with
 | none => none
 | some d => match S v with
  | none => none
  | some k => some (1000 * d + k)
section
variable {g e s : G} {t : Nat} {D S : Nat → Option Int} (h : Dbl g e s D) (ok : g.Ok) (hD : Opt g t D) (hS : Opt s t S) (ht : t < g.n)
include h
theorem Dbl.okS (ok : g.Ok) : s.Ok:=by
 refine ⟨?_,?_,?_⟩
 ·rw [h.sf,h.sm,h.sn]; exact ok.fl
 ·rw [h.st,h.sm,h.sn]; exact ok.tl
 ·intro i hi;rw [h.sm] at hi;rw [h.sw i hi]; omega
theorem Dbl.toE {u v k : Nat} {c : Int} (w : Wk g u v k c) : Wk e u v k (1000 * c + k):=by
 induction w with
 | nil => exact (Wk.nil _).cast rfl (by omega)
 | @cons i v k c hi hu _ ih =>
  have h1 : Wk e (e.tw i) v k (1000 * c + k):=by rw [h.et]; exact ih
  have h2:=Wk.cons (i:=i) (by rw [h.em]; exact hi) (by rw [h.eu]; exact hu) h1;rw [h.ef,h.ew i hi] at h2;exact h2.cast rfl (by omega)
theorem Dbl.ofE {u v k : Nat} {c : Int} (w : Wk e u v k c) : ∃ c',Wk g u v k c' ∧ c = 1000 * c' + k:=by
 induction w with
 | nil => exact ⟨0,.nil _,by omega⟩
 | @cons i v k c hi hu _ ih =>
  obtain ⟨c',h1,h2⟩:=ih;rw [h.em] at hi;rw [h.eu] at hu;rw [h.et] at h1;refine ⟨g.w i + c',?_,by rw [h.ew i hi]; omega⟩;rw [h.ef];exact .cons hi hu h1
theorem Dbl.ofS (hD : Opt g t D) (ht : t < g.n) (ok : g.Ok) {u k : Nat} {c : Int} (w : Wk s u t k c) : ∃ d,D u = some d ∧ Wk g u t k d ∧ c = k:=by
 generalize ev : t = v at w
 induction w with
 | nil v =>
  subst ev;obtain ⟨x,hx,h1⟩:=(hD t ht).2 0 0 (.nil _);obtain ⟨k,hk⟩:=(hD t ht).1 x hx;have:=hk.nonneg ok;have e0 : x = 0:=by omega
  subst e0;exact ⟨0,hx,.nil _,rfl⟩
 | @cons i v k c hi hu _ ih =>
  obtain ⟨d,h1,h2,h3⟩:=ih ev;rw [h.sm] at hi;obtain ⟨g1,x,g2,g3⟩:=(h.su i hi).1 hu;rw [h.st] at h1 h2;rw [g2] at h1;obtain rfl:=Option.some.inj h1;rw [h.sf];exact ⟨_,g3,.cons hi g1 h2,by rw [h.sw i hi,h3]; omega⟩
theorem Dbl.toS (hD : Opt g t D) (ok : g.Ok) {u k : Nat} {c : Int} (w : Wk g u t k c) (hc : D u = some c) : Wk s u t k k:=by
 generalize ev : t = v at w
 induction w with
 | nil => exact .nil _
 | @cons i v k c hi hu w ih =>
  subst ev;obtain ⟨x,hx,h1⟩:=(hD _ (ok.tl i hi)).2 k c w;obtain ⟨j,hj⟩:=(hD _ (ok.tl i hi)).1 x hx;obtain ⟨y,hy,h2⟩:=(hD _ (ok.fl i hi)).2 _ _ (Wk.cons hi hu hj);rw [hc] at hy;obtain rfl:=Option.some.inj hy;have ex : x = c:=by omega
  subst ex;have h3:=ih hx rfl;rw [← h.st] at h3;have h4:=Wk.cons (i:=i) (by rw [h.sm]; exact hi) ((h.su i hi).2 ⟨hu,x,hx,hc⟩) h3;rw [h.sf,h.sw i hi] at h4;exact h4.cast rfl (by omega)
theorem Dbl.some (hD : Opt g t D) (hS : Opt s t S) (ht : t < g.n) (ok : g.Ok) {v : Nat} (hv : v < g.n) {d : Int} (hd : D v = .some d) : ∃ k : Nat,S v = .some (k : Int) ∧ k < g.n ∧ Wk s v t k k:=by
 obtain ⟨k,hk⟩:=(hD v hv).1 d hd;have w:=h.toS hD ok hk hd;obtain ⟨x,hx,h1⟩:=(hS v (by rw [h.sn]; exact hv)).2 _ _ w;obtain ⟨j,hj⟩:=(hS v (by rw [h.sn]; exact hv)).1 x hx;obtain ⟨d',e1,e2,e3⟩:=h.ofS hD ht ok hj;obtain ⟨j',c',w1,w2,w3,w4⟩:=hj.short (h.okS ok) (by rw [h.sn]; exact ht);obtain ⟨y,hy,h5⟩:=(hS v (by rw [h.sn]; exact hv)).2 _ _ w1;rw [hx] at hy;obtain rfl:=Option.some.inj hy;obtain ⟨_,_,_,e5⟩:=h.ofS hD ht ok w1;rw [h.sn] at w2;exact ⟨j,by rw [hx,e3],by omega,e3 ▸ hj⟩
theorem Dbl.opt (hD : Opt g t D) (hS : Opt s t S) (ht : t < g.n) (ok : g.Ok) (h8 : g.n ≤ 1000) : Opt e t (both D S):=by
 intro v hv;rw [h.en] at hv;constructor
 ·intro x hx
  unfold both at hx
  cases ed : D v with
  | none => rw [ed] at hx; cases hx
  | some d =>
   obtain ⟨k,hk,h1,h2⟩:=h.some hD hS ht ok hv ed;rw [ed,hk] at hx;obtain rfl:=Option.some.inj hx;obtain ⟨d',g1,g2,g3⟩:=h.ofS hD ht ok h2;rw [ed] at g1;obtain rfl:=Option.some.inj g1;exact ⟨k,h.toE g2⟩
 ·intro k c w;obtain ⟨c',w1,rfl⟩:=h.ofE w;obtain ⟨d,hd,h1⟩:=(hD v hv).2 _ _ w1;obtain ⟨j,hj,h2,h3⟩:=h.some hD hS ht ok hv hd;refine ⟨1000 * d + j,by simp [both,hd,hj],?_⟩
  by_cases e0 : d = c'
  case neg => omega
  subst e0;have w2:=h.toS hD ok w1 hd;obtain ⟨x,hx,h4⟩:=(hS v (by rw [h.sn]; exact hv)).2 _ _ w2;rw [hj] at hx;obtain rfl:=Option.some.inj hx;omega
end
end Go.Proofs.Ytmioaahiflfcdaa.Sp
end
section
set_option linter.unusedSimpArgs false
set_option linter.unusedVariables false
set_option linter.unusedSectionVars false
namespace Go.Proofs.Ytmioaahiflfcdaa.Pure
open Go.RowKit Go.Proofs.Ytmioaahiflfcdaa.Pr Go.Proofs.YtmioaahiflfcdaaW.PrintWords Go.Proofs.YtmioaahiflfcdaaW.PrintLast Go.Proofs.YtmioaahiflfcdaaW.PrintMore
open Go.Proofs.Ytmioaahiflfcdaa.Sp (G Wk Opt lts put relax sweep rounds start Dbl)
def gr (N : Nat) (l : List Arc) : G:=⟨N,l.length,fun i => (arc l i).f0.toNat,fun i => (arc l i).f1.toNat,fun i => (arc l i).f2,fun _ => true⟩
def grE (N : Nat) (l : List Arc) : G:={ gr N l with w:=fun i => 1000 * (arc l i).f2 + 1 }
def grS (N : Nat) (l : List Arc) (D : Nat → Option Int) : G:={ gr N l with w:=fun _ => 1,use:=fun i => match D (arc l i).f1.toNat with | none => false | some x => decide (D (arc l i).f0.toNat = some ((arc l i).f2 + x)) }
section
variable {N : Nat} {l : List Arc} (hg : NetGood N l)
include hg
theorem gr_ok : (gr N l).Ok:=⟨fun i hi => by have:=hg.ok i hi; show (arc l i).f0.toNat < N; omega,fun i hi => by have:=hg.ok i hi; show (arc l i).f1.toNat < N; omega,fun i hi => by have:=hg.ok i hi; show 0 ≤ (arc l i).f2; omega⟩
theorem grE_ok : (grE N l).Ok:=⟨fun i hi => by have:=hg.ok i hi; show (arc l i).f0.toNat < N; omega,fun i hi => by have:=hg.ok i hi; show (arc l i).f1.toNat < N; omega,fun i hi => by have:=hg.ok i hi; show 0 ≤ 1000 * (arc l i).f2 + 1; omega⟩
theorem grS_ok (D : Nat → Option Int) : (grS N l D).Ok:=⟨fun i hi => by have:=hg.ok i hi; show (arc l i).f0.toNat < N; omega,fun i hi => by have:=hg.ok i hi; show (arc l i).f1.toNat < N; omega,fun i hi => by show (0 : Int) ≤ 1; omega⟩
end
theorem dbl (N : Nat) (l : List Arc) (D : Nat → Option Int) : Dbl (gr N l) (grE N l) (grS N l D) D:=by
 refine ⟨rfl,rfl,rfl,rfl,rfl,fun i _ => rfl,rfl,rfl,rfl,rfl,fun i _ => rfl,fun i _ => ?_⟩
 show (match D (arc l i).f1.toNat with | none => false | some x => decide (D (arc l i).f0.toNat = some ((arc l i).f2 + x))) = true ↔ _
 cases e : D (arc l i).f1.toNat with
 | none =>
  refine ⟨fun h => (by cases h),fun ⟨_,x,h,_⟩ => ?_⟩;have h : D (arc l i).f1.toNat = some x:=h;rw [e] at h; cases h
 | some x =>
  dsimp only;rw [decide_eq_true_iff];refine ⟨fun h => ⟨rfl,x,e,h⟩,fun ⟨_,y,h,h2⟩ => ?_⟩;have h : D (arc l i).f1.toNat = some y:=h;rw [e] at h;obtain rfl:=Option.some.inj h;exact h2
def dst (N : Nat) (l : List Arc) (t : Nat) : Nat → Option Int:=rounds (gr N l) t N
def stp (N : Nat) (l : List Arc) (t : Nat) : Nat → Option Int:=rounds (grS N l (dst N l t)) t N
section
variable {N : Nat} {l : List Arc} (hg : NetGood N l) {t : Nat} (ht : t < N)
include hg ht
theorem dst_opt : Opt (gr N l) t (dst N l t):=Sp.rounds_opt (gr_ok hg) ht (by show N ≤ N + 1; omega)
theorem stp_opt : Opt (grS N l (dst N l t)) t (stp N l t):=Sp.rounds_opt (grS_ok hg _) ht (by show N ≤ N + 1; omega)
theorem stp_some {v : Nat} (hv : v < N) {d : Int} (hd : dst N l t v = some d) : ∃ k : Nat,stp N l t v = some (k : Int) ∧ k < N:=by
 obtain ⟨k,h1,h2,_⟩:=(dbl N l (dst N l t)).some (dst_opt hg ht) (stp_opt hg ht) ht (gr_ok hg) hv hd;exact ⟨k,h1,h2⟩
theorem tow_both {v : Nat} (hv : v < N) : rounds (grE N l) t N v = Sp.both (dst N l t) (stp N l t) v:=by
 have h8:=hg.n8;have h1:=Sp.rounds_opt (g:=grE N l) (t:=t) (r:=N) (grE_ok hg) ht (by show N ≤ N + 1; omega);have h2:=(dbl N l (dst N l t)).opt (dst_opt hg ht) (stp_opt hg ht) ht (gr_ok hg) (by show N ≤ 1000; omega);exact h1.uniq h2 v hv
end
abbrev Msr:=S101
def ent : Option Int → Msr
 | none => ⟨99999,0⟩
 | some x => ⟨x / 1000,x % 1000⟩
def far : Option Int → Int
 | none => 99999
 | some x => x
def lstM (N : Nat) (F : Nat → Msr) : List Msr:=(List.range N).map F
theorem lstM_len (N : Nat) (F : Nat → Msr) : (lstM N F).length = N:=by simp [lstM]
theorem lstM_rd {N v : Nat} (F : Nat → Msr) (h : v < N) : rd_T101 (lstM N F) (v : Int) = F v:=by
 simp [rd_T101,lstM,h]
theorem lstM_congr {N : Nat} {F H : Nat → Msr} (h : ∀ v,v < N → F v = H v) : lstM N F = lstM N H:=by
 unfold lstM
 exact List.map_congr_left (fun v hv => h v (List.mem_range.1 hv))
theorem lstM_set {N a : Nat} (L : Nat → Option Int) (x : Int) : (lstM N (fun v => ent (L v))).set a (ent (some x)) = lstM N (fun v => ent (put L a x v)):=by
 apply List.ext_getElem (by simp [lstM])
 intro i h1 h2;simp only [List.getElem_set]
 by_cases e : a = i
 case pos => subst e; simp [lstM,put]
 simp [lstM,put,e,show ¬ i = a from fun h => e h.symm]
theorem less_eq (a b c d : Int) : impl_measure_less.f a b c d = some (decide (a < c ∨ a = c ∧ b < d)):=by
 unfold impl_measure_less.f
 by_cases h : a < c
 case pos => rw [if_pos h,decide_eq_true (.inl h)]
 rw [if_neg h]
 by_cases h2 : a = c
 case neg => rw [if_neg h2,decide_eq_false (fun h3 => h3.elim h (fun h4 => h2 h4.1))]
 rw [if_pos h2]
 congr 1
 simp only [decide_eq_decide];exact ⟨fun h3 => .inr ⟨h2,h3⟩,fun h3 => h3.elim (fun h4 => absurd h4 h) (fun h4 => h4.2)⟩
def Bd (s : Nat) (L : Nat → Option Int) : Prop:=∀ v x,L v = some x → 0 ≤ x ∧ x / 1000 ≤ 99 * (s : Int) ∧ x % 1000 ≤ (s : Int)
theorem Bd.relax {N : Nat} {l : List Arc} (hg : NetGood N l) {s : Nat} {L : Nat → Option Int} (h : Bd s L) (hs : s < 900) {i : Nat} (hi : i < l.length) : Bd (s + 1) (relax (grE N l) L i):=by
 obtain ⟨_,_,_,⟨a1,a2⟩,_⟩:=hg.ok i hi;intro v x hx
 rcases Sp.relax_cases (grE N l) L i with ⟨e,_⟩ | ⟨_,y,hy,hl,e⟩
 ·rw [e] at hx; have:=h v x hx; omega
 ·rw [e] at hx
  by_cases hv : v = (grE N l).fr i
  case neg => rw [Sp.put_far _ _ hv] at hx; have:=h v x hx; omega
  subst hv;rw [Sp.put_same] at hx;have hx : some (y + (1000 * (arc l i).f2 + 1)) = some x:=hx;obtain rfl:=Option.some.inj hx;have:=h _ _ hy;omega
theorem Bd.sweep {N : Nat} {l : List Arc} (hg : NetGood N l) {s : Nat} {L : Nat → Option Int} (h : Bd s L) : ∀ i,i ≤ l.length → s + i ≤ 900 → Bd (s + i) (sweep (grE N l) L i):=by
 intro i
 induction i with
 | zero => exact fun _ _ => h
 | succ i ih => exact fun hi hs => (ih (by omega) (by omega)).relax hg (by omega) (by omega)
theorem Bd.mono {s r : Nat} {L : Nat → Option Int} (h : Bd s L) (hs : s ≤ r) : Bd r L:=fun v x hx => by have:=h v x hx; omega
theorem Bd.rounds {N : Nat} {l : List Arc} (hg : NetGood N l) (t : Nat) : ∀ r,r ≤ 9 → Bd (16 * r) (rounds (grE N l) t r):=by
 intro r
 induction r with
 | zero =>
  intro _ v x hx
  unfold Sp.rounds Sp.start at hx
  split at hx
  ·obtain rfl:=Option.some.inj hx; omega
  ·cases hx
 | succ r ih =>
  intro hr;have:=hg.len;exact ((ih (by omega)).sweep hg l.length (Nat.le_refl _) (by omega)).mono (by omega)
def hit (g : G) (L : Nat → Option Int) (i : Nat) : Bool:=match L (g.tw i) with
 | none => false
 | some x => lts (x + g.w i) (L (g.fr i))
def fl (g : G) (L : Nat → Option Int) : Nat → Bool
 | 0 => false
 | i + 1 => fl g L i || hit g (sweep g L i) i
theorem relax_hit {g : G} {L : Nat → Option Int} {i : Nat} (h : hit g L i = false) : relax g L i = L:=by
 unfold hit at h
 unfold Sp.relax
 split
 ·cases e : L (g.tw i) with
  | none => rfl
  | some x => rw [e] at h; dsimp only at h ⊢; rw [h]; rfl
 ·rfl
theorem fl_none {g : G} {L : Nat → Option Int} : ∀ i,fl g L i = false → sweep g L i = L
 | 0,_ => rfl
 | i + 1,h => by
  have h : (fl g L i || hit g (sweep g L i) i) = false:=h;rw [Bool.or_eq_false_iff] at h
  show relax g (sweep g L i) i = L
  rw [relax_hit h.2,fl_none i h.1]
theorem fl_same {g : G} (hu : ∀ i,g.use i = true) {L : Nat → Option Int} (h : ∀ v,sweep g L g.m v = L v) : ∀ i,i ≤ g.m → fl g L i = false
 | 0,_ => rfl
 | i + 1,hi => by
  show (fl g L i || hit g (sweep g L i) i) = false
  rw [fl_same hu h i (by omega),Bool.false_or];have e1 : sweep g L i = L:=funext (Sp.sweep_same h (by omega));have e2 : relax g L i = L:=by
   have : sweep g L (i + 1) = L:=funext (Sp.sweep_same h hi);have e3 : sweep g L (i + 1) = relax g (sweep g L i) i:=rfl;rw [e3,e1] at this;exact this
  rw [e1]
  unfold hit
  unfold Sp.relax at e2
  rw [if_pos (hu i)] at e2;cases e : L (g.tw i) with
  | none => rfl
  | some x =>
   rw [e] at e2;dsimp only at e2 ⊢;cases hl : lts (x + g.w i) (L (g.fr i)) with
   | false => rfl
   | true =>
    rw [if_pos hl] at e2;have:=congrFun e2 (g.fr i);rw [Sp.put_same] at this;rw [← this] at hl;simp [Sp.lts] at hl
section
variable {N : Nat} {l : List Arc} (hg : NetGood N l)
include hg
theorem tow_l1 (L : Nat → Option Int) {s : Nat} (hs : s ≤ 700) (hL : Bd s L) {R : List Msr} : ∀ (m i : Nat),l.length - i = m → i ≤ l.length →
  Ev (fun k => impl_Net_toward.l0 k (lstM N (fun v => ent (sweep (grE N l) L l.length v))) (fl (grE N l) L l.length) N l) R →
  Ev (fun k => impl_Net_toward.l1 k (lstM N (fun v => ent (sweep (grE N l) L i v))) (fl (grE N l) L i) l (l.length : Int) (i : Int) N l) R:=by
 have h16:=hg.len;intro m
 induction m with
 | zero =>
  intro i hd hi h;have e : i = l.length:=by omega
  subst e;refine Ev.go ?_ (fun k => by rw [impl_Net_toward.l1]);exact Ev.neg (by omega) h
 | succ m ih =>
  intro i hd hi h;have hlt : i < l.length:=by omega
  have hn:=ih (i + 1) (by omega) (by omega) h;clear ih h;have hb:=hL.sweep hg i hi (by omega);obtain ⟨⟨a1,a2⟩,⟨a3,a4⟩,a5,⟨a6,a7⟩,_⟩:=hg.ok i hlt;have ef : (grE N l).fr i = (arc l i).f0.toNat:=rfl;have et : (grE N l).tw i = (arc l i).f1.toNat:=rfl;have ew : (grE N l).w i = 1000 * (arc l i).f2 + 1:=rfl;obtain ⟨f,hf⟩:=Int.eq_ofNat_of_zero_le a1;obtain ⟨t,ht⟩:=Int.eq_ofNat_of_zero_le a3;rw [hf,Int.toNat_natCast] at ef;rw [ht,Int.toNat_natCast] at et;have hfN : f < N:=by omega
  have htN : t < N:=by omega
  have hsw : sweep (grE N l) L (i + 1) = relax (grE N l) (sweep (grE N l) L i) i:=rfl;have hfl : fl (grE N l) L (i + 1) = (fl (grE N l) L i || hit (grE N l) (sweep (grE N l) L i) i):=rfl;rw [hsw,hfl] at hn;clear hsw hfl;generalize sweep (grE N l) L i = M at hn hb;generalize fl (grE N l) L i = b at hn;refine Ev.go ?_ (fun k => by rw [impl_Net_toward.l1]);rw [rda,up1 hlt (by simp only [maxLen]; omega),hf,ht,lstM_rd _ htN,lstM_rd _ hfN,lstM_len];refine Ev.pos (by omega) (Ev.pos (by omega) (Ev.pos (by omega) (Ev.pos (by omega) (Ev.pos (by omega) ?_))));cases et2 : M t with
  | none =>
   have hh : hit (grE N l) M i = false:=by unfold hit; rw [et,et2]
   rw [hh,relax_hit hh,Bool.or_false] at hn;exact Ev.pos rfl hn
  | some x =>
   have hx:=hb t x et2;have hq : 0 ≤ x / 1000:=by omega
   have hr : 0 ≤ x % 1000:=by omega
   have w1 : wrap64 (x / 1000 + (arc l i).f2) = x / 1000 + (arc l i).f2:=w64 (by omega) (by omega);have w2 : wrap64 (x % 1000 + 1) = x % 1000 + 1:=w64 (by omega) (by omega);have e1 : (x + (1000 * (arc l i).f2 + 1)) / 1000 = x / 1000 + (arc l i).f2:=by omega
   have e2 : (x + (1000 * (arc l i).f2 + 1)) % 1000 = x % 1000 + 1:=by omega
   have eent : (⟨x / 1000 + (arc l i).f2,x % 1000 + 1⟩ : Msr) = ent (some (x + (1000 * (arc l i).f2 + 1))):=by simp only [ent,e1,e2]
   have hne : ¬ ((ent (some x)).f0 = 99999):=by show ¬ (x / 1000 = 99999); omega
   have elts : decide ((x / 1000 + (arc l i).f2) < (ent (M f)).f0 ∨ (x / 1000 + (arc l i).f2) = (ent (M f)).f0 ∧ (x % 1000 + 1) < (ent (M f)).f1) = lts (x + (1000 * (arc l i).f2 + 1)) (M f):=by
    cases ef2 : M f with
    | none => exact decide_eq_true (.inl (by show x / 1000 + (arc l i).f2 < 99999; omega))
    | some y =>
     have hy:=hb f y ef2
     show decide (_ < y / 1000 ∨ _ = y / 1000 ∧ _ < y % 1000) = decide (_ < y)
     rw [decide_eq_decide];omega
   have hh : hit (grE N l) M i = lts (x + (1000 * (arc l i).f2 + 1)) (M f):=by unfold hit; rw [et,et2,ef,ew]
   have hre : relax (grE N l) M i = if lts (x + (1000 * (arc l i).f2 + 1)) (M f) = true then put M f (x + (1000 * (arc l i).f2 + 1)) else M:=by
    unfold Sp.relax
    rw [if_pos (show (grE N l).use i = true from rfl),et,et2,ef,ew]
   rw [hh,hre] at hn;clear hh hre;refine Ev.neg hne ?_
   show Ev (fun k => if 0 ≤ ((f : Nat) : Int) then _ else _) R
   rw [show (ent (some x)).f0 = x / 1000 from rfl,show (ent (some x)).f1 = x % 1000 from rfl,w1,w2,Int.toNat_natCast,eent,lstM_set];clear w1 w2 hne;refine Ev.pos (by omega) (Ev.pos (by omega) (Ev.bind0 (less_eq _ _ _ _) ?_));rw [elts];cases c : lts (x + (1000 * (arc l i).f2 + 1)) (M f) with
   | true =>
    rw [c,if_pos rfl,Bool.or_true] at hn;exact Ev.pos rfl hn
   | false =>
    rw [c,if_neg (by simp),Bool.or_false] at hn;exact Ev.neg (by simp) hn
theorem tow_l0 {t : Nat} (ht : t < N) : ∀ d r,r + d = N → Ev (fun k => impl_Net_toward.l0 k (lstM N (fun v => ent (rounds (grE N l) t r v))) true N l) (lstM N (fun v => ent (rounds (grE N l) t N v))):=by
 have h8:=hg.n8;have stop : ∀ r,r ≤ N → fl (grE N l) (rounds (grE N l) t r) l.length = false → lstM N (fun v => ent (rounds (grE N l) t (r + 1) v)) = lstM N (fun v => ent (rounds (grE N l) t N v)):=by
  intro r hr hf;have e:=fl_none l.length hf;have o1 : Opt (grE N l) t (rounds (grE N l) t r):=Sp.opt_of_fix (Sp.rounds_real _ _ _) (Sp.rounds_t _ _ _) (fun v => congrFun e v);have o2:=Sp.rounds_opt (g:=grE N l) (t:=t) (r:=N) (grE_ok hg) ht (by show N ≤ N + 1; omega);refine lstM_congr (fun v hv => ?_);have e2 : rounds (grE N l) t (r + 1) = rounds (grE N l) t r:=e;rw [e2,o1.uniq o2 v hv]
 intro d
 induction d with
 | zero =>
  intro r hr;obtain rfl : r = N:=by omega
  refine Ev.go ?_ (fun k => by rw [impl_Net_toward.l0]);refine Ev.pos rfl (tow_l1 hg (rounds (grE r l) t r) (s:=16 * r) (by omega) (Bd.rounds hg t r (by omega)) _ 0 rfl (Nat.zero_le _) ?_);have hf:=fl_same (g:=grE r l) (fun _ => rfl) (L:=rounds (grE r l) t r) (Sp.rounds_fix (grE_ok hg) ht (by show r ≤ r + 1; omega)) l.length (Nat.le_refl _);rw [hf];refine Ev.go ?_ (fun k => by rw [impl_Net_toward.l0]);exact Ev.neg (by simp) (Ev.is (stop r (Nat.le_refl _) hf))
 | succ d ih =>
  intro r hr;refine Ev.go ?_ (fun k => by rw [impl_Net_toward.l0]);refine Ev.pos rfl (tow_l1 hg (rounds (grE N l) t r) (s:=16 * r) (by omega) (Bd.rounds hg t r (by omega)) _ 0 rfl (Nat.zero_le _) ?_);cases hf : fl (grE N l) (rounds (grE N l) t r) l.length with
  | true => exact ih (r + 1) (by omega)
  | false =>
   refine Ev.go ?_ (fun k => by rw [impl_Net_toward.l0]);exact Ev.neg (by simp) (Ev.is (stop r (by omega) hf))
theorem tow_ev {t : Nat} (ht : t < N) : Ev (fun k => impl_Net_toward.f k N l (t : Int)) (lstM N (fun v => ent (rounds (grE N l) t N v))):=by
 have h8:=hg.n8
 unfold impl_Net_toward.f
 refine Ev.bind0 (rep_measure _ N (by omega)) ?_;refine Ev.pos (by omega) (Ev.pos (by simp; omega) ?_);have e : (List.replicate N (⟨99999,0⟩ : Msr)).set (t : Int).toNat ⟨0,0⟩ = lstM N (fun v => ent (rounds (grE N l) t 0 v)):=by
  apply List.ext_getElem (by simp [lstM])
  intro i h1 h2;simp only [Int.toNat_natCast,List.getElem_set]
  by_cases c : t = i
  case pos => subst c; simp [lstM,Sp.rounds,Sp.start,ent]
  simp [lstM,Sp.rounds,Sp.start,ent,c,show ¬ i = t from fun h => c h.symm]
 rw [e];exact tow_l0 hg ht N 0 (by omega)
theorem ent_far {t : Nat} (ht : t < N) {v : Nat} (hv : v < N) : (ent (rounds (grE N l) t N v)).f0 = far (dst N l t v):=by
 have h8:=hg.n8;rw [tow_both hg ht hv]
 unfold Sp.both
 cases e : dst N l t v with
 | none => rfl
 | some d =>
  obtain ⟨k,h1,h2⟩:=stp_some hg ht hv e;rw [h1]
  show (1000 * d + (k : Int)) / 1000 = d
  omega
end
theorem costs_l (N : Nat) (hN : N ≤ 64) (F : Nat → Msr) : ∀ (m i : Nat),N - i = m → i ≤ N → Ev (fun k => impl_costs.l0 k (lst i (fun v => (F v).f0)) (lstM N F) (N : Int) (i : Int)) (lst N (fun v => (F v).f0)):=by
 intro m
 induction m with
 | zero =>
  intro i hd hi;refine Ev.go ?_ (fun k => by rw [impl_costs.l0]);obtain rfl : i = N:=by omega
  exact Ev.neg (by omega) (Ev.now _)
 | succ m ih =>
  intro i hd hi;refine Ev.go ?_ (fun k => by rw [impl_costs.l0]);rw [up1 (show i < N by omega) (by simp only [maxLen]; omega),lstM_rd F (show i < N by omega),lst_snoc i (fun v => (F v).f0),lst_len,lstM_len];exact Ev.pos (by omega) (Ev.pos (by omega) (Ev.pos (by omega) (Ev.pos (by omega) (ih (i + 1) (by omega) (by omega)))))
theorem costs_ev (N : Nat) (hN : N ≤ 64) (F : Nat → Msr) : Ev (fun k => impl_costs.f k (lstM N F)) (lst N (fun v => (F v).f0)):=by
 unfold impl_costs.f
 rw [lstM_len];exact Ev.pos (by omega) (Ev.pos (by omega) (costs_l N hN F _ 0 rfl (Nat.zero_le _)))
theorem from_ev {N : Nat} {l : List Arc} (hg : NetGood N l) {s : Nat} (hs : s < N) : Ev (fun k => impl_Net_from.f k N l (s : Int)) (lst N (fun v => far (dst N (back l) s v))):=by
 have h8:=hg.n8;have h16:=hg.len
 unfold impl_Net_from.f
 refine Ev.bind (implBack_ev _ l (by omega)) (Ev.bind (tow_ev (back_good hg) hs) (Ev.bind (costs_ev N (by omega) _) (Ev.is ?_)));exact lst_congr (fun v hv => ent_far (back_good hg) hs hv)
end Go.Proofs.Ytmioaahiflfcdaa.Pure
end
section
set_option linter.unusedSimpArgs false
set_option linter.unusedVariables false
set_option linter.unusedSectionVars false
namespace Go.Proofs.Ytmioaahiflfcdaa.Pure
open Go.RowKit Go.Proofs.Ytmioaahiflfcdaa.Pr Go.Proofs.YtmioaahiflfcdaaW.PrintWords Go.Proofs.YtmioaahiflfcdaaW.PrintLast Go.Proofs.YtmioaahiflfcdaaW.PrintMore
open Go.Proofs.Ytmioaahiflfcdaa.Sp (G Wk Opt)
def tab (N : Nat) (l : List Arc) (s : Nat) : List Int:=lst N (fun v => far (dst N (back l) s v))
theorem table_l {N : Nat} {l : List Arc} (hg : NetGood N l) : ∀ (m i : Nat),N - i = m → i ≤ N → Ev (fun k => impl_Net_table.l0 k ((List.range i).map (tab N l)) (N : Int) (i : Int) N l) ((List.range N).map (tab N l)):=by
 have h8:=hg.n8;intro m
 induction m with
 | zero =>
  intro i hd hi;obtain rfl : i = N:=by omega
  refine Ev.go ?_ (fun k => by rw [impl_Net_table.l0]);exact Ev.neg (by omega) (Ev.now _)
 | succ m ih =>
  intro i hd hi;refine Ev.go ?_ (fun k => by rw [impl_Net_table.l0]);have ih:=ih (i + 1) (by omega) (by omega);rw [List.range_succ,List.map_append] at ih;rw [up1 (show i < N by omega) (by simp only [maxLen]; omega)];exact Ev.pos (by omega) (Ev.bind (from_ev hg (show i < N by omega)) (Ev.pos (by simp; omega) ih))
theorem table_ev {N : Nat} {l : List Arc} (hg : NetGood N l) : Ev (fun k => impl_Net_table.f k N l) ((List.range N).map (tab N l)):=by
 have h8:=hg.n8
 unfold impl_Net_table.f
 exact Ev.pos (by omega) (Ev.pos (by omega) (by simpa using table_l hg _ 0 rfl (Nat.zero_le _)))
theorem back_arc' (l : List Arc) (i : Nat) : arc (back l) i = flip (arc l i):=by
 by_cases h : i < l.length
 case pos => exact back_arc h
 have e1 : arc (back l) i = z80:=by unfold arc; simp [rd_T80,back_len,List.getElem?_eq_none (show l.length ≤ i by omega),List.getElem?_eq_none (show (back l).length ≤ i by rw [back_len]; omega)]
 have e2 : arc l i = z80:=by unfold arc; simp [rd_T80,List.getElem?_eq_none (show l.length ≤ i by omega)]
 rw [e1,e2]; rfl
theorem wk_cost {N : Nat} {l : List Arc} (hg : NetGood N l) {u v k : Nat} {c : Int} (w : Wk (gr N l) u v k c) : c ≤ 99 * (k : Int):=by
 induction w with
 | nil => omega
 | @cons i _ _ c hi _ _ ih =>
  have h : (gr N l).w i ≤ 99:=(hg.ok i hi).2.2.2.1.2;omega
section
variable {N : Nat} {l : List Arc} (hg : NetGood N l) {t : Nat} (ht : t < N)
include hg ht
theorem dst_bd {v : Nat} (hv : v < N) {d : Int} (h : dst N l t v = some d) : 0 ≤ d ∧ d ≤ 693:=by
 have h8:=hg.n8;obtain ⟨k,w⟩:=(dst_opt hg ht v hv).1 d h;obtain ⟨k',c',w',h1,h2,h3⟩:=w.short (gr_ok hg) ht;obtain ⟨x,h4,h5⟩:=(dst_opt hg ht v hv).2 _ _ w';rw [h] at h4;obtain rfl:=Option.some.inj h4;have h6:=wk_cost hg w';have h7 : k' < N:=h1;exact ⟨w.nonneg (gr_ok hg),by omega⟩
end
end Go.Proofs.Ytmioaahiflfcdaa.Pure
end
section
set_option linter.unusedSimpArgs false
set_option linter.unusedVariables false
set_option linter.unusedSectionVars false
namespace Go.Proofs.Ytmioaahiflfcdaa.Pure
open Go.RowKit Go.Proofs.Ytmioaahiflfcdaa.Pr Go.Proofs.YtmioaahiflfcdaaW.PrintWords Go.Proofs.YtmioaahiflfcdaaW.PrintLast Go.Proofs.YtmioaahiflfcdaaW.PrintMore
open Go.Proofs.Ytmioaahiflfcdaa.Sp (G Wk Opt lts put relax sweep rounds start)
theorem lst_put {N a : Nat} (L : Nat → Option Int) (x : Int) : (lst N (fun v => far (L v))).set a x = lst N (fun v => far (put L a x v)):=by
 rw [lst_set]
 apply lst_congr
 intro v _
 unfold upd Sp.put
 split <;> rfl
theorem lst_fill (N i : Nat) (c : Int) (F : Nat → Int) (h : i < N) : (lst N (fun v => if v < i then c else F v)).set i c = lst N (fun v => if v < i + 1 then c else F v):=by
 rw [lst_set]
 apply lst_congr
 intro v _
 unfold upd
 by_cases e : v = i
 case pos => subst e; simp
 rw [if_neg e]
 show (if v < i then c else F v) = _
 by_cases e2 : v < i
 case neg => rw [if_neg e2,if_neg (by omega)]
 rw [if_pos e2,if_pos (by omega)]
theorem start_lst {N s : Nat} (hs : s < N) : (lst N (fun _ => (99999 : Int))).set s 0 = lst N (fun v => far (Sp.start s v)):=by
 rw [lst_set]
 apply lst_congr
 intro v _
 unfold upd Sp.start
 split <;> rfl
def Bw (w : Int) (s : Nat) (L : Nat → Option Int) : Prop:=∀ v x,L v = some x → 0 ≤ x ∧ x ≤ w * (s : Int)
theorem Bw.relax {g : G} {w : Int} {s : Nat} {L : Nat → Option Int} (h : Bw w s L) {i : Nat} (h0 : 0 ≤ g.w i) (h1 : g.w i ≤ w) : Bw w (s + 1) (relax g L i):=by
 intro v x hx;have:=Sp.relax_bd h h0 h1 v x hx;refine ⟨this.1,?_⟩;have e : w * ((s + 1 : Nat) : Int) = w * (s : Int) + w:=by rw [Int.natCast_add,Int.mul_add]; simp
 omega
theorem Bw.sweep {g : G} {w : Int} {s : Nat} {L : Nat → Option Int} (h : Bw w s L) (hw : ∀ i,i < g.m → 0 ≤ g.w i ∧ g.w i ≤ w) : ∀ i,i ≤ g.m → Bw w (s + i) (sweep g L i)
 | 0,_ => h
 | i + 1,hi => (Bw.sweep h hw i (by omega)).relax (hw i (by omega)).1 (hw i (by omega)).2
theorem Bw.rounds {g : G} {w : Int} (hw : ∀ i,i < g.m → 0 ≤ g.w i ∧ g.w i ≤ w) (t : Nat) : ∀ r,Bw w (g.m * r) (rounds g t r)
 | 0 => by
  intro v x hx
  unfold Sp.rounds Sp.start at hx
  split at hx
  ·obtain rfl:=Option.some.inj hx; simp
  ·cases hx
 | r + 1 => by
  have:=(Bw.rounds hw t r).sweep hw g.m (Nat.le_refl _);rw [Nat.mul_succ];exact this
section
variable {N : Nat} {l : List Arc} (hg : NetGood N l)
include hg
theorem back_gr_fr (i : Nat) : (gr N (back l)).fr i = (arc l i).f1.toNat:=by show (arc (back l) i).f0.toNat = _; rw [back_arc']; rfl
theorem back_gr_tw (i : Nat) : (gr N (back l)).tw i = (arc l i).f0.toNat:=by show (arc (back l) i).f1.toNat = _; rw [back_arc']; rfl
theorem back_gr_w (i : Nat) : (gr N (back l)).w i = (arc l i).f2:=by show (arc (back l) i).f2 = _; rw [back_arc']; rfl
theorem back_gr_m : (gr N (back l)).m = l.length:=back_len l
theorem back_bw : ∀ i,i < (gr N (back l)).m → 0 ≤ (gr N (back l)).w i ∧ (gr N (back l)).w i ≤ 99:=by
 intro i hi;rw [back_gr_m hg] at hi;rw [back_gr_w hg];exact (hg.ok i hi).2.2.2.1
theorem l3All_arcs (r : Nat) {M : Nat → Option Int} {s : Nat} (hM : Bw 99 s M) (hs : s ≤ 500) (hr : r < N) {R : List Int} : ∀ (m i : Nat),l.length - i = m → i ≤ l.length →
  Ev (fun k => spec_l3All.l1 k (lst N (fun v => far (sweep (gr N (back l)) M l.length v))) ((r + 1 : Nat) : Int) N l) R →
  Ev (fun k => spec_l3All.l2 k (lst N (fun v => far (sweep (gr N (back l)) M i v))) (r : Int) (i : Int) N l) R:=by
 have h8:=hg.n8;have h16:=hg.len;intro m
 induction m with
 | zero =>
  intro i hd hi h;obtain rfl : i = l.length:=by omega
  refine Ev.go ?_ (fun k => by rw [spec_l3All.l2]);rw [up1 hr (by simp only [maxLen]; omega)];exact Ev.neg (by omega) h
 | succ m ih =>
  intro i hd hi h;have hlt : i < l.length:=by omega
  have hn:=ih (i + 1) (by omega) (by omega) h;clear ih h;have hb:=hM.sweep (back_bw hg) i (by rw [back_gr_m hg]; omega);have hsw : sweep (gr N (back l)) M (i + 1) = relax (gr N (back l)) (sweep (gr N (back l)) M i) i:=rfl;rw [hsw] at hn;generalize sweep (gr N (back l)) M i = L at hn hb;obtain ⟨⟨a1,a2⟩,⟨a3,a4⟩,a5,⟨a6,a7⟩,_⟩:=hg.ok i hlt;have ef:=back_gr_fr hg i;have et:=back_gr_tw hg i;have ew:=back_gr_w hg i;obtain ⟨f,hf⟩:=Int.eq_ofNat_of_zero_le a1;obtain ⟨t,ht⟩:=Int.eq_ofNat_of_zero_le a3;rw [hf,Int.toNat_natCast] at et;rw [ht,Int.toNat_natCast] at ef;have hfN : f < N:=by omega
  have htN : t < N:=by omega
  refine Ev.go ?_ (fun k => by rw [spec_l3All.l2]);rw [rda,up1 hlt (by simp only [maxLen]; omega),hf,ht,lst_rd _ htN,lst_rd _ hfN,lst_len];refine Ev.pos (by omega) (Ev.pos (by omega) (Ev.pos (by omega) (Ev.pos (by omega) ?_)));cases e2 : L f with
  | none =>
   have hre : relax (gr N (back l)) L i = L:=by unfold Sp.relax; rw [if_pos (show (gr N (back l)).use i = true from rfl),et,e2]
   rw [hre] at hn;exact Ev.neg (by show ¬ ((99999 : Int) < 99999); omega) hn
  | some x =>
   have hx:=hb f x e2;have w1 : wrap64 (x + (arc l i).f2) = x + (arc l i).f2:=w64 (by omega) (by omega);have hre : relax (gr N (back l)) L i = if lts (x + (arc l i).f2) (L t) = true then put L t (x + (arc l i).f2) else L:=by
    unfold Sp.relax
    rw [if_pos (show (gr N (back l)).use i = true from rfl),et,e2,ef,ew]
   have elt : (x + (arc l i).f2 < far (L t)) ↔ lts (x + (arc l i).f2) (L t) = true:=by
    cases e3 : L t with
    | none => exact ⟨fun _ => rfl,fun _ => by show x + _ < 99999; omega⟩
    | some y => exact ⟨fun h => decide_eq_true h,fun h => of_decide_eq_true h⟩
   rw [hre] at hn
   show Ev (fun k => if x < 99999 then _ else _) R
   rw [show far (some x) = x from rfl,w1,Int.toNat_natCast,lst_put];clear w1 hre;refine Ev.pos (by omega) (Ev.pos (by omega) (Ev.pos (by omega) ?_));cases c : lts (x + (arc l i).f2) (L t) with
   | true =>
    rw [c,if_pos rfl] at hn;exact Ev.pos (elt.2 c) hn
   | false =>
    rw [c,if_neg (by simp)] at hn;exact Ev.neg (fun h => by rw [elt.1 h] at c; cases c) hn
theorem l3All_rounds {s : Nat} (hs : s < N) : ∀ (m r : Nat),N - r = m → r ≤ N → Ev (fun k => spec_l3All.l1 k (lst N (fun v => far (rounds (gr N (back l)) s r v))) (r : Int) N l) (lst N (fun v => far (dst N (back l) s v))):=by
 have h8:=hg.n8;have h16:=hg.len;intro m
 induction m with
 | zero =>
  intro r hd hr;obtain rfl : r = N:=by omega
  refine Ev.go ?_ (fun k => by rw [spec_l3All.l1]);exact Ev.neg (by omega) (Ev.now _)
 | succ m ih =>
  intro r hd hr;have hlt : r < N:=by omega
  refine Ev.go ?_ (fun k => by rw [spec_l3All.l1]);refine Ev.pos (by omega) ?_;have hb:=Bw.rounds (back_bw hg) s r;rw [back_gr_m hg] at hb;have h16r : l.length * r ≤ 16 * 8:=Nat.mul_le_mul h16 (by omega);refine l3All_arcs hg r hb (by omega) hlt _ 0 rfl (Nat.zero_le _) ?_;have e : sweep (gr N (back l)) (rounds (gr N (back l)) s r) l.length = rounds (gr N (back l)) s (r + 1):=by
   show _ = sweep (gr N (back l)) (rounds (gr N (back l)) s r) (gr N (back l)).m
   rw [back_gr_m hg]
  rw [e];exact ih (r + 1) (by omega) (by omega)
theorem l3All_fill {s : Nat} (hs : s < N) : ∀ (m i : Nat),N - i = m → i ≤ N → Ev (fun k => spec_l3All.l0 k (s : Int) (lst N (fun v => if v < i then 99999 else 0)) (i : Int) N l) (lst N (fun v => far (dst N (back l) s v))):=by
 have h8:=hg.n8;intro m
 induction m with
 | zero =>
  intro i hd hi;obtain rfl : i = N:=by omega
  refine Ev.go ?_ (fun k => by rw [spec_l3All.l0]);have e : lst i (fun v => if v < i then (99999 : Int) else 0) = lst i (fun _ => 99999):=lst_congr (fun v hv => by rw [if_pos hv]);rw [e,lst_len];refine Ev.neg (by omega) (Ev.pos (by omega) (Ev.pos (by omega) ?_));rw [Int.toNat_natCast,start_lst hs];exact (l3All_rounds hg hs _ 0 rfl (Nat.zero_le _))
 | succ m ih =>
  intro i hd hi;have hlt : i < N:=by omega
  refine Ev.go ?_ (fun k => by rw [spec_l3All.l0]);rw [lst_len,Int.toNat_natCast,lst_fill N i 99999 (fun _ => 0) hlt,up1 hlt (by simp only [maxLen]; omega)];exact Ev.pos (by omega) (Ev.pos (by omega) (Ev.pos (by omega) (ih (i + 1) (by omega) (by omega))))
theorem zeros_lst : List.replicate N (0 : Int) = lst N (fun v => if v < 0 then 99999 else 0):=by
 apply List.ext_getElem (by simp [lst])
 intro i h1 h2;simp [lst]
theorem l3All_ev {s : Nat} (hs : s < N) : Ev (fun k => spec_l3All.f k N l (s : Int)) (lst N (fun v => far (dst N (back l) s v))):=by
 have h8:=hg.n8
 unfold spec_l3All.f
 rw [Int.toNat_natCast,zeros_lst hg];exact Ev.pos (by omega) (Ev.pos (by omega) (l3All_fill hg hs _ 0 rfl (Nat.zero_le _)))
end
end Go.Proofs.Ytmioaahiflfcdaa.Pure
end
