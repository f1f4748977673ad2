/- For the statement FnJobCost of this seat: it is proved here, with no further conditions (part 5 of its texts: words, walks of the functions, the plain law, the row). -/
import Derived.Test.YtmioaahiflfcdaaKFnJobCost3
section
namespace Go.Proofs.Ytmioaahiflfcdaa.Pr
open Go.RowKit Go.Proofs.YtmioaahiflfcdaaW.PrintWords Go.Proofs.YtmioaahiflfcdaaW.PrintLast Go.Proofs.YtmioaahiflfcdaaW.PrintMore
attribute [local go_sem] max2_int min2_int max_two min_two max_three min_three max_four min_four
set_option linter.unusedVariables false
set_option linter.unusedSimpArgs false
open List renaming setIfInBounds_toArray → V,set_cons_zero → Z,set_cons_succ → zx
open Go.Proofs.YtmioaahiflfcdaaW.PrintWords.Aside0 renaming mk → zy
def spec_l1Ok.l0 : Nat → Int → Int → List (S80) → Option (Bool)
 | 0,_,_,_ => none
 | k + 1,x3,q6,q3 => if x3 < (q3.length : Int) then (if 0 ≤ x3 then ((spec_l1In.f ((rd_T80 q3 x3).f0) 0 (wrap64 (q6 - 1))).bind fun t313 => (if t313 = true then ((spec_l1In.f ((rd_T80 q3 x3).f1) 0 (wrap64 (q6 - 1))).bind fun t314 => (if t314 = true then (if ((rd_T80 q3 x3).f0) = ((rd_T80 q3 x3).f1) then (some false) else ((spec_l1In.f ((rd_T80 q3 x3).f2) 0 99).bind fun t315 => (if t315 = true then ((spec_l1In.f ((rd_T80 q3 x3).f3) 0 99).bind fun t316 => (if t316 = true then ((spec_l1In.f ((rd_T80 q3 x3).f4) 0 9).bind fun t317 => (if t317 = true then (spec_l1Ok.l0 k (wrap64 (x3 + 1)) q6 q3) else (some false))) else (some false))) else (some false)))) else (some false))) else (some false))) else (none)) else ((spec_l1In.f q6 1 8).bind fun t310 => (if t310 = true then (some (decide ((q3.length : Int) ≤ 16))) else (some false)))
def spec_l1Ok.f (k : Nat) (a0_0 : Int) (l0_1 : List (S80)) : Option (Bool):=spec_l1Ok.l0 k 0 a0_0 l0_1
set_option maxHeartbeats 8000000 in
set_option maxRecDepth 100000 in
theorem spec_l1Ok.calls (k : Nat) (a0_0 : Int) (A0_1 : Option Addr) (c0_1 : Nat) (l0_1 : List (S80)) (r : Bool) (w : World) (hr0_1 : Kd.C k80 w A0_1 l0_1.length l0_1) (hc0_1 : l0_1.length ≤ c0_1) (h : spec_l1Ok.f k a0_0 l0_1 = some r) :
  Calls Try.prog 58 #[.agg #[.int .i64 a0_0,.slice A0_1 l0_1.length c0_1]] w fun e w' => e = .returned (.bool r) ∧ Below w.heap.size w w':=by
 have hu25:=Try.underlying25;have hu80:=Try.underlying80;have q7:=zy hr0_1;have HC0_1:=zy hc0_1;clear hr0_1 hc0_1;have HB:=zy (Below.refl w.heap.size w);have H : (spec_l1Ok.l0 k 0 a0_0 l0_1) = some r:=h;clear h;have H':=zy H;clear H
 go_enter Try.func58,Try.ntmps58
 go_wp2_with (first | ((with_reducible refine gate_dst (N:=1) rfl ?_); (try (refine gate_guard (by rfl) ?_; dsimp only)); refine box_event ?hg (N:=1) ?hd (cs:=#[.int .i64 a0_0,.slice A0_1 l0_1.length c0_1]) (t:=25) ?hr ?_; (case hd => rfl); (case hg => rfl); (case hr => first | (go_simp; done) | (go_simp; rfl)); intro p3 hg w2 hbox hb; have n0_:=zy (below_step HB.out hb); have n1_:=zy (hbox); have n2_:=zy ((by rw [hg]; exact (below_size HB.out) : w.heap.size ≤ p3)); have n3_:=zy ((by rw [hg]; exact (below_size HB.out) : w.heap.size ≤ p3)); clear HB; have HB:=n0_; have p0:=n1_; have GW309:=n2_; have q5:=n3_; clear n0_ n1_ n2_ n3_; clear hb hbox hg))
 go_loopg [3] k (fun kq v3 w' => ∃ (x3_1 : Int),v3 = .int .i64 x3_1 ∧ Aside0 (spec_l1Ok.l0 kq x3_1 a0_0 l0_1 = some r) ∧ Aside0 (kq ≤ k) ∧ Aside0 (w'.heap[p3]? = some (.cells #[.int .i64 a0_0,(.slice A0_1 l0_1.length c0_1)] 25 (0,0))) ∧ Aside0 (Below w.heap.size w w'))
 case atStart => exact ⟨(0),(by first | rfl | (simp; done) | (simp [*]; done)),H',⟨Nat.le_refl _⟩,⟨by (with_reducible repeat (first | refine blk_drewN ?_ _ | refine blk_drew ?_ | refine blk_alloc ?_ _)); exact p0.out⟩,⟨by repeat (first | (with_reducible first | exact HB.out | apply below_alloc | apply pw_below_drewN | apply below_drew1 | refine below_set ?_ q5.out) | exact HB.out)⟩⟩
 case round =>
  clear H'
  try clear p2
  obtain ⟨x3_1,rfl,HA,HK1,p0,HB⟩:=hrel;cases gk with
  | zero => exact absurd HA.out (by simp [spec_l1Ok.l0])
  | succ k1 =>
   have H:=HA.out;clear HA;simp only [spec_l1Ok.l0] at H
   by_cases c3 : x3_1 < (l0_1.length : Int)
   case neg =>
    rw [if_neg c3] at H;have c3b0 : decide (x3_1 < (l0_1.length : Int)) = false:=decide_eq_false c3;clear c3;replace H:=Option.bind_eq_some_iff.mp H;obtain ⟨t310,A510,H⟩:=H;replace H : (if t310 = true then (some (decide ((l0_1.length : Int) ≤ 16))) else (some false)) = some r:=H;have A51:=zy A510;clear A510
    by_cases c52 : t310 = true
    case pos =>
     subst c52;have H1 : (some (decide ((l0_1.length : Int) ≤ 16))) = some r:=by rw [if_pos rfl] at H; exact H
     clear H;have H:=H1;clear H1;obtain rfl:=Option.some.inj H;have hcz53_0 : wr.cell? ⟨p3,0,none⟩ = some (.int .i64 a0_0):=(blk_cell p0.out 0).trans rfl;have hcz53_1 : wr.cell? ⟨p3,1,none⟩ = some (.slice A0_1 l0_1.length c0_1):=(blk_cell p0.out 1).trans rfl;have hfz53_0:=blk_frozen p0.out 0;have hfz53_1:=blk_frozen p0.out 1
     go_wp2_with (first | ((with_reducible refine gate_callee (f:=60) rfl ?_); refine goesL_ (some 60) rfl rfl Try.func60 (by kernel_rfl) rfl #[.int .i64 a0_0,.int .i64 1,.int .i64 8] rfl (by (try simp only [List.map_toArray,List.map_cons,List.map_nil]); first | done | rfl | (simp only [List.length_drop,List.length_take]; rfl)) ?_; (with_reducible refine (spec_l1In.calls a0_0 1 8 true _ A51.out).mono ?_); rintro e w' ⟨rfl,⟨nd,rfl⟩⟩; refine ⟨_,rfl,?_⟩))
     go_ret;exact ⟨by first | rfl | (simp [errW_none,errW_some] <;> rfl) | (simp [*,errW_none,errW_some] <;> rfl),by repeat (first | (with_reducible first | exact HB.out | apply below_alloc | apply pw_below_drewN | apply below_drew1 | refine below_set ?_ q5.out) | exact HB.out)⟩
    replace c52:=Bool.eq_false_iff.mpr c52;subst c52;have H1 : (some false) = some r:=by rw [if_neg (show ¬ (false = true) by decide)] at H; exact H
    clear H;have H:=H1;clear H1;obtain rfl:=Option.some.inj H;have hcz54_0 : wr.cell? ⟨p3,0,none⟩ = some (.int .i64 a0_0):=(blk_cell p0.out 0).trans rfl;have hcz54_1 : wr.cell? ⟨p3,1,none⟩ = some (.slice A0_1 l0_1.length c0_1):=(blk_cell p0.out 1).trans rfl;have hfz54_0:=blk_frozen p0.out 0;have hfz54_1:=blk_frozen p0.out 1
    go_wp2_with (first | ((with_reducible refine gate_callee (f:=60) rfl ?_); refine goesL_ (some 60) rfl rfl Try.func60 (by kernel_rfl) rfl #[.int .i64 a0_0,.int .i64 1,.int .i64 8] rfl (by (try simp only [List.map_toArray,List.map_cons,List.map_nil]); first | done | rfl | (simp only [List.length_drop,List.length_take]; rfl)) ?_; (with_reducible refine (spec_l1In.calls a0_0 1 8 false _ A51.out).mono ?_); rintro e w' ⟨rfl,⟨nd,rfl⟩⟩; refine ⟨_,rfl,?_⟩))
    go_ret;exact ⟨by first | rfl | (simp [errW_none,errW_some] <;> rfl) | (simp [*,errW_none,errW_some] <;> rfl),by repeat (first | (with_reducible first | exact HB.out | apply below_alloc | apply pw_below_drewN | apply below_drew1 | refine below_set ?_ q5.out) | exact HB.out)⟩
   rw [if_pos c3] at H;have c3b0 : decide (x3_1 < (l0_1.length : Int)) = true:=decide_eq_true c3;clear c3
   by_cases c4 : 0 ≤ x3_1
   case neg =>
    rw [if_neg c4] at H;exact absurd H (by simp)
   rw [if_pos c4] at H;have c4b0 : decide (0 ≤ x3_1) = true:=decide_eq_true c4;clear c4;replace H:=Option.bind_eq_some_iff.mp H;obtain ⟨t313,A50,H⟩:=H;replace H : (if t313 = true then ((spec_l1In.f ((rd_T80 l0_1 x3_1).f1) 0 (wrap64 (a0_0 - 1))).bind fun t314 => (if t314 = true then (if ((rd_T80 l0_1 x3_1).f0) = ((rd_T80 l0_1 x3_1).f1) then (some false) else ((spec_l1In.f ((rd_T80 l0_1 x3_1).f2) 0 99).bind fun t315 => (if t315 = true then ((spec_l1In.f ((rd_T80 l0_1 x3_1).f3) 0 99).bind fun t316 => (if t316 = true then ((spec_l1In.f ((rd_T80 l0_1 x3_1).f4) 0 9).bind fun t317 => (if t317 = true then (spec_l1Ok.l0 k1 (wrap64 (x3_1 + 1)) a0_0 l0_1) else (some false))) else (some false))) else (some false)))) else (some false))) else (some false)) = some r:=H;have A5:=zy A50;clear A50
   by_cases c6 : t313 = true
   case neg =>
    replace c6:=Bool.eq_false_iff.mpr c6;subst c6;have H1 : (some false) = some r:=by rw [if_neg (show ¬ (false = true) by decide)] at H; exact H
    clear H;have H:=H1;clear H1;obtain rfl:=Option.some.inj H;have hcz46_0 : wr.cell? ⟨p3,0,none⟩ = some (.int .i64 a0_0):=(blk_cell p0.out 0).trans rfl;have hcz46_1 : wr.cell? ⟨p3,1,none⟩ = some (.slice A0_1 l0_1.length c0_1):=(blk_cell p0.out 1).trans rfl;have hfz46_0:=blk_frozen p0.out 0;have hfz46_1:=blk_frozen p0.out 1;have p311 : 0 ≤ (x3_1 : Int):=of_decide_eq_true (by first | (with_reducible assumption) | assumption);have q311 : x3_1 < (l0_1.length : Int):=of_decide_eq_true (by first | (with_reducible assumption) | assumption);obtain ⟨q1,e311,p5,p6,p7,p8,p9⟩:=at_T80 q7.out x3_1 p311 q311;cases e311;replace p5:=(HB.out.cell (World.block_lt_of_cell? w _ p5)).trans p5;replace p6:=(HB.out.cell (World.block_lt_of_cell? w _ p6)).trans p6;replace p7:=(HB.out.cell (World.block_lt_of_cell? w _ p7)).trans p7;replace p8:=(HB.out.cell (World.block_lt_of_cell? w _ p8)).trans p8;replace p9:=(HB.out.cell (World.block_lt_of_cell? w _ p9)).trans p9;replace p311:=eq_true p311;replace q311:=eq_true q311
    go_wp2_with (first | ((with_reducible refine gate_dst (N:=4) rfl ?_); (try (refine gate_guard (by rfl) ?_; dsimp only)); refine box_event ?hg (N:=4) ?hd (cs:=#[.int .i64 0,.int .i64 0,.int .i64 0,.int .i64 0,.int .i64 0]) (t:=80) ?hr ?_; (case hd => rfl); (case hg => rfl); (case hr => first | (go_simp; done) | (go_simp; rfl)); intro p4 hg w47 hbox hb; have n0_:=zy (blk_below (g:=p3) (o:=.cells #[.int .i64 a0_0,.slice (some q1) l0_1.length c0_1] 25 (0,0)) p0.out hb); have n1_:=zy (below_step HB.out hb); have n2_:=zy (hbox); have n3_:=zy ((by rw [hg]; exact (below_size HB.out) : w.heap.size ≤ p4)); have n4_:=zy ((by rw [hg]; exact (below_size HB.out) : w.heap.size ≤ p4)); have n5_:=zy ((by rw [hg]; exact Nat.ne_of_lt (blk_lt (g:=p3) (o:=.cells #[.int .i64 a0_0,.slice (some q1) l0_1.length c0_1] 25 (0,0)) p0.out) : p3 ≠ p4)); have n6_:=zy ((by rw [hg]; exact Nat.ne_of_gt (blk_lt (g:=p3) (o:=.cells #[.int .i64 a0_0,.slice (some q1) l0_1.length c0_1] 25 (0,0)) p0.out) : p4 ≠ p3)); clear p0; clear HB; have p0:=n0_; have HB:=n1_; have p1:=n2_; have q8:=n3_; have q4:=n4_; have q0:=n5_; have q2:=n6_; clear n0_ n1_ n2_ n3_ n4_ n5_ n6_; clear hb hbox hg; have hnb48:=q2.out; have hnc48:=q0.out; have hcz49_0 : w47.cell? ⟨p4,0,none⟩ = some (.int .i64 0):=(blk_cell p1.out 0).trans rfl; have hcz49_1 : w47.cell? ⟨p4,1,none⟩ = some (.int .i64 0):=(blk_cell p1.out 1).trans rfl; have hcz49_2 : w47.cell? ⟨p4,2,none⟩ = some (.int .i64 0):=(blk_cell p1.out 2).trans rfl; have hcz49_3 : w47.cell? ⟨p4,3,none⟩ = some (.int .i64 0):=(blk_cell p1.out 3).trans rfl; have hcz49_4 : w47.cell? ⟨p4,4,none⟩ = some (.int .i64 0):=(blk_cell p1.out 4).trans rfl; have hfz49_0:=blk_frozen p1.out 0; have hfz49_1:=blk_frozen p1.out 1; have hfz49_2:=blk_frozen p1.out 2; have hfz49_3:=blk_frozen p1.out 3; have hfz49_4:=blk_frozen p1.out 4; have hcz50_0 : w47.cell? ⟨p3,0,none⟩ = some (.int .i64 a0_0):=(blk_cell p0.out 0).trans rfl; have hcz50_1 : w47.cell? ⟨p3,1,none⟩ = some (.slice (some q1) l0_1.length c0_1):=(blk_cell p0.out 1).trans rfl; have hfz50_0:=blk_frozen p0.out 0; have hfz50_1:=blk_frozen p0.out 1) | ((with_reducible refine gate_callee (f:=60) rfl ?_); refine goesL_ (some 22) rfl rfl Try.func60 (by kernel_rfl) rfl #[.int .i64 ((rd_T80 l0_1 x3_1).f0),.int .i64 0,.int .i64 (wrap64 (a0_0 - 1))] rfl (by (try simp only [List.map_toArray,List.map_cons,List.map_nil]); first | done | rfl | (simp only [List.length_drop,List.length_take]; rfl)) ?_; (with_reducible refine (spec_l1In.calls ((rd_T80 l0_1 x3_1).f0) 0 (wrap64 (a0_0 - 1)) false _ A5.out).mono ?_); rintro e w' ⟨rfl,⟨nd,rfl⟩⟩; refine ⟨_,rfl,?_⟩))
    go_ret;exact ⟨by first | rfl | (simp [errW_none,errW_some] <;> rfl) | (simp [*,errW_none,errW_some] <;> rfl),by repeat (first | (with_reducible first | exact HB.out | apply below_alloc | apply pw_below_drewN | apply below_drew1 | refine below_set ?_ q5.out | refine below_set ?_ q4.out) | exact HB.out)⟩
   subst c6;have H1 : ((spec_l1In.f ((rd_T80 l0_1 x3_1).f1) 0 (wrap64 (a0_0 - 1))).bind fun t314 => (if t314 = true then (if ((rd_T80 l0_1 x3_1).f0) = ((rd_T80 l0_1 x3_1).f1) then (some false) else ((spec_l1In.f ((rd_T80 l0_1 x3_1).f2) 0 99).bind fun t315 => (if t315 = true then ((spec_l1In.f ((rd_T80 l0_1 x3_1).f3) 0 99).bind fun t316 => (if t316 = true then ((spec_l1In.f ((rd_T80 l0_1 x3_1).f4) 0 9).bind fun t317 => (if t317 = true then (spec_l1Ok.l0 k1 (wrap64 (x3_1 + 1)) a0_0 l0_1) else (some false))) else (some false))) else (some false)))) else (some false))) = some r:=by rw [if_pos rfl] at H; exact H
   clear H;have H:=H1;clear H1;replace H:=Option.bind_eq_some_iff.mp H;obtain ⟨t314,A70,H⟩:=H;replace H : (if t314 = true then (if ((rd_T80 l0_1 x3_1).f0) = ((rd_T80 l0_1 x3_1).f1) then (some false) else ((spec_l1In.f ((rd_T80 l0_1 x3_1).f2) 0 99).bind fun t315 => (if t315 = true then ((spec_l1In.f ((rd_T80 l0_1 x3_1).f3) 0 99).bind fun t316 => (if t316 = true then ((spec_l1In.f ((rd_T80 l0_1 x3_1).f4) 0 9).bind fun t317 => (if t317 = true then (spec_l1Ok.l0 k1 (wrap64 (x3_1 + 1)) a0_0 l0_1) else (some false))) else (some false))) else (some false)))) else (some false)) = some r:=H;have A7:=zy A70;clear A70
   by_cases c8 : t314 = true
   case neg =>
    replace c8:=Bool.eq_false_iff.mpr c8;subst c8;have H1 : (some false) = some r:=by rw [if_neg (show ¬ (false = true) by decide)] at H; exact H
    clear H;have H:=H1;clear H1;obtain rfl:=Option.some.inj H;have hcz41_0 : wr.cell? ⟨p3,0,none⟩ = some (.int .i64 a0_0):=(blk_cell p0.out 0).trans rfl;have hcz41_1 : wr.cell? ⟨p3,1,none⟩ = some (.slice A0_1 l0_1.length c0_1):=(blk_cell p0.out 1).trans rfl;have hfz41_0:=blk_frozen p0.out 0;have hfz41_1:=blk_frozen p0.out 1;have p311 : 0 ≤ (x3_1 : Int):=of_decide_eq_true (by first | (with_reducible assumption) | assumption);have q311 : x3_1 < (l0_1.length : Int):=of_decide_eq_true (by first | (with_reducible assumption) | assumption);obtain ⟨q1,e311,p5,p6,p7,p8,p9⟩:=at_T80 q7.out x3_1 p311 q311;cases e311;replace p5:=(HB.out.cell (World.block_lt_of_cell? w _ p5)).trans p5;replace p6:=(HB.out.cell (World.block_lt_of_cell? w _ p6)).trans p6;replace p7:=(HB.out.cell (World.block_lt_of_cell? w _ p7)).trans p7;replace p8:=(HB.out.cell (World.block_lt_of_cell? w _ p8)).trans p8;replace p9:=(HB.out.cell (World.block_lt_of_cell? w _ p9)).trans p9;replace p311:=eq_true p311;replace q311:=eq_true q311
    go_wp2_with (first | ((with_reducible refine gate_dst (N:=4) rfl ?_); (try (refine gate_guard (by rfl) ?_; dsimp only)); refine box_event ?hg (N:=4) ?hd (cs:=#[.int .i64 0,.int .i64 0,.int .i64 0,.int .i64 0,.int .i64 0]) (t:=80) ?hr ?_; (case hd => rfl); (case hg => rfl); (case hr => first | (go_simp; done) | (go_simp; rfl)); intro p4 hg w42 hbox hb; have n0_:=zy (blk_below (g:=p3) (o:=.cells #[.int .i64 a0_0,.slice (some q1) l0_1.length c0_1] 25 (0,0)) p0.out hb); have n1_:=zy (below_step HB.out hb); have n2_:=zy (hbox); have n3_:=zy ((by rw [hg]; exact (below_size HB.out) : w.heap.size ≤ p4)); have n4_:=zy ((by rw [hg]; exact (below_size HB.out) : w.heap.size ≤ p4)); have n5_:=zy ((by rw [hg]; exact Nat.ne_of_lt (blk_lt (g:=p3) (o:=.cells #[.int .i64 a0_0,.slice (some q1) l0_1.length c0_1] 25 (0,0)) p0.out) : p3 ≠ p4)); have n6_:=zy ((by rw [hg]; exact Nat.ne_of_gt (blk_lt (g:=p3) (o:=.cells #[.int .i64 a0_0,.slice (some q1) l0_1.length c0_1] 25 (0,0)) p0.out) : p4 ≠ p3)); clear p0; clear HB; have p0:=n0_; have HB:=n1_; have p1:=n2_; have q8:=n3_; have q4:=n4_; have q0:=n5_; have q2:=n6_; clear n0_ n1_ n2_ n3_ n4_ n5_ n6_; clear hb hbox hg; have hnb43:=q2.out; have hnc43:=q0.out; have hcz44_0 : w42.cell? ⟨p4,0,none⟩ = some (.int .i64 0):=(blk_cell p1.out 0).trans rfl; have hcz44_1 : w42.cell? ⟨p4,1,none⟩ = some (.int .i64 0):=(blk_cell p1.out 1).trans rfl; have hcz44_2 : w42.cell? ⟨p4,2,none⟩ = some (.int .i64 0):=(blk_cell p1.out 2).trans rfl; have hcz44_3 : w42.cell? ⟨p4,3,none⟩ = some (.int .i64 0):=(blk_cell p1.out 3).trans rfl; have hcz44_4 : w42.cell? ⟨p4,4,none⟩ = some (.int .i64 0):=(blk_cell p1.out 4).trans rfl; have hfz44_0:=blk_frozen p1.out 0; have hfz44_1:=blk_frozen p1.out 1; have hfz44_2:=blk_frozen p1.out 2; have hfz44_3:=blk_frozen p1.out 3; have hfz44_4:=blk_frozen p1.out 4; have hcz45_0 : w42.cell? ⟨p3,0,none⟩ = some (.int .i64 a0_0):=(blk_cell p0.out 0).trans rfl; have hcz45_1 : w42.cell? ⟨p3,1,none⟩ = some (.slice (some q1) l0_1.length c0_1):=(blk_cell p0.out 1).trans rfl; have hfz45_0:=blk_frozen p0.out 0; have hfz45_1:=blk_frozen p0.out 1) | ((with_reducible refine gate_callee (f:=60) rfl ?_); refine goesL_ (some 22) rfl rfl Try.func60 (by kernel_rfl) rfl #[.int .i64 ((rd_T80 l0_1 x3_1).f0),.int .i64 0,.int .i64 (wrap64 (a0_0 - 1))] rfl (by (try simp only [List.map_toArray,List.map_cons,List.map_nil]); first | done | rfl | (simp only [List.length_drop,List.length_take]; rfl)) ?_; (with_reducible refine (spec_l1In.calls ((rd_T80 l0_1 x3_1).f0) 0 (wrap64 (a0_0 - 1)) true _ A5.out).mono ?_); rintro e w' ⟨rfl,⟨nd,rfl⟩⟩; refine ⟨_,rfl,?_⟩) | (go_at_call 60; (with_reducible refine (spec_l1In.calls ((rd_T80 l0_1 x3_1).f1) 0 (wrap64 (a0_0 - 1)) false _ A7.out).mono ?_); rintro e w' ⟨rfl,⟨nd,rfl⟩⟩))
    go_ret;exact ⟨by first | rfl | (simp [errW_none,errW_some] <;> rfl) | (simp [*,errW_none,errW_some] <;> rfl),by repeat (first | (with_reducible first | exact HB.out | apply below_alloc | apply pw_below_drewN | apply below_drew1 | refine below_set ?_ q5.out | refine below_set ?_ q4.out) | exact HB.out)⟩
   subst c8;have H1 : (if ((rd_T80 l0_1 x3_1).f0) = ((rd_T80 l0_1 x3_1).f1) then (some false) else ((spec_l1In.f ((rd_T80 l0_1 x3_1).f2) 0 99).bind fun t315 => (if t315 = true then ((spec_l1In.f ((rd_T80 l0_1 x3_1).f3) 0 99).bind fun t316 => (if t316 = true then ((spec_l1In.f ((rd_T80 l0_1 x3_1).f4) 0 9).bind fun t317 => (if t317 = true then (spec_l1Ok.l0 k1 (wrap64 (x3_1 + 1)) a0_0 l0_1) else (some false))) else (some false))) else (some false)))) = some r:=by rw [if_pos rfl] at H; exact H
   clear H;have H:=H1;clear H1
   by_cases c9 : ((rd_T80 l0_1 x3_1).f0) = ((rd_T80 l0_1 x3_1).f1)
   case pos =>
    rw [if_pos c9] at H;have c9b0 : (((rd_T80 l0_1 x3_1).f0) == ((rd_T80 l0_1 x3_1).f1)) = true:=beq_iff_eq.mpr c9;have c9b1 : (((rd_T80 l0_1 x3_1).f0) != ((rd_T80 l0_1 x3_1).f1)) = false:=bne_eq_false_iff_eq.mpr c9;clear c9;obtain rfl:=Option.some.inj H;have hcz10_0 : wr.cell? ⟨p3,0,none⟩ = some (.int .i64 a0_0):=(blk_cell p0.out 0).trans rfl;have hcz10_1 : wr.cell? ⟨p3,1,none⟩ = some (.slice A0_1 l0_1.length c0_1):=(blk_cell p0.out 1).trans rfl;have hfz10_0:=blk_frozen p0.out 0;have hfz10_1:=blk_frozen p0.out 1;have p311 : 0 ≤ (x3_1 : Int):=of_decide_eq_true (by first | (with_reducible assumption) | assumption);have q311 : x3_1 < (l0_1.length : Int):=of_decide_eq_true (by first | (with_reducible assumption) | assumption);obtain ⟨q1,e311,p5,p6,p7,p8,p9⟩:=at_T80 q7.out x3_1 p311 q311;cases e311;replace p5:=(HB.out.cell (World.block_lt_of_cell? w _ p5)).trans p5;replace p6:=(HB.out.cell (World.block_lt_of_cell? w _ p6)).trans p6;replace p7:=(HB.out.cell (World.block_lt_of_cell? w _ p7)).trans p7;replace p8:=(HB.out.cell (World.block_lt_of_cell? w _ p8)).trans p8;replace p9:=(HB.out.cell (World.block_lt_of_cell? w _ p9)).trans p9;replace p311:=eq_true p311;replace q311:=eq_true q311
    go_wp2_with (first | ((with_reducible refine gate_dst (N:=4) rfl ?_); (try (refine gate_guard (by rfl) ?_; dsimp only)); refine box_event ?hg (N:=4) ?hd (cs:=#[.int .i64 0,.int .i64 0,.int .i64 0,.int .i64 0,.int .i64 0]) (t:=80) ?hr ?_; (case hd => rfl); (case hg => rfl); (case hr => first | (go_simp; done) | (go_simp; rfl)); intro p4 hg w11 hbox hb; have n0_:=zy (blk_below (g:=p3) (o:=.cells #[.int .i64 a0_0,.slice (some q1) l0_1.length c0_1] 25 (0,0)) p0.out hb); have n1_:=zy (below_step HB.out hb); have n2_:=zy (hbox); have n3_:=zy ((by rw [hg]; exact (below_size HB.out) : w.heap.size ≤ p4)); have n4_:=zy ((by rw [hg]; exact (below_size HB.out) : w.heap.size ≤ p4)); have n5_:=zy ((by rw [hg]; exact Nat.ne_of_lt (blk_lt (g:=p3) (o:=.cells #[.int .i64 a0_0,.slice (some q1) l0_1.length c0_1] 25 (0,0)) p0.out) : p3 ≠ p4)); have n6_:=zy ((by rw [hg]; exact Nat.ne_of_gt (blk_lt (g:=p3) (o:=.cells #[.int .i64 a0_0,.slice (some q1) l0_1.length c0_1] 25 (0,0)) p0.out) : p4 ≠ p3)); clear p0; clear HB; have p0:=n0_; have HB:=n1_; have p1:=n2_; have q8:=n3_; have q4:=n4_; have q0:=n5_; have q2:=n6_; clear n0_ n1_ n2_ n3_ n4_ n5_ n6_; clear hb hbox hg; have hnb12:=q2.out; have hnc12:=q0.out; have hcz13_0 : w11.cell? ⟨p4,0,none⟩ = some (.int .i64 0):=(blk_cell p1.out 0).trans rfl; have hcz13_1 : w11.cell? ⟨p4,1,none⟩ = some (.int .i64 0):=(blk_cell p1.out 1).trans rfl; have hcz13_2 : w11.cell? ⟨p4,2,none⟩ = some (.int .i64 0):=(blk_cell p1.out 2).trans rfl; have hcz13_3 : w11.cell? ⟨p4,3,none⟩ = some (.int .i64 0):=(blk_cell p1.out 3).trans rfl; have hcz13_4 : w11.cell? ⟨p4,4,none⟩ = some (.int .i64 0):=(blk_cell p1.out 4).trans rfl; have hfz13_0:=blk_frozen p1.out 0; have hfz13_1:=blk_frozen p1.out 1; have hfz13_2:=blk_frozen p1.out 2; have hfz13_3:=blk_frozen p1.out 3; have hfz13_4:=blk_frozen p1.out 4; have hcz14_0 : w11.cell? ⟨p3,0,none⟩ = some (.int .i64 a0_0):=(blk_cell p0.out 0).trans rfl; have hcz14_1 : w11.cell? ⟨p3,1,none⟩ = some (.slice (some q1) l0_1.length c0_1):=(blk_cell p0.out 1).trans rfl; have hfz14_0:=blk_frozen p0.out 0; have hfz14_1:=blk_frozen p0.out 1) | ((with_reducible refine gate_callee (f:=60) rfl ?_); refine goesL_ (some 22) rfl rfl Try.func60 (by kernel_rfl) rfl #[.int .i64 ((rd_T80 l0_1 x3_1).f0),.int .i64 0,.int .i64 (wrap64 (a0_0 - 1))] rfl (by (try simp only [List.map_toArray,List.map_cons,List.map_nil]); first | done | rfl | (simp only [List.length_drop,List.length_take]; rfl)) ?_; (with_reducible refine (spec_l1In.calls ((rd_T80 l0_1 x3_1).f0) 0 (wrap64 (a0_0 - 1)) true _ A5.out).mono ?_); rintro e w' ⟨rfl,⟨nd,rfl⟩⟩; refine ⟨_,rfl,?_⟩) | (go_at_call 60; (with_reducible refine (spec_l1In.calls ((rd_T80 l0_1 x3_1).f1) 0 (wrap64 (a0_0 - 1)) true _ A7.out).mono ?_); rintro e w' ⟨rfl,⟨nd,rfl⟩⟩))
    go_ret;exact ⟨by first | rfl | (simp [errW_none,errW_some] <;> rfl) | (simp [*,errW_none,errW_some] <;> rfl),by repeat (first | (with_reducible first | exact HB.out | apply below_alloc | apply pw_below_drewN | apply below_drew1 | refine below_set ?_ q5.out | refine below_set ?_ q4.out) | exact HB.out)⟩
   rw [if_neg c9] at H;have c9b0 : (((rd_T80 l0_1 x3_1).f0) == ((rd_T80 l0_1 x3_1).f1)) = false:=beq_eq_false_iff_ne.mpr c9;have c9b1 : (((rd_T80 l0_1 x3_1).f0) != ((rd_T80 l0_1 x3_1).f1)) = true:=bne_iff_ne.mpr c9;replace H:=Option.bind_eq_some_iff.mp H;obtain ⟨t315,A150,H⟩:=H;replace H : (if t315 = true then ((spec_l1In.f ((rd_T80 l0_1 x3_1).f3) 0 99).bind fun t316 => (if t316 = true then ((spec_l1In.f ((rd_T80 l0_1 x3_1).f4) 0 9).bind fun t317 => (if t317 = true then (spec_l1Ok.l0 k1 (wrap64 (x3_1 + 1)) a0_0 l0_1) else (some false))) else (some false))) else (some false)) = some r:=H;have A15:=zy A150;clear A150
   by_cases c16 : t315 = true
   case neg =>
    replace c16:=Bool.eq_false_iff.mpr c16;subst c16;have H1 : (some false) = some r:=by rw [if_neg (show ¬ (false = true) by decide)] at H; exact H
    clear H;have H:=H1;clear H1;obtain rfl:=Option.some.inj H;have hcz36_0 : wr.cell? ⟨p3,0,none⟩ = some (.int .i64 a0_0):=(blk_cell p0.out 0).trans rfl;have hcz36_1 : wr.cell? ⟨p3,1,none⟩ = some (.slice A0_1 l0_1.length c0_1):=(blk_cell p0.out 1).trans rfl;have hfz36_0:=blk_frozen p0.out 0;have hfz36_1:=blk_frozen p0.out 1;have p311 : 0 ≤ (x3_1 : Int):=of_decide_eq_true (by first | (with_reducible assumption) | assumption);have q311 : x3_1 < (l0_1.length : Int):=of_decide_eq_true (by first | (with_reducible assumption) | assumption);obtain ⟨q1,e311,p5,p6,p7,p8,p9⟩:=at_T80 q7.out x3_1 p311 q311;cases e311;replace p5:=(HB.out.cell (World.block_lt_of_cell? w _ p5)).trans p5;replace p6:=(HB.out.cell (World.block_lt_of_cell? w _ p6)).trans p6;replace p7:=(HB.out.cell (World.block_lt_of_cell? w _ p7)).trans p7;replace p8:=(HB.out.cell (World.block_lt_of_cell? w _ p8)).trans p8;replace p9:=(HB.out.cell (World.block_lt_of_cell? w _ p9)).trans p9;replace p311:=eq_true p311;replace q311:=eq_true q311
    go_wp2_with (first | ((with_reducible refine gate_dst (N:=4) rfl ?_); (try (refine gate_guard (by rfl) ?_; dsimp only)); refine box_event ?hg (N:=4) ?hd (cs:=#[.int .i64 0,.int .i64 0,.int .i64 0,.int .i64 0,.int .i64 0]) (t:=80) ?hr ?_; (case hd => rfl); (case hg => rfl); (case hr => first | (go_simp; done) | (go_simp; rfl)); intro p4 hg w37 hbox hb; have n0_:=zy (blk_below (g:=p3) (o:=.cells #[.int .i64 a0_0,.slice (some q1) l0_1.length c0_1] 25 (0,0)) p0.out hb); have n1_:=zy (below_step HB.out hb); have n2_:=zy (hbox); have n3_:=zy ((by rw [hg]; exact (below_size HB.out) : w.heap.size ≤ p4)); have n4_:=zy ((by rw [hg]; exact (below_size HB.out) : w.heap.size ≤ p4)); have n5_:=zy ((by rw [hg]; exact Nat.ne_of_lt (blk_lt (g:=p3) (o:=.cells #[.int .i64 a0_0,.slice (some q1) l0_1.length c0_1] 25 (0,0)) p0.out) : p3 ≠ p4)); have n6_:=zy ((by rw [hg]; exact Nat.ne_of_gt (blk_lt (g:=p3) (o:=.cells #[.int .i64 a0_0,.slice (some q1) l0_1.length c0_1] 25 (0,0)) p0.out) : p4 ≠ p3)); clear p0; clear HB; have p0:=n0_; have HB:=n1_; have p1:=n2_; have q8:=n3_; have q4:=n4_; have q0:=n5_; have q2:=n6_; clear n0_ n1_ n2_ n3_ n4_ n5_ n6_; clear hb hbox hg; have hnb38:=q2.out; have hnc38:=q0.out; have hcz39_0 : w37.cell? ⟨p4,0,none⟩ = some (.int .i64 0):=(blk_cell p1.out 0).trans rfl; have hcz39_1 : w37.cell? ⟨p4,1,none⟩ = some (.int .i64 0):=(blk_cell p1.out 1).trans rfl; have hcz39_2 : w37.cell? ⟨p4,2,none⟩ = some (.int .i64 0):=(blk_cell p1.out 2).trans rfl; have hcz39_3 : w37.cell? ⟨p4,3,none⟩ = some (.int .i64 0):=(blk_cell p1.out 3).trans rfl; have hcz39_4 : w37.cell? ⟨p4,4,none⟩ = some (.int .i64 0):=(blk_cell p1.out 4).trans rfl; have hfz39_0:=blk_frozen p1.out 0; have hfz39_1:=blk_frozen p1.out 1; have hfz39_2:=blk_frozen p1.out 2; have hfz39_3:=blk_frozen p1.out 3; have hfz39_4:=blk_frozen p1.out 4; have hcz40_0 : w37.cell? ⟨p3,0,none⟩ = some (.int .i64 a0_0):=(blk_cell p0.out 0).trans rfl; have hcz40_1 : w37.cell? ⟨p3,1,none⟩ = some (.slice (some q1) l0_1.length c0_1):=(blk_cell p0.out 1).trans rfl; have hfz40_0:=blk_frozen p0.out 0; have hfz40_1:=blk_frozen p0.out 1) | ((with_reducible refine gate_callee (f:=60) rfl ?_); refine goesL_ (some 22) rfl rfl Try.func60 (by kernel_rfl) rfl #[.int .i64 ((rd_T80 l0_1 x3_1).f0),.int .i64 0,.int .i64 (wrap64 (a0_0 - 1))] rfl (by (try simp only [List.map_toArray,List.map_cons,List.map_nil]); first | done | rfl | (simp only [List.length_drop,List.length_take]; rfl)) ?_; (with_reducible refine (spec_l1In.calls ((rd_T80 l0_1 x3_1).f0) 0 (wrap64 (a0_0 - 1)) true _ A5.out).mono ?_); rintro e w' ⟨rfl,⟨nd,rfl⟩⟩; refine ⟨_,rfl,?_⟩) | (go_at_call 60; (with_reducible refine (spec_l1In.calls ((rd_T80 l0_1 x3_1).f1) 0 (wrap64 (a0_0 - 1)) true _ A7.out).mono ?_); rintro e w' ⟨rfl,⟨nd,rfl⟩⟩) | (go_at_call 60; (with_reducible refine (spec_l1In.calls ((rd_T80 l0_1 x3_1).f2) 0 99 false _ A15.out).mono ?_); rintro e w' ⟨rfl,⟨nd,rfl⟩⟩))
    go_ret;exact ⟨by first | rfl | (simp [errW_none,errW_some] <;> rfl) | (simp [*,errW_none,errW_some] <;> rfl),by repeat (first | (with_reducible first | exact HB.out | apply below_alloc | apply pw_below_drewN | apply below_drew1 | refine below_set ?_ q5.out | refine below_set ?_ q4.out) | exact HB.out)⟩
   subst c16;have H1 : ((spec_l1In.f ((rd_T80 l0_1 x3_1).f3) 0 99).bind fun t316 => (if t316 = true then ((spec_l1In.f ((rd_T80 l0_1 x3_1).f4) 0 9).bind fun t317 => (if t317 = true then (spec_l1Ok.l0 k1 (wrap64 (x3_1 + 1)) a0_0 l0_1) else (some false))) else (some false))) = some r:=by rw [if_pos rfl] at H; exact H
   clear H;have H:=H1;clear H1;replace H:=Option.bind_eq_some_iff.mp H;obtain ⟨t316,A170,H⟩:=H;replace H : (if t316 = true then ((spec_l1In.f ((rd_T80 l0_1 x3_1).f4) 0 9).bind fun t317 => (if t317 = true then (spec_l1Ok.l0 k1 (wrap64 (x3_1 + 1)) a0_0 l0_1) else (some false))) else (some false)) = some r:=H;have A17:=zy A170;clear A170
   by_cases c18 : t316 = true
   case neg =>
    replace c18:=Bool.eq_false_iff.mpr c18;subst c18;have H1 : (some false) = some r:=by rw [if_neg (show ¬ (false = true) by decide)] at H; exact H
    clear H;have H:=H1;clear H1;obtain rfl:=Option.some.inj H;have hcz31_0 : wr.cell? ⟨p3,0,none⟩ = some (.int .i64 a0_0):=(blk_cell p0.out 0).trans rfl;have hcz31_1 : wr.cell? ⟨p3,1,none⟩ = some (.slice A0_1 l0_1.length c0_1):=(blk_cell p0.out 1).trans rfl;have hfz31_0:=blk_frozen p0.out 0;have hfz31_1:=blk_frozen p0.out 1;have p311 : 0 ≤ (x3_1 : Int):=of_decide_eq_true (by first | (with_reducible assumption) | assumption);have q311 : x3_1 < (l0_1.length : Int):=of_decide_eq_true (by first | (with_reducible assumption) | assumption);obtain ⟨q1,e311,p5,p6,p7,p8,p9⟩:=at_T80 q7.out x3_1 p311 q311;cases e311;replace p5:=(HB.out.cell (World.block_lt_of_cell? w _ p5)).trans p5;replace p6:=(HB.out.cell (World.block_lt_of_cell? w _ p6)).trans p6;replace p7:=(HB.out.cell (World.block_lt_of_cell? w _ p7)).trans p7;replace p8:=(HB.out.cell (World.block_lt_of_cell? w _ p8)).trans p8;replace p9:=(HB.out.cell (World.block_lt_of_cell? w _ p9)).trans p9;replace p311:=eq_true p311;replace q311:=eq_true q311
    go_wp2_with (first | ((with_reducible refine gate_dst (N:=4) rfl ?_); (try (refine gate_guard (by rfl) ?_; dsimp only)); refine box_event ?hg (N:=4) ?hd (cs:=#[.int .i64 0,.int .i64 0,.int .i64 0,.int .i64 0,.int .i64 0]) (t:=80) ?hr ?_; (case hd => rfl); (case hg => rfl); (case hr => first | (go_simp; done) | (go_simp; rfl)); intro p4 hg w32 hbox hb; have n0_:=zy (blk_below (g:=p3) (o:=.cells #[.int .i64 a0_0,.slice (some q1) l0_1.length c0_1] 25 (0,0)) p0.out hb); have n1_:=zy (below_step HB.out hb); have n2_:=zy (hbox); have n3_:=zy ((by rw [hg]; exact (below_size HB.out) : w.heap.size ≤ p4)); have n4_:=zy ((by rw [hg]; exact (below_size HB.out) : w.heap.size ≤ p4)); have n5_:=zy ((by rw [hg]; exact Nat.ne_of_lt (blk_lt (g:=p3) (o:=.cells #[.int .i64 a0_0,.slice (some q1) l0_1.length c0_1] 25 (0,0)) p0.out) : p3 ≠ p4)); have n6_:=zy ((by rw [hg]; exact Nat.ne_of_gt (blk_lt (g:=p3) (o:=.cells #[.int .i64 a0_0,.slice (some q1) l0_1.length c0_1] 25 (0,0)) p0.out) : p4 ≠ p3)); clear p0; clear HB; have p0:=n0_; have HB:=n1_; have p1:=n2_; have q8:=n3_; have q4:=n4_; have q0:=n5_; have q2:=n6_; clear n0_ n1_ n2_ n3_ n4_ n5_ n6_; clear hb hbox hg; have hnb33:=q2.out; have hnc33:=q0.out; have hcz34_0 : w32.cell? ⟨p4,0,none⟩ = some (.int .i64 0):=(blk_cell p1.out 0).trans rfl; have hcz34_1 : w32.cell? ⟨p4,1,none⟩ = some (.int .i64 0):=(blk_cell p1.out 1).trans rfl; have hcz34_2 : w32.cell? ⟨p4,2,none⟩ = some (.int .i64 0):=(blk_cell p1.out 2).trans rfl; have hcz34_3 : w32.cell? ⟨p4,3,none⟩ = some (.int .i64 0):=(blk_cell p1.out 3).trans rfl; have hcz34_4 : w32.cell? ⟨p4,4,none⟩ = some (.int .i64 0):=(blk_cell p1.out 4).trans rfl; have hfz34_0:=blk_frozen p1.out 0; have hfz34_1:=blk_frozen p1.out 1; have hfz34_2:=blk_frozen p1.out 2; have hfz34_3:=blk_frozen p1.out 3; have hfz34_4:=blk_frozen p1.out 4; have hcz35_0 : w32.cell? ⟨p3,0,none⟩ = some (.int .i64 a0_0):=(blk_cell p0.out 0).trans rfl; have hcz35_1 : w32.cell? ⟨p3,1,none⟩ = some (.slice (some q1) l0_1.length c0_1):=(blk_cell p0.out 1).trans rfl; have hfz35_0:=blk_frozen p0.out 0; have hfz35_1:=blk_frozen p0.out 1) | ((with_reducible refine gate_callee (f:=60) rfl ?_); refine goesL_ (some 22) rfl rfl Try.func60 (by kernel_rfl) rfl #[.int .i64 ((rd_T80 l0_1 x3_1).f0),.int .i64 0,.int .i64 (wrap64 (a0_0 - 1))] rfl (by (try simp only [List.map_toArray,List.map_cons,List.map_nil]); first | done | rfl | (simp only [List.length_drop,List.length_take]; rfl)) ?_; (with_reducible refine (spec_l1In.calls ((rd_T80 l0_1 x3_1).f0) 0 (wrap64 (a0_0 - 1)) true _ A5.out).mono ?_); rintro e w' ⟨rfl,⟨nd,rfl⟩⟩; refine ⟨_,rfl,?_⟩) | (go_at_call 60; (with_reducible refine (spec_l1In.calls ((rd_T80 l0_1 x3_1).f1) 0 (wrap64 (a0_0 - 1)) true _ A7.out).mono ?_); rintro e w' ⟨rfl,⟨nd,rfl⟩⟩) | (go_at_call 60; (with_reducible refine (spec_l1In.calls ((rd_T80 l0_1 x3_1).f2) 0 99 true _ A15.out).mono ?_); rintro e w' ⟨rfl,⟨nd,rfl⟩⟩) | (go_at_call 60; (with_reducible refine (spec_l1In.calls ((rd_T80 l0_1 x3_1).f3) 0 99 false _ A17.out).mono ?_); rintro e w' ⟨rfl,⟨nd,rfl⟩⟩))
    go_ret;exact ⟨by first | rfl | (simp [errW_none,errW_some] <;> rfl) | (simp [*,errW_none,errW_some] <;> rfl),by repeat (first | (with_reducible first | exact HB.out | apply below_alloc | apply pw_below_drewN | apply below_drew1 | refine below_set ?_ q5.out | refine below_set ?_ q4.out) | exact HB.out)⟩
   subst c18;have H1 : ((spec_l1In.f ((rd_T80 l0_1 x3_1).f4) 0 9).bind fun t317 => (if t317 = true then (spec_l1Ok.l0 k1 (wrap64 (x3_1 + 1)) a0_0 l0_1) else (some false))) = some r:=by rw [if_pos rfl] at H; exact H
   clear H;have H:=H1;clear H1;replace H:=Option.bind_eq_some_iff.mp H;obtain ⟨t317,A190,H⟩:=H;replace H : (if t317 = true then (spec_l1Ok.l0 k1 (wrap64 (x3_1 + 1)) a0_0 l0_1) else (some false)) = some r:=H;have A19:=zy A190;clear A190
   by_cases c20 : t317 = true
   case neg =>
    replace c20:=Bool.eq_false_iff.mpr c20;subst c20;have H1 : (some false) = some r:=by rw [if_neg (show ¬ (false = true) by decide)] at H; exact H
    clear H;have H:=H1;clear H1;obtain rfl:=Option.some.inj H;have hcz26_0 : wr.cell? ⟨p3,0,none⟩ = some (.int .i64 a0_0):=(blk_cell p0.out 0).trans rfl;have hcz26_1 : wr.cell? ⟨p3,1,none⟩ = some (.slice A0_1 l0_1.length c0_1):=(blk_cell p0.out 1).trans rfl;have hfz26_0:=blk_frozen p0.out 0;have hfz26_1:=blk_frozen p0.out 1;have p311 : 0 ≤ (x3_1 : Int):=of_decide_eq_true (by first | (with_reducible assumption) | assumption);have q311 : x3_1 < (l0_1.length : Int):=of_decide_eq_true (by first | (with_reducible assumption) | assumption);obtain ⟨q1,e311,p5,p6,p7,p8,p9⟩:=at_T80 q7.out x3_1 p311 q311;cases e311;replace p5:=(HB.out.cell (World.block_lt_of_cell? w _ p5)).trans p5;replace p6:=(HB.out.cell (World.block_lt_of_cell? w _ p6)).trans p6;replace p7:=(HB.out.cell (World.block_lt_of_cell? w _ p7)).trans p7;replace p8:=(HB.out.cell (World.block_lt_of_cell? w _ p8)).trans p8;replace p9:=(HB.out.cell (World.block_lt_of_cell? w _ p9)).trans p9;replace p311:=eq_true p311;replace q311:=eq_true q311
    go_wp2_with (first | ((with_reducible refine gate_dst (N:=4) rfl ?_); (try (refine gate_guard (by rfl) ?_; dsimp only)); refine box_event ?hg (N:=4) ?hd (cs:=#[.int .i64 0,.int .i64 0,.int .i64 0,.int .i64 0,.int .i64 0]) (t:=80) ?hr ?_; (case hd => rfl); (case hg => rfl); (case hr => first | (go_simp; done) | (go_simp; rfl)); intro p4 hg w27 hbox hb; have n0_:=zy (blk_below (g:=p3) (o:=.cells #[.int .i64 a0_0,.slice (some q1) l0_1.length c0_1] 25 (0,0)) p0.out hb); have n1_:=zy (below_step HB.out hb); have n2_:=zy (hbox); have n3_:=zy ((by rw [hg]; exact (below_size HB.out) : w.heap.size ≤ p4)); have n4_:=zy ((by rw [hg]; exact (below_size HB.out) : w.heap.size ≤ p4)); have n5_:=zy ((by rw [hg]; exact Nat.ne_of_lt (blk_lt (g:=p3) (o:=.cells #[.int .i64 a0_0,.slice (some q1) l0_1.length c0_1] 25 (0,0)) p0.out) : p3 ≠ p4)); have n6_:=zy ((by rw [hg]; exact Nat.ne_of_gt (blk_lt (g:=p3) (o:=.cells #[.int .i64 a0_0,.slice (some q1) l0_1.length c0_1] 25 (0,0)) p0.out) : p4 ≠ p3)); clear p0; clear HB; have p0:=n0_; have HB:=n1_; have p1:=n2_; have q8:=n3_; have q4:=n4_; have q0:=n5_; have q2:=n6_; clear n0_ n1_ n2_ n3_ n4_ n5_ n6_; clear hb hbox hg; have hnb28:=q2.out; have hnc28:=q0.out; have hcz29_0 : w27.cell? ⟨p4,0,none⟩ = some (.int .i64 0):=(blk_cell p1.out 0).trans rfl; have hcz29_1 : w27.cell? ⟨p4,1,none⟩ = some (.int .i64 0):=(blk_cell p1.out 1).trans rfl; have hcz29_2 : w27.cell? ⟨p4,2,none⟩ = some (.int .i64 0):=(blk_cell p1.out 2).trans rfl; have hcz29_3 : w27.cell? ⟨p4,3,none⟩ = some (.int .i64 0):=(blk_cell p1.out 3).trans rfl; have hcz29_4 : w27.cell? ⟨p4,4,none⟩ = some (.int .i64 0):=(blk_cell p1.out 4).trans rfl; have hfz29_0:=blk_frozen p1.out 0; have hfz29_1:=blk_frozen p1.out 1; have hfz29_2:=blk_frozen p1.out 2; have hfz29_3:=blk_frozen p1.out 3; have hfz29_4:=blk_frozen p1.out 4; have hcz30_0 : w27.cell? ⟨p3,0,none⟩ = some (.int .i64 a0_0):=(blk_cell p0.out 0).trans rfl; have hcz30_1 : w27.cell? ⟨p3,1,none⟩ = some (.slice (some q1) l0_1.length c0_1):=(blk_cell p0.out 1).trans rfl; have hfz30_0:=blk_frozen p0.out 0; have hfz30_1:=blk_frozen p0.out 1) | ((with_reducible refine gate_callee (f:=60) rfl ?_); refine goesL_ (some 22) rfl rfl Try.func60 (by kernel_rfl) rfl #[.int .i64 ((rd_T80 l0_1 x3_1).f0),.int .i64 0,.int .i64 (wrap64 (a0_0 - 1))] rfl (by (try simp only [List.map_toArray,List.map_cons,List.map_nil]); first | done | rfl | (simp only [List.length_drop,List.length_take]; rfl)) ?_; (with_reducible refine (spec_l1In.calls ((rd_T80 l0_1 x3_1).f0) 0 (wrap64 (a0_0 - 1)) true _ A5.out).mono ?_); rintro e w' ⟨rfl,⟨nd,rfl⟩⟩; refine ⟨_,rfl,?_⟩) | (go_at_call 60; (with_reducible refine (spec_l1In.calls ((rd_T80 l0_1 x3_1).f1) 0 (wrap64 (a0_0 - 1)) true _ A7.out).mono ?_); rintro e w' ⟨rfl,⟨nd,rfl⟩⟩) | (go_at_call 60; (with_reducible refine (spec_l1In.calls ((rd_T80 l0_1 x3_1).f2) 0 99 true _ A15.out).mono ?_); rintro e w' ⟨rfl,⟨nd,rfl⟩⟩) | (go_at_call 60; (with_reducible refine (spec_l1In.calls ((rd_T80 l0_1 x3_1).f3) 0 99 true _ A17.out).mono ?_); rintro e w' ⟨rfl,⟨nd,rfl⟩⟩) | (go_at_call 60; (with_reducible refine (spec_l1In.calls ((rd_T80 l0_1 x3_1).f4) 0 9 false _ A19.out).mono ?_); rintro e w' ⟨rfl,⟨nd,rfl⟩⟩))
    go_ret;exact ⟨by first | rfl | (simp [errW_none,errW_some] <;> rfl) | (simp [*,errW_none,errW_some] <;> rfl),by repeat (first | (with_reducible first | exact HB.out | apply below_alloc | apply pw_below_drewN | apply below_drew1 | refine below_set ?_ q5.out | refine below_set ?_ q4.out) | exact HB.out)⟩
   subst c20;have H1 : (spec_l1Ok.l0 k1 (wrap64 (x3_1 + 1)) a0_0 l0_1) = some r:=by rw [if_pos rfl] at H; exact H
   clear H;have H:=H1;clear H1;have H':=zy H;clear H;have hcz21_0 : wr.cell? ⟨p3,0,none⟩ = some (.int .i64 a0_0):=(blk_cell p0.out 0).trans rfl;have hcz21_1 : wr.cell? ⟨p3,1,none⟩ = some (.slice A0_1 l0_1.length c0_1):=(blk_cell p0.out 1).trans rfl;have hfz21_0:=blk_frozen p0.out 0;have hfz21_1:=blk_frozen p0.out 1;have p311 : 0 ≤ (x3_1 : Int):=of_decide_eq_true (by first | (with_reducible assumption) | assumption);have q311 : x3_1 < (l0_1.length : Int):=of_decide_eq_true (by first | (with_reducible assumption) | assumption);obtain ⟨q1,e311,p5,p6,p7,p8,p9⟩:=at_T80 q7.out x3_1 p311 q311;cases e311;replace p5:=(HB.out.cell (World.block_lt_of_cell? w _ p5)).trans p5;replace p6:=(HB.out.cell (World.block_lt_of_cell? w _ p6)).trans p6;replace p7:=(HB.out.cell (World.block_lt_of_cell? w _ p7)).trans p7;replace p8:=(HB.out.cell (World.block_lt_of_cell? w _ p8)).trans p8;replace p9:=(HB.out.cell (World.block_lt_of_cell? w _ p9)).trans p9;replace p311:=eq_true p311;replace q311:=eq_true q311
   go_wp2_with (first | ((with_reducible refine gate_dst (N:=4) rfl ?_); (try (refine gate_guard (by rfl) ?_; dsimp only)); refine box_event ?hg (N:=4) ?hd (cs:=#[.int .i64 0,.int .i64 0,.int .i64 0,.int .i64 0,.int .i64 0]) (t:=80) ?hr ?_; (case hd => rfl); (case hg => rfl); (case hr => first | (go_simp; done) | (go_simp; rfl)); intro p4 hg w22 hbox hb; have n0_:=zy (blk_below (g:=p3) (o:=.cells #[.int .i64 a0_0,.slice (some q1) l0_1.length c0_1] 25 (0,0)) p0.out hb); have n1_:=zy (below_step HB.out hb); have n2_:=zy (hbox); have n3_:=zy ((by rw [hg]; exact (below_size HB.out) : w.heap.size ≤ p4)); have n4_:=zy ((by rw [hg]; exact (below_size HB.out) : w.heap.size ≤ p4)); have n5_:=zy ((by rw [hg]; exact Nat.ne_of_lt (blk_lt (g:=p3) (o:=.cells #[.int .i64 a0_0,.slice (some q1) l0_1.length c0_1] 25 (0,0)) p0.out) : p3 ≠ p4)); have n6_:=zy ((by rw [hg]; exact Nat.ne_of_gt (blk_lt (g:=p3) (o:=.cells #[.int .i64 a0_0,.slice (some q1) l0_1.length c0_1] 25 (0,0)) p0.out) : p4 ≠ p3)); clear p0; clear HB; have p0:=n0_; have HB:=n1_; have p1:=n2_; have q8:=n3_; have q4:=n4_; have q0:=n5_; have q2:=n6_; clear n0_ n1_ n2_ n3_ n4_ n5_ n6_; clear hb hbox hg; have hnb23:=q2.out; have hnc23:=q0.out; have hcz24_0 : w22.cell? ⟨p4,0,none⟩ = some (.int .i64 0):=(blk_cell p1.out 0).trans rfl; have hcz24_1 : w22.cell? ⟨p4,1,none⟩ = some (.int .i64 0):=(blk_cell p1.out 1).trans rfl; have hcz24_2 : w22.cell? ⟨p4,2,none⟩ = some (.int .i64 0):=(blk_cell p1.out 2).trans rfl; have hcz24_3 : w22.cell? ⟨p4,3,none⟩ = some (.int .i64 0):=(blk_cell p1.out 3).trans rfl; have hcz24_4 : w22.cell? ⟨p4,4,none⟩ = some (.int .i64 0):=(blk_cell p1.out 4).trans rfl; have hfz24_0:=blk_frozen p1.out 0; have hfz24_1:=blk_frozen p1.out 1; have hfz24_2:=blk_frozen p1.out 2; have hfz24_3:=blk_frozen p1.out 3; have hfz24_4:=blk_frozen p1.out 4; have hcz25_0 : w22.cell? ⟨p3,0,none⟩ = some (.int .i64 a0_0):=(blk_cell p0.out 0).trans rfl; have hcz25_1 : w22.cell? ⟨p3,1,none⟩ = some (.slice (some q1) l0_1.length c0_1):=(blk_cell p0.out 1).trans rfl; have hfz25_0:=blk_frozen p0.out 0; have hfz25_1:=blk_frozen p0.out 1) | ((with_reducible refine gate_callee (f:=60) rfl ?_); refine goesL_ (some 22) rfl rfl Try.func60 (by kernel_rfl) rfl #[.int .i64 ((rd_T80 l0_1 x3_1).f0),.int .i64 0,.int .i64 (wrap64 (a0_0 - 1))] rfl (by (try simp only [List.map_toArray,List.map_cons,List.map_nil]); first | done | rfl | (simp only [List.length_drop,List.length_take]; rfl)) ?_; (with_reducible refine (spec_l1In.calls ((rd_T80 l0_1 x3_1).f0) 0 (wrap64 (a0_0 - 1)) true _ A5.out).mono ?_); rintro e w' ⟨rfl,⟨nd,rfl⟩⟩; refine ⟨_,rfl,?_⟩) | (go_at_call 60; (with_reducible refine (spec_l1In.calls ((rd_T80 l0_1 x3_1).f1) 0 (wrap64 (a0_0 - 1)) true _ A7.out).mono ?_); rintro e w' ⟨rfl,⟨nd,rfl⟩⟩) | (go_at_call 60; (with_reducible refine (spec_l1In.calls ((rd_T80 l0_1 x3_1).f2) 0 99 true _ A15.out).mono ?_); rintro e w' ⟨rfl,⟨nd,rfl⟩⟩) | (go_at_call 60; (with_reducible refine (spec_l1In.calls ((rd_T80 l0_1 x3_1).f3) 0 99 true _ A17.out).mono ?_); rintro e w' ⟨rfl,⟨nd,rfl⟩⟩) | (go_at_call 60; (with_reducible refine (spec_l1In.calls ((rd_T80 l0_1 x3_1).f4) 0 9 true _ A19.out).mono ?_); rintro e w' ⟨rfl,⟨nd,rfl⟩⟩))
   go_roundg k1
   case measure => have:=HK1.out; omega
   case rel => exact ⟨(wrap64 (x3_1 + 1)),(by first | rfl | (simp; done) | (simp [*]; done)),H',⟨by have:=HK1.out; omega⟩,⟨by (with_reducible repeat (first | refine blk_drewN ?_ _ | refine blk_drew ?_ | refine blk_alloc ?_ _)); refine blk_far ?_ q0.out _; (with_reducible repeat (first | refine blk_drewN ?_ _ | refine blk_drew ?_ | refine blk_alloc ?_ _)); refine blk_far ?_ q0.out _; (with_reducible repeat (first | refine blk_drewN ?_ _ | refine blk_drew ?_ | refine blk_alloc ?_ _)); refine blk_far ?_ q0.out _; (with_reducible repeat (first | refine blk_drewN ?_ _ | refine blk_drew ?_ | refine blk_alloc ?_ _)); refine blk_far ?_ q0.out _; (with_reducible repeat (first | refine blk_drewN ?_ _ | refine blk_drew ?_ | refine blk_alloc ?_ _)); refine blk_far ?_ q0.out _; (with_reducible repeat (first | refine blk_drewN ?_ _ | refine blk_drew ?_ | refine blk_alloc ?_ _)); exact p0.out⟩,⟨by repeat (first | (with_reducible first | exact HB.out | apply below_alloc | apply pw_below_drewN | apply below_drew1 | refine below_set ?_ q5.out | refine below_set ?_ q4.out) | exact HB.out)⟩⟩
def spec_l11Any.l0 : Nat → List Int → Int → Int → List (S80) → Option (Bool)
 | 0,_,_,_,_ => none
 | k + 1,x1,x5,x319000,x319001 => if x5 < (x1.length : Int) then (if 0 ≤ x5 then ((spec_l1In.f (rd x1 x5) 0 (wrap64 (x319000 - 1))).bind fun t320 => (if t320 = true then (spec_l11Any.l0 k x1 (wrap64 (x5 + 1)) x319000 x319001) else (some false))) else (none)) else (some true)
def spec_l11Any.f (k : Nat) (a0_0 : Int) (l0_1 : List (S80)) (l1 : List Int) : Option (Bool):=spec_l11Any.l0 k l1 0 a0_0 l0_1
set_option maxHeartbeats 8000000 in
set_option maxRecDepth 100000 in
theorem spec_l11Any.calls (k : Nat) (a0_0 : Int) (A0_1 : Option Addr) (c0_1 : Nat) (l0_1 : List (S80)) (A1 : Option Addr) (c1 : Nat) (l1 : List Int) (r : Bool) (w : World) (hr0_1 : Kd.C k80 w A0_1 l0_1.length l0_1) (hc0_1 : l0_1.length ≤ c0_1) (hr1 : Kd.C (Kd.int .i64) w A1 l1.length l1) (hc1 : l1.length ≤ c1) (h : spec_l11Any.f k a0_0 l0_1 l1 = some r) :
  Calls Try.prog 59 #[.agg #[.int .i64 a0_0,.slice A0_1 l0_1.length c0_1],.slice A1 l1.length c1] w fun e w' => e = .returned (.bool r) ∧ Below w.heap.size w w':=by
 have hu25:=Try.underlying25;have HR0_1:=zy hr0_1;have HC0_1:=zy hc0_1;clear hr0_1 hc0_1;have HR1:=zy hr1;have HC1:=zy hc1;clear hr1 hc1;have HB:=zy (Below.refl w.heap.size w);have H : (spec_l11Any.l0 k l1 0 a0_0 l0_1) = some r:=h;clear h;have H':=zy H;clear H
 go_enter Try.func59,Try.ntmps59
 go_wp2_with (first | ((with_reducible refine gate_dst (N:=2) rfl ?_); refine box_event ?hg (N:=2) ?hd (cs:=#[.int .i64 a0_0,.slice A0_1 l0_1.length c0_1]) (t:=25) ?hr ?_; (case hd => rfl); (case hg => rfl); (case hr => first | (go_simp; done) | (go_simp; rfl)); intro gb318 hg w3 hbox hb; have n0_:=zy (below_step (by repeat (first | (with_reducible first | exact HB.out | apply below_alloc | apply pw_below_drewN | apply below_drew1) | exact HB.out)) hb); have n1_:=zy (hbox); have n2_:=zy ((by rw [hg]; exact (below_size (by repeat (first | (with_reducible first | exact HB.out | apply below_alloc | apply pw_below_drewN | apply below_drew1) | exact HB.out))) : w.heap.size ≤ gb318)); have n3_:=zy ((by rw [hg]; exact (below_size (by repeat (first | (with_reducible first | exact HB.out | apply below_alloc | apply pw_below_drewN | apply below_drew1) | exact HB.out))) : w.heap.size ≤ gb318)); clear HB; have HB:=n0_; have BK318:=n1_; have GW318:=n2_; have GE318:=n3_; clear n0_ n1_ n2_ n3_; clear hb hbox hg))
 repeat (go_quiet (first | ((with_reducible refine gate_dst (N:=2) rfl ?_); refine box_event ?hg (N:=2) ?hd (cs:=#[.int .i64 a0_0,.slice A0_1 l0_1.length c0_1]) (t:=25) ?hr ?_; (case hd => rfl); (case hg => rfl); (case hr => first | (go_simp; done) | (go_simp; rfl)); intro gb318 hg w3 hbox hb; have n0_:=zy (below_step (by repeat (first | (with_reducible first | exact HB.out | apply below_alloc | apply pw_below_drewN | apply below_drew1) | exact HB.out)) hb); have n1_:=zy (hbox); have n2_:=zy ((by rw [hg]; exact (below_size (by repeat (first | (with_reducible first | exact HB.out | apply below_alloc | apply pw_below_drewN | apply below_drew1) | exact HB.out))) : w.heap.size ≤ gb318)); have n3_:=zy ((by rw [hg]; exact (below_size (by repeat (first | (with_reducible first | exact HB.out | apply below_alloc | apply pw_below_drewN | apply below_drew1) | exact HB.out))) : w.heap.size ≤ gb318)); clear HB; have HB:=n0_; have BK318:=n1_; have GW318:=n2_; have GE318:=n3_; clear n0_ n1_ n2_ n3_; clear hb hbox hg)); try go_wp2_with (first | ((with_reducible refine gate_dst (N:=2) rfl ?_); refine box_event ?hg (N:=2) ?hd (cs:=#[.int .i64 a0_0,.slice A0_1 l0_1.length c0_1]) (t:=25) ?hr ?_; (case hd => rfl); (case hg => rfl); (case hr => first | (go_simp; done) | (go_simp; rfl)); intro gb318 hg w3 hbox hb; have n0_:=zy (below_step (by repeat (first | (with_reducible first | exact HB.out | apply below_alloc | apply pw_below_drewN | apply below_drew1) | exact HB.out)) hb); have n1_:=zy (hbox); have n2_:=zy ((by rw [hg]; exact (below_size (by repeat (first | (with_reducible first | exact HB.out | apply below_alloc | apply pw_below_drewN | apply below_drew1) | exact HB.out))) : w.heap.size ≤ gb318)); have n3_:=zy ((by rw [hg]; exact (below_size (by repeat (first | (with_reducible first | exact HB.out | apply below_alloc | apply pw_below_drewN | apply below_drew1) | exact HB.out))) : w.heap.size ≤ gb318)); clear HB; have HB:=n0_; have BK318:=n1_; have GW318:=n2_; have GE318:=n3_; clear n0_ n1_ n2_ n3_; clear hb hbox hg)))
 go_loopg [5] k (fun kq v5 w' => ∃ (x5_1 : Int),v5 = .int .i64 x5_1 ∧ Aside0 (spec_l11Any.l0 kq l1 x5_1 a0_0 l0_1 = some r) ∧ Aside0 (kq ≤ k) ∧ Aside0 (w'.heap[gb318]? = some (.cells #[.int .i64 a0_0,(.slice A0_1 l0_1.length c0_1)] 25 (0,0))) ∧ Aside0 (Below w.heap.size w w'))
 case atStart => exact ⟨(0),(by first | rfl | (simp; done) | (simp [*]; done)),H',⟨Nat.le_refl _⟩,⟨by (with_reducible repeat (first | refine blk_drewN ?_ _ | refine blk_drew ?_ | refine blk_alloc ?_ _)); exact BK318.out⟩,⟨by repeat (first | (with_reducible first | exact HB.out | apply below_alloc | apply pw_below_drewN | apply below_drew1 | refine below_set ?_ GE318.out) | exact HB.out)⟩⟩
 case round =>
  clear H'
  try clear c1
  try clear p2
  obtain ⟨x5_1,rfl,HA,HK1,BK318,HB⟩:=hrel;cases gk with
  | zero => exact absurd HA.out (by simp [spec_l11Any.l0])
  | succ k1 =>
   have H:=HA.out;clear HA;simp only [spec_l11Any.l0] at H
   by_cases c4 : x5_1 < (l1.length : Int)
   case neg =>
    rw [if_neg c4] at H;have c4b0 : decide (x5_1 < (l1.length : Int)) = false:=decide_eq_false c4;clear c4;obtain rfl:=Option.some.inj H
    go_wp2
    repeat (go_quiet (fail); try go_wp2)
    go_ret;exact ⟨by first | rfl | (simp [errW_none,errW_some] <;> rfl) | (simp [*,errW_none,errW_some] <;> rfl),by repeat (first | (with_reducible first | exact HB.out | apply below_alloc | apply pw_below_drewN | apply below_drew1 | refine below_set ?_ GE318.out) | exact HB.out)⟩
   rw [if_pos c4] at H;have c4b0 : decide (x5_1 < (l1.length : Int)) = true:=decide_eq_true c4;clear c4
   by_cases c5 : 0 ≤ x5_1
   case neg =>
    rw [if_neg c5] at H;exact absurd H (by simp)
   rw [if_pos c5] at H;have c5b0 : decide (0 ≤ x5_1) = true:=decide_eq_true c5;clear c5;replace H:=Option.bind_eq_some_iff.mp H;obtain ⟨t320,A60,H⟩:=H;replace H : (if t320 = true then (spec_l11Any.l0 k1 l1 (wrap64 (x5_1 + 1)) a0_0 l0_1) else (some false)) = some r:=H;have A6:=zy A60;clear A60
   by_cases c7 : t320 = true
   case neg =>
    replace c7:=Bool.eq_false_iff.mpr c7;subst c7;have H1 : (some false) = some r:=by rw [if_neg (show ¬ (false = true) by decide)] at H; exact H
    clear H;have H:=H1;clear H1;obtain rfl:=Option.some.inj H;have p319 : 0 ≤ (x5_1 : Int):=of_decide_eq_true (by first | (with_reducible assumption) | assumption);have q319 : x5_1 < (l1.length : Int):=of_decide_eq_true (by first | (with_reducible assumption) | assumption);obtain ⟨ad319,e319,hx319_0⟩:=Kd.at_int HR1.out x5_1 p319 q319;cases e319;replace hx319_0:=(HB.out.cell (World.block_lt_of_cell? w _ hx319_0)).trans hx319_0;replace p319:=eq_true p319;replace q319:=eq_true q319;have hcz9_0 : wr.cell? ⟨gb318,0,none⟩ = some (.int .i64 a0_0):=(blk_cell BK318.out 0).trans rfl;have hcz9_1 : wr.cell? ⟨gb318,1,none⟩ = some (.slice A0_1 l0_1.length c0_1):=(blk_cell BK318.out 1).trans rfl;have hfz9_0:=blk_frozen BK318.out 0;have hfz9_1:=blk_frozen BK318.out 1
    go_wp2_with (first | (go_at_call 60; (with_reducible refine (spec_l1In.calls (rd l1 x5_1) 0 (wrap64 (a0_0 - 1)) false _ A6.out).mono ?_); rintro e w' ⟨rfl,⟨nd,rfl⟩⟩; (try first | exact ⟨rfl,_,World.drewN_drewN _ _ _⟩ | exact ⟨rfl,_,Eq.trans (World.drewN_drewN _ _ _) (congrArg (World.drewN _) (Nat.add_assoc _ _ _))⟩)))
    repeat (go_quiet (first | (go_at_call 60; (with_reducible refine (spec_l1In.calls (rd l1 x5_1) 0 (wrap64 (a0_0 - 1)) false _ A6.out).mono ?_); rintro e w' ⟨rfl,⟨nd,rfl⟩⟩; (try first | exact ⟨rfl,_,World.drewN_drewN _ _ _⟩ | exact ⟨rfl,_,Eq.trans (World.drewN_drewN _ _ _) (congrArg (World.drewN _) (Nat.add_assoc _ _ _))⟩))); try go_wp2_with (first | (go_at_call 60; (with_reducible refine (spec_l1In.calls (rd l1 x5_1) 0 (wrap64 (a0_0 - 1)) false _ A6.out).mono ?_); rintro e w' ⟨rfl,⟨nd,rfl⟩⟩; (try first | exact ⟨rfl,_,World.drewN_drewN _ _ _⟩ | exact ⟨rfl,_,Eq.trans (World.drewN_drewN _ _ _) (congrArg (World.drewN _) (Nat.add_assoc _ _ _))⟩))))
    go_ret;exact ⟨by first | rfl | (simp [errW_none,errW_some] <;> rfl) | (simp [*,errW_none,errW_some] <;> rfl),by repeat (first | (with_reducible first | exact HB.out | apply below_alloc | apply pw_below_drewN | apply below_drew1 | refine below_set ?_ GE318.out) | exact HB.out)⟩
   subst c7;have H1 : (spec_l11Any.l0 k1 l1 (wrap64 (x5_1 + 1)) a0_0 l0_1) = some r:=by rw [if_pos rfl] at H; exact H
   clear H;have H:=H1;clear H1;have H':=zy H;clear H;have p319 : 0 ≤ (x5_1 : Int):=of_decide_eq_true (by first | (with_reducible assumption) | assumption);have q319 : x5_1 < (l1.length : Int):=of_decide_eq_true (by first | (with_reducible assumption) | assumption);obtain ⟨ad319,e319,hx319_0⟩:=Kd.at_int HR1.out x5_1 p319 q319;cases e319;replace hx319_0:=(HB.out.cell (World.block_lt_of_cell? w _ hx319_0)).trans hx319_0;replace p319:=eq_true p319;replace q319:=eq_true q319;have hcz8_0 : wr.cell? ⟨gb318,0,none⟩ = some (.int .i64 a0_0):=(blk_cell BK318.out 0).trans rfl;have hcz8_1 : wr.cell? ⟨gb318,1,none⟩ = some (.slice A0_1 l0_1.length c0_1):=(blk_cell BK318.out 1).trans rfl;have hfz8_0:=blk_frozen BK318.out 0;have hfz8_1:=blk_frozen BK318.out 1
   go_wp2_with (first | (go_at_call 60; (with_reducible refine (spec_l1In.calls (rd l1 x5_1) 0 (wrap64 (a0_0 - 1)) true _ A6.out).mono ?_); rintro e w' ⟨rfl,⟨nd,rfl⟩⟩; (try first | exact ⟨rfl,_,World.drewN_drewN _ _ _⟩ | exact ⟨rfl,_,Eq.trans (World.drewN_drewN _ _ _) (congrArg (World.drewN _) (Nat.add_assoc _ _ _))⟩)))
   repeat (go_quiet (first | (go_at_call 60; (with_reducible refine (spec_l1In.calls (rd l1 x5_1) 0 (wrap64 (a0_0 - 1)) true _ A6.out).mono ?_); rintro e w' ⟨rfl,⟨nd,rfl⟩⟩; (try first | exact ⟨rfl,_,World.drewN_drewN _ _ _⟩ | exact ⟨rfl,_,Eq.trans (World.drewN_drewN _ _ _) (congrArg (World.drewN _) (Nat.add_assoc _ _ _))⟩))); try go_wp2_with (first | (go_at_call 60; (with_reducible refine (spec_l1In.calls (rd l1 x5_1) 0 (wrap64 (a0_0 - 1)) true _ A6.out).mono ?_); rintro e w' ⟨rfl,⟨nd,rfl⟩⟩; (try first | exact ⟨rfl,_,World.drewN_drewN _ _ _⟩ | exact ⟨rfl,_,Eq.trans (World.drewN_drewN _ _ _) (congrArg (World.drewN _) (Nat.add_assoc _ _ _))⟩))))
   go_roundg k1
   case measure => have:=HK1.out; omega
   case rel => exact ⟨(wrap64 (x5_1 + 1)),(by first | rfl | (simp; done) | (simp [*]; done)),H',⟨by have:=HK1.out; omega⟩,⟨by (with_reducible repeat (first | refine blk_drewN ?_ _ | refine blk_drew ?_ | refine blk_alloc ?_ _)); exact BK318.out⟩,⟨by repeat (first | (with_reducible first | exact HB.out | apply below_alloc | apply pw_below_drewN | apply below_drew1 | refine below_set ?_ GE318.out) | exact HB.out)⟩⟩
def spec_l27Ok.f (k : Nat) (a0_0 : Int) (l0_1 : List (S80)) (l1 : List Int) (l2 : List Int) : Option (Bool):=(spec_l1Ok.f k a0_0 l0_1).bind fun t322 => (if t322 = true then ((spec_l11Any.f k a0_0 l0_1 l1).bind fun t323 => (if t323 = true then ((spec_l11Any.f k a0_0 l0_1 l2).bind fun t324 => (if t324 = true then (if (l1.length : Int) = (l2.length : Int) then ((spec_l1In.f (l1.length : Int) 1 5).bind fun t325 => (some t325)) else (some false)) else (some false))) else (some false))) else (some false))
set_option maxHeartbeats 8000000 in
set_option maxRecDepth 100000 in
theorem spec_l27Ok.calls (k : Nat) (a0_0 : Int) (A0_1 : Option Addr) (c0_1 : Nat) (l0_1 : List (S80)) (A1 : Option Addr) (c1 : Nat) (l1 : List Int) (A2 : Option Addr) (c2 : Nat) (l2 : List Int) (r : Bool) (w : World) (hr0_1 : Kd.C k80 w A0_1 l0_1.length l0_1) (hc0_1 : l0_1.length ≤ c0_1) (hr1 : Kd.C (Kd.int .i64) w A1 l1.length l1) (hc1 : l1.length ≤ c1) (hr2 : Kd.C (Kd.int .i64) w A2 l2.length l2) (hc2 : l2.length ≤ c2) (h : spec_l27Ok.f k a0_0 l0_1 l1 l2 = some r) :
  Calls Try.prog 35 #[.agg #[.int .i64 a0_0,.slice A0_1 l0_1.length c0_1],.slice A1 l1.length c1,.slice A2 l2.length c2] w fun e w' => e = .returned (.bool r) ∧ Below w.heap.size w w':=by
 have hu25:=Try.underlying25;have HR0_1:=zy hr0_1;have HC0_1:=zy hc0_1;clear hr0_1 hc0_1;have HR1:=zy hr1;have HC1:=zy hc1;clear hr1 hc1;have HR2:=zy hr2;have HC2:=zy hc2;clear hr2 hc2;have HB:=zy (Below.refl w.heap.size w);have H : ((spec_l1Ok.f k a0_0 l0_1).bind fun t322 => (if t322 = true then ((spec_l11Any.f k a0_0 l0_1 l1).bind fun t323 => (if t323 = true then ((spec_l11Any.f k a0_0 l0_1 l2).bind fun t324 => (if t324 = true then (if (l1.length : Int) = (l2.length : Int) then ((spec_l1In.f (l1.length : Int) 1 5).bind fun t325 => (some t325)) else (some false)) else (some false))) else (some false))) else (some false))) = some r:=h;clear h;replace H:=Option.bind_eq_some_iff.mp H;obtain ⟨t322,A40,H⟩:=H;replace H : (if t322 = true then ((spec_l11Any.f k a0_0 l0_1 l1).bind fun t323 => (if t323 = true then ((spec_l11Any.f k a0_0 l0_1 l2).bind fun t324 => (if t324 = true then (if (l1.length : Int) = (l2.length : Int) then ((spec_l1In.f (l1.length : Int) 1 5).bind fun t325 => (some t325)) else (some false)) else (some false))) else (some false))) else (some false)) = some r:=H;have A4:=zy A40;clear A40
 by_cases c5 : t322 = true
 case neg =>
  replace c5:=Bool.eq_false_iff.mpr c5;subst c5;have H1 : (some false) = some r:=by rw [if_neg (show ¬ (false = true) by decide)] at H; exact H
  clear H;have H:=H1;clear H1;obtain rfl:=Option.some.inj H
  go_enter Try.func35,Try.ntmps35
  go_wp2_with (first | ((with_reducible refine gate_dst (N:=3) rfl ?_); (try (refine gate_guard (by rfl) ?_; dsimp only)); refine box_event ?hg (N:=3) ?hd (cs:=#[.int .i64 a0_0,.slice A0_1 l0_1.length c0_1]) (t:=25) ?hr ?_; (case hd => rfl); (case hg => rfl); (case hr => first | (go_simp; done) | (go_simp; rfl)); intro gb321 hg w38 hbox hb; have n0_:=zy (below_step (by repeat (first | (with_reducible first | exact HB.out | apply below_alloc | apply pw_below_drewN | apply below_drew1) | exact HB.out)) hb); have n1_:=zy (hbox); have n2_:=zy ((by rw [hg]; exact (below_size (by repeat (first | (with_reducible first | exact HB.out | apply below_alloc | apply pw_below_drewN | apply below_drew1) | exact HB.out))) : w.heap.size ≤ gb321)); have n3_:=zy ((by rw [hg]; exact (below_size (by repeat (first | (with_reducible first | exact HB.out | apply below_alloc | apply pw_below_drewN | apply below_drew1) | exact HB.out))) : w.heap.size ≤ gb321)); clear HB; have HB:=n0_; have BK321:=n1_; have GW321:=n2_; have GE321:=n3_; clear n0_ n1_ n2_ n3_; clear hb hbox hg; have hcz39_0 : w38.cell? ⟨gb321,0,none⟩ = some (.int .i64 a0_0):=(blk_cell BK321.out 0).trans rfl; have hcz39_1 : w38.cell? ⟨gb321,1,none⟩ = some (.slice A0_1 l0_1.length c0_1):=(blk_cell BK321.out 1).trans rfl; have hfz39_0:=blk_frozen BK321.out 0; have hfz39_1:=blk_frozen BK321.out 1) | ((with_reducible refine gate_callee (f:=58) rfl ?_); refine goesL_ (some 8) rfl rfl Try.func58 (by kernel_rfl) rfl #[.agg #[.int .i64 a0_0,.slice A0_1 l0_1.length c0_1]] rfl (by (try simp only [List.map_toArray,List.map_cons,List.map_nil]); first | done | rfl | (simp only [List.length_drop,List.length_take]; rfl)) ?_; (with_reducible refine (spec_l1Ok.calls k a0_0 _ _ l0_1 false _ ?side1 ?side2 A4.out).mono ?_); (case side1 => repeat (first | exact (Kd.C_below HR0_1.out HB.out) | (with_reducible refine Kd.C_alloc ?_ _) | (with_reducible refine Kd.C_drewN ?_ _) | (with_reducible refine Kd.C_drew ?_))); (case side2 => exact HC0_1.out); rintro e w40 ⟨rfl,hb⟩; refine ⟨_,rfl,?_⟩; have n0_:=zy (blk_below (g:=gb321) (o:=.cells #[.int .i64 a0_0,.slice A0_1 l0_1.length c0_1] 25 (0,0)) (by (with_reducible repeat (first | refine blk_drewN ?_ _ | refine blk_drew ?_ | refine blk_alloc ?_ _)); exact BK321.out) hb); have n1_:=zy (below_step (by repeat (first | (with_reducible first | exact HB.out | apply below_alloc | apply pw_below_drewN | apply below_drew1 | refine below_set ?_ GE321.out) | exact HB.out)) hb); clear BK321; clear HB; have BK321:=n0_; have HB:=n1_; clear n0_ n1_; (try clear hb); (try clear hb2); (try clear hk); (try clear hi)))
  go_ret;exact ⟨by first | rfl | (simp [errW_none,errW_some] <;> rfl) | (simp [*,errW_none,errW_some] <;> rfl),by repeat (first | (with_reducible first | exact HB.out | apply below_alloc | apply pw_below_drewN | apply below_drew1 | refine below_set ?_ GE321.out) | exact HB.out)⟩
 subst c5;have H1 : ((spec_l11Any.f k a0_0 l0_1 l1).bind fun t323 => (if t323 = true then ((spec_l11Any.f k a0_0 l0_1 l2).bind fun t324 => (if t324 = true then (if (l1.length : Int) = (l2.length : Int) then ((spec_l1In.f (l1.length : Int) 1 5).bind fun t325 => (some t325)) else (some false)) else (some false))) else (some false))) = some r:=by rw [if_pos rfl] at H; exact H
 clear H;have H:=H1;clear H1;replace H:=Option.bind_eq_some_iff.mp H;obtain ⟨t323,A60,H⟩:=H;replace H : (if t323 = true then ((spec_l11Any.f k a0_0 l0_1 l2).bind fun t324 => (if t324 = true then (if (l1.length : Int) = (l2.length : Int) then ((spec_l1In.f (l1.length : Int) 1 5).bind fun t325 => (some t325)) else (some false)) else (some false))) else (some false)) = some r:=H;have A6:=zy A60;clear A60
 by_cases c7 : t323 = true
 case neg =>
  replace c7:=Bool.eq_false_iff.mpr c7;subst c7;have H1 : (some false) = some r:=by rw [if_neg (show ¬ (false = true) by decide)] at H; exact H
  clear H;have H:=H1;clear H1;obtain rfl:=Option.some.inj H
  go_enter Try.func35,Try.ntmps35
  go_wp2_with (first | ((with_reducible refine gate_dst (N:=3) rfl ?_); (try (refine gate_guard (by rfl) ?_; dsimp only)); refine box_event ?hg (N:=3) ?hd (cs:=#[.int .i64 a0_0,.slice A0_1 l0_1.length c0_1]) (t:=25) ?hr ?_; (case hd => rfl); (case hg => rfl); (case hr => first | (go_simp; done) | (go_simp; rfl)); intro gb321 hg w33 hbox hb; have n0_:=zy (below_step (by repeat (first | (with_reducible first | exact HB.out | apply below_alloc | apply pw_below_drewN | apply below_drew1) | exact HB.out)) hb); have n1_:=zy (hbox); have n2_:=zy ((by rw [hg]; exact (below_size (by repeat (first | (with_reducible first | exact HB.out | apply below_alloc | apply pw_below_drewN | apply below_drew1) | exact HB.out))) : w.heap.size ≤ gb321)); have n3_:=zy ((by rw [hg]; exact (below_size (by repeat (first | (with_reducible first | exact HB.out | apply below_alloc | apply pw_below_drewN | apply below_drew1) | exact HB.out))) : w.heap.size ≤ gb321)); clear HB; have HB:=n0_; have BK321:=n1_; have GW321:=n2_; have GE321:=n3_; clear n0_ n1_ n2_ n3_; clear hb hbox hg; have hcz34_0 : w33.cell? ⟨gb321,0,none⟩ = some (.int .i64 a0_0):=(blk_cell BK321.out 0).trans rfl; have hcz34_1 : w33.cell? ⟨gb321,1,none⟩ = some (.slice A0_1 l0_1.length c0_1):=(blk_cell BK321.out 1).trans rfl; have hfz34_0:=blk_frozen BK321.out 0; have hfz34_1:=blk_frozen BK321.out 1) | ((with_reducible refine gate_callee (f:=58) rfl ?_); refine goesL_ (some 8) rfl rfl Try.func58 (by kernel_rfl) rfl #[.agg #[.int .i64 a0_0,.slice A0_1 l0_1.length c0_1]] rfl (by (try simp only [List.map_toArray,List.map_cons,List.map_nil]); first | done | rfl | (simp only [List.length_drop,List.length_take]; rfl)) ?_; (with_reducible refine (spec_l1Ok.calls k a0_0 _ _ l0_1 true _ ?side1 ?side2 A4.out).mono ?_); (case side1 => repeat (first | exact (Kd.C_below HR0_1.out HB.out) | (with_reducible refine Kd.C_alloc ?_ _) | (with_reducible refine Kd.C_drewN ?_ _) | (with_reducible refine Kd.C_drew ?_))); (case side2 => exact HC0_1.out); rintro e w35 ⟨rfl,hb⟩; refine ⟨_,rfl,?_⟩; have n0_:=zy (blk_below (g:=gb321) (o:=.cells #[.int .i64 a0_0,.slice A0_1 l0_1.length c0_1] 25 (0,0)) (by (with_reducible repeat (first | refine blk_drewN ?_ _ | refine blk_drew ?_ | refine blk_alloc ?_ _)); exact BK321.out) hb); have n1_:=zy (below_step (by repeat (first | (with_reducible first | exact HB.out | apply below_alloc | apply pw_below_drewN | apply below_drew1 | refine below_set ?_ GE321.out) | exact HB.out)) hb); clear BK321; clear HB; have BK321:=n0_; have HB:=n1_; clear n0_ n1_; (try clear hb); (try clear hb2); (try clear hk); (try clear hi); have hcz36_0 : w35.cell? ⟨gb321,0,none⟩ = some (.int .i64 a0_0):=(blk_cell BK321.out 0).trans rfl; have hcz36_1 : w35.cell? ⟨gb321,1,none⟩ = some (.slice A0_1 l0_1.length c0_1):=(blk_cell BK321.out 1).trans rfl; have hfz36_0:=blk_frozen BK321.out 0; have hfz36_1:=blk_frozen BK321.out 1) | (go_at_call 59; (with_reducible refine (spec_l11Any.calls k a0_0 _ _ l0_1 _ _ l1 false _ ?side1 ?side2 ?side3 ?side4 A6.out).mono ?_); (case side1 => repeat (first | exact (Kd.C_below HR0_1.out HB.out) | (with_reducible refine Kd.C_alloc ?_ _) | (with_reducible refine Kd.C_drewN ?_ _) | (with_reducible refine Kd.C_drew ?_))); (case side2 => exact HC0_1.out); (case side3 => repeat (first | exact (Kd.C_below HR1.out HB.out) | (with_reducible refine Kd.C_alloc ?_ _) | (with_reducible refine Kd.C_drewN ?_ _) | (with_reducible refine Kd.C_drew ?_))); (case side4 => exact HC1.out); rintro e w37 ⟨rfl,hb⟩; have n0_:=zy (blk_below (g:=gb321) (o:=.cells #[.int .i64 a0_0,.slice A0_1 l0_1.length c0_1] 25 (0,0)) (by (with_reducible repeat (first | refine blk_drewN ?_ _ | refine blk_drew ?_ | refine blk_alloc ?_ _)); exact BK321.out) hb); have n1_:=zy (below_step (by repeat (first | (with_reducible first | exact HB.out | apply below_alloc | apply pw_below_drewN | apply below_drew1 | refine below_set ?_ GE321.out) | exact HB.out)) hb); clear BK321; clear HB; have BK321:=n0_; have HB:=n1_; clear n0_ n1_; (try clear hb); (try clear hb2); (try clear hk); (try clear hi)))
  go_ret;exact ⟨by first | rfl | (simp [errW_none,errW_some] <;> rfl) | (simp [*,errW_none,errW_some] <;> rfl),by repeat (first | (with_reducible first | exact HB.out | apply below_alloc | apply pw_below_drewN | apply below_drew1 | refine below_set ?_ GE321.out) | exact HB.out)⟩
 subst c7;have H1 : ((spec_l11Any.f k a0_0 l0_1 l2).bind fun t324 => (if t324 = true then (if (l1.length : Int) = (l2.length : Int) then ((spec_l1In.f (l1.length : Int) 1 5).bind fun t325 => (some t325)) else (some false)) else (some false))) = some r:=by rw [if_pos rfl] at H; exact H
 clear H;have H:=H1;clear H1;replace H:=Option.bind_eq_some_iff.mp H;obtain ⟨t324,A80,H⟩:=H;replace H : (if t324 = true then (if (l1.length : Int) = (l2.length : Int) then ((spec_l1In.f (l1.length : Int) 1 5).bind fun t325 => (some t325)) else (some false)) else (some false)) = some r:=H;have A8:=zy A80;clear A80
 by_cases c9 : t324 = true
 case neg =>
  replace c9:=Bool.eq_false_iff.mpr c9;subst c9;have H1 : (some false) = some r:=by rw [if_neg (show ¬ (false = true) by decide)] at H; exact H
  clear H;have H:=H1;clear H1;obtain rfl:=Option.some.inj H
  go_enter Try.func35,Try.ntmps35
  go_wp2_with (first | ((with_reducible refine gate_dst (N:=3) rfl ?_); (try (refine gate_guard (by rfl) ?_; dsimp only)); refine box_event ?hg (N:=3) ?hd (cs:=#[.int .i64 a0_0,.slice A0_1 l0_1.length c0_1]) (t:=25) ?hr ?_; (case hd => rfl); (case hg => rfl); (case hr => first | (go_simp; done) | (go_simp; rfl)); intro gb321 hg w26 hbox hb; have n0_:=zy (below_step (by repeat (first | (with_reducible first | exact HB.out | apply below_alloc | apply pw_below_drewN | apply below_drew1) | exact HB.out)) hb); have n1_:=zy (hbox); have n2_:=zy ((by rw [hg]; exact (below_size (by repeat (first | (with_reducible first | exact HB.out | apply below_alloc | apply pw_below_drewN | apply below_drew1) | exact HB.out))) : w.heap.size ≤ gb321)); have n3_:=zy ((by rw [hg]; exact (below_size (by repeat (first | (with_reducible first | exact HB.out | apply below_alloc | apply pw_below_drewN | apply below_drew1) | exact HB.out))) : w.heap.size ≤ gb321)); clear HB; have HB:=n0_; have BK321:=n1_; have GW321:=n2_; have GE321:=n3_; clear n0_ n1_ n2_ n3_; clear hb hbox hg; have hcz27_0 : w26.cell? ⟨gb321,0,none⟩ = some (.int .i64 a0_0):=(blk_cell BK321.out 0).trans rfl; have hcz27_1 : w26.cell? ⟨gb321,1,none⟩ = some (.slice A0_1 l0_1.length c0_1):=(blk_cell BK321.out 1).trans rfl; have hfz27_0:=blk_frozen BK321.out 0; have hfz27_1:=blk_frozen BK321.out 1) | ((with_reducible refine gate_callee (f:=58) rfl ?_); refine goesL_ (some 8) rfl rfl Try.func58 (by kernel_rfl) rfl #[.agg #[.int .i64 a0_0,.slice A0_1 l0_1.length c0_1]] rfl (by (try simp only [List.map_toArray,List.map_cons,List.map_nil]); first | done | rfl | (simp only [List.length_drop,List.length_take]; rfl)) ?_; (with_reducible refine (spec_l1Ok.calls k a0_0 _ _ l0_1 true _ ?side1 ?side2 A4.out).mono ?_); (case side1 => repeat (first | exact (Kd.C_below HR0_1.out HB.out) | (with_reducible refine Kd.C_alloc ?_ _) | (with_reducible refine Kd.C_drewN ?_ _) | (with_reducible refine Kd.C_drew ?_))); (case side2 => exact HC0_1.out); rintro e w28 ⟨rfl,hb⟩; refine ⟨_,rfl,?_⟩; have n0_:=zy (blk_below (g:=gb321) (o:=.cells #[.int .i64 a0_0,.slice A0_1 l0_1.length c0_1] 25 (0,0)) (by (with_reducible repeat (first | refine blk_drewN ?_ _ | refine blk_drew ?_ | refine blk_alloc ?_ _)); exact BK321.out) hb); have n1_:=zy (below_step (by repeat (first | (with_reducible first | exact HB.out | apply below_alloc | apply pw_below_drewN | apply below_drew1 | refine below_set ?_ GE321.out) | exact HB.out)) hb); clear BK321; clear HB; have BK321:=n0_; have HB:=n1_; clear n0_ n1_; (try clear hb); (try clear hb2); (try clear hk); (try clear hi); have hcz29_0 : w28.cell? ⟨gb321,0,none⟩ = some (.int .i64 a0_0):=(blk_cell BK321.out 0).trans rfl; have hcz29_1 : w28.cell? ⟨gb321,1,none⟩ = some (.slice A0_1 l0_1.length c0_1):=(blk_cell BK321.out 1).trans rfl; have hfz29_0:=blk_frozen BK321.out 0; have hfz29_1:=blk_frozen BK321.out 1) | (go_at_call 59; (with_reducible refine (spec_l11Any.calls k a0_0 _ _ l0_1 _ _ l1 true _ ?side1 ?side2 ?side3 ?side4 A6.out).mono ?_); (case side1 => repeat (first | exact (Kd.C_below HR0_1.out HB.out) | (with_reducible refine Kd.C_alloc ?_ _) | (with_reducible refine Kd.C_drewN ?_ _) | (with_reducible refine Kd.C_drew ?_))); (case side2 => exact HC0_1.out); (case side3 => repeat (first | exact (Kd.C_below HR1.out HB.out) | (with_reducible refine Kd.C_alloc ?_ _) | (with_reducible refine Kd.C_drewN ?_ _) | (with_reducible refine Kd.C_drew ?_))); (case side4 => exact HC1.out); rintro e w30 ⟨rfl,hb⟩; have n0_:=zy (blk_below (g:=gb321) (o:=.cells #[.int .i64 a0_0,.slice A0_1 l0_1.length c0_1] 25 (0,0)) (by (with_reducible repeat (first | refine blk_drewN ?_ _ | refine blk_drew ?_ | refine blk_alloc ?_ _)); exact BK321.out) hb); have n1_:=zy (below_step (by repeat (first | (with_reducible first | exact HB.out | apply below_alloc | apply pw_below_drewN | apply below_drew1 | refine below_set ?_ GE321.out) | exact HB.out)) hb); clear BK321; clear HB; have BK321:=n0_; have HB:=n1_; clear n0_ n1_; (try clear hb); (try clear hb2); (try clear hk); (try clear hi); have hcz31_0 : w30.cell? ⟨gb321,0,none⟩ = some (.int .i64 a0_0):=(blk_cell BK321.out 0).trans rfl; have hcz31_1 : w30.cell? ⟨gb321,1,none⟩ = some (.slice A0_1 l0_1.length c0_1):=(blk_cell BK321.out 1).trans rfl; have hfz31_0:=blk_frozen BK321.out 0; have hfz31_1:=blk_frozen BK321.out 1) | (go_at_call 59; (with_reducible refine (spec_l11Any.calls k a0_0 _ _ l0_1 _ _ l2 false _ ?side1 ?side2 ?side3 ?side4 A8.out).mono ?_); (case side1 => repeat (first | exact (Kd.C_below HR0_1.out HB.out) | (with_reducible refine Kd.C_alloc ?_ _) | (with_reducible refine Kd.C_drewN ?_ _) | (with_reducible refine Kd.C_drew ?_))); (case side2 => exact HC0_1.out); (case side3 => repeat (first | exact (Kd.C_below HR2.out HB.out) | (with_reducible refine Kd.C_alloc ?_ _) | (with_reducible refine Kd.C_drewN ?_ _) | (with_reducible refine Kd.C_drew ?_))); (case side4 => exact HC2.out); rintro e w32 ⟨rfl,hb⟩; have n0_:=zy (blk_below (g:=gb321) (o:=.cells #[.int .i64 a0_0,.slice A0_1 l0_1.length c0_1] 25 (0,0)) (by (with_reducible repeat (first | refine blk_drewN ?_ _ | refine blk_drew ?_ | refine blk_alloc ?_ _)); exact BK321.out) hb); have n1_:=zy (below_step (by repeat (first | (with_reducible first | exact HB.out | apply below_alloc | apply pw_below_drewN | apply below_drew1 | refine below_set ?_ GE321.out) | exact HB.out)) hb); clear BK321; clear HB; have BK321:=n0_; have HB:=n1_; clear n0_ n1_; (try clear hb); (try clear hb2); (try clear hk); (try clear hi)))
  go_ret;exact ⟨by first | rfl | (simp [errW_none,errW_some] <;> rfl) | (simp [*,errW_none,errW_some] <;> rfl),by repeat (first | (with_reducible first | exact HB.out | apply below_alloc | apply pw_below_drewN | apply below_drew1 | refine below_set ?_ GE321.out) | exact HB.out)⟩
 subst c9;have H1 : (if (l1.length : Int) = (l2.length : Int) then ((spec_l1In.f (l1.length : Int) 1 5).bind fun t325 => (some t325)) else (some false)) = some r:=by rw [if_pos rfl] at H; exact H
 clear H;have H:=H1;clear H1
 by_cases c10 : (l1.length : Int) = (l2.length : Int)
 case neg =>
  rw [if_neg c10] at H;have c10b0 : ((l1.length : Int) == (l2.length : Int)) = false:=beq_eq_false_iff_ne.mpr c10;have c10b1 : ((l1.length : Int) != (l2.length : Int)) = true:=bne_iff_ne.mpr c10;have c10b2 : (l1.length == l2.length) = false:=by first | simpa using c10 | (simp at c10 ⊢; omega)
  obtain rfl:=Option.some.inj H
  go_enter Try.func35,Try.ntmps35
  go_wp2_with (first | ((with_reducible refine gate_dst (N:=3) rfl ?_); (try (refine gate_guard (by rfl) ?_; dsimp only)); refine box_event ?hg (N:=3) ?hd (cs:=#[.int .i64 a0_0,.slice A0_1 l0_1.length c0_1]) (t:=25) ?hr ?_; (case hd => rfl); (case hg => rfl); (case hr => first | (go_simp; done) | (go_simp; rfl)); intro gb321 hg w19 hbox hb; have n0_:=zy (below_step (by repeat (first | (with_reducible first | exact HB.out | apply below_alloc | apply pw_below_drewN | apply below_drew1) | exact HB.out)) hb); have n1_:=zy (hbox); have n2_:=zy ((by rw [hg]; exact (below_size (by repeat (first | (with_reducible first | exact HB.out | apply below_alloc | apply pw_below_drewN | apply below_drew1) | exact HB.out))) : w.heap.size ≤ gb321)); have n3_:=zy ((by rw [hg]; exact (below_size (by repeat (first | (with_reducible first | exact HB.out | apply below_alloc | apply pw_below_drewN | apply below_drew1) | exact HB.out))) : w.heap.size ≤ gb321)); clear HB; have HB:=n0_; have BK321:=n1_; have GW321:=n2_; have GE321:=n3_; clear n0_ n1_ n2_ n3_; clear hb hbox hg; have hcz20_0 : w19.cell? ⟨gb321,0,none⟩ = some (.int .i64 a0_0):=(blk_cell BK321.out 0).trans rfl; have hcz20_1 : w19.cell? ⟨gb321,1,none⟩ = some (.slice A0_1 l0_1.length c0_1):=(blk_cell BK321.out 1).trans rfl; have hfz20_0:=blk_frozen BK321.out 0; have hfz20_1:=blk_frozen BK321.out 1) | ((with_reducible refine gate_callee (f:=58) rfl ?_); refine goesL_ (some 8) rfl rfl Try.func58 (by kernel_rfl) rfl #[.agg #[.int .i64 a0_0,.slice A0_1 l0_1.length c0_1]] rfl (by (try simp only [List.map_toArray,List.map_cons,List.map_nil]); first | done | rfl | (simp only [List.length_drop,List.length_take]; rfl)) ?_; (with_reducible refine (spec_l1Ok.calls k a0_0 _ _ l0_1 true _ ?side1 ?side2 A4.out).mono ?_); (case side1 => repeat (first | exact (Kd.C_below HR0_1.out HB.out) | (with_reducible refine Kd.C_alloc ?_ _) | (with_reducible refine Kd.C_drewN ?_ _) | (with_reducible refine Kd.C_drew ?_))); (case side2 => exact HC0_1.out); rintro e w21 ⟨rfl,hb⟩; refine ⟨_,rfl,?_⟩; have n0_:=zy (blk_below (g:=gb321) (o:=.cells #[.int .i64 a0_0,.slice A0_1 l0_1.length c0_1] 25 (0,0)) (by (with_reducible repeat (first | refine blk_drewN ?_ _ | refine blk_drew ?_ | refine blk_alloc ?_ _)); exact BK321.out) hb); have n1_:=zy (below_step (by repeat (first | (with_reducible first | exact HB.out | apply below_alloc | apply pw_below_drewN | apply below_drew1 | refine below_set ?_ GE321.out) | exact HB.out)) hb); clear BK321; clear HB; have BK321:=n0_; have HB:=n1_; clear n0_ n1_; (try clear hb); (try clear hb2); (try clear hk); (try clear hi); have hcz22_0 : w21.cell? ⟨gb321,0,none⟩ = some (.int .i64 a0_0):=(blk_cell BK321.out 0).trans rfl; have hcz22_1 : w21.cell? ⟨gb321,1,none⟩ = some (.slice A0_1 l0_1.length c0_1):=(blk_cell BK321.out 1).trans rfl; have hfz22_0:=blk_frozen BK321.out 0; have hfz22_1:=blk_frozen BK321.out 1) | (go_at_call 59; (with_reducible refine (spec_l11Any.calls k a0_0 _ _ l0_1 _ _ l1 true _ ?side1 ?side2 ?side3 ?side4 A6.out).mono ?_); (case side1 => repeat (first | exact (Kd.C_below HR0_1.out HB.out) | (with_reducible refine Kd.C_alloc ?_ _) | (with_reducible refine Kd.C_drewN ?_ _) | (with_reducible refine Kd.C_drew ?_))); (case side2 => exact HC0_1.out); (case side3 => repeat (first | exact (Kd.C_below HR1.out HB.out) | (with_reducible refine Kd.C_alloc ?_ _) | (with_reducible refine Kd.C_drewN ?_ _) | (with_reducible refine Kd.C_drew ?_))); (case side4 => exact HC1.out); rintro e w23 ⟨rfl,hb⟩; have n0_:=zy (blk_below (g:=gb321) (o:=.cells #[.int .i64 a0_0,.slice A0_1 l0_1.length c0_1] 25 (0,0)) (by (with_reducible repeat (first | refine blk_drewN ?_ _ | refine blk_drew ?_ | refine blk_alloc ?_ _)); exact BK321.out) hb); have n1_:=zy (below_step (by repeat (first | (with_reducible first | exact HB.out | apply below_alloc | apply pw_below_drewN | apply below_drew1 | refine below_set ?_ GE321.out) | exact HB.out)) hb); clear BK321; clear HB; have BK321:=n0_; have HB:=n1_; clear n0_ n1_; (try clear hb); (try clear hb2); (try clear hk); (try clear hi); have hcz24_0 : w23.cell? ⟨gb321,0,none⟩ = some (.int .i64 a0_0):=(blk_cell BK321.out 0).trans rfl; have hcz24_1 : w23.cell? ⟨gb321,1,none⟩ = some (.slice A0_1 l0_1.length c0_1):=(blk_cell BK321.out 1).trans rfl; have hfz24_0:=blk_frozen BK321.out 0; have hfz24_1:=blk_frozen BK321.out 1) | (go_at_call 59; (with_reducible refine (spec_l11Any.calls k a0_0 _ _ l0_1 _ _ l2 true _ ?side1 ?side2 ?side3 ?side4 A8.out).mono ?_); (case side1 => repeat (first | exact (Kd.C_below HR0_1.out HB.out) | (with_reducible refine Kd.C_alloc ?_ _) | (with_reducible refine Kd.C_drewN ?_ _) | (with_reducible refine Kd.C_drew ?_))); (case side2 => exact HC0_1.out); (case side3 => repeat (first | exact (Kd.C_below HR2.out HB.out) | (with_reducible refine Kd.C_alloc ?_ _) | (with_reducible refine Kd.C_drewN ?_ _) | (with_reducible refine Kd.C_drew ?_))); (case side4 => exact HC2.out); rintro e w25 ⟨rfl,hb⟩; have n0_:=zy (blk_below (g:=gb321) (o:=.cells #[.int .i64 a0_0,.slice A0_1 l0_1.length c0_1] 25 (0,0)) (by (with_reducible repeat (first | refine blk_drewN ?_ _ | refine blk_drew ?_ | refine blk_alloc ?_ _)); exact BK321.out) hb); have n1_:=zy (below_step (by repeat (first | (with_reducible first | exact HB.out | apply below_alloc | apply pw_below_drewN | apply below_drew1 | refine below_set ?_ GE321.out) | exact HB.out)) hb); clear BK321; clear HB; have BK321:=n0_; have HB:=n1_; clear n0_ n1_; (try clear hb); (try clear hb2); (try clear hk); (try clear hi)))
  go_ret;exact ⟨by first | rfl | (simp [errW_none,errW_some] <;> rfl) | (simp [*,errW_none,errW_some] <;> rfl),by repeat (first | (with_reducible first | exact HB.out | apply below_alloc | apply pw_below_drewN | apply below_drew1 | refine below_set ?_ GE321.out) | exact HB.out)⟩
 rw [if_pos c10] at H;have c10b0 : ((l1.length : Int) == (l2.length : Int)) = true:=beq_iff_eq.mpr c10;have c10b1 : ((l1.length : Int) != (l2.length : Int)) = false:=bne_eq_false_iff_eq.mpr c10;have c10b2 : (l1.length == l2.length) = true:=by first | simpa using c10 | (simp at c10 ⊢; omega)
 clear c10;replace H:=Option.bind_eq_some_iff.mp H;obtain ⟨t325,A110,H⟩:=H;replace H : (some t325) = some r:=H;have A11:=zy A110;clear A110;obtain rfl:=Option.some.inj H
 go_enter Try.func35,Try.ntmps35
 go_wp2_with (first | ((with_reducible refine gate_dst (N:=3) rfl ?_); (try (refine gate_guard (by rfl) ?_; dsimp only)); refine box_event ?hg (N:=3) ?hd (cs:=#[.int .i64 a0_0,.slice A0_1 l0_1.length c0_1]) (t:=25) ?hr ?_; (case hd => rfl); (case hg => rfl); (case hr => first | (go_simp; done) | (go_simp; rfl)); intro gb321 hg w12 hbox hb; have n0_:=zy (below_step (by repeat (first | (with_reducible first | exact HB.out | apply below_alloc | apply pw_below_drewN | apply below_drew1) | exact HB.out)) hb); have n1_:=zy (hbox); have n2_:=zy ((by rw [hg]; exact (below_size (by repeat (first | (with_reducible first | exact HB.out | apply below_alloc | apply pw_below_drewN | apply below_drew1) | exact HB.out))) : w.heap.size ≤ gb321)); have n3_:=zy ((by rw [hg]; exact (below_size (by repeat (first | (with_reducible first | exact HB.out | apply below_alloc | apply pw_below_drewN | apply below_drew1) | exact HB.out))) : w.heap.size ≤ gb321)); clear HB; have HB:=n0_; have BK321:=n1_; have GW321:=n2_; have GE321:=n3_; clear n0_ n1_ n2_ n3_; clear hb hbox hg; have hcz13_0 : w12.cell? ⟨gb321,0,none⟩ = some (.int .i64 a0_0):=(blk_cell BK321.out 0).trans rfl; have hcz13_1 : w12.cell? ⟨gb321,1,none⟩ = some (.slice A0_1 l0_1.length c0_1):=(blk_cell BK321.out 1).trans rfl; have hfz13_0:=blk_frozen BK321.out 0; have hfz13_1:=blk_frozen BK321.out 1) | ((with_reducible refine gate_callee (f:=58) rfl ?_); refine goesL_ (some 8) rfl rfl Try.func58 (by kernel_rfl) rfl #[.agg #[.int .i64 a0_0,.slice A0_1 l0_1.length c0_1]] rfl (by (try simp only [List.map_toArray,List.map_cons,List.map_nil]); first | done | rfl | (simp only [List.length_drop,List.length_take]; rfl)) ?_; (with_reducible refine (spec_l1Ok.calls k a0_0 _ _ l0_1 true _ ?side1 ?side2 A4.out).mono ?_); (case side1 => repeat (first | exact (Kd.C_below HR0_1.out HB.out) | (with_reducible refine Kd.C_alloc ?_ _) | (with_reducible refine Kd.C_drewN ?_ _) | (with_reducible refine Kd.C_drew ?_))); (case side2 => exact HC0_1.out); rintro e w14 ⟨rfl,hb⟩; refine ⟨_,rfl,?_⟩; have n0_:=zy (blk_below (g:=gb321) (o:=.cells #[.int .i64 a0_0,.slice A0_1 l0_1.length c0_1] 25 (0,0)) (by (with_reducible repeat (first | refine blk_drewN ?_ _ | refine blk_drew ?_ | refine blk_alloc ?_ _)); exact BK321.out) hb); have n1_:=zy (below_step (by repeat (first | (with_reducible first | exact HB.out | apply below_alloc | apply pw_below_drewN | apply below_drew1 | refine below_set ?_ GE321.out) | exact HB.out)) hb); clear BK321; clear HB; have BK321:=n0_; have HB:=n1_; clear n0_ n1_; (try clear hb); (try clear hb2); (try clear hk); (try clear hi); have hcz15_0 : w14.cell? ⟨gb321,0,none⟩ = some (.int .i64 a0_0):=(blk_cell BK321.out 0).trans rfl; have hcz15_1 : w14.cell? ⟨gb321,1,none⟩ = some (.slice A0_1 l0_1.length c0_1):=(blk_cell BK321.out 1).trans rfl; have hfz15_0:=blk_frozen BK321.out 0; have hfz15_1:=blk_frozen BK321.out 1) | (go_at_call 59; (with_reducible refine (spec_l11Any.calls k a0_0 _ _ l0_1 _ _ l1 true _ ?side1 ?side2 ?side3 ?side4 A6.out).mono ?_); (case side1 => repeat (first | exact (Kd.C_below HR0_1.out HB.out) | (with_reducible refine Kd.C_alloc ?_ _) | (with_reducible refine Kd.C_drewN ?_ _) | (with_reducible refine Kd.C_drew ?_))); (case side2 => exact HC0_1.out); (case side3 => repeat (first | exact (Kd.C_below HR1.out HB.out) | (with_reducible refine Kd.C_alloc ?_ _) | (with_reducible refine Kd.C_drewN ?_ _) | (with_reducible refine Kd.C_drew ?_))); (case side4 => exact HC1.out); rintro e w16 ⟨rfl,hb⟩; have n0_:=zy (blk_below (g:=gb321) (o:=.cells #[.int .i64 a0_0,.slice A0_1 l0_1.length c0_1] 25 (0,0)) (by (with_reducible repeat (first | refine blk_drewN ?_ _ | refine blk_drew ?_ | refine blk_alloc ?_ _)); exact BK321.out) hb); have n1_:=zy (below_step (by repeat (first | (with_reducible first | exact HB.out | apply below_alloc | apply pw_below_drewN | apply below_drew1 | refine below_set ?_ GE321.out) | exact HB.out)) hb); clear BK321; clear HB; have BK321:=n0_; have HB:=n1_; clear n0_ n1_; (try clear hb); (try clear hb2); (try clear hk); (try clear hi); have hcz17_0 : w16.cell? ⟨gb321,0,none⟩ = some (.int .i64 a0_0):=(blk_cell BK321.out 0).trans rfl; have hcz17_1 : w16.cell? ⟨gb321,1,none⟩ = some (.slice A0_1 l0_1.length c0_1):=(blk_cell BK321.out 1).trans rfl; have hfz17_0:=blk_frozen BK321.out 0; have hfz17_1:=blk_frozen BK321.out 1) | (go_at_call 59; (with_reducible refine (spec_l11Any.calls k a0_0 _ _ l0_1 _ _ l2 true _ ?side1 ?side2 ?side3 ?side4 A8.out).mono ?_); (case side1 => repeat (first | exact (Kd.C_below HR0_1.out HB.out) | (with_reducible refine Kd.C_alloc ?_ _) | (with_reducible refine Kd.C_drewN ?_ _) | (with_reducible refine Kd.C_drew ?_))); (case side2 => exact HC0_1.out); (case side3 => repeat (first | exact (Kd.C_below HR2.out HB.out) | (with_reducible refine Kd.C_alloc ?_ _) | (with_reducible refine Kd.C_drewN ?_ _) | (with_reducible refine Kd.C_drew ?_))); (case side4 => exact HC2.out); rintro e w18 ⟨rfl,hb⟩; have n0_:=zy (blk_below (g:=gb321) (o:=.cells #[.int .i64 a0_0,.slice A0_1 l0_1.length c0_1] 25 (0,0)) (by (with_reducible repeat (first | refine blk_drewN ?_ _ | refine blk_drew ?_ | refine blk_alloc ?_ _)); exact BK321.out) hb); have n1_:=zy (below_step (by repeat (first | (with_reducible first | exact HB.out | apply below_alloc | apply pw_below_drewN | apply below_drew1 | refine below_set ?_ GE321.out) | exact HB.out)) hb); clear BK321; clear HB; have BK321:=n0_; have HB:=n1_; clear n0_ n1_; (try clear hb); (try clear hb2); (try clear hk); (try clear hi)) | (go_at_call 60; (with_reducible refine (spec_l1In.calls (l1.length : Int) 1 5 t325 _ A11.out).mono ?_); rintro e w' ⟨rfl,⟨nd,rfl⟩⟩))
 go_ret;exact ⟨by first | rfl | (simp [errW_none,errW_some] <;> rfl) | (simp [*,errW_none,errW_some] <;> rfl),by repeat (first | (with_reducible first | exact HB.out | apply below_alloc | apply pw_below_drewN | apply below_drew1 | refine below_set ?_ GE321.out) | exact HB.out)⟩
def spec_l27Cost.l0 : Nat → List (List Int) → List Int → Int → Int → Option (Int)
 | 0,_,_,_,_ => none
 | k + 1,x0,x1,x5,x6 => if x6 < (x1.length : Int) then (if 0 ≤ x6 then (if x6 < (x0.length : Int) then (if 0 ≤ (rd x1 x6) then (if (rd x1 x6) < ((rd_L3 x0 x6).length : Int) then (if (rd (rd_L3 x0 x6) (rd x1 x6)) ≥ 99999 then (some 99999) else (spec_l27Cost.l0 k x0 x1 (wrap64 (x5 + (rd (rd_L3 x0 x6) (rd x1 x6)))) (wrap64 (x6 + 1)))) else (none)) else (none)) else (none)) else (none)) else (some x5)
def spec_l27Cost.f (k : Nat) (l0 : List (List Int)) (l1 : List Int) : Option (Int):=spec_l27Cost.l0 k l0 l1 0 0
set_option maxHeartbeats 8000000 in
set_option maxRecDepth 100000 in
theorem spec_l27Cost.calls (k : Nat) (A0 : Option Addr) (c0 : Nat) (l0 : List (List Int)) (A1 : Option Addr) (c1 : Nat) (l1 : List Int) (r : Int) (w : World) (hr0 : Kd.C (Kd.slice 3 (Kd.int .i64)) w A0 l0.length l0) (hc0 : l0.length ≤ c0) (hr1 : Kd.C (Kd.int .i64) w A1 l1.length l1) (hc1 : l1.length ≤ c1) (h : spec_l27Cost.f k l0 l1 = some r) :
  Calls Try.prog 45 #[.slice A0 l0.length c0,.slice A1 l1.length c1] w fun e w' => e = .returned (.int .i64 r) ∧ Drawn0 w w':=by
 have HR0:=zy hr0;have HC0:=zy hc0;clear hr0 hc0;have HR1:=zy hr1;have HC1:=zy hc1;clear hr1 hc1;have H : (spec_l27Cost.l0 k l0 l1 0 0) = some r:=h;clear h;have H':=zy H;clear H
 go_enter Try.func45,Try.ntmps45
 go_wp2
 repeat (go_quiet (fail); try go_wp2)
 go_loopg [5,6] k (fun kq v5 v6 w' => ∃ (x5_1 : Int) (x6_1 : Int),v5 = .int .i64 x5_1 ∧ v6 = .int .i64 x6_1 ∧ Aside0 (spec_l27Cost.l0 kq l0 l1 x5_1 x6_1 = some r) ∧ Aside0 (kq ≤ k) ∧ Drawn0 w w')
 case atStart => exact ⟨(0),(0),(by first | rfl | (simp; done) | (simp [*]; done)),(by first | rfl | (simp; done) | (simp [*]; done)),H',⟨Nat.le_refl _⟩,by repeat (first | exact Drawn0.refl _ | apply Drawn0.step)⟩
 case round =>
  clear H'
  try clear c1
  try clear p2
  obtain ⟨x5_1,x6_1,rfl,rfl,HA,HK1,⟨m1,rfl⟩⟩:=hrel;cases gk with
  | zero => exact absurd HA.out (by simp [spec_l27Cost.l0])
  | succ k1 =>
   have H:=HA.out;clear HA;simp only [spec_l27Cost.l0] at H
   by_cases c3 : x6_1 < (l1.length : Int)
   case neg =>
    rw [if_neg c3] at H;have c3b0 : decide (x6_1 < (l1.length : Int)) = false:=decide_eq_false c3;clear c3;obtain rfl:=Option.some.inj H
    go_wp2
    repeat (go_quiet (fail); try go_wp2)
    go_ret;exact ⟨by first | rfl | (simp; done) | (simp [*]; done),by repeat (first | exact Drawn0.refl _ | apply Drawn0.step)⟩
   rw [if_pos c3] at H;have c3b0 : decide (x6_1 < (l1.length : Int)) = true:=decide_eq_true c3;clear c3
   by_cases c4 : 0 ≤ x6_1
   case neg =>
    rw [if_neg c4] at H;exact absurd H (by simp)
   rw [if_pos c4] at H;have c4b0 : decide (0 ≤ x6_1) = true:=decide_eq_true c4;clear c4
   by_cases c5 : x6_1 < (l0.length : Int)
   case neg =>
    rw [if_neg c5] at H;exact absurd H (by simp)
   rw [if_pos c5] at H;have c5b0 : decide (x6_1 < (l0.length : Int)) = true:=decide_eq_true c5;clear c5
   by_cases c6 : 0 ≤ (rd l1 x6_1)
   case neg =>
    rw [if_neg c6] at H;exact absurd H (by simp)
   rw [if_pos c6] at H;have c6b0 : decide (0 ≤ (rd l1 x6_1)) = true:=decide_eq_true c6;clear c6
   by_cases c7 : (rd l1 x6_1) < ((rd_L3 l0 x6_1).length : Int)
   case neg =>
    rw [if_neg c7] at H;exact absurd H (by simp)
   rw [if_pos c7] at H;have c7b0 : decide ((rd l1 x6_1) < ((rd_L3 l0 x6_1).length : Int)) = true:=decide_eq_true c7;clear c7
   by_cases c8 : (rd (rd_L3 l0 x6_1) (rd l1 x6_1)) ≥ 99999
   case pos =>
    rw [if_pos c8] at H;have c8b0 : decide (99999 ≤ (rd (rd_L3 l0 x6_1) (rd l1 x6_1))) = true:=decide_eq_true c8;clear c8;obtain rfl:=Option.some.inj H;have p326 : 0 ≤ (x6_1 : Int):=of_decide_eq_true (by first | (with_reducible assumption) | assumption);have q326 : x6_1 < (l0.length : Int):=of_decide_eq_true (by first | (with_reducible assumption) | assumption);obtain ⟨ad326,A326_0,c326_0,e326,hx326_0,hl326_0,hi326_0⟩:=at_L3 HR0.out x6_1 p326 q326;cases e326;have HR326_0:=zy hi326_0;have HC326_0:=zy hl326_0;clear hi326_0 hl326_0;replace p326:=eq_true p326;replace q326:=eq_true q326;have p327 : 0 ≤ (x6_1 : Int):=of_decide_eq_true (by first | (with_reducible assumption) | assumption);have q327 : x6_1 < (l1.length : Int):=of_decide_eq_true (by first | (with_reducible assumption) | assumption);obtain ⟨ad327,e327,hx327_0⟩:=Kd.at_int HR1.out x6_1 p327 q327;cases e327;replace p327:=eq_true p327;replace q327:=eq_true q327;have p328 : 0 ≤ ((rd l1 x6_1) : Int):=of_decide_eq_true (by first | (with_reducible assumption) | assumption);have q328 : (rd l1 x6_1) < ((rd_L3 l0 x6_1).length : Int):=of_decide_eq_true (by first | (with_reducible assumption) | assumption);obtain ⟨ad328,e328,hx328_0⟩:=Kd.at_int HR326_0.out (rd l1 x6_1) p328 q328;cases e328;replace p328:=eq_true p328;replace q328:=eq_true q328
    go_wp2
    repeat (go_quiet (fail); try go_wp2)
    go_ret;exact ⟨by first | rfl | (simp; done) | (simp [*]; done),by repeat (first | exact Drawn0.refl _ | apply Drawn0.step)⟩
   rw [if_neg c8] at H;have c8b0 : decide (99999 ≤ (rd (rd_L3 l0 x6_1) (rd l1 x6_1))) = false:=decide_eq_false c8;clear c8;have H':=zy H;clear H;have p326 : 0 ≤ (x6_1 : Int):=of_decide_eq_true (by first | (with_reducible assumption) | assumption);have q326 : x6_1 < (l0.length : Int):=of_decide_eq_true (by first | (with_reducible assumption) | assumption);obtain ⟨ad326,A326_0,c326_0,e326,hx326_0,hl326_0,hi326_0⟩:=at_L3 HR0.out x6_1 p326 q326;cases e326;have HR326_0:=zy hi326_0;have HC326_0:=zy hl326_0;clear hi326_0 hl326_0;replace p326:=eq_true p326;replace q326:=eq_true q326;have p327 : 0 ≤ (x6_1 : Int):=of_decide_eq_true (by first | (with_reducible assumption) | assumption);have q327 : x6_1 < (l1.length : Int):=of_decide_eq_true (by first | (with_reducible assumption) | assumption);obtain ⟨ad327,e327,hx327_0⟩:=Kd.at_int HR1.out x6_1 p327 q327;cases e327;replace p327:=eq_true p327;replace q327:=eq_true q327;have p328 : 0 ≤ ((rd l1 x6_1) : Int):=of_decide_eq_true (by first | (with_reducible assumption) | assumption);have q328 : (rd l1 x6_1) < ((rd_L3 l0 x6_1).length : Int):=of_decide_eq_true (by first | (with_reducible assumption) | assumption);obtain ⟨ad328,e328,hx328_0⟩:=Kd.at_int HR326_0.out (rd l1 x6_1) p328 q328;cases e328;replace p328:=eq_true p328;replace q328:=eq_true q328;have p329 : 0 ≤ (x6_1 : Int):=of_decide_eq_true (by first | (with_reducible assumption) | assumption);have q329 : x6_1 < (l0.length : Int):=of_decide_eq_true (by first | (with_reducible assumption) | assumption);obtain ⟨ad329,A329_0,c329_0,e329,hx329_0,hl329_0,hi329_0⟩:=at_L3 HR0.out x6_1 p329 q329;obtain rfl : ad326 = ad329:=(by injection e329)
   have HR329_0:=zy hi329_0;have HC329_0:=zy hl329_0;clear hi329_0 hl329_0;replace p329:=eq_true p329;replace q329:=eq_true q329;have ea_:=Option.some.inj (hx326_0.symm.trans hx329_0);injection ea_ with ea_ en_ ec_
   subst ea_;subst ec_;clear en_;have p330 : 0 ≤ (x6_1 : Int):=of_decide_eq_true (by first | (with_reducible assumption) | assumption);have q330 : x6_1 < (l1.length : Int):=of_decide_eq_true (by first | (with_reducible assumption) | assumption);obtain ⟨ad330,e330,hx330_0⟩:=Kd.at_int HR1.out x6_1 p330 q330;obtain rfl : ad327 = ad330:=(by injection e330)
   replace p330:=eq_true p330;replace q330:=eq_true q330;have p331 : 0 ≤ ((rd l1 x6_1) : Int):=of_decide_eq_true (by first | (with_reducible assumption) | assumption);have q331 : (rd l1 x6_1) < ((rd_L3 l0 x6_1).length : Int):=of_decide_eq_true (by first | (with_reducible assumption) | assumption);obtain ⟨ad331,e331,hx331_0⟩:=Kd.at_int HR329_0.out (rd l1 x6_1) p331 q331;cases e331;replace p331:=eq_true p331;replace q331:=eq_true q331
   go_wp2
   repeat (go_quiet (fail); try go_wp2)
   go_roundg k1
   case measure => have:=HK1.out; omega
   case rel => exact ⟨(wrap64 (x5_1 + (rd (rd_L3 l0 x6_1) (rd l1 x6_1)))),(wrap64 (x6_1 + 1)),(by first | rfl | (simp; done) | (simp [*]; done)),(by first | rfl | (simp; done) | (simp [*]; done)),H',⟨by have:=HK1.out; omega⟩,by repeat (first | exact Drawn0.refl _ | apply Drawn0.step)⟩
def spec_l11Nodes.l0 : Nat → List Int → Int → Int → List (S80) → Option (Bool)
 | 0,_,_,_,_ => none
 | k + 1,x1,x5,x355000,x355001 => if x5 < (x1.length : Int) then (if 0 ≤ x5 then ((spec_l1In.f (rd x1 x5) 0 (wrap64 (x355000 - 1))).bind fun t356 => (if t356 = true then (spec_l11Nodes.l0 k x1 (wrap64 (x5 + 1)) x355000 x355001) else (some false))) else (none)) else (some (decide ((x1.length : Int) ≤ 8)))
def spec_l11Nodes.f (k : Nat) (a0_0 : Int) (l0_1 : List (S80)) (l1 : List Int) : Option (Bool):=spec_l11Nodes.l0 k l1 0 a0_0 l0_1
set_option maxHeartbeats 8000000 in
set_option maxRecDepth 100000 in
theorem spec_l11Nodes.calls (k : Nat) (a0_0 : Int) (A0_1 : Option Addr) (c0_1 : Nat) (l0_1 : List (S80)) (A1 : Option Addr) (c1 : Nat) (l1 : List Int) (r : Bool) (w : World) (hr0_1 : Kd.C k80 w A0_1 l0_1.length l0_1) (hc0_1 : l0_1.length ≤ c0_1) (hr1 : Kd.C (Kd.int .i64) w A1 l1.length l1) (hc1 : l1.length ≤ c1) (h : spec_l11Nodes.f k a0_0 l0_1 l1 = some r) :
  Calls Try.prog 62 #[.agg #[.int .i64 a0_0,.slice A0_1 l0_1.length c0_1],.slice A1 l1.length c1] w fun e w' => e = .returned (.bool r) ∧ Below w.heap.size w w':=by
 have hu25:=Try.underlying25;have HR0_1:=zy hr0_1;have HC0_1:=zy hc0_1;clear hr0_1 hc0_1;have HR1:=zy hr1;have HC1:=zy hc1;clear hr1 hc1;have HB:=zy (Below.refl w.heap.size w);have H : (spec_l11Nodes.l0 k l1 0 a0_0 l0_1) = some r:=h;clear h;have H':=zy H;clear H
 go_enter Try.func62,Try.ntmps62
 go_wp2_with (first | ((with_reducible refine gate_dst (N:=2) rfl ?_); refine box_event ?hg (N:=2) ?hd (cs:=#[.int .i64 a0_0,.slice A0_1 l0_1.length c0_1]) (t:=25) ?hr ?_; (case hd => rfl); (case hg => rfl); (case hr => first | (go_simp; done) | (go_simp; rfl)); intro gb354 hg w3 hbox hb; have n0_:=zy (below_step (by repeat (first | (with_reducible first | exact HB.out | apply below_alloc | apply pw_below_drewN | apply below_drew1) | exact HB.out)) hb); have n1_:=zy (hbox); have n2_:=zy ((by rw [hg]; exact (below_size (by repeat (first | (with_reducible first | exact HB.out | apply below_alloc | apply pw_below_drewN | apply below_drew1) | exact HB.out))) : w.heap.size ≤ gb354)); have n3_:=zy ((by rw [hg]; exact (below_size (by repeat (first | (with_reducible first | exact HB.out | apply below_alloc | apply pw_below_drewN | apply below_drew1) | exact HB.out))) : w.heap.size ≤ gb354)); clear HB; have HB:=n0_; have BK354:=n1_; have GW354:=n2_; have GE354:=n3_; clear n0_ n1_ n2_ n3_; clear hb hbox hg))
 repeat (go_quiet (first | ((with_reducible refine gate_dst (N:=2) rfl ?_); refine box_event ?hg (N:=2) ?hd (cs:=#[.int .i64 a0_0,.slice A0_1 l0_1.length c0_1]) (t:=25) ?hr ?_; (case hd => rfl); (case hg => rfl); (case hr => first | (go_simp; done) | (go_simp; rfl)); intro gb354 hg w3 hbox hb; have n0_:=zy (below_step (by repeat (first | (with_reducible first | exact HB.out | apply below_alloc | apply pw_below_drewN | apply below_drew1) | exact HB.out)) hb); have n1_:=zy (hbox); have n2_:=zy ((by rw [hg]; exact (below_size (by repeat (first | (with_reducible first | exact HB.out | apply below_alloc | apply pw_below_drewN | apply below_drew1) | exact HB.out))) : w.heap.size ≤ gb354)); have n3_:=zy ((by rw [hg]; exact (below_size (by repeat (first | (with_reducible first | exact HB.out | apply below_alloc | apply pw_below_drewN | apply below_drew1) | exact HB.out))) : w.heap.size ≤ gb354)); clear HB; have HB:=n0_; have BK354:=n1_; have GW354:=n2_; have GE354:=n3_; clear n0_ n1_ n2_ n3_; clear hb hbox hg)); try go_wp2_with (first | ((with_reducible refine gate_dst (N:=2) rfl ?_); refine box_event ?hg (N:=2) ?hd (cs:=#[.int .i64 a0_0,.slice A0_1 l0_1.length c0_1]) (t:=25) ?hr ?_; (case hd => rfl); (case hg => rfl); (case hr => first | (go_simp; done) | (go_simp; rfl)); intro gb354 hg w3 hbox hb; have n0_:=zy (below_step (by repeat (first | (with_reducible first | exact HB.out | apply below_alloc | apply pw_below_drewN | apply below_drew1) | exact HB.out)) hb); have n1_:=zy (hbox); have n2_:=zy ((by rw [hg]; exact (below_size (by repeat (first | (with_reducible first | exact HB.out | apply below_alloc | apply pw_below_drewN | apply below_drew1) | exact HB.out))) : w.heap.size ≤ gb354)); have n3_:=zy ((by rw [hg]; exact (below_size (by repeat (first | (with_reducible first | exact HB.out | apply below_alloc | apply pw_below_drewN | apply below_drew1) | exact HB.out))) : w.heap.size ≤ gb354)); clear HB; have HB:=n0_; have BK354:=n1_; have GW354:=n2_; have GE354:=n3_; clear n0_ n1_ n2_ n3_; clear hb hbox hg)))
 go_loopg [5] k (fun kq v5 w' => ∃ (x5_1 : Int),v5 = .int .i64 x5_1 ∧ Aside0 (spec_l11Nodes.l0 kq l1 x5_1 a0_0 l0_1 = some r) ∧ Aside0 (kq ≤ k) ∧ Aside0 (w'.heap[gb354]? = some (.cells #[.int .i64 a0_0,(.slice A0_1 l0_1.length c0_1)] 25 (0,0))) ∧ Aside0 (Below w.heap.size w w'))
 case atStart => exact ⟨(0),(by first | rfl | (simp; done) | (simp [*]; done)),H',⟨Nat.le_refl _⟩,⟨by (with_reducible repeat (first | refine blk_drewN ?_ _ | refine blk_drew ?_ | refine blk_alloc ?_ _)); exact BK354.out⟩,⟨by repeat (first | (with_reducible first | exact HB.out | apply below_alloc | apply pw_below_drewN | apply below_drew1 | refine below_set ?_ GE354.out) | exact HB.out)⟩⟩
 case round =>
  clear H'
  try clear c1
  try clear p2
  obtain ⟨x5_1,rfl,HA,HK1,BK354,HB⟩:=hrel;cases gk with
  | zero => exact absurd HA.out (by simp [spec_l11Nodes.l0])
  | succ k1 =>
   have H:=HA.out;clear HA;simp only [spec_l11Nodes.l0] at H
   by_cases c4 : x5_1 < (l1.length : Int)
   case neg =>
    rw [if_neg c4] at H;have c4b0 : decide (x5_1 < (l1.length : Int)) = false:=decide_eq_false c4;clear c4;obtain rfl:=Option.some.inj H
    go_wp2
    repeat (go_quiet (fail); try go_wp2)
    go_ret;exact ⟨by first | rfl | (simp [errW_none,errW_some] <;> rfl) | (simp [*,errW_none,errW_some] <;> rfl),by repeat (first | (with_reducible first | exact HB.out | apply below_alloc | apply pw_below_drewN | apply below_drew1 | refine below_set ?_ GE354.out) | exact HB.out)⟩
   rw [if_pos c4] at H;have c4b0 : decide (x5_1 < (l1.length : Int)) = true:=decide_eq_true c4;clear c4
   by_cases c5 : 0 ≤ x5_1
   case neg =>
    rw [if_neg c5] at H;exact absurd H (by simp)
   rw [if_pos c5] at H;have c5b0 : decide (0 ≤ x5_1) = true:=decide_eq_true c5;clear c5;replace H:=Option.bind_eq_some_iff.mp H;obtain ⟨t356,A60,H⟩:=H;replace H : (if t356 = true then (spec_l11Nodes.l0 k1 l1 (wrap64 (x5_1 + 1)) a0_0 l0_1) else (some false)) = some r:=H;have A6:=zy A60;clear A60
   by_cases c7 : t356 = true
   case neg =>
    replace c7:=Bool.eq_false_iff.mpr c7;subst c7;have H1 : (some false) = some r:=by rw [if_neg (show ¬ (false = true) by decide)] at H; exact H
    clear H;have H:=H1;clear H1;obtain rfl:=Option.some.inj H;have p355 : 0 ≤ (x5_1 : Int):=of_decide_eq_true (by first | (with_reducible assumption) | assumption);have q355 : x5_1 < (l1.length : Int):=of_decide_eq_true (by first | (with_reducible assumption) | assumption);obtain ⟨ad355,e355,hx355_0⟩:=Kd.at_int HR1.out x5_1 p355 q355;cases e355;replace hx355_0:=(HB.out.cell (World.block_lt_of_cell? w _ hx355_0)).trans hx355_0;replace p355:=eq_true p355;replace q355:=eq_true q355;have hcz9_0 : wr.cell? ⟨gb354,0,none⟩ = some (.int .i64 a0_0):=(blk_cell BK354.out 0).trans rfl;have hcz9_1 : wr.cell? ⟨gb354,1,none⟩ = some (.slice A0_1 l0_1.length c0_1):=(blk_cell BK354.out 1).trans rfl;have hfz9_0:=blk_frozen BK354.out 0;have hfz9_1:=blk_frozen BK354.out 1
    go_wp2_with (first | (go_at_call 60; (with_reducible refine (spec_l1In.calls (rd l1 x5_1) 0 (wrap64 (a0_0 - 1)) false _ A6.out).mono ?_); rintro e w' ⟨rfl,⟨nd,rfl⟩⟩; (try first | exact ⟨rfl,_,World.drewN_drewN _ _ _⟩ | exact ⟨rfl,_,Eq.trans (World.drewN_drewN _ _ _) (congrArg (World.drewN _) (Nat.add_assoc _ _ _))⟩)))
    repeat (go_quiet (first | (go_at_call 60; (with_reducible refine (spec_l1In.calls (rd l1 x5_1) 0 (wrap64 (a0_0 - 1)) false _ A6.out).mono ?_); rintro e w' ⟨rfl,⟨nd,rfl⟩⟩; (try first | exact ⟨rfl,_,World.drewN_drewN _ _ _⟩ | exact ⟨rfl,_,Eq.trans (World.drewN_drewN _ _ _) (congrArg (World.drewN _) (Nat.add_assoc _ _ _))⟩))); try go_wp2_with (first | (go_at_call 60; (with_reducible refine (spec_l1In.calls (rd l1 x5_1) 0 (wrap64 (a0_0 - 1)) false _ A6.out).mono ?_); rintro e w' ⟨rfl,⟨nd,rfl⟩⟩; (try first | exact ⟨rfl,_,World.drewN_drewN _ _ _⟩ | exact ⟨rfl,_,Eq.trans (World.drewN_drewN _ _ _) (congrArg (World.drewN _) (Nat.add_assoc _ _ _))⟩))))
    go_ret;exact ⟨by first | rfl | (simp [errW_none,errW_some] <;> rfl) | (simp [*,errW_none,errW_some] <;> rfl),by repeat (first | (with_reducible first | exact HB.out | apply below_alloc | apply pw_below_drewN | apply below_drew1 | refine below_set ?_ GE354.out) | exact HB.out)⟩
   subst c7;have H1 : (spec_l11Nodes.l0 k1 l1 (wrap64 (x5_1 + 1)) a0_0 l0_1) = some r:=by rw [if_pos rfl] at H; exact H
   clear H;have H:=H1;clear H1;have H':=zy H;clear H;have p355 : 0 ≤ (x5_1 : Int):=of_decide_eq_true (by first | (with_reducible assumption) | assumption);have q355 : x5_1 < (l1.length : Int):=of_decide_eq_true (by first | (with_reducible assumption) | assumption);obtain ⟨ad355,e355,hx355_0⟩:=Kd.at_int HR1.out x5_1 p355 q355;cases e355;replace hx355_0:=(HB.out.cell (World.block_lt_of_cell? w _ hx355_0)).trans hx355_0;replace p355:=eq_true p355;replace q355:=eq_true q355;have hcz8_0 : wr.cell? ⟨gb354,0,none⟩ = some (.int .i64 a0_0):=(blk_cell BK354.out 0).trans rfl;have hcz8_1 : wr.cell? ⟨gb354,1,none⟩ = some (.slice A0_1 l0_1.length c0_1):=(blk_cell BK354.out 1).trans rfl;have hfz8_0:=blk_frozen BK354.out 0;have hfz8_1:=blk_frozen BK354.out 1
   go_wp2_with (first | (go_at_call 60; (with_reducible refine (spec_l1In.calls (rd l1 x5_1) 0 (wrap64 (a0_0 - 1)) true _ A6.out).mono ?_); rintro e w' ⟨rfl,⟨nd,rfl⟩⟩; (try first | exact ⟨rfl,_,World.drewN_drewN _ _ _⟩ | exact ⟨rfl,_,Eq.trans (World.drewN_drewN _ _ _) (congrArg (World.drewN _) (Nat.add_assoc _ _ _))⟩)))
   repeat (go_quiet (first | (go_at_call 60; (with_reducible refine (spec_l1In.calls (rd l1 x5_1) 0 (wrap64 (a0_0 - 1)) true _ A6.out).mono ?_); rintro e w' ⟨rfl,⟨nd,rfl⟩⟩; (try first | exact ⟨rfl,_,World.drewN_drewN _ _ _⟩ | exact ⟨rfl,_,Eq.trans (World.drewN_drewN _ _ _) (congrArg (World.drewN _) (Nat.add_assoc _ _ _))⟩))); try go_wp2_with (first | (go_at_call 60; (with_reducible refine (spec_l1In.calls (rd l1 x5_1) 0 (wrap64 (a0_0 - 1)) true _ A6.out).mono ?_); rintro e w' ⟨rfl,⟨nd,rfl⟩⟩; (try first | exact ⟨rfl,_,World.drewN_drewN _ _ _⟩ | exact ⟨rfl,_,Eq.trans (World.drewN_drewN _ _ _) (congrArg (World.drewN _) (Nat.add_assoc _ _ _))⟩))))
   go_roundg k1
   case measure => have:=HK1.out; omega
   case rel => exact ⟨(wrap64 (x5_1 + 1)),(by first | rfl | (simp; done) | (simp [*]; done)),H',⟨by have:=HK1.out; omega⟩,⟨by (with_reducible repeat (first | refine blk_drewN ?_ _ | refine blk_drew ?_ | refine blk_alloc ?_ _)); exact BK354.out⟩,⟨by repeat (first | (with_reducible first | exact HB.out | apply below_alloc | apply pw_below_drewN | apply below_drew1 | refine below_set ?_ GE354.out) | exact HB.out)⟩⟩
abbrev Y:=true
abbrev U:=false
mutual
def spec_l3All.l0 : Nat → Int → List Int → Int → Int → List (S80) → Option (List Int)
 | 0,_,_,_,_,_ => none
 | k + 1,x1,x5,x6,q0,p8 => if x6 < q0 then (if 0 ≤ x6 then (if x6 < (x5.length : Int) then (spec_l3All.l0 k x1 (x5.set (x6 : Int).toNat 99999) (wrap64 (x6 + 1)) q0 p8) else (none)) else (none)) else (if 0 ≤ x1 then (if x1 < (x5.length : Int) then (spec_l3All.l1 k (x5.set (x1 : Int).toNat 0) 0 q0 p8) else (none)) else (none))
def spec_l3All.l1 : Nat → List Int → Int → Int → List (S80) → Option (List Int)
 | 0,_,_,_,_ => none
 | k + 1,x5,x7,q0,p8 => if x7 < q0 then (spec_l3All.l2 k x5 x7 0 q0 p8) else (some x5)
def spec_l3All.l2 : Nat → List Int → Int → Int → Int → List (S80) → Option (List Int)
 | 0,_,_,_,_,_ => none
 | k + 1,x5,x7,x8,q0,p8 => if x8 < (p8.length : Int) then (if 0 ≤ x8 then (if 0 ≤ ((rd_T80 p8 x8).f0) then (if ((rd_T80 p8 x8).f0) < (x5.length : Int) then (if (rd x5 ((rd_T80 p8 x8).f0)) < 99999 then (if 0 ≤ ((rd_T80 p8 x8).f1) then (if ((rd_T80 p8 x8).f1) < (x5.length : Int) then (if (wrap64 ((rd x5 ((rd_T80 p8 x8).f0)) + ((rd_T80 p8 x8).f2))) < (rd x5 ((rd_T80 p8 x8).f1)) then (spec_l3All.l2 k (x5.set (((rd_T80 p8 x8).f1) : Int).toNat (wrap64 ((rd x5 ((rd_T80 p8 x8).f0)) + ((rd_T80 p8 x8).f2)))) x7 (wrap64 (x8 + 1)) q0 p8) else (spec_l3All.l2 k x5 x7 (wrap64 (x8 + 1)) q0 p8)) else (none)) else (none)) else (spec_l3All.l2 k x5 x7 (wrap64 (x8 + 1)) q0 p8)) else (none)) else (none)) else (none)) else (spec_l3All.l1 k x5 (wrap64 (x7 + 1)) q0 p8)
end
def spec_l3All.f (k : Nat) (a0_0 : Int) (l0_1 : List (S80)) (a1 : Int) : Option (List Int):=if 0 ≤ a0_0 then (if (a0_0 : Int).toNat ≤ 35184372088832 then (spec_l3All.l0 k a1 (List.replicate (a0_0 : Int).toNat 0) 0 a0_0 l0_1) else (none)) else (none)
def spec_l3All.T14 : Bool × List (List Nat × List Nat):=(true,[([],[]),([],[]),([1],[1]),([0,2],[0,2]),([3],[3]),([4],[4]),([5],[5]),([6],[6]),([6],[6]),([8,6],[6,8]),([7,9,6],[6,7,9]),([10,6],[6,10]),([6],[6]),([12,6],[6,12]),([11,13,6],[6,11,13]),([6],[6]),([6],[6]),([16,6],[6,16]),([15,17,6],[6,15,17]),([18,6],[6,18]),([14,19,6],[6,14,19]),([6,20],[6,20])])
def spec_l3All.B14 : List Nat:=[0,0,2,7,15,31,63,127,127,383,1023,2047,127,4223,16383,127,127,65663,229503,491647,1048575,2097151]
theorem spec_l3All.tab14 : rtab .any (opsOf Try.f63 14) = spec_l3All.T14:=by kernel_rfl
theorem spec_l3All.bits14 : waitsOk spec_l3All.T14.2 spec_l3All.B14 = true:=by kernel_rfl
def spec_l3All.T15 : Bool × List (List Nat × List Nat):=(true,[([],[]),([],[]),([1],[1]),([],[]),([],[]),([4],[4]),([3,5],[3,5]),([6],[6]),([],[]),([8],[8]),([7,9],[7,9]),([0,2,0,1,2,3,4,5,6,7,8,9,10],[0,2]),([11,10,0,1,2,3,4,5,6,7,8,9,10],[10,11])])
def spec_l3All.B15 : List Nat:=[0,0,2,0,0,16,56,120,0,256,1016,2047,4095]
theorem spec_l3All.tab15 : rtab .any (opsOf Try.f63 15) = spec_l3All.T15:=by kernel_rfl
theorem spec_l3All.bits15 : waitsOk spec_l3All.T15.2 spec_l3All.B15 = true:=by kernel_rfl
set_option maxHeartbeats 8000000 in
set_option maxRecDepth 100000 in
theorem spec_l3All.calls (k : Nat) (a0_0 : Int) (A0_1 : Option Addr) (c0_1 : Nat) (l0_1 : List (S80)) (a1 : Int) (r : List Int) (w : World) (hr0_1 : Kd.C k80 w A0_1 l0_1.length l0_1) (hc0_1 : l0_1.length ≤ c0_1) (h : spec_l3All.f k a0_0 l0_1 a1 = some r) :
  Calls Try.prog 63 #[.agg #[.int .i64 a0_0,.slice A0_1 l0_1.length c0_1],.int .i64 a1] w fun e w' => ∃ v0_ : Value,e = .returned (v0_) ∧ Kd.R (Kd.int .i64) 3 w' w.heap.size (fun _ => True) v0_ r ∧ Below w.heap.size w w':=by
 have hu25:=Try.underlying25;have hu80:=Try.underlying80;have t5:=zy hr0_1;have HC0_1:=zy hc0_1;clear hr0_1 hc0_1;have HB:=zy (Below.refl w.heap.size w);have H : (if 0 ≤ a0_0 then (if (a0_0 : Int).toNat ≤ 35184372088832 then (spec_l3All.l0 k a1 (List.replicate (a0_0 : Int).toNat 0) 0 a0_0 l0_1) else (none)) else (none)) = some r:=h;clear h
 by_cases c3 : 0 ≤ a0_0
 case neg =>
  rw [if_neg c3] at H;exact absurd H (by simp)
 rw [if_pos c3] at H;have c3b0:=eq_true c3;have c3b1 : decide (0 ≤ a0_0) = true:=decide_eq_true c3;clear c3
 by_cases c4 : (a0_0 : Int).toNat ≤ 35184372088832
 case neg =>
  rw [if_neg c4] at H;exact absurd H (by simp)
 rw [if_pos c4] at H;have c4b0:=eq_true c4;have c4b1 : decide ((a0_0 : Int).toNat ≤ 35184372088832) = true:=decide_eq_true c4;clear c4;obtain ⟨y358,hy358⟩ : ∃ y_ : List Int,y_ = (List.replicate (a0_0 : Int).toNat 0):=⟨_,rfl⟩
 replace H : (spec_l3All.l0 k a1 y358 0 a0_0 l0_1) = some r:=by first | (rw [hy358]; with_reducible exact H) | (have H2_:=(Option.bind_some _ _).symm.trans H; rw [hy358]; with_reducible exact H2_) | (have H2_:=(Option.bind_some _ _).symm.trans H; with_reducible exact H2_) | with_reducible exact H | (rw [hy358]; exact H) | exact H
 have Ny358:=zy hy358;clear hy358;have H':=zy H;clear H
 go_enter Try.func63,Try.ntmps63
 go_wp2_with (first | ((with_reducible refine gate_dst (N:=2) rfl ?_); refine box_event ?hg (N:=2) ?hd (cs:=#[.int .i64 a0_0,.slice A0_1 l0_1.length c0_1]) (t:=25) ?hr ?_; (case hd => rfl); (case hg => rfl); (case hr => first | (go_simp; done) | (go_simp; rfl)); intro p7 hg w5 hbox hb; have n0_:=zy (below_step HB.out hb); have n1_:=zy (hbox); have n2_:=zy ((by rw [hg]; exact (below_size HB.out) : w.heap.size ≤ p7)); have n3_:=zy ((by rw [hg]; exact (below_size HB.out) : w.heap.size ≤ p7)); clear HB; have HB:=n0_; have p3:=n1_; have GW357:=n2_; have r1:=n3_; clear n0_ n1_ n2_ n3_; clear hb hbox hg; have r5 : w5.cell? ⟨p7,0,none⟩ = some (.int .i64 a0_0):=(blk_cell p3.out 0).trans rfl; have r6 : w5.cell? ⟨p7,1,none⟩ = some (.slice A0_1 l0_1.length c0_1):=(blk_cell p3.out 1).trans rfl; have r7:=blk_frozen p3.out 0; have r8:=blk_frozen p3.out 1) | ((with_reducible refine gate_dst (N:=12) rfl ?_); refine Kd.R_make (Kd.int .i64) _ 3 rfl (N:=12) rfl 26 _ _ rfl a0_0 (by first | rfl | (go_simp; done) | (go_simp; rfl)) (by first | rfl | (go_simp; done) | (go_simp; rfl)) Try.underlying26 (.int .i64 0) 8 info3 rfl (by decide) (by omega) 0 (ok:=fun _ => True) (okp:=fun _ => True) rfl (fun _ hk => hk) trivial (of_decide_eq_true (by first | (with_reducible assumption) | assumption)) (Nat.le_trans (Nat.mul_le_mul_right _ (of_decide_eq_true (by first | (with_reducible assumption) | assumption) : a0_0.toNat ≤ 35184372088832)) (by omega)) (Below.refl _ _) (Nat.le_refl _) ?_; intro v359 w7 ho8 hb hg_ hnew_; clear hg_ hnew_; (first | rw [← Ny358.out] at ho8 | (simp only [Int.reduceToNat] at ho8; rw [← Ny358.out] at ho8)); have n0_:=zy (Kd.R_lower ho8 (below_size HB.out)); have n1_:=zy (blk_below (g:=p7) (o:=.cells #[.int .i64 a0_0,.slice A0_1 l0_1.length c0_1] 25 (0,0)) p3.out hb); have n2_:=zy (below_step HB.out hb); clear p3; clear HB; have HO360:=n0_; have p3:=n1_; have HB:=n2_; clear n0_ n1_ n2_; clear hb ho8))
 go_loopg [6] k (fun kq v6 w' => ∃ (x5_1 : List Int) (x6_1 : Int),v6 = .int .i64 x6_1 ∧ Aside0 (spec_l3All.l0 kq a1 x5_1 x6_1 a0_0 l0_1 = some r) ∧ Aside0 (kq ≤ k) ∧ Aside0 (Kd.R (Kd.int .i64) 3 w' w.heap.size (fun _ => True) v359 x5_1) ∧ Aside0 (w'.heap[p7]? = some (.cells #[.int .i64 a0_0,(.slice A0_1 l0_1.length c0_1)] 25 (0,0))) ∧ Aside0 (Below w.heap.size w w'))
 case atStart => exact ⟨(y358),(0),(by first | rfl | (simp; done) | (simp [*]; done)),H',⟨Nat.le_refl _⟩,⟨by (with_reducible repeat (first | apply Kd.R_alloc | apply Kd.R_drewN | apply Kd.R_drew)); exact HO360.out⟩,⟨by (with_reducible repeat (first | refine blk_drewN ?_ _ | refine blk_drew ?_ | refine blk_alloc ?_ _)); exact p3.out⟩,⟨by repeat (first | (with_reducible first | exact HB.out | apply below_alloc | apply pw_below_drewN | apply below_drew1 | refine below_set ?_ r1.out) | exact HB.out)⟩⟩
 case round =>
  clear H'
  try clear p2
  try clear c3
  try clear c3b0
  try clear c3b1
  try clear c4
  try clear c4b0
  try clear c4b1
  try clear c6
  try clear r5
  try clear r6
  try clear r7
  try clear r8
  obtain ⟨x5_1,x6_1,rfl,HA,HK1,HO_5,p3,HB⟩:=hrel;cases gk with
  | zero => exact absurd HA.out (by simp [spec_l3All.l0])
  | succ k1 =>
   have H:=HA.out;clear HA;simp only [spec_l3All.l0] at H
   by_cases c9 : x6_1 < a0_0
   case pos =>
    rw [if_pos c9] at H;have c9b0 : decide (x6_1 < a0_0) = true:=decide_eq_true c9;clear c9
    by_cases c10 : 0 ≤ x6_1
    case neg =>
     rw [if_neg c10] at H;exact absurd H (by simp)
    rw [if_pos c10] at H;have c10b0 : decide (0 ≤ x6_1) = true:=decide_eq_true c10;clear c10
    by_cases c11 : x6_1 < (x5_1.length : Int)
    case neg =>
     rw [if_neg c11] at H;exact absurd H (by simp)
    rw [if_pos c11] at H;have c11b0 : decide (x6_1 < (x5_1.length : Int)) = true:=decide_eq_true c11;clear c11;obtain ⟨y361,hy361⟩ : ∃ y_ : List Int,y_ = (x5_1.set (x6_1 : Int).toNat 99999):=⟨_,rfl⟩
    replace H : (spec_l3All.l0 k1 a1 y361 (wrap64 (x6_1 + 1)) a0_0 l0_1) = some r:=by first | (rw [hy361]; with_reducible exact H) | (have H2_:=(Option.bind_some _ _).symm.trans H; rw [hy361]; with_reducible exact H2_) | (have H2_:=(Option.bind_some _ _).symm.trans H; with_reducible exact H2_) | with_reducible exact H | (rw [hy361]; exact H) | exact H
    have Ny361:=zy hy361;clear hy361;have H':=zy H;clear H;have r9 : wr.cell? ⟨p7,0,none⟩ = some (.int .i64 a0_0):=(blk_cell p3.out 0).trans rfl;have s8 : wr.cell? ⟨p7,1,none⟩ = some (.slice A0_1 l0_1.length c0_1):=(blk_cell p3.out 1).trans rfl;have s9:=blk_frozen p3.out 0;have t0:=blk_frozen p3.out 1;have p12 : 0 ≤ (x6_1 : Int):=of_decide_eq_true (by first | (with_reducible assumption) | assumption);have q12 : (x6_1 : Int) < ((x5_1.length : Int) : Int):=of_decide_eq_true (by first | (with_reducible assumption) | assumption);obtain ⟨go12,co12,eo12,gb12,gl12,cl12,HG12⟩:=Kd.R_form HO_5.out (by omega)
    (first | cases eo12 | (injection eo12 with ea_ en_ ec_; (first | subst ea_ | (injection ea_ with ea_; subst ea_)); subst ec_; clear en_))
    have GB12:=zy gb12;have GG12:=zy HG12;clear gb12 gl12 HG12;obtain ⟨t6,hf12_0⟩:=Kd.R_celln 0 HO_5.out (x6_1 : Int) p12 q12;replace p12:=eq_true p12;replace q12:=eq_true q12;have HP14:=Kd.R_putg HO_5.out (x6_1 : Int) 99999
    go_wp2_with (first | ((with_reducible refine gate_store (t:=3) (p:=21) rfl ?_); refine store_event (t:=3) (p:=21) (v:=?vo_w15) (w1:=(wr.setCell ⟨go12,(x6_1 : Int).toNat,none⟩ (.int .i64 99999))) ?hg ?ho ?hn ?hr ?_; (case ho => rfl); (case hg => rfl); (case hn => rfl); (case hr => first | (go_simp; done) | (go_simp; rfl)); intro w15 hw; have hg : wr.grownBy w15 (some go12):=(by rw [hw]; exact HP14.2); have hp_ : Kd.R (Kd.int .i64) 3 w15 w.heap.size (fun _ => True) (.slice (some ⟨go12,0,none⟩) x5_1.length co12) y361:=(by rw [hw,Ny361.out]; exact HP14.1); clear HP14; have n0_:=zy (hp_); have n1_:=zy (blk_grown (g:=p7) (o:=.cells #[.int .i64 a0_0,.slice A0_1 l0_1.length c0_1] 25 (0,0)) p3.out hg (Kd.R_ne HO_5.out p3.out (by decide))); have n2_:=zy ((by rw [hw]; exact below_set (HB.out) GB12.out : Below w.heap.size w w15)); clear HO_5; clear p3; clear HB; have HO_5:=n0_; have p3:=n1_; have HB:=n2_; clear n0_ n1_ n2_; clear hg hw hp_))
    go_roundg k1
    case measure => have:=HK1.out; omega
    case rel => exact ⟨(y361),(wrap64 (x6_1 + 1)),(by first | rfl | (simp; done) | (simp [*]; done)),H',⟨by have:=HK1.out; omega⟩,⟨by (with_reducible repeat (first | apply Kd.R_alloc | apply Kd.R_drewN | apply Kd.R_drew)); exact HO_5.out⟩,⟨by (with_reducible repeat (first | refine blk_drewN ?_ _ | refine blk_drew ?_ | refine blk_alloc ?_ _)); exact p3.out⟩,⟨by repeat (first | (with_reducible first | exact HB.out | apply below_alloc | apply pw_below_drewN | apply below_drew1 | refine below_set ?_ r1.out) | exact HB.out)⟩⟩
   rw [if_neg c9] at H;have c9b0 : decide (x6_1 < a0_0) = false:=decide_eq_false c9;clear c9
   by_cases c16 : 0 ≤ a1
   case neg =>
    rw [if_neg c16] at H;exact absurd H (by simp)
   rw [if_pos c16] at H;have c16b0 : decide (0 ≤ a1) = true:=decide_eq_true c16;clear c16
   by_cases c17 : a1 < (x5_1.length : Int)
   case neg =>
    rw [if_neg c17] at H;exact absurd H (by simp)
   rw [if_pos c17] at H;have c17b0 : decide (a1 < (x5_1.length : Int)) = true:=decide_eq_true c17;clear c17;obtain ⟨y362,hy362⟩ : ∃ y_ : List Int,y_ = (x5_1.set (a1 : Int).toNat 0):=⟨_,rfl⟩
   replace H : (spec_l3All.l1 k1 y362 0 a0_0 l0_1) = some r:=by first | (rw [hy362]; with_reducible exact H) | (have H2_:=(Option.bind_some _ _).symm.trans H; rw [hy362]; with_reducible exact H2_) | (have H2_:=(Option.bind_some _ _).symm.trans H; with_reducible exact H2_) | with_reducible exact H | (rw [hy362]; exact H) | exact H
   have Ny362:=zy hy362;clear hy362;have H':=zy H;clear H;have t1 : wr.cell? ⟨p7,0,none⟩ = some (.int .i64 a0_0):=(blk_cell p3.out 0).trans rfl;have t2 : wr.cell? ⟨p7,1,none⟩ = some (.slice A0_1 l0_1.length c0_1):=(blk_cell p3.out 1).trans rfl;have t3:=blk_frozen p3.out 0;have t4:=blk_frozen p3.out 1;have p18 : 0 ≤ (a1 : Int):=of_decide_eq_true (by first | (with_reducible assumption) | assumption);have q18 : (a1 : Int) < ((x5_1.length : Int) : Int):=of_decide_eq_true (by first | (with_reducible assumption) | assumption);obtain ⟨go18,co18,eo18,gb18,gl18,cl18,HG18⟩:=Kd.R_form HO_5.out (by omega)
   (first | cases eo18 | (injection eo18 with ea_ en_ ec_; (first | subst ea_ | (injection ea_ with ea_; subst ea_)); subst ec_; clear en_))
   have GB18:=zy gb18;have GG18:=zy HG18;clear gb18 gl18 HG18;obtain ⟨t7,hf18_0⟩:=Kd.R_celln 0 HO_5.out (a1 : Int) p18 q18;replace p18:=eq_true p18;replace q18:=eq_true q18;have HP20:=Kd.R_putg HO_5.out (a1 : Int) 0
   go_wp2_with (first | ((with_reducible refine gate_store (t:=3) (p:=24) rfl ?_); refine store_event (t:=3) (p:=24) (v:=?vo_w21) (w1:=(wr.setCell ⟨go18,(a1 : Int).toNat,none⟩ (.int .i64 0))) ?hg ?ho ?hn ?hr ?_; (case ho => rfl); (case hg => rfl); (case hn => rfl); (case hr => first | (go_simp; done) | (go_simp; rfl)); intro w21 hw; have hg : wr.grownBy w21 (some go18):=(by rw [hw]; exact HP20.2); have hp_ : Kd.R (Kd.int .i64) 3 w21 w.heap.size (fun _ => True) (.slice (some ⟨go18,0,none⟩) x5_1.length co18) y362:=(by rw [hw,Ny362.out]; exact HP20.1); clear HP20; have n0_:=zy (hp_); have n1_:=zy (blk_grown (g:=p7) (o:=.cells #[.int .i64 a0_0,.slice A0_1 l0_1.length c0_1] 25 (0,0)) p3.out hg (Kd.R_ne HO_5.out p3.out (by decide))); have n2_:=zy ((by rw [hw]; exact below_set (HB.out) GB18.out : Below w.heap.size w w21)); clear HO_5; clear p3; clear HB; have HO_5:=n0_; have p3:=n1_; have HB:=n2_; clear n0_ n1_ n2_; clear hg hw hp_))
   go_loopg [7] k1 (fun kq v7 w' => ∃ (x5_2 : List Int) (x7_2 : Int),v7 = .int .i64 x7_2 ∧ Aside0 (spec_l3All.l1 kq x5_2 x7_2 a0_0 l0_1 = some r) ∧ Aside0 (kq ≤ k1) ∧ Aside0 (Kd.R (Kd.int .i64) 3 w' w.heap.size (fun _ => True) (.slice (some ⟨go18,0,none⟩) x5_1.length co18) x5_2) ∧ Aside0 (w'.heap[p7]? = some (.cells #[.int .i64 a0_0,(.slice A0_1 l0_1.length c0_1)] 25 (0,0))) ∧ Aside0 (Below w.heap.size w w'))
   case atStart => exact ⟨(y362),(0),(by first | rfl | (simp; done) | (simp [*]; done)),H',⟨Nat.le_refl _⟩,⟨by (with_reducible repeat (first | apply Kd.R_alloc | apply Kd.R_drewN | apply Kd.R_drew)); exact HO_5.out⟩,⟨by (with_reducible repeat (first | refine blk_drewN ?_ _ | refine blk_drew ?_ | refine blk_alloc ?_ _)); exact p3.out⟩,⟨by repeat (first | (with_reducible first | exact HB.out | apply below_alloc | apply pw_below_drewN | apply below_drew1 | refine below_set ?_ r1.out) | exact HB.out)⟩⟩
   case round =>
    clear H'
    try clear c1
    try clear p1
    try clear q1
    try clear hx1
    try clear p2
    try clear c3
    try clear c3b0
    try clear c3b1
    try clear c4
    try clear c4b0
    try clear c4b1
    try clear c6
    try clear p6
    try clear c9
    try clear c9b0
    try clear c10
    try clear c10b0
    try clear c11
    try clear c11b0
    try clear p12
    try clear q12
    try clear hx12
    try clear hf12
    try clear c16
    try clear c16b0
    try clear c17
    try clear c17b0
    try clear p18
    try clear q18
    try clear hx18
    try clear hf18
    try clear r9
    try clear s8
    try clear t1
    try clear t2
    try clear r5
    try clear r6
    try clear s9
    try clear t0
    try clear t3
    try clear t4
    try clear r7
    try clear r8
    try clear t6
    try clear t7
    try clear p12
    try clear p18
    try clear p2
    try clear q12
    try clear q18
    obtain ⟨x5_2,x7_2,rfl,HA,HK2,HO_5,p3,HB⟩:=hrel;have hl5_2:=(Kd.R_reads' HO_5.out).1;rw [hl5_2] at HO_5
    (try simp only [hl5_2])
    (try simp only [hl5_2] at p3)
    cases gk with
    | zero => exact absurd HA.out (by simp [spec_l3All.l1])
    | succ k2 =>
     have H:=HA.out;clear HA;simp only [spec_l3All.l1] at H
     by_cases c22 : x7_2 < a0_0
     case neg =>
      rw [if_neg c22] at H;have c22b0 : decide (x7_2 < a0_0) = false:=decide_eq_false c22;clear c22;obtain rfl:=Option.some.inj H;have hcz54_0 : wr.cell? ⟨p7,0,none⟩ = some (.int .i64 a0_0):=(blk_cell p3.out 0).trans rfl;have hcz54_1 : wr.cell? ⟨p7,1,none⟩ = some (.slice A0_1 l0_1.length c0_1):=(blk_cell p3.out 1).trans rfl;have hfz54_0:=blk_frozen p3.out 0;have hfz54_1:=blk_frozen p3.out 1
      go_wp2
      go_ret;exact ⟨_,by first | rfl | (simp [errW_none,errW_some] <;> rfl) | (simp [*,errW_none,errW_some] <;> rfl),by (with_reducible repeat (first | apply Kd.R_alloc | apply Kd.R_drewN | apply Kd.R_drew)); exact HO_5.out,by repeat (first | (with_reducible first | exact HB.out | apply below_alloc | apply pw_below_drewN | apply below_drew1 | refine below_set ?_ r1.out) | exact HB.out)⟩
     rw [if_pos c22] at H;have c22b0 : decide (x7_2 < a0_0) = true:=decide_eq_true c22;clear c22;have H':=zy H;clear H;have u0 : wr.cell? ⟨p7,0,none⟩ = some (.int .i64 a0_0):=(blk_cell p3.out 0).trans rfl;have u1 : wr.cell? ⟨p7,1,none⟩ = some (.slice A0_1 l0_1.length c0_1):=(blk_cell p3.out 1).trans rfl;have u2:=blk_frozen p3.out 0;have u3:=blk_frozen p3.out 1
     go_wp2
     go_loopg [8] k2 (fun kq v8 w' => ∃ (x5_3 : List Int) (x8_3 : Int),v8 = .int .i64 x8_3 ∧ Aside0 (spec_l3All.l2 kq x5_3 x7_2 x8_3 a0_0 l0_1 = some r) ∧ Aside0 (kq ≤ k2) ∧ Aside0 (Kd.R (Kd.int .i64) 3 w' w.heap.size (fun _ => True) (.slice (some ⟨go18,0,none⟩) x5_2.length co18) x5_3) ∧ Aside0 (w'.heap[p7]? = some (.cells #[.int .i64 a0_0,(.slice A0_1 l0_1.length c0_1)] 25 (0,0))) ∧ Aside0 (Below w.heap.size w w'))
     case atStart => exact ⟨(x5_2),(0),(by first | rfl | (simp; done) | (simp [*]; done)),H',⟨Nat.le_refl _⟩,⟨by (try simp only [hl5_2]); (with_reducible repeat (first | apply Kd.R_alloc | apply Kd.R_drewN | apply Kd.R_drew)); exact HO_5.out⟩,⟨by (try simp only [hl5_2]); (with_reducible repeat (first | refine blk_drewN ?_ _ | refine blk_drew ?_ | refine blk_alloc ?_ _)); exact p3.out⟩,⟨by repeat (first | (with_reducible first | exact HB.out | apply below_alloc | apply pw_below_drewN | apply below_drew1 | refine below_set ?_ r1.out) | exact HB.out)⟩⟩
     case round =>
      clear H'
      try clear c1
      try clear p1
      try clear q1
      try clear hx1
      try clear c2
      try clear p2
      try clear c3
      try clear c3b0
      try clear c3b1
      try clear c4
      try clear c4b0
      try clear c4b1
      try clear c6
      try clear p6
      try clear c9
      try clear c9b0
      try clear c10
      try clear c10b0
      try clear c11
      try clear c11b0
      try clear p12
      try clear q12
      try clear hx12
      try clear hf12
      try clear c16
      try clear c16b0
      try clear c17
      try clear c17b0
      try clear p18
      try clear q18
      try clear hx18
      try clear hf18
      try clear c22
      try clear c22b0
      try clear r9
      try clear s8
      try clear t1
      try clear t2
      try clear u0
      try clear u1
      try clear r5
      try clear r6
      try clear s9
      try clear t0
      try clear t3
      try clear t4
      try clear u2
      try clear u3
      try clear r7
      try clear r8
      try clear t6
      try clear t7
      try clear p1
      try clear p12
      try clear p18
      try clear p2
      try clear p6
      try clear q1
      try clear q12
      try clear q18
      obtain ⟨x5_3,x8_3,rfl,HA,HK3,HO_5,p3,HB⟩:=hrel;have hl5_3:=(Kd.R_reads' HO_5.out).1;rw [hl5_3] at HO_5
      (try simp only [hl5_3])
      (try simp only [hl5_3] at p3)
      cases gk with
      | zero => exact absurd HA.out (by simp [spec_l3All.l2])
      | succ k3 =>
       have H:=HA.out;clear HA;simp only [spec_l3All.l2] at H
       by_cases c24 : x8_3 < (l0_1.length : Int)
       case neg =>
        rw [if_neg c24] at H;have c24b0 : decide (x8_3 < (l0_1.length : Int)) = false:=decide_eq_false c24;clear c24;have H':=zy H;clear H;have hcz53_0 : wr.cell? ⟨p7,0,none⟩ = some (.int .i64 a0_0):=(blk_cell p3.out 0).trans rfl;have hcz53_1 : wr.cell? ⟨p7,1,none⟩ = some (.slice A0_1 l0_1.length c0_1):=(blk_cell p3.out 1).trans rfl;have hfz53_0:=blk_frozen p3.out 0;have hfz53_1:=blk_frozen p3.out 1
        go_wp2
        (try simp only [← hl5_2,← hl5_3])
        go_roundg k3
        case measure => have:=HK1.out; have:=HK2.out; have:=HK3.out; omega
        case rel => exact ⟨(x5_3),(wrap64 (x7_2 + 1)),(by first | rfl | (simp; done) | (simp [*]; done)),H',⟨by have:=HK1.out; have:=HK2.out; have:=HK3.out; omega⟩,⟨by (try simp only [hl5_2]); (try simp only [hl5_3]); (with_reducible repeat (first | apply Kd.R_alloc | apply Kd.R_drewN | apply Kd.R_drew)); exact HO_5.out⟩,⟨by (try simp only [hl5_2]); (try simp only [hl5_3]); (with_reducible repeat (first | refine blk_drewN ?_ _ | refine blk_drew ?_ | refine blk_alloc ?_ _)); exact p3.out⟩,⟨by repeat (first | (with_reducible first | exact HB.out | apply below_alloc | apply pw_below_drewN | apply below_drew1 | refine below_set ?_ r1.out) | exact HB.out)⟩⟩
       rw [if_pos c24] at H;have c24b0 : decide (x8_3 < (l0_1.length : Int)) = true:=decide_eq_true c24;clear c24
       by_cases c25 : 0 ≤ x8_3
       case neg =>
        rw [if_neg c25] at H;exact absurd H (by simp)
       rw [if_pos c25] at H;have c25b0 : decide (0 ≤ x8_3) = true:=decide_eq_true c25;clear c25
       by_cases c26 : 0 ≤ ((rd_T80 l0_1 x8_3).f0)
       case neg =>
        rw [if_neg c26] at H;exact absurd H (by simp)
       rw [if_pos c26] at H;have c26b0 : decide (0 ≤ ((rd_T80 l0_1 x8_3).f0)) = true:=decide_eq_true c26;clear c26
       by_cases c27 : ((rd_T80 l0_1 x8_3).f0) < (x5_3.length : Int)
       case neg =>
        rw [if_neg c27] at H;exact absurd H (by simp)
       rw [if_pos c27] at H;have c27b0 : decide (((rd_T80 l0_1 x8_3).f0) < (x5_3.length : Int)) = true:=decide_eq_true c27;clear c27
       by_cases c28 : (rd x5_3 ((rd_T80 l0_1 x8_3).f0)) < 99999
       case neg =>
        rw [if_neg c28] at H;have c28b0 : decide ((rd x5_3 ((rd_T80 l0_1 x8_3).f0)) < 99999) = false:=decide_eq_false c28;clear c28;have H':=zy H;clear H;have hcz47_0 : wr.cell? ⟨p7,0,none⟩ = some (.int .i64 a0_0):=(blk_cell p3.out 0).trans rfl;have hcz47_1 : wr.cell? ⟨p7,1,none⟩ = some (.slice A0_1 l0_1.length c0_1):=(blk_cell p3.out 1).trans rfl;have hfz47_0:=blk_frozen p3.out 0;have hfz47_1:=blk_frozen p3.out 1;have p363 : 0 ≤ (x8_3 : Int):=of_decide_eq_true (by first | (with_reducible assumption) | assumption);have q363 : x8_3 < (l0_1.length : Int):=of_decide_eq_true (by first | (with_reducible assumption) | assumption);obtain ⟨q9,e363,q2,q3,q4,q5,q6⟩:=at_T80 t5.out x8_3 p363 q363;cases e363;replace q2:=(HB.out.cell (World.block_lt_of_cell? w _ q2)).trans q2;replace q3:=(HB.out.cell (World.block_lt_of_cell? w _ q3)).trans q3;replace q4:=(HB.out.cell (World.block_lt_of_cell? w _ q4)).trans q4;replace q5:=(HB.out.cell (World.block_lt_of_cell? w _ q5)).trans q5;replace q6:=(HB.out.cell (World.block_lt_of_cell? w _ q6)).trans q6;replace p363:=eq_true p363;replace q363:=eq_true q363
        try go_wp2_with (first | ((with_reducible refine gate_dst (N:=9) rfl ?_); refine box_event ?hg (N:=9) ?hd (cs:=#[.int .i64 0,.int .i64 0,.int .i64 0,.int .i64 0,.int .i64 0]) (t:=80) ?hr ?_; (case hd => rfl); (case hg => rfl); (case hr => first | (go_simp; done) | (go_simp; rfl)); intro p0 hg w48 hbox hb; have n0_:=zy (Kd.R_below HO_5.out hb); have n1_:=zy (blk_below (g:=p7) (o:=.cells #[.int .i64 a0_0,.slice (some q9) l0_1.length c0_1] 25 (0,0)) p3.out hb); have n2_:=zy (below_step HB.out hb); have n3_:=zy (hbox); have n4_:=zy ((by rw [hg]; exact (below_size HB.out) : w.heap.size ≤ p0)); have n5_:=zy ((by rw [hg]; exact (below_size HB.out) : w.heap.size ≤ p0)); have n6_:=zy ((by rw [hg]; exact Nat.ne_of_lt (blk_lt (g:=p7) (o:=.cells #[.int .i64 a0_0,.slice (some q9) l0_1.length c0_1] 25 (0,0)) p3.out) : p7 ≠ p0)); have n7_:=zy ((by rw [hg]; exact Nat.ne_of_gt (blk_lt (g:=p7) (o:=.cells #[.int .i64 a0_0,.slice (some q9) l0_1.length c0_1] 25 (0,0)) p3.out) : p0 ≠ p7)); clear HO_5; clear p3; clear HB; have HO_5:=n0_; have p3:=n1_; have HB:=n2_; have p4:=n3_; have GW364:=n4_; have r3:=n5_; have p5:=n6_; have r0:=n7_; clear n0_ n1_ n2_ n3_ n4_ n5_ n6_ n7_; clear hb hbox hg; have hnb49:=r0.out; have hnc49:=p5.out; have hcz50_0 : w48.cell? ⟨p0,0,none⟩ = some (.int .i64 0):=(blk_cell p4.out 0).trans rfl; have hcz50_1 : w48.cell? ⟨p0,1,none⟩ = some (.int .i64 0):=(blk_cell p4.out 1).trans rfl; have hcz50_2 : w48.cell? ⟨p0,2,none⟩ = some (.int .i64 0):=(blk_cell p4.out 2).trans rfl; have hcz50_3 : w48.cell? ⟨p0,3,none⟩ = some (.int .i64 0):=(blk_cell p4.out 3).trans rfl; have hcz50_4 : w48.cell? ⟨p0,4,none⟩ = some (.int .i64 0):=(blk_cell p4.out 4).trans rfl; have hfz50_0:=blk_frozen p4.out 0; have hfz50_1:=blk_frozen p4.out 1; have hfz50_2:=blk_frozen p4.out 2; have hfz50_3:=blk_frozen p4.out 3; have hfz50_4:=blk_frozen p4.out 4))
        have n0_ : Aside0 (Kd.R (Kd.int .i64) 3 (((((w48.setCell ⟨p0,0,none⟩ (.int .i64 ((rd_T80 l0_1 x8_3).f0))).setCell ⟨p0,1,none⟩ (.int .i64 ((rd_T80 l0_1 x8_3).f1))).setCell ⟨p0,2,none⟩ (.int .i64 ((rd_T80 l0_1 x8_3).f2))).setCell ⟨p0,3,none⟩ (.int .i64 ((rd_T80 l0_1 x8_3).f3))).setCell ⟨p0,4,none⟩ (.int .i64 ((rd_T80 l0_1 x8_3).f4))) w.heap.size (fun _ => True) (.slice (some ⟨go18,0,none⟩) x5_3.length co18) x5_3):=⟨by (with_reducible repeat (first | apply Kd.R_alloc | apply Kd.R_drewN | apply Kd.R_drew)); exact Kd.R_mono (Kd.R_far (p:=⟨p0,4,none⟩) (Kd.R_far (p:=⟨p0,3,none⟩) (Kd.R_far (p:=⟨p0,2,none⟩) (Kd.R_far (p:=⟨p0,1,none⟩) (Kd.R_far (p:=⟨p0,0,none⟩) (Kd.R_types HO_5.out p4.out (by decide)) (fun _ hk => hk.2) (.int .i64 ((rd_T80 l0_1 x8_3).f0))) (fun _ hk => hk.2) (.int .i64 ((rd_T80 l0_1 x8_3).f1))) (fun _ hk => hk.2) (.int .i64 ((rd_T80 l0_1 x8_3).f2))) (fun _ hk => hk.2) (.int .i64 ((rd_T80 l0_1 x8_3).f3))) (fun _ hk => hk.2) (.int .i64 ((rd_T80 l0_1 x8_3).f4))) (fun _ hk => trivial)⟩
        have n1_ : Aside0 ((((((w48.setCell ⟨p0,0,none⟩ (.int .i64 ((rd_T80 l0_1 x8_3).f0))).setCell ⟨p0,1,none⟩ (.int .i64 ((rd_T80 l0_1 x8_3).f1))).setCell ⟨p0,2,none⟩ (.int .i64 ((rd_T80 l0_1 x8_3).f2))).setCell ⟨p0,3,none⟩ (.int .i64 ((rd_T80 l0_1 x8_3).f3))).setCell ⟨p0,4,none⟩ (.int .i64 ((rd_T80 l0_1 x8_3).f4))).heap[p7]? = some (.cells #[.int .i64 a0_0,.slice (some q9) l0_1.length c0_1] 25 (0,0))):=⟨by (with_reducible repeat (first | refine blk_drewN ?_ _ | refine blk_drew ?_ | refine blk_alloc ?_ _)); refine blk_far ?_ p5.out _; (with_reducible repeat (first | refine blk_drewN ?_ _ | refine blk_drew ?_ | refine blk_alloc ?_ _)); refine blk_far ?_ p5.out _; (with_reducible repeat (first | refine blk_drewN ?_ _ | refine blk_drew ?_ | refine blk_alloc ?_ _)); refine blk_far ?_ p5.out _; (with_reducible repeat (first | refine blk_drewN ?_ _ | refine blk_drew ?_ | refine blk_alloc ?_ _)); refine blk_far ?_ p5.out _; (with_reducible repeat (first | refine blk_drewN ?_ _ | refine blk_drew ?_ | refine blk_alloc ?_ _)); refine blk_far ?_ p5.out _; (with_reducible repeat (first | refine blk_drewN ?_ _ | refine blk_drew ?_ | refine blk_alloc ?_ _)); exact p3.out⟩
        have n2_ : Aside0 ((((((w48.setCell ⟨p0,0,none⟩ (.int .i64 ((rd_T80 l0_1 x8_3).f0))).setCell ⟨p0,1,none⟩ (.int .i64 ((rd_T80 l0_1 x8_3).f1))).setCell ⟨p0,2,none⟩ (.int .i64 ((rd_T80 l0_1 x8_3).f2))).setCell ⟨p0,3,none⟩ (.int .i64 ((rd_T80 l0_1 x8_3).f3))).setCell ⟨p0,4,none⟩ (.int .i64 ((rd_T80 l0_1 x8_3).f4))).heap[p0]? = some (.cells #[.int .i64 ((rd_T80 l0_1 x8_3).f0),.int .i64 ((rd_T80 l0_1 x8_3).f1),.int .i64 ((rd_T80 l0_1 x8_3).f2),.int .i64 ((rd_T80 l0_1 x8_3).f3),.int .i64 ((rd_T80 l0_1 x8_3).f4)] 80 (0,0))):=⟨by (with_reducible repeat (first | refine blk_drewN ?_ _ | refine blk_drew ?_ | refine blk_alloc ?_ _)); refine blk_put (cs:=#[.int .i64 ((rd_T80 l0_1 x8_3).f0),.int .i64 ((rd_T80 l0_1 x8_3).f1),.int .i64 ((rd_T80 l0_1 x8_3).f2),.int .i64 ((rd_T80 l0_1 x8_3).f3),.int .i64 0]) ?_ 4 _ rfl; (with_reducible repeat (first | refine blk_drewN ?_ _ | refine blk_drew ?_ | refine blk_alloc ?_ _)); refine blk_put (cs:=#[.int .i64 ((rd_T80 l0_1 x8_3).f0),.int .i64 ((rd_T80 l0_1 x8_3).f1),.int .i64 ((rd_T80 l0_1 x8_3).f2),.int .i64 0,.int .i64 0]) ?_ 3 _ rfl; (with_reducible repeat (first | refine blk_drewN ?_ _ | refine blk_drew ?_ | refine blk_alloc ?_ _)); refine blk_put (cs:=#[.int .i64 ((rd_T80 l0_1 x8_3).f0),.int .i64 ((rd_T80 l0_1 x8_3).f1),.int .i64 0,.int .i64 0,.int .i64 0]) ?_ 2 _ rfl; (with_reducible repeat (first | refine blk_drewN ?_ _ | refine blk_drew ?_ | refine blk_alloc ?_ _)); refine blk_put (cs:=#[.int .i64 ((rd_T80 l0_1 x8_3).f0),.int .i64 0,.int .i64 0,.int .i64 0,.int .i64 0]) ?_ 1 _ rfl; (with_reducible repeat (first | refine blk_drewN ?_ _ | refine blk_drew ?_ | refine blk_alloc ?_ _)); refine blk_put (cs:=#[.int .i64 0,.int .i64 0,.int .i64 0,.int .i64 0,.int .i64 0]) ?_ 0 _ rfl; (with_reducible repeat (first | refine blk_drewN ?_ _ | refine blk_drew ?_ | refine blk_alloc ?_ _)); exact p4.out⟩
        have n3_ : Aside0 (Below w.heap.size w (((((w48.setCell ⟨p0,0,none⟩ (.int .i64 ((rd_T80 l0_1 x8_3).f0))).setCell ⟨p0,1,none⟩ (.int .i64 ((rd_T80 l0_1 x8_3).f1))).setCell ⟨p0,2,none⟩ (.int .i64 ((rd_T80 l0_1 x8_3).f2))).setCell ⟨p0,3,none⟩ (.int .i64 ((rd_T80 l0_1 x8_3).f3))).setCell ⟨p0,4,none⟩ (.int .i64 ((rd_T80 l0_1 x8_3).f4)))):=⟨by repeat (first | (with_reducible first | exact HB.out | apply below_alloc | apply pw_below_drewN | apply below_drew1 | refine below_set ?_ r1.out | refine below_set ?_ r3.out) | exact HB.out)⟩
        (try clear HO_5)
        (try clear p3)
        (try clear p4)
        (try clear HB)
        generalize (((((w48.setCell ⟨p0,0,none⟩ (.int .i64 ((rd_T80 l0_1 x8_3).f0))).setCell ⟨p0,1,none⟩ (.int .i64 ((rd_T80 l0_1 x8_3).f1))).setCell ⟨p0,2,none⟩ (.int .i64 ((rd_T80 l0_1 x8_3).f2))).setCell ⟨p0,3,none⟩ (.int .i64 ((rd_T80 l0_1 x8_3).f3))).setCell ⟨p0,4,none⟩ (.int .i64 ((rd_T80 l0_1 x8_3).f4))) = w51 at n0_ n1_ n2_ n3_ ⊢;have HO_5:=n0_;have p3:=n1_;have p4:=n2_;have HB:=n3_;clear n0_ n1_ n2_ n3_;have n0_:=zy (Kd.R_drew HO_5.out);have n1_:=zy (blk_drew p3.out);have n2_:=zy (blk_drew p4.out);have n3_:=zy (below_drew1 HB.out);clear HO_5;clear p3;clear p4;clear HB;have HO_5:=n0_;have p3:=n1_;have p4:=n2_;have HB:=n3_;clear n0_ n1_ n2_ n3_;have p365 : 0 ≤ (((rd_T80 l0_1 x8_3).f0) : Int):=of_decide_eq_true (by first | (with_reducible assumption) | assumption);have q365 : ((rd_T80 l0_1 x8_3).f0) < (x5_3.length : Int):=of_decide_eq_true (by first | (with_reducible assumption) | assumption);obtain ⟨r4,e365,p9⟩:=Kd.at_int (Kd.R_reads' HO_5.out).2.2 ((rd_T80 l0_1 x8_3).f0) p365 q365;obtain rfl : (⟨go18,0,none⟩ : Addr) = r4:=(by injection e365)
        (first | simp only [add_plain] at p9 | simp only [add_at] at p9 | simp only [Addr.add,Nat.zero_add] at p9 | skip)
        replace p365:=eq_true p365;replace q365:=eq_true q365;refine start_ (n:=22) (S:=fun w' => w'.cell? ⟨p0,0,none⟩ = some (.int .i64 ((rd_T80 l0_1 x8_3).f0)) ∧ w'.cell? ⟨p0,1,none⟩ = some (.int .i64 ((rd_T80 l0_1 x8_3).f1)) ∧ w'.cell? ⟨p0,2,none⟩ = some (.int .i64 ((rd_T80 l0_1 x8_3).f2)) ∧ w'.cell? ⟨p0,3,none⟩ = some (.int .i64 ((rd_T80 l0_1 x8_3).f3)) ∧ w'.cell? ⟨p0,4,none⟩ = some (.int .i64 ((rd_T80 l0_1 x8_3).f4)) ∧ w'.cell? ⟨go18,(((rd_T80 l0_1 x8_3).f0)).toNat,none⟩ = some (.int .i64 (rd x5_3 ((rd_T80 l0_1 x8_3).f0)))) (ds:=[]) #[U,U,U,U,U,U,U,U,U,U,U,U,U,U,U,U,U,U,U,U,U,U] (by kernel_rfl) rfl rfl ⟨(blk_cell p4.out 0).trans rfl,(blk_cell p4.out 1).trans rfl,(blk_cell p4.out 2).trans rfl,(blk_cell p4.out 3).trans rfl,(blk_cell p4.out 4).trans rfl,p9⟩ (fun hHeld => ?_); refine with_tabW spec_l3All.tab14 spec_l3All.bits14 (fun HT_ HW_ => ?_);generalize w51.drew = w52 at HO_5 p3 p4 HB p9 hHeld ⊢;refine pure_ (i:=0) (N:=some 43) (v:=?_) (a':=?_) #[Y,U,U,U,U,U,U,U,U,U,U,U,U,U,U,U,U,U,U,U,U,U] rfl rfl (any_of HT_.out (by kernel_rfl)) (fun _ _ _ h => h) (Or.inl ⟨by rfl,?_⟩) ?_ ?_;rotate_left
        ·intro w';go_simp;with_reducible rfl
        rotate_left
        ·simp only [Act.put,V,Z,zx,i64_w,i32_w];rfl
        refine pure_ (i:=1) (N:=some 44) (v:=?_) (a':=?_) #[Y,Y,U,U,U,U,U,U,U,U,U,U,U,U,U,U,U,U,U,U,U,U] rfl rfl (any_of HT_.out (by kernel_rfl)) (fun _ _ _ h => h) (Or.inl ⟨by rfl,?_⟩) ?_ ?_;rotate_left
        ·intro w';go_simp;with_reducible rfl
        rotate_left
        ·simp only [Act.put,V,Z,zx,i64_w,i32_w];rfl
        refine take_ (i:=2) (N:=some 45) (v:=?_) (a':=?_) #[Y,Y,Y,U,U,U,U,U,U,U,U,U,U,U,U,U,U,U,U,U,U,U] rfl rfl (take_ofW HT_.out HW_.out (by kernel_rfl)) (fun _ _ _ h => h) (Or.inl ⟨by rfl,?_⟩) hHeld ?_ ?_;rotate_left
        ·rintro w' ⟨s0,s1,s2,s3,s4,s5⟩;go_simp;with_reducible rfl
        rotate_left
        ·simp only [Act.put,V,Z,zx,i64_w,i32_w];rfl
        refine pure_ (i:=3) (N:=some 46) (v:=?_) (a':=?_) #[Y,Y,Y,Y,U,U,U,U,U,U,U,U,U,U,U,U,U,U,U,U,U,U] rfl rfl (any_of HT_.out (by kernel_rfl)) (fun _ _ _ h => h) (Or.inl ⟨by rfl,?_⟩) ?_ ?_;rotate_left
        ·intro w';go_simp;with_reducible rfl
        rotate_left
        ·simp only [Act.put,V,Z,zx,i64_w,i32_w];rfl
        refine take_ (i:=4) (N:=some 47) (v:=?_) (a':=?_) #[Y,Y,Y,Y,Y,U,U,U,U,U,U,U,U,U,U,U,U,U,U,U,U,U] rfl rfl (take_ofW HT_.out HW_.out (by kernel_rfl)) (fun _ _ _ h => h) (Or.inl ⟨by rfl,?_⟩) hHeld ?_ ?_;rotate_left
        ·rintro w' ⟨s0,s1,s2,s3,s4,s5⟩;go_simp;with_reducible rfl
        rotate_left
        ·simp only [Act.put,V,Z,zx,i64_w,i32_w];rfl
        refine pure_ (i:=5) (N:=some 48) (v:=?_) (a':=?_) #[Y,Y,Y,Y,Y,Y,U,U,U,U,U,U,U,U,U,U,U,U,U,U,U,U] rfl rfl (any_of HT_.out (by kernel_rfl)) (fun _ _ _ h => h) (Or.inl ⟨by rfl,?_⟩) ?_ ?_;rotate_left
        ·intro w';go_simp;with_reducible rfl
        rotate_left
        ·simp only [Act.put,V,Z,zx,i64_w,i32_w];rfl
        refine pure_ (i:=6) (N:=some 49) (v:=?_) (a':=?_) #[Y,Y,Y,Y,Y,Y,Y,U,U,U,U,U,U,U,U,U,U,U,U,U,U,U] rfl rfl (any_of HT_.out (by kernel_rfl)) (fun _ _ _ h => h) (Or.inl ⟨by rfl,?_⟩) ?_ ?_;rotate_left
        ·intro w';go_simp;with_reducible rfl
        rotate_left
        ·simp only [Act.put,V,Z,zx,i64_w,i32_w];rfl
        refine pure_ (i:=7) (N:=some 50) (v:=undef) (a':=?_) #[Y,Y,Y,Y,Y,Y,Y,Y,U,U,U,U,U,U,U,U,U,U,U,U,U,U] rfl rfl (any_of HT_.out (by kernel_rfl)) (fun _ _ _ h => h) (Or.inr ⟨by rfl,rfl⟩) ?_ ?_;rotate_left
        ·simp only [Act.put,V,Z,zx,i64_w,i32_w];rfl
        refine pure_ (i:=8) (N:=some 51) (v:=undef) (a':=?_) #[Y,Y,Y,Y,Y,Y,Y,Y,Y,U,U,U,U,U,U,U,U,U,U,U,U,U] rfl rfl (any_of HT_.out (by kernel_rfl)) (fun _ _ _ h => h) (Or.inr ⟨by rfl,rfl⟩) ?_ ?_;rotate_left
        ·simp only [Act.put,V,Z,zx,i64_w,i32_w];rfl
        refine pure_ (i:=9) (N:=some 52) (v:=undef) (a':=?_) #[Y,Y,Y,Y,Y,Y,Y,Y,Y,Y,U,U,U,U,U,U,U,U,U,U,U,U] rfl rfl (any_of HT_.out (by kernel_rfl)) (fun _ _ _ h => h) (Or.inr ⟨by rfl,rfl⟩) ?_ ?_;rotate_left
        ·simp only [Act.put,V,Z,zx,i64_w,i32_w];rfl
        refine pure_ (i:=10) (N:=some 53) (v:=undef) (a':=?_) #[Y,Y,Y,Y,Y,Y,Y,Y,Y,Y,Y,U,U,U,U,U,U,U,U,U,U,U] rfl rfl (any_of HT_.out (by kernel_rfl)) (fun _ _ _ h => h) (Or.inr ⟨by rfl,rfl⟩) ?_ ?_;rotate_left
        ·simp only [Act.put,V,Z,zx,i64_w,i32_w];rfl
        refine pure_ (i:=11) (N:=some 54) (v:=undef) (a':=?_) #[Y,Y,Y,Y,Y,Y,Y,Y,Y,Y,Y,Y,U,U,U,U,U,U,U,U,U,U] rfl rfl (any_of HT_.out (by kernel_rfl)) (fun _ _ _ h => h) (Or.inr ⟨by rfl,rfl⟩) ?_ ?_;rotate_left
        ·simp only [Act.put,V,Z,zx,i64_w,i32_w];rfl
        refine pure_ (i:=12) (N:=some 55) (v:=undef) (a':=?_) #[Y,Y,Y,Y,Y,Y,Y,Y,Y,Y,Y,Y,Y,U,U,U,U,U,U,U,U,U] rfl rfl (any_of HT_.out (by kernel_rfl)) (fun _ _ _ h => h) (Or.inr ⟨by rfl,rfl⟩) ?_ ?_;rotate_left
        ·simp only [Act.put,V,Z,zx,i64_w,i32_w];rfl
        refine pure_ (i:=13) (N:=some 56) (v:=undef) (a':=?_) #[Y,Y,Y,Y,Y,Y,Y,Y,Y,Y,Y,Y,Y,Y,U,U,U,U,U,U,U,U] rfl rfl (any_of HT_.out (by kernel_rfl)) (fun _ _ _ h => h) (Or.inr ⟨by rfl,rfl⟩) ?_ ?_;rotate_left
        ·simp only [Act.put,V,Z,zx,i64_w,i32_w];rfl
        refine pure_ (i:=14) (N:=some 57) (v:=undef) (a':=?_) #[Y,Y,Y,Y,Y,Y,Y,Y,Y,Y,Y,Y,Y,Y,Y,U,U,U,U,U,U,U] rfl rfl (any_of HT_.out (by kernel_rfl)) (fun _ _ _ h => h) (Or.inr ⟨by rfl,rfl⟩) ?_ ?_;rotate_left
        ·simp only [Act.put,V,Z,zx,i64_w,i32_w];rfl
        refine pure_ (i:=15) (N:=some 58) (v:=undef) (a':=?_) #[Y,Y,Y,Y,Y,Y,Y,Y,Y,Y,Y,Y,Y,Y,Y,Y,U,U,U,U,U,U] rfl rfl (any_of HT_.out (by kernel_rfl)) (fun _ _ _ h => h) (Or.inr ⟨by rfl,rfl⟩) ?_ ?_;rotate_left
        ·simp only [Act.put,V,Z,zx,i64_w,i32_w];rfl
        refine pure_ (i:=16) (N:=some 59) (v:=undef) (a':=?_) #[Y,Y,Y,Y,Y,Y,Y,Y,Y,Y,Y,Y,Y,Y,Y,Y,Y,U,U,U,U,U] rfl rfl (any_of HT_.out (by kernel_rfl)) (fun _ _ _ h => h) (Or.inr ⟨by rfl,rfl⟩) ?_ ?_;rotate_left
        ·simp only [Act.put,V,Z,zx,i64_w,i32_w];rfl
        refine pure_ (i:=17) (N:=some 60) (v:=undef) (a':=?_) #[Y,Y,Y,Y,Y,Y,Y,Y,Y,Y,Y,Y,Y,Y,Y,Y,Y,Y,U,U,U,U] rfl rfl (any_of HT_.out (by kernel_rfl)) (fun _ _ _ h => h) (Or.inr ⟨by rfl,rfl⟩) ?_ ?_;rotate_left
        ·simp only [Act.put,V,Z,zx,i64_w,i32_w];rfl
        refine pure_ (i:=18) (N:=some 61) (v:=undef) (a':=?_) #[Y,Y,Y,Y,Y,Y,Y,Y,Y,Y,Y,Y,Y,Y,Y,Y,Y,Y,Y,U,U,U] rfl rfl (any_of HT_.out (by kernel_rfl)) (fun _ _ _ h => h) (Or.inr ⟨by rfl,rfl⟩) ?_ ?_;rotate_left
        ·simp only [Act.put,V,Z,zx,i64_w,i32_w];rfl
        refine pure_ (i:=19) (N:=some 62) (v:=undef) (a':=?_) #[Y,Y,Y,Y,Y,Y,Y,Y,Y,Y,Y,Y,Y,Y,Y,Y,Y,Y,Y,Y,U,U] rfl rfl (any_of HT_.out (by kernel_rfl)) (fun _ _ _ h => h) (Or.inr ⟨by rfl,rfl⟩) ?_ ?_;rotate_left
        ·simp only [Act.put,V,Z,zx,i64_w,i32_w];rfl
        refine pure_ (i:=20) (N:=some 63) (v:=undef) (a':=?_) #[Y,Y,Y,Y,Y,Y,Y,Y,Y,Y,Y,Y,Y,Y,Y,Y,Y,Y,Y,Y,Y,U] rfl rfl (any_of HT_.out (by kernel_rfl)) (fun _ _ _ h => h) (Or.inr ⟨by rfl,rfl⟩) ?_ ?_;rotate_left
        ·simp only [Act.put,V,Z,zx,i64_w,i32_w];rfl
        refine pure_ (i:=21) (N:=some 64) (v:=?_) (a':=?_) #[Y,Y,Y,Y,Y,Y,Y,Y,Y,Y,Y,Y,Y,Y,Y,Y,Y,Y,Y,Y,Y,Y] rfl rfl (any_of HT_.out (by kernel_rfl)) (fun _ _ _ h => h) (Or.inl ⟨by rfl,?_⟩) ?_ ?_;rotate_left
        ·intro w';go_simp;with_reducible rfl
        rotate_left
        ·simp only [Act.put,V,Z,zx,i64_w,i32_w];rfl
        refine done_ (done_of HT_.out (by kernel_rfl)) ?_
        try go_wp2
        (try simp only [← hl5_3])
        go_roundg k3
        case measure => have:=HK1.out; have:=HK2.out; have:=HK3.out; omega
        case rel => exact ⟨(x5_3),(wrap64 (x8_3 + 1)),(by first | rfl | (simp; done) | (simp [*]; done)),H',⟨by have:=HK1.out; have:=HK2.out; have:=HK3.out; omega⟩,⟨by (try simp only [hl5_2]); (try simp only [hl5_3]); (with_reducible repeat (first | apply Kd.R_alloc | apply Kd.R_drewN | apply Kd.R_drew)); exact HO_5.out⟩,⟨by (try simp only [hl5_2]); (try simp only [hl5_3]); (with_reducible repeat (first | refine blk_drewN ?_ _ | refine blk_drew ?_ | refine blk_alloc ?_ _)); exact p3.out⟩,⟨by repeat (first | (with_reducible first | exact HB.out | apply below_alloc | apply pw_below_drewN | apply below_drew1 | refine below_set ?_ r1.out | refine below_set ?_ r3.out) | exact HB.out)⟩⟩
       rw [if_pos c28] at H;have c28b0 : decide ((rd x5_3 ((rd_T80 l0_1 x8_3).f0)) < 99999) = true:=decide_eq_true c28;clear c28
       by_cases c29 : 0 ≤ ((rd_T80 l0_1 x8_3).f1)
       case neg =>
        rw [if_neg c29] at H;exact absurd H (by simp)
       rw [if_pos c29] at H;have c29b0 : decide (0 ≤ ((rd_T80 l0_1 x8_3).f1)) = true:=decide_eq_true c29;clear c29
       by_cases c30 : ((rd_T80 l0_1 x8_3).f1) < (x5_3.length : Int)
       case neg =>
        rw [if_neg c30] at H;exact absurd H (by simp)
       rw [if_pos c30] at H;have c30b0 : decide (((rd_T80 l0_1 x8_3).f1) < (x5_3.length : Int)) = true:=decide_eq_true c30;clear c30
       by_cases c31 : (wrap64 ((rd x5_3 ((rd_T80 l0_1 x8_3).f0)) + ((rd_T80 l0_1 x8_3).f2))) < (rd x5_3 ((rd_T80 l0_1 x8_3).f1))
       case neg =>
        rw [if_neg c31] at H;have c31b0 : decide ((wrap64 ((rd x5_3 ((rd_T80 l0_1 x8_3).f0)) + ((rd_T80 l0_1 x8_3).f2))) < (rd x5_3 ((rd_T80 l0_1 x8_3).f1))) = false:=decide_eq_false c31;clear c31;have H':=zy H;clear H;have hcz41_0 : wr.cell? ⟨p7,0,none⟩ = some (.int .i64 a0_0):=(blk_cell p3.out 0).trans rfl;have hcz41_1 : wr.cell? ⟨p7,1,none⟩ = some (.slice A0_1 l0_1.length c0_1):=(blk_cell p3.out 1).trans rfl;have hfz41_0:=blk_frozen p3.out 0;have hfz41_1:=blk_frozen p3.out 1;have p363 : 0 ≤ (x8_3 : Int):=of_decide_eq_true (by first | (with_reducible assumption) | assumption);have q363 : x8_3 < (l0_1.length : Int):=of_decide_eq_true (by first | (with_reducible assumption) | assumption);obtain ⟨q9,e363,q2,q3,q4,q5,q6⟩:=at_T80 t5.out x8_3 p363 q363;cases e363;replace q2:=(HB.out.cell (World.block_lt_of_cell? w _ q2)).trans q2;replace q3:=(HB.out.cell (World.block_lt_of_cell? w _ q3)).trans q3;replace q4:=(HB.out.cell (World.block_lt_of_cell? w _ q4)).trans q4;replace q5:=(HB.out.cell (World.block_lt_of_cell? w _ q5)).trans q5;replace q6:=(HB.out.cell (World.block_lt_of_cell? w _ q6)).trans q6;replace p363:=eq_true p363;replace q363:=eq_true q363
        try go_wp2_with (first | ((with_reducible refine gate_dst (N:=9) rfl ?_); refine box_event ?hg (N:=9) ?hd (cs:=#[.int .i64 0,.int .i64 0,.int .i64 0,.int .i64 0,.int .i64 0]) (t:=80) ?hr ?_; (case hd => rfl); (case hg => rfl); (case hr => first | (go_simp; done) | (go_simp; rfl)); intro p0 hg w42 hbox hb; have n0_:=zy (Kd.R_below HO_5.out hb); have n1_:=zy (blk_below (g:=p7) (o:=.cells #[.int .i64 a0_0,.slice (some q9) l0_1.length c0_1] 25 (0,0)) p3.out hb); have n2_:=zy (below_step HB.out hb); have n3_:=zy (hbox); have n4_:=zy ((by rw [hg]; exact (below_size HB.out) : w.heap.size ≤ p0)); have n5_:=zy ((by rw [hg]; exact (below_size HB.out) : w.heap.size ≤ p0)); have n6_:=zy ((by rw [hg]; exact Nat.ne_of_lt (blk_lt (g:=p7) (o:=.cells #[.int .i64 a0_0,.slice (some q9) l0_1.length c0_1] 25 (0,0)) p3.out) : p7 ≠ p0)); have n7_:=zy ((by rw [hg]; exact Nat.ne_of_gt (blk_lt (g:=p7) (o:=.cells #[.int .i64 a0_0,.slice (some q9) l0_1.length c0_1] 25 (0,0)) p3.out) : p0 ≠ p7)); clear HO_5; clear p3; clear HB; have HO_5:=n0_; have p3:=n1_; have HB:=n2_; have p4:=n3_; have GW364:=n4_; have r3:=n5_; have p5:=n6_; have r0:=n7_; clear n0_ n1_ n2_ n3_ n4_ n5_ n6_ n7_; clear hb hbox hg; have hnb43:=r0.out; have hnc43:=p5.out; have hcz44_0 : w42.cell? ⟨p0,0,none⟩ = some (.int .i64 0):=(blk_cell p4.out 0).trans rfl; have hcz44_1 : w42.cell? ⟨p0,1,none⟩ = some (.int .i64 0):=(blk_cell p4.out 1).trans rfl; have hcz44_2 : w42.cell? ⟨p0,2,none⟩ = some (.int .i64 0):=(blk_cell p4.out 2).trans rfl; have hcz44_3 : w42.cell? ⟨p0,3,none⟩ = some (.int .i64 0):=(blk_cell p4.out 3).trans rfl; have hcz44_4 : w42.cell? ⟨p0,4,none⟩ = some (.int .i64 0):=(blk_cell p4.out 4).trans rfl; have hfz44_0:=blk_frozen p4.out 0; have hfz44_1:=blk_frozen p4.out 1; have hfz44_2:=blk_frozen p4.out 2; have hfz44_3:=blk_frozen p4.out 3; have hfz44_4:=blk_frozen p4.out 4))
        have n0_ : Aside0 (Kd.R (Kd.int .i64) 3 (((((w42.setCell ⟨p0,0,none⟩ (.int .i64 ((rd_T80 l0_1 x8_3).f0))).setCell ⟨p0,1,none⟩ (.int .i64 ((rd_T80 l0_1 x8_3).f1))).setCell ⟨p0,2,none⟩ (.int .i64 ((rd_T80 l0_1 x8_3).f2))).setCell ⟨p0,3,none⟩ (.int .i64 ((rd_T80 l0_1 x8_3).f3))).setCell ⟨p0,4,none⟩ (.int .i64 ((rd_T80 l0_1 x8_3).f4))) w.heap.size (fun _ => True) (.slice (some ⟨go18,0,none⟩) x5_3.length co18) x5_3):=⟨by (with_reducible repeat (first | apply Kd.R_alloc | apply Kd.R_drewN | apply Kd.R_drew)); exact Kd.R_mono (Kd.R_far (p:=⟨p0,4,none⟩) (Kd.R_far (p:=⟨p0,3,none⟩) (Kd.R_far (p:=⟨p0,2,none⟩) (Kd.R_far (p:=⟨p0,1,none⟩) (Kd.R_far (p:=⟨p0,0,none⟩) (Kd.R_types HO_5.out p4.out (by decide)) (fun _ hk => hk.2) (.int .i64 ((rd_T80 l0_1 x8_3).f0))) (fun _ hk => hk.2) (.int .i64 ((rd_T80 l0_1 x8_3).f1))) (fun _ hk => hk.2) (.int .i64 ((rd_T80 l0_1 x8_3).f2))) (fun _ hk => hk.2) (.int .i64 ((rd_T80 l0_1 x8_3).f3))) (fun _ hk => hk.2) (.int .i64 ((rd_T80 l0_1 x8_3).f4))) (fun _ hk => trivial)⟩
        have n1_ : Aside0 ((((((w42.setCell ⟨p0,0,none⟩ (.int .i64 ((rd_T80 l0_1 x8_3).f0))).setCell ⟨p0,1,none⟩ (.int .i64 ((rd_T80 l0_1 x8_3).f1))).setCell ⟨p0,2,none⟩ (.int .i64 ((rd_T80 l0_1 x8_3).f2))).setCell ⟨p0,3,none⟩ (.int .i64 ((rd_T80 l0_1 x8_3).f3))).setCell ⟨p0,4,none⟩ (.int .i64 ((rd_T80 l0_1 x8_3).f4))).heap[p7]? = some (.cells #[.int .i64 a0_0,.slice (some q9) l0_1.length c0_1] 25 (0,0))):=⟨by (with_reducible repeat (first | refine blk_drewN ?_ _ | refine blk_drew ?_ | refine blk_alloc ?_ _)); refine blk_far ?_ p5.out _; (with_reducible repeat (first | refine blk_drewN ?_ _ | refine blk_drew ?_ | refine blk_alloc ?_ _)); refine blk_far ?_ p5.out _; (with_reducible repeat (first | refine blk_drewN ?_ _ | refine blk_drew ?_ | refine blk_alloc ?_ _)); refine blk_far ?_ p5.out _; (with_reducible repeat (first | refine blk_drewN ?_ _ | refine blk_drew ?_ | refine blk_alloc ?_ _)); refine blk_far ?_ p5.out _; (with_reducible repeat (first | refine blk_drewN ?_ _ | refine blk_drew ?_ | refine blk_alloc ?_ _)); refine blk_far ?_ p5.out _; (with_reducible repeat (first | refine blk_drewN ?_ _ | refine blk_drew ?_ | refine blk_alloc ?_ _)); exact p3.out⟩
        have n2_ : Aside0 ((((((w42.setCell ⟨p0,0,none⟩ (.int .i64 ((rd_T80 l0_1 x8_3).f0))).setCell ⟨p0,1,none⟩ (.int .i64 ((rd_T80 l0_1 x8_3).f1))).setCell ⟨p0,2,none⟩ (.int .i64 ((rd_T80 l0_1 x8_3).f2))).setCell ⟨p0,3,none⟩ (.int .i64 ((rd_T80 l0_1 x8_3).f3))).setCell ⟨p0,4,none⟩ (.int .i64 ((rd_T80 l0_1 x8_3).f4))).heap[p0]? = some (.cells #[.int .i64 ((rd_T80 l0_1 x8_3).f0),.int .i64 ((rd_T80 l0_1 x8_3).f1),.int .i64 ((rd_T80 l0_1 x8_3).f2),.int .i64 ((rd_T80 l0_1 x8_3).f3),.int .i64 ((rd_T80 l0_1 x8_3).f4)] 80 (0,0))):=⟨by (with_reducible repeat (first | refine blk_drewN ?_ _ | refine blk_drew ?_ | refine blk_alloc ?_ _)); refine blk_put (cs:=#[.int .i64 ((rd_T80 l0_1 x8_3).f0),.int .i64 ((rd_T80 l0_1 x8_3).f1),.int .i64 ((rd_T80 l0_1 x8_3).f2),.int .i64 ((rd_T80 l0_1 x8_3).f3),.int .i64 0]) ?_ 4 _ rfl; (with_reducible repeat (first | refine blk_drewN ?_ _ | refine blk_drew ?_ | refine blk_alloc ?_ _)); refine blk_put (cs:=#[.int .i64 ((rd_T80 l0_1 x8_3).f0),.int .i64 ((rd_T80 l0_1 x8_3).f1),.int .i64 ((rd_T80 l0_1 x8_3).f2),.int .i64 0,.int .i64 0]) ?_ 3 _ rfl; (with_reducible repeat (first | refine blk_drewN ?_ _ | refine blk_drew ?_ | refine blk_alloc ?_ _)); refine blk_put (cs:=#[.int .i64 ((rd_T80 l0_1 x8_3).f0),.int .i64 ((rd_T80 l0_1 x8_3).f1),.int .i64 0,.int .i64 0,.int .i64 0]) ?_ 2 _ rfl; (with_reducible repeat (first | refine blk_drewN ?_ _ | refine blk_drew ?_ | refine blk_alloc ?_ _)); refine blk_put (cs:=#[.int .i64 ((rd_T80 l0_1 x8_3).f0),.int .i64 0,.int .i64 0,.int .i64 0,.int .i64 0]) ?_ 1 _ rfl; (with_reducible repeat (first | refine blk_drewN ?_ _ | refine blk_drew ?_ | refine blk_alloc ?_ _)); refine blk_put (cs:=#[.int .i64 0,.int .i64 0,.int .i64 0,.int .i64 0,.int .i64 0]) ?_ 0 _ rfl; (with_reducible repeat (first | refine blk_drewN ?_ _ | refine blk_drew ?_ | refine blk_alloc ?_ _)); exact p4.out⟩
        have n3_ : Aside0 (Below w.heap.size w (((((w42.setCell ⟨p0,0,none⟩ (.int .i64 ((rd_T80 l0_1 x8_3).f0))).setCell ⟨p0,1,none⟩ (.int .i64 ((rd_T80 l0_1 x8_3).f1))).setCell ⟨p0,2,none⟩ (.int .i64 ((rd_T80 l0_1 x8_3).f2))).setCell ⟨p0,3,none⟩ (.int .i64 ((rd_T80 l0_1 x8_3).f3))).setCell ⟨p0,4,none⟩ (.int .i64 ((rd_T80 l0_1 x8_3).f4)))):=⟨by repeat (first | (with_reducible first | exact HB.out | apply below_alloc | apply pw_below_drewN | apply below_drew1 | refine below_set ?_ r1.out | refine below_set ?_ r3.out) | exact HB.out)⟩
        (try clear HO_5)
        (try clear p3)
        (try clear p4)
        (try clear HB)
        generalize (((((w42.setCell ⟨p0,0,none⟩ (.int .i64 ((rd_T80 l0_1 x8_3).f0))).setCell ⟨p0,1,none⟩ (.int .i64 ((rd_T80 l0_1 x8_3).f1))).setCell ⟨p0,2,none⟩ (.int .i64 ((rd_T80 l0_1 x8_3).f2))).setCell ⟨p0,3,none⟩ (.int .i64 ((rd_T80 l0_1 x8_3).f3))).setCell ⟨p0,4,none⟩ (.int .i64 ((rd_T80 l0_1 x8_3).f4))) = w45 at n0_ n1_ n2_ n3_ ⊢;have HO_5:=n0_;have p3:=n1_;have p4:=n2_;have HB:=n3_;clear n0_ n1_ n2_ n3_;have n0_:=zy (Kd.R_drew HO_5.out);have n1_:=zy (blk_drew p3.out);have n2_:=zy (blk_drew p4.out);have n3_:=zy (below_drew1 HB.out);clear HO_5;clear p3;clear p4;clear HB;have HO_5:=n0_;have p3:=n1_;have p4:=n2_;have HB:=n3_;clear n0_ n1_ n2_ n3_;have p365 : 0 ≤ (((rd_T80 l0_1 x8_3).f0) : Int):=of_decide_eq_true (by first | (with_reducible assumption) | assumption);have q365 : ((rd_T80 l0_1 x8_3).f0) < (x5_3.length : Int):=of_decide_eq_true (by first | (with_reducible assumption) | assumption);obtain ⟨r4,e365,p9⟩:=Kd.at_int (Kd.R_reads' HO_5.out).2.2 ((rd_T80 l0_1 x8_3).f0) p365 q365;obtain rfl : (⟨go18,0,none⟩ : Addr) = r4:=(by injection e365)
        (first | simp only [add_plain] at p9 | simp only [add_at] at p9 | simp only [Addr.add,Nat.zero_add] at p9 | skip)
        replace p365:=eq_true p365;replace q365:=eq_true q365;have p366 : 0 ≤ (((rd_T80 l0_1 x8_3).f0) : Int):=of_decide_eq_true (by first | (with_reducible assumption) | assumption);have q366 : ((rd_T80 l0_1 x8_3).f0) < (x5_3.length : Int):=of_decide_eq_true (by first | (with_reducible assumption) | assumption);obtain ⟨t8,e366,q7⟩:=Kd.at_int (Kd.R_reads' HO_5.out).2.2 ((rd_T80 l0_1 x8_3).f0) p366 q366;obtain rfl : (⟨go18,0,none⟩ : Addr) = t8:=(by injection e366)
        (first | simp only [add_plain] at q7 | simp only [add_at] at q7 | simp only [Addr.add,Nat.zero_add] at q7 | skip)
        replace p366:=eq_true p366;replace q366:=eq_true q366;have p367 : 0 ≤ (((rd_T80 l0_1 x8_3).f1) : Int):=of_decide_eq_true (by first | (with_reducible assumption) | assumption);have q367 : ((rd_T80 l0_1 x8_3).f1) < (x5_3.length : Int):=of_decide_eq_true (by first | (with_reducible assumption) | assumption);obtain ⟨t9,e367,q8⟩:=Kd.at_int (Kd.R_reads' HO_5.out).2.2 ((rd_T80 l0_1 x8_3).f1) p367 q367;obtain rfl : (⟨go18,0,none⟩ : Addr) = t9:=(by injection e367)
        (first | simp only [add_plain] at q8 | simp only [add_at] at q8 | simp only [Addr.add,Nat.zero_add] at q8 | skip)
        replace p367:=eq_true p367;replace q367:=eq_true q367;refine start_ (n:=22) (S:=fun w' => w'.cell? ⟨p0,0,none⟩ = some (.int .i64 ((rd_T80 l0_1 x8_3).f0)) ∧ w'.cell? ⟨p0,1,none⟩ = some (.int .i64 ((rd_T80 l0_1 x8_3).f1)) ∧ w'.cell? ⟨p0,2,none⟩ = some (.int .i64 ((rd_T80 l0_1 x8_3).f2)) ∧ w'.cell? ⟨p0,3,none⟩ = some (.int .i64 ((rd_T80 l0_1 x8_3).f3)) ∧ w'.cell? ⟨p0,4,none⟩ = some (.int .i64 ((rd_T80 l0_1 x8_3).f4)) ∧ w'.cell? ⟨go18,(((rd_T80 l0_1 x8_3).f0)).toNat,none⟩ = some (.int .i64 (rd x5_3 ((rd_T80 l0_1 x8_3).f0))) ∧ w'.cell? ⟨go18,(((rd_T80 l0_1 x8_3).f0)).toNat,none⟩ = some (.int .i64 (rd x5_3 ((rd_T80 l0_1 x8_3).f0))) ∧ w'.cell? ⟨go18,(((rd_T80 l0_1 x8_3).f1)).toNat,none⟩ = some (.int .i64 (rd x5_3 ((rd_T80 l0_1 x8_3).f1)))) (ds:=[]) #[U,U,U,U,U,U,U,U,U,U,U,U,U,U,U,U,U,U,U,U,U,U] (by kernel_rfl) rfl rfl ⟨(blk_cell p4.out 0).trans rfl,(blk_cell p4.out 1).trans rfl,(blk_cell p4.out 2).trans rfl,(blk_cell p4.out 3).trans rfl,(blk_cell p4.out 4).trans rfl,p9,q7,q8⟩ (fun hHeld => ?_); refine with_tabW spec_l3All.tab14 spec_l3All.bits14 (fun HT_ HW_ => ?_);generalize w45.drew = w46 at HO_5 p3 p4 HB p9 q7 q8 hHeld ⊢;refine pure_ (i:=0) (N:=some 43) (v:=?_) (a':=?_) #[Y,U,U,U,U,U,U,U,U,U,U,U,U,U,U,U,U,U,U,U,U,U] rfl rfl (any_of HT_.out (by kernel_rfl)) (fun _ _ _ h => h) (Or.inl ⟨by rfl,?_⟩) ?_ ?_;rotate_left
        ·intro w';go_simp;with_reducible rfl
        rotate_left
        ·simp only [Act.put,V,Z,zx,i64_w,i32_w];rfl
        refine pure_ (i:=1) (N:=some 44) (v:=?_) (a':=?_) #[Y,Y,U,U,U,U,U,U,U,U,U,U,U,U,U,U,U,U,U,U,U,U] rfl rfl (any_of HT_.out (by kernel_rfl)) (fun _ _ _ h => h) (Or.inl ⟨by rfl,?_⟩) ?_ ?_;rotate_left
        ·intro w';go_simp;with_reducible rfl
        rotate_left
        ·simp only [Act.put,V,Z,zx,i64_w,i32_w];rfl
        refine take_ (i:=2) (N:=some 45) (v:=?_) (a':=?_) #[Y,Y,Y,U,U,U,U,U,U,U,U,U,U,U,U,U,U,U,U,U,U,U] rfl rfl (take_ofW HT_.out HW_.out (by kernel_rfl)) (fun _ _ _ h => h) (Or.inl ⟨by rfl,?_⟩) hHeld ?_ ?_;rotate_left
        ·rintro w' ⟨s0,s1,s2,s3,s4,s5,s6,s7⟩;go_simp;with_reducible rfl
        rotate_left
        ·simp only [Act.put,V,Z,zx,i64_w,i32_w];rfl
        refine pure_ (i:=3) (N:=some 46) (v:=?_) (a':=?_) #[Y,Y,Y,Y,U,U,U,U,U,U,U,U,U,U,U,U,U,U,U,U,U,U] rfl rfl (any_of HT_.out (by kernel_rfl)) (fun _ _ _ h => h) (Or.inl ⟨by rfl,?_⟩) ?_ ?_;rotate_left
        ·intro w';go_simp;with_reducible rfl
        rotate_left
        ·simp only [Act.put,V,Z,zx,i64_w,i32_w];rfl
        refine take_ (i:=4) (N:=some 47) (v:=?_) (a':=?_) #[Y,Y,Y,Y,Y,U,U,U,U,U,U,U,U,U,U,U,U,U,U,U,U,U] rfl rfl (take_ofW HT_.out HW_.out (by kernel_rfl)) (fun _ _ _ h => h) (Or.inl ⟨by rfl,?_⟩) hHeld ?_ ?_;rotate_left
        ·rintro w' ⟨s0,s1,s2,s3,s4,s5,s6,s7⟩;go_simp;with_reducible rfl
        rotate_left
        ·simp only [Act.put,V,Z,zx,i64_w,i32_w];rfl
        refine pure_ (i:=5) (N:=some 48) (v:=?_) (a':=?_) #[Y,Y,Y,Y,Y,Y,U,U,U,U,U,U,U,U,U,U,U,U,U,U,U,U] rfl rfl (any_of HT_.out (by kernel_rfl)) (fun _ _ _ h => h) (Or.inl ⟨by rfl,?_⟩) ?_ ?_;rotate_left
        ·intro w';go_simp;with_reducible rfl
        rotate_left
        ·simp only [Act.put,V,Z,zx,i64_w,i32_w];rfl
        refine pure_ (i:=6) (N:=some 49) (v:=?_) (a':=?_) #[Y,Y,Y,Y,Y,Y,Y,U,U,U,U,U,U,U,U,U,U,U,U,U,U,U] rfl rfl (any_of HT_.out (by kernel_rfl)) (fun _ _ _ h => h) (Or.inl ⟨by rfl,?_⟩) ?_ ?_;rotate_left
        ·intro w';go_simp;with_reducible rfl
        rotate_left
        ·simp only [Act.put,V,Z,zx,i64_w,i32_w];rfl
        refine pure_ (i:=7) (N:=some 50) (v:=?_) (a':=?_) #[Y,Y,Y,Y,Y,Y,Y,Y,U,U,U,U,U,U,U,U,U,U,U,U,U,U] rfl rfl (any_of HT_.out (by kernel_rfl)) (fun _ _ _ h => h) (Or.inl ⟨by rfl,?_⟩) ?_ ?_;rotate_left
        ·intro w';go_simp;with_reducible rfl
        rotate_left
        ·simp only [Act.put,V,Z,zx,i64_w,i32_w];rfl
        refine pure_ (i:=8) (N:=some 51) (v:=?_) (a':=?_) #[Y,Y,Y,Y,Y,Y,Y,Y,Y,U,U,U,U,U,U,U,U,U,U,U,U,U] rfl rfl (any_of HT_.out (by kernel_rfl)) (fun _ _ _ h => h) (Or.inl ⟨by rfl,?_⟩) ?_ ?_;rotate_left
        ·intro w';go_simp;with_reducible rfl
        rotate_left
        ·simp only [Act.put,V,Z,zx,i64_w,i32_w];rfl
        refine pure_ (i:=12) (N:=some 55) (v:=?_) (a':=?_) #[Y,Y,Y,Y,Y,Y,Y,Y,Y,U,U,U,Y,U,U,U,U,U,U,U,U,U] rfl rfl (any_of HT_.out (by kernel_rfl)) (fun _ _ _ h => h) (Or.inl ⟨by rfl,?_⟩) ?_ ?_;rotate_left
        ·intro w';go_simp;with_reducible rfl
        rotate_left
        ·simp only [Act.put,V,Z,zx,i64_w,i32_w];rfl
        refine pure_ (i:=15) (N:=some 58) (v:=?_) (a':=?_) #[Y,Y,Y,Y,Y,Y,Y,Y,Y,U,U,U,Y,U,U,Y,U,U,U,U,U,U] rfl rfl (any_of HT_.out (by kernel_rfl)) (fun _ _ _ h => h) (Or.inl ⟨by rfl,?_⟩) ?_ ?_;rotate_left
        ·intro w';go_simp;with_reducible rfl
        rotate_left
        ·simp only [Act.put,V,Z,zx,i64_w,i32_w];rfl
        refine pure_ (i:=16) (N:=some 59) (v:=?_) (a':=?_) #[Y,Y,Y,Y,Y,Y,Y,Y,Y,U,U,U,Y,U,U,Y,Y,U,U,U,U,U] rfl rfl (any_of HT_.out (by kernel_rfl)) (fun _ _ _ h => h) (Or.inl ⟨by rfl,?_⟩) ?_ ?_;rotate_left
        ·intro w';go_simp;with_reducible rfl
        rotate_left
        ·simp only [Act.put,V,Z,zx,i64_w,i32_w];rfl
        refine take_ (i:=9) (N:=some 52) (v:=?_) (a':=?_) #[Y,Y,Y,Y,Y,Y,Y,Y,Y,Y,U,U,Y,U,U,Y,Y,U,U,U,U,U] rfl rfl (take_ofW HT_.out HW_.out (by kernel_rfl)) (fun _ _ _ h => h) (Or.inl ⟨by rfl,?_⟩) hHeld ?_ ?_;rotate_left
        ·rintro w' ⟨s0,s1,s2,s3,s4,s5,s6,s7⟩;go_simp;with_reducible rfl
        rotate_left
        ·simp only [Act.put,V,Z,zx,i64_w,i32_w];rfl
        refine pure_ (i:=10) (N:=some 53) (v:=?_) (a':=?_) #[Y,Y,Y,Y,Y,Y,Y,Y,Y,Y,Y,U,Y,U,U,Y,Y,U,U,U,U,U] rfl rfl (any_of HT_.out (by kernel_rfl)) (fun _ _ _ h => h) (Or.inl ⟨by rfl,?_⟩) ?_ ?_;rotate_left
        ·intro w';go_simp;with_reducible rfl
        rotate_left
        ·simp only [Act.put,V,Z,zx,i64_w,i32_w];rfl
        refine take_ (i:=11) (N:=some 54) (v:=?_) (a':=?_) #[Y,Y,Y,Y,Y,Y,Y,Y,Y,Y,Y,Y,Y,U,U,Y,Y,U,U,U,U,U] rfl rfl (take_ofW HT_.out HW_.out (by kernel_rfl)) (fun _ _ _ h => h) (Or.inl ⟨by rfl,?_⟩) hHeld ?_ ?_;rotate_left
        ·rintro w' ⟨s0,s1,s2,s3,s4,s5,s6,s7⟩;go_simp;with_reducible rfl
        rotate_left
        ·simp only [Act.put,V,Z,zx,i64_w,i32_w];rfl
        refine take_ (i:=13) (N:=some 56) (v:=?_) (a':=?_) #[Y,Y,Y,Y,Y,Y,Y,Y,Y,Y,Y,Y,Y,Y,U,Y,Y,U,U,U,U,U] rfl rfl (take_ofW HT_.out HW_.out (by kernel_rfl)) (fun _ _ _ h => h) (Or.inl ⟨by rfl,?_⟩) hHeld ?_ ?_;rotate_left
        ·rintro w' ⟨s0,s1,s2,s3,s4,s5,s6,s7⟩;go_simp;with_reducible rfl
        rotate_left
        ·simp only [Act.put,V,Z,zx,i64_w,i32_w];rfl
        refine pure_ (i:=14) (N:=some 57) (v:=?_) (a':=?_) #[Y,Y,Y,Y,Y,Y,Y,Y,Y,Y,Y,Y,Y,Y,Y,Y,Y,U,U,U,U,U] rfl rfl (any_of HT_.out (by kernel_rfl)) (fun _ _ _ h => h) (Or.inl ⟨by rfl,?_⟩) ?_ ?_;rotate_left
        ·intro w';go_simp;with_reducible rfl
        rotate_left
        ·simp only [Act.put,V,Z,zx,i64_w,i32_w];rfl
        refine take_ (i:=17) (N:=some 60) (v:=?_) (a':=?_) #[Y,Y,Y,Y,Y,Y,Y,Y,Y,Y,Y,Y,Y,Y,Y,Y,Y,Y,U,U,U,U] rfl rfl (take_ofW HT_.out HW_.out (by kernel_rfl)) (fun _ _ _ h => h) (Or.inl ⟨by rfl,?_⟩) hHeld ?_ ?_;rotate_left
        ·rintro w' ⟨s0,s1,s2,s3,s4,s5,s6,s7⟩;go_simp;with_reducible rfl
        rotate_left
        ·simp only [Act.put,V,Z,zx,i64_w,i32_w];rfl
        refine pure_ (i:=18) (N:=some 61) (v:=?_) (a':=?_) #[Y,Y,Y,Y,Y,Y,Y,Y,Y,Y,Y,Y,Y,Y,Y,Y,Y,Y,Y,U,U,U] rfl rfl (any_of HT_.out (by kernel_rfl)) (fun _ _ _ h => h) (Or.inl ⟨by rfl,?_⟩) ?_ ?_;rotate_left
        ·intro w';go_simp;with_reducible rfl
        rotate_left
        ·simp only [Act.put,V,Z,zx,i64_w,i32_w];rfl
        refine take_ (i:=19) (N:=some 62) (v:=?_) (a':=?_) #[Y,Y,Y,Y,Y,Y,Y,Y,Y,Y,Y,Y,Y,Y,Y,Y,Y,Y,Y,Y,U,U] rfl rfl (take_ofW HT_.out HW_.out (by kernel_rfl)) (fun _ _ _ h => h) (Or.inl ⟨by rfl,?_⟩) hHeld ?_ ?_;rotate_left
        ·rintro w' ⟨s0,s1,s2,s3,s4,s5,s6,s7⟩;go_simp;with_reducible rfl
        rotate_left
        ·simp only [Act.put,V,Z,zx,i64_w,i32_w];rfl
        refine pure_ (i:=20) (N:=some 63) (v:=?_) (a':=?_) #[Y,Y,Y,Y,Y,Y,Y,Y,Y,Y,Y,Y,Y,Y,Y,Y,Y,Y,Y,Y,Y,U] rfl rfl (any_of HT_.out (by kernel_rfl)) (fun _ _ _ h => h) (Or.inl ⟨by rfl,?_⟩) ?_ ?_;rotate_left
        ·intro w';go_simp;with_reducible rfl
        rotate_left
        ·simp only [Act.put,V,Z,zx,i64_w,i32_w];rfl
        refine pure_ (i:=21) (N:=some 64) (v:=?_) (a':=?_) #[Y,Y,Y,Y,Y,Y,Y,Y,Y,Y,Y,Y,Y,Y,Y,Y,Y,Y,Y,Y,Y,Y] rfl rfl (any_of HT_.out (by kernel_rfl)) (fun _ _ _ h => h) (Or.inl ⟨by rfl,?_⟩) ?_ ?_;rotate_left
        ·intro w';go_simp;with_reducible rfl
        rotate_left
        ·simp only [Act.put,V,Z,zx,i64_w,i32_w];rfl
        refine done_ (done_of HT_.out (by kernel_rfl)) ?_
        try go_wp2
        (try simp only [← hl5_3])
        go_roundg k3
        case measure => have:=HK1.out; have:=HK2.out; have:=HK3.out; omega
        case rel => exact ⟨(x5_3),(wrap64 (x8_3 + 1)),(by first | rfl | (simp; done) | (simp [*]; done)),H',⟨by have:=HK1.out; have:=HK2.out; have:=HK3.out; omega⟩,⟨by (try simp only [hl5_2]); (try simp only [hl5_3]); (with_reducible repeat (first | apply Kd.R_alloc | apply Kd.R_drewN | apply Kd.R_drew)); exact HO_5.out⟩,⟨by (try simp only [hl5_2]); (try simp only [hl5_3]); (with_reducible repeat (first | refine blk_drewN ?_ _ | refine blk_drew ?_ | refine blk_alloc ?_ _)); exact p3.out⟩,⟨by repeat (first | (with_reducible first | exact HB.out | apply below_alloc | apply pw_below_drewN | apply below_drew1 | refine below_set ?_ r1.out | refine below_set ?_ r3.out) | exact HB.out)⟩⟩
       rw [if_pos c31] at H;have c31b0 : decide ((wrap64 ((rd x5_3 ((rd_T80 l0_1 x8_3).f0)) + ((rd_T80 l0_1 x8_3).f2))) < (rd x5_3 ((rd_T80 l0_1 x8_3).f1))) = true:=decide_eq_true c31;clear c31;obtain ⟨y369,hy369⟩ : ∃ y_ : List Int,y_ = (x5_3.set (((rd_T80 l0_1 x8_3).f1) : Int).toNat (wrap64 ((rd x5_3 ((rd_T80 l0_1 x8_3).f0)) + ((rd_T80 l0_1 x8_3).f2)))):=⟨_,rfl⟩
       replace H : (spec_l3All.l2 k3 y369 x7_2 (wrap64 (x8_3 + 1)) a0_0 l0_1) = some r:=by first | (rw [hy369]; with_reducible exact H) | (have H2_:=(Option.bind_some _ _).symm.trans H; rw [hy369]; with_reducible exact H2_) | (have H2_:=(Option.bind_some _ _).symm.trans H; with_reducible exact H2_) | with_reducible exact H | (rw [hy369]; exact H) | exact H
       have Ny369:=zy hy369;clear hy369;have H':=zy H;clear H;have hcz33_0 : wr.cell? ⟨p7,0,none⟩ = some (.int .i64 a0_0):=(blk_cell p3.out 0).trans rfl;have hcz33_1 : wr.cell? ⟨p7,1,none⟩ = some (.slice A0_1 l0_1.length c0_1):=(blk_cell p3.out 1).trans rfl;have hfz33_0:=blk_frozen p3.out 0;have hfz33_1:=blk_frozen p3.out 1;have p363 : 0 ≤ (x8_3 : Int):=of_decide_eq_true (by first | (with_reducible assumption) | assumption);have q363 : x8_3 < (l0_1.length : Int):=of_decide_eq_true (by first | (with_reducible assumption) | assumption);obtain ⟨q9,e363,q2,q3,q4,q5,q6⟩:=at_T80 t5.out x8_3 p363 q363;cases e363;replace q2:=(HB.out.cell (World.block_lt_of_cell? w _ q2)).trans q2;replace q3:=(HB.out.cell (World.block_lt_of_cell? w _ q3)).trans q3;replace q4:=(HB.out.cell (World.block_lt_of_cell? w _ q4)).trans q4;replace q5:=(HB.out.cell (World.block_lt_of_cell? w _ q5)).trans q5;replace q6:=(HB.out.cell (World.block_lt_of_cell? w _ q6)).trans q6;replace p363:=eq_true p363;replace q363:=eq_true q363
       try go_wp2_with (first | ((with_reducible refine gate_dst (N:=9) rfl ?_); refine box_event ?hg (N:=9) ?hd (cs:=#[.int .i64 0,.int .i64 0,.int .i64 0,.int .i64 0,.int .i64 0]) (t:=80) ?hr ?_; (case hd => rfl); (case hg => rfl); (case hr => first | (go_simp; done) | (go_simp; rfl)); intro p0 hg w34 hbox hb; have n0_:=zy (Kd.R_below HO_5.out hb); have n1_:=zy (blk_below (g:=p7) (o:=.cells #[.int .i64 a0_0,.slice (some q9) l0_1.length c0_1] 25 (0,0)) p3.out hb); have n2_:=zy (below_step HB.out hb); have n3_:=zy (hbox); have n4_:=zy ((by rw [hg]; exact (below_size HB.out) : w.heap.size ≤ p0)); have n5_:=zy ((by rw [hg]; exact (below_size HB.out) : w.heap.size ≤ p0)); have n6_:=zy ((by rw [hg]; exact Nat.ne_of_lt (blk_lt (g:=p7) (o:=.cells #[.int .i64 a0_0,.slice (some q9) l0_1.length c0_1] 25 (0,0)) p3.out) : p7 ≠ p0)); have n7_:=zy ((by rw [hg]; exact Nat.ne_of_gt (blk_lt (g:=p7) (o:=.cells #[.int .i64 a0_0,.slice (some q9) l0_1.length c0_1] 25 (0,0)) p3.out) : p0 ≠ p7)); clear HO_5; clear p3; clear HB; have HO_5:=n0_; have p3:=n1_; have HB:=n2_; have p4:=n3_; have GW364:=n4_; have r3:=n5_; have p5:=n6_; have r0:=n7_; clear n0_ n1_ n2_ n3_ n4_ n5_ n6_ n7_; clear hb hbox hg; have hnb35:=r0.out; have hnc35:=p5.out; have hcz36_0 : w34.cell? ⟨p0,0,none⟩ = some (.int .i64 0):=(blk_cell p4.out 0).trans rfl; have hcz36_1 : w34.cell? ⟨p0,1,none⟩ = some (.int .i64 0):=(blk_cell p4.out 1).trans rfl; have hcz36_2 : w34.cell? ⟨p0,2,none⟩ = some (.int .i64 0):=(blk_cell p4.out 2).trans rfl; have hcz36_3 : w34.cell? ⟨p0,3,none⟩ = some (.int .i64 0):=(blk_cell p4.out 3).trans rfl; have hcz36_4 : w34.cell? ⟨p0,4,none⟩ = some (.int .i64 0):=(blk_cell p4.out 4).trans rfl; have hfz36_0:=blk_frozen p4.out 0; have hfz36_1:=blk_frozen p4.out 1; have hfz36_2:=blk_frozen p4.out 2; have hfz36_3:=blk_frozen p4.out 3; have hfz36_4:=blk_frozen p4.out 4))
       have n0_ : Aside0 (Kd.R (Kd.int .i64) 3 (((((w34.setCell ⟨p0,0,none⟩ (.int .i64 ((rd_T80 l0_1 x8_3).f0))).setCell ⟨p0,1,none⟩ (.int .i64 ((rd_T80 l0_1 x8_3).f1))).setCell ⟨p0,2,none⟩ (.int .i64 ((rd_T80 l0_1 x8_3).f2))).setCell ⟨p0,3,none⟩ (.int .i64 ((rd_T80 l0_1 x8_3).f3))).setCell ⟨p0,4,none⟩ (.int .i64 ((rd_T80 l0_1 x8_3).f4))) w.heap.size (fun _ => True) (.slice (some ⟨go18,0,none⟩) x5_3.length co18) x5_3):=⟨by (with_reducible repeat (first | apply Kd.R_alloc | apply Kd.R_drewN | apply Kd.R_drew)); exact Kd.R_mono (Kd.R_far (p:=⟨p0,4,none⟩) (Kd.R_far (p:=⟨p0,3,none⟩) (Kd.R_far (p:=⟨p0,2,none⟩) (Kd.R_far (p:=⟨p0,1,none⟩) (Kd.R_far (p:=⟨p0,0,none⟩) (Kd.R_types HO_5.out p4.out (by decide)) (fun _ hk => hk.2) (.int .i64 ((rd_T80 l0_1 x8_3).f0))) (fun _ hk => hk.2) (.int .i64 ((rd_T80 l0_1 x8_3).f1))) (fun _ hk => hk.2) (.int .i64 ((rd_T80 l0_1 x8_3).f2))) (fun _ hk => hk.2) (.int .i64 ((rd_T80 l0_1 x8_3).f3))) (fun _ hk => hk.2) (.int .i64 ((rd_T80 l0_1 x8_3).f4))) (fun _ hk => trivial)⟩
       have n1_ : Aside0 ((((((w34.setCell ⟨p0,0,none⟩ (.int .i64 ((rd_T80 l0_1 x8_3).f0))).setCell ⟨p0,1,none⟩ (.int .i64 ((rd_T80 l0_1 x8_3).f1))).setCell ⟨p0,2,none⟩ (.int .i64 ((rd_T80 l0_1 x8_3).f2))).setCell ⟨p0,3,none⟩ (.int .i64 ((rd_T80 l0_1 x8_3).f3))).setCell ⟨p0,4,none⟩ (.int .i64 ((rd_T80 l0_1 x8_3).f4))).heap[p7]? = some (.cells #[.int .i64 a0_0,.slice (some q9) l0_1.length c0_1] 25 (0,0))):=⟨by (with_reducible repeat (first | refine blk_drewN ?_ _ | refine blk_drew ?_ | refine blk_alloc ?_ _)); refine blk_far ?_ p5.out _; (with_reducible repeat (first | refine blk_drewN ?_ _ | refine blk_drew ?_ | refine blk_alloc ?_ _)); refine blk_far ?_ p5.out _; (with_reducible repeat (first | refine blk_drewN ?_ _ | refine blk_drew ?_ | refine blk_alloc ?_ _)); refine blk_far ?_ p5.out _; (with_reducible repeat (first | refine blk_drewN ?_ _ | refine blk_drew ?_ | refine blk_alloc ?_ _)); refine blk_far ?_ p5.out _; (with_reducible repeat (first | refine blk_drewN ?_ _ | refine blk_drew ?_ | refine blk_alloc ?_ _)); refine blk_far ?_ p5.out _; (with_reducible repeat (first | refine blk_drewN ?_ _ | refine blk_drew ?_ | refine blk_alloc ?_ _)); exact p3.out⟩
       have n2_ : Aside0 ((((((w34.setCell ⟨p0,0,none⟩ (.int .i64 ((rd_T80 l0_1 x8_3).f0))).setCell ⟨p0,1,none⟩ (.int .i64 ((rd_T80 l0_1 x8_3).f1))).setCell ⟨p0,2,none⟩ (.int .i64 ((rd_T80 l0_1 x8_3).f2))).setCell ⟨p0,3,none⟩ (.int .i64 ((rd_T80 l0_1 x8_3).f3))).setCell ⟨p0,4,none⟩ (.int .i64 ((rd_T80 l0_1 x8_3).f4))).heap[p0]? = some (.cells #[.int .i64 ((rd_T80 l0_1 x8_3).f0),.int .i64 ((rd_T80 l0_1 x8_3).f1),.int .i64 ((rd_T80 l0_1 x8_3).f2),.int .i64 ((rd_T80 l0_1 x8_3).f3),.int .i64 ((rd_T80 l0_1 x8_3).f4)] 80 (0,0))):=⟨by (with_reducible repeat (first | refine blk_drewN ?_ _ | refine blk_drew ?_ | refine blk_alloc ?_ _)); refine blk_put (cs:=#[.int .i64 ((rd_T80 l0_1 x8_3).f0),.int .i64 ((rd_T80 l0_1 x8_3).f1),.int .i64 ((rd_T80 l0_1 x8_3).f2),.int .i64 ((rd_T80 l0_1 x8_3).f3),.int .i64 0]) ?_ 4 _ rfl; (with_reducible repeat (first | refine blk_drewN ?_ _ | refine blk_drew ?_ | refine blk_alloc ?_ _)); refine blk_put (cs:=#[.int .i64 ((rd_T80 l0_1 x8_3).f0),.int .i64 ((rd_T80 l0_1 x8_3).f1),.int .i64 ((rd_T80 l0_1 x8_3).f2),.int .i64 0,.int .i64 0]) ?_ 3 _ rfl; (with_reducible repeat (first | refine blk_drewN ?_ _ | refine blk_drew ?_ | refine blk_alloc ?_ _)); refine blk_put (cs:=#[.int .i64 ((rd_T80 l0_1 x8_3).f0),.int .i64 ((rd_T80 l0_1 x8_3).f1),.int .i64 0,.int .i64 0,.int .i64 0]) ?_ 2 _ rfl; (with_reducible repeat (first | refine blk_drewN ?_ _ | refine blk_drew ?_ | refine blk_alloc ?_ _)); refine blk_put (cs:=#[.int .i64 ((rd_T80 l0_1 x8_3).f0),.int .i64 0,.int .i64 0,.int .i64 0,.int .i64 0]) ?_ 1 _ rfl; (with_reducible repeat (first | refine blk_drewN ?_ _ | refine blk_drew ?_ | refine blk_alloc ?_ _)); refine blk_put (cs:=#[.int .i64 0,.int .i64 0,.int .i64 0,.int .i64 0,.int .i64 0]) ?_ 0 _ rfl; (with_reducible repeat (first | refine blk_drewN ?_ _ | refine blk_drew ?_ | refine blk_alloc ?_ _)); exact p4.out⟩
       have n3_ : Aside0 (Below w.heap.size w (((((w34.setCell ⟨p0,0,none⟩ (.int .i64 ((rd_T80 l0_1 x8_3).f0))).setCell ⟨p0,1,none⟩ (.int .i64 ((rd_T80 l0_1 x8_3).f1))).setCell ⟨p0,2,none⟩ (.int .i64 ((rd_T80 l0_1 x8_3).f2))).setCell ⟨p0,3,none⟩ (.int .i64 ((rd_T80 l0_1 x8_3).f3))).setCell ⟨p0,4,none⟩ (.int .i64 ((rd_T80 l0_1 x8_3).f4)))):=⟨by repeat (first | (with_reducible first | exact HB.out | apply below_alloc | apply pw_below_drewN | apply below_drew1 | refine below_set ?_ r1.out | refine below_set ?_ r3.out) | exact HB.out)⟩
       (try clear HO_5)
       (try clear p3)
       (try clear p4)
       (try clear HB)
       generalize (((((w34.setCell ⟨p0,0,none⟩ (.int .i64 ((rd_T80 l0_1 x8_3).f0))).setCell ⟨p0,1,none⟩ (.int .i64 ((rd_T80 l0_1 x8_3).f1))).setCell ⟨p0,2,none⟩ (.int .i64 ((rd_T80 l0_1 x8_3).f2))).setCell ⟨p0,3,none⟩ (.int .i64 ((rd_T80 l0_1 x8_3).f3))).setCell ⟨p0,4,none⟩ (.int .i64 ((rd_T80 l0_1 x8_3).f4))) = w37 at n0_ n1_ n2_ n3_ ⊢;have HO_5:=n0_;have p3:=n1_;have p4:=n2_;have HB:=n3_;clear n0_ n1_ n2_ n3_;have n0_:=zy (Kd.R_drew HO_5.out);have n1_:=zy (blk_drew p3.out);have n2_:=zy (blk_drew p4.out);have n3_:=zy (below_drew1 HB.out);clear HO_5;clear p3;clear p4;clear HB;have HO_5:=n0_;have p3:=n1_;have p4:=n2_;have HB:=n3_;clear n0_ n1_ n2_ n3_;have p365 : 0 ≤ (((rd_T80 l0_1 x8_3).f0) : Int):=of_decide_eq_true (by first | (with_reducible assumption) | assumption);have q365 : ((rd_T80 l0_1 x8_3).f0) < (x5_3.length : Int):=of_decide_eq_true (by first | (with_reducible assumption) | assumption);obtain ⟨r4,e365,p9⟩:=Kd.at_int (Kd.R_reads' HO_5.out).2.2 ((rd_T80 l0_1 x8_3).f0) p365 q365;obtain rfl : (⟨go18,0,none⟩ : Addr) = r4:=(by injection e365)
       (first | simp only [add_plain] at p9 | simp only [add_at] at p9 | simp only [Addr.add,Nat.zero_add] at p9 | skip)
       replace p365:=eq_true p365;replace q365:=eq_true q365;have p366 : 0 ≤ (((rd_T80 l0_1 x8_3).f0) : Int):=of_decide_eq_true (by first | (with_reducible assumption) | assumption);have q366 : ((rd_T80 l0_1 x8_3).f0) < (x5_3.length : Int):=of_decide_eq_true (by first | (with_reducible assumption) | assumption);obtain ⟨t8,e366,q7⟩:=Kd.at_int (Kd.R_reads' HO_5.out).2.2 ((rd_T80 l0_1 x8_3).f0) p366 q366;obtain rfl : (⟨go18,0,none⟩ : Addr) = t8:=(by injection e366)
       (first | simp only [add_plain] at q7 | simp only [add_at] at q7 | simp only [Addr.add,Nat.zero_add] at q7 | skip)
       replace p366:=eq_true p366;replace q366:=eq_true q366;have p367 : 0 ≤ (((rd_T80 l0_1 x8_3).f1) : Int):=of_decide_eq_true (by first | (with_reducible assumption) | assumption);have q367 : ((rd_T80 l0_1 x8_3).f1) < (x5_3.length : Int):=of_decide_eq_true (by first | (with_reducible assumption) | assumption);obtain ⟨t9,e367,q8⟩:=Kd.at_int (Kd.R_reads' HO_5.out).2.2 ((rd_T80 l0_1 x8_3).f1) p367 q367;obtain rfl : (⟨go18,0,none⟩ : Addr) = t9:=(by injection e367)
       (first | simp only [add_plain] at q8 | simp only [add_at] at q8 | simp only [Addr.add,Nat.zero_add] at q8 | skip)
       replace p367:=eq_true p367;replace q367:=eq_true q367;refine start_ (n:=22) (S:=fun w' => w'.cell? ⟨p0,0,none⟩ = some (.int .i64 ((rd_T80 l0_1 x8_3).f0)) ∧ w'.cell? ⟨p0,1,none⟩ = some (.int .i64 ((rd_T80 l0_1 x8_3).f1)) ∧ w'.cell? ⟨p0,2,none⟩ = some (.int .i64 ((rd_T80 l0_1 x8_3).f2)) ∧ w'.cell? ⟨p0,3,none⟩ = some (.int .i64 ((rd_T80 l0_1 x8_3).f3)) ∧ w'.cell? ⟨p0,4,none⟩ = some (.int .i64 ((rd_T80 l0_1 x8_3).f4)) ∧ w'.cell? ⟨go18,(((rd_T80 l0_1 x8_3).f0)).toNat,none⟩ = some (.int .i64 (rd x5_3 ((rd_T80 l0_1 x8_3).f0))) ∧ w'.cell? ⟨go18,(((rd_T80 l0_1 x8_3).f0)).toNat,none⟩ = some (.int .i64 (rd x5_3 ((rd_T80 l0_1 x8_3).f0))) ∧ w'.cell? ⟨go18,(((rd_T80 l0_1 x8_3).f1)).toNat,none⟩ = some (.int .i64 (rd x5_3 ((rd_T80 l0_1 x8_3).f1)))) (ds:=[]) #[U,U,U,U,U,U,U,U,U,U,U,U,U,U,U,U,U,U,U,U,U,U] (by kernel_rfl) rfl rfl ⟨(blk_cell p4.out 0).trans rfl,(blk_cell p4.out 1).trans rfl,(blk_cell p4.out 2).trans rfl,(blk_cell p4.out 3).trans rfl,(blk_cell p4.out 4).trans rfl,p9,q7,q8⟩ (fun hHeld => ?_); refine with_tabW spec_l3All.tab14 spec_l3All.bits14 (fun HT_ HW_ => ?_);generalize w37.drew = w38 at HO_5 p3 p4 HB p9 q7 q8 hHeld ⊢;refine pure_ (i:=0) (N:=some 43) (v:=?_) (a':=?_) #[Y,U,U,U,U,U,U,U,U,U,U,U,U,U,U,U,U,U,U,U,U,U] rfl rfl (any_of HT_.out (by kernel_rfl)) (fun _ _ _ h => h) (Or.inl ⟨by rfl,?_⟩) ?_ ?_;rotate_left
       ·intro w';go_simp;with_reducible rfl
       rotate_left
       ·simp only [Act.put,V,Z,zx,i64_w,i32_w];rfl
       refine pure_ (i:=1) (N:=some 44) (v:=?_) (a':=?_) #[Y,Y,U,U,U,U,U,U,U,U,U,U,U,U,U,U,U,U,U,U,U,U] rfl rfl (any_of HT_.out (by kernel_rfl)) (fun _ _ _ h => h) (Or.inl ⟨by rfl,?_⟩) ?_ ?_;rotate_left
       ·intro w';go_simp;with_reducible rfl
       rotate_left
       ·simp only [Act.put,V,Z,zx,i64_w,i32_w];rfl
       refine take_ (i:=2) (N:=some 45) (v:=?_) (a':=?_) #[Y,Y,Y,U,U,U,U,U,U,U,U,U,U,U,U,U,U,U,U,U,U,U] rfl rfl (take_ofW HT_.out HW_.out (by kernel_rfl)) (fun _ _ _ h => h) (Or.inl ⟨by rfl,?_⟩) hHeld ?_ ?_;rotate_left
       ·rintro w' ⟨s0,s1,s2,s3,s4,s5,s6,s7⟩;go_simp;with_reducible rfl
       rotate_left
       ·simp only [Act.put,V,Z,zx,i64_w,i32_w];rfl
       refine pure_ (i:=3) (N:=some 46) (v:=?_) (a':=?_) #[Y,Y,Y,Y,U,U,U,U,U,U,U,U,U,U,U,U,U,U,U,U,U,U] rfl rfl (any_of HT_.out (by kernel_rfl)) (fun _ _ _ h => h) (Or.inl ⟨by rfl,?_⟩) ?_ ?_;rotate_left
       ·intro w';go_simp;with_reducible rfl
       rotate_left
       ·simp only [Act.put,V,Z,zx,i64_w,i32_w];rfl
       refine take_ (i:=4) (N:=some 47) (v:=?_) (a':=?_) #[Y,Y,Y,Y,Y,U,U,U,U,U,U,U,U,U,U,U,U,U,U,U,U,U] rfl rfl (take_ofW HT_.out HW_.out (by kernel_rfl)) (fun _ _ _ h => h) (Or.inl ⟨by rfl,?_⟩) hHeld ?_ ?_;rotate_left
       ·rintro w' ⟨s0,s1,s2,s3,s4,s5,s6,s7⟩;go_simp;with_reducible rfl
       rotate_left
       ·simp only [Act.put,V,Z,zx,i64_w,i32_w];rfl
       refine pure_ (i:=5) (N:=some 48) (v:=?_) (a':=?_) #[Y,Y,Y,Y,Y,Y,U,U,U,U,U,U,U,U,U,U,U,U,U,U,U,U] rfl rfl (any_of HT_.out (by kernel_rfl)) (fun _ _ _ h => h) (Or.inl ⟨by rfl,?_⟩) ?_ ?_;rotate_left
       ·intro w';go_simp;with_reducible rfl
       rotate_left
       ·simp only [Act.put,V,Z,zx,i64_w,i32_w];rfl
       refine pure_ (i:=6) (N:=some 49) (v:=?_) (a':=?_) #[Y,Y,Y,Y,Y,Y,Y,U,U,U,U,U,U,U,U,U,U,U,U,U,U,U] rfl rfl (any_of HT_.out (by kernel_rfl)) (fun _ _ _ h => h) (Or.inl ⟨by rfl,?_⟩) ?_ ?_;rotate_left
       ·intro w';go_simp;with_reducible rfl
       rotate_left
       ·simp only [Act.put,V,Z,zx,i64_w,i32_w];rfl
       refine pure_ (i:=7) (N:=some 50) (v:=?_) (a':=?_) #[Y,Y,Y,Y,Y,Y,Y,Y,U,U,U,U,U,U,U,U,U,U,U,U,U,U] rfl rfl (any_of HT_.out (by kernel_rfl)) (fun _ _ _ h => h) (Or.inl ⟨by rfl,?_⟩) ?_ ?_;rotate_left
       ·intro w';go_simp;with_reducible rfl
       rotate_left
       ·simp only [Act.put,V,Z,zx,i64_w,i32_w];rfl
       refine pure_ (i:=8) (N:=some 51) (v:=?_) (a':=?_) #[Y,Y,Y,Y,Y,Y,Y,Y,Y,U,U,U,U,U,U,U,U,U,U,U,U,U] rfl rfl (any_of HT_.out (by kernel_rfl)) (fun _ _ _ h => h) (Or.inl ⟨by rfl,?_⟩) ?_ ?_;rotate_left
       ·intro w';go_simp;with_reducible rfl
       rotate_left
       ·simp only [Act.put,V,Z,zx,i64_w,i32_w];rfl
       refine pure_ (i:=12) (N:=some 55) (v:=?_) (a':=?_) #[Y,Y,Y,Y,Y,Y,Y,Y,Y,U,U,U,Y,U,U,U,U,U,U,U,U,U] rfl rfl (any_of HT_.out (by kernel_rfl)) (fun _ _ _ h => h) (Or.inl ⟨by rfl,?_⟩) ?_ ?_;rotate_left
       ·intro w';go_simp;with_reducible rfl
       rotate_left
       ·simp only [Act.put,V,Z,zx,i64_w,i32_w];rfl
       refine pure_ (i:=15) (N:=some 58) (v:=?_) (a':=?_) #[Y,Y,Y,Y,Y,Y,Y,Y,Y,U,U,U,Y,U,U,Y,U,U,U,U,U,U] rfl rfl (any_of HT_.out (by kernel_rfl)) (fun _ _ _ h => h) (Or.inl ⟨by rfl,?_⟩) ?_ ?_;rotate_left
       ·intro w';go_simp;with_reducible rfl
       rotate_left
       ·simp only [Act.put,V,Z,zx,i64_w,i32_w];rfl
       refine pure_ (i:=16) (N:=some 59) (v:=?_) (a':=?_) #[Y,Y,Y,Y,Y,Y,Y,Y,Y,U,U,U,Y,U,U,Y,Y,U,U,U,U,U] rfl rfl (any_of HT_.out (by kernel_rfl)) (fun _ _ _ h => h) (Or.inl ⟨by rfl,?_⟩) ?_ ?_;rotate_left
       ·intro w';go_simp;with_reducible rfl
       rotate_left
       ·simp only [Act.put,V,Z,zx,i64_w,i32_w];rfl
       refine take_ (i:=9) (N:=some 52) (v:=?_) (a':=?_) #[Y,Y,Y,Y,Y,Y,Y,Y,Y,Y,U,U,Y,U,U,Y,Y,U,U,U,U,U] rfl rfl (take_ofW HT_.out HW_.out (by kernel_rfl)) (fun _ _ _ h => h) (Or.inl ⟨by rfl,?_⟩) hHeld ?_ ?_;rotate_left
       ·rintro w' ⟨s0,s1,s2,s3,s4,s5,s6,s7⟩;go_simp;with_reducible rfl
       rotate_left
       ·simp only [Act.put,V,Z,zx,i64_w,i32_w];rfl
       refine pure_ (i:=10) (N:=some 53) (v:=?_) (a':=?_) #[Y,Y,Y,Y,Y,Y,Y,Y,Y,Y,Y,U,Y,U,U,Y,Y,U,U,U,U,U] rfl rfl (any_of HT_.out (by kernel_rfl)) (fun _ _ _ h => h) (Or.inl ⟨by rfl,?_⟩) ?_ ?_;rotate_left
       ·intro w';go_simp;with_reducible rfl
       rotate_left
       ·simp only [Act.put,V,Z,zx,i64_w,i32_w];rfl
       refine take_ (i:=11) (N:=some 54) (v:=?_) (a':=?_) #[Y,Y,Y,Y,Y,Y,Y,Y,Y,Y,Y,Y,Y,U,U,Y,Y,U,U,U,U,U] rfl rfl (take_ofW HT_.out HW_.out (by kernel_rfl)) (fun _ _ _ h => h) (Or.inl ⟨by rfl,?_⟩) hHeld ?_ ?_;rotate_left
       ·rintro w' ⟨s0,s1,s2,s3,s4,s5,s6,s7⟩;go_simp;with_reducible rfl
       rotate_left
       ·simp only [Act.put,V,Z,zx,i64_w,i32_w];rfl
       refine take_ (i:=13) (N:=some 56) (v:=?_) (a':=?_) #[Y,Y,Y,Y,Y,Y,Y,Y,Y,Y,Y,Y,Y,Y,U,Y,Y,U,U,U,U,U] rfl rfl (take_ofW HT_.out HW_.out (by kernel_rfl)) (fun _ _ _ h => h) (Or.inl ⟨by rfl,?_⟩) hHeld ?_ ?_;rotate_left
       ·rintro w' ⟨s0,s1,s2,s3,s4,s5,s6,s7⟩;go_simp;with_reducible rfl
       rotate_left
       ·simp only [Act.put,V,Z,zx,i64_w,i32_w];rfl
       refine pure_ (i:=14) (N:=some 57) (v:=?_) (a':=?_) #[Y,Y,Y,Y,Y,Y,Y,Y,Y,Y,Y,Y,Y,Y,Y,Y,Y,U,U,U,U,U] rfl rfl (any_of HT_.out (by kernel_rfl)) (fun _ _ _ h => h) (Or.inl ⟨by rfl,?_⟩) ?_ ?_;rotate_left
       ·intro w';go_simp;with_reducible rfl
       rotate_left
       ·simp only [Act.put,V,Z,zx,i64_w,i32_w];rfl
       refine take_ (i:=17) (N:=some 60) (v:=?_) (a':=?_) #[Y,Y,Y,Y,Y,Y,Y,Y,Y,Y,Y,Y,Y,Y,Y,Y,Y,Y,U,U,U,U] rfl rfl (take_ofW HT_.out HW_.out (by kernel_rfl)) (fun _ _ _ h => h) (Or.inl ⟨by rfl,?_⟩) hHeld ?_ ?_;rotate_left
       ·rintro w' ⟨s0,s1,s2,s3,s4,s5,s6,s7⟩;go_simp;with_reducible rfl
       rotate_left
       ·simp only [Act.put,V,Z,zx,i64_w,i32_w];rfl
       refine pure_ (i:=18) (N:=some 61) (v:=?_) (a':=?_) #[Y,Y,Y,Y,Y,Y,Y,Y,Y,Y,Y,Y,Y,Y,Y,Y,Y,Y,Y,U,U,U] rfl rfl (any_of HT_.out (by kernel_rfl)) (fun _ _ _ h => h) (Or.inl ⟨by rfl,?_⟩) ?_ ?_;rotate_left
       ·intro w';go_simp;with_reducible rfl
       rotate_left
       ·simp only [Act.put,V,Z,zx,i64_w,i32_w];rfl
       refine take_ (i:=19) (N:=some 62) (v:=?_) (a':=?_) #[Y,Y,Y,Y,Y,Y,Y,Y,Y,Y,Y,Y,Y,Y,Y,Y,Y,Y,Y,Y,U,U] rfl rfl (take_ofW HT_.out HW_.out (by kernel_rfl)) (fun _ _ _ h => h) (Or.inl ⟨by rfl,?_⟩) hHeld ?_ ?_;rotate_left
       ·rintro w' ⟨s0,s1,s2,s3,s4,s5,s6,s7⟩;go_simp;with_reducible rfl
       rotate_left
       ·simp only [Act.put,V,Z,zx,i64_w,i32_w];rfl
       refine pure_ (i:=20) (N:=some 63) (v:=?_) (a':=?_) #[Y,Y,Y,Y,Y,Y,Y,Y,Y,Y,Y,Y,Y,Y,Y,Y,Y,Y,Y,Y,Y,U] rfl rfl (any_of HT_.out (by kernel_rfl)) (fun _ _ _ h => h) (Or.inl ⟨by rfl,?_⟩) ?_ ?_;rotate_left
       ·intro w';go_simp;with_reducible rfl
       rotate_left
       ·simp only [Act.put,V,Z,zx,i64_w,i32_w];rfl
       refine pure_ (i:=21) (N:=some 64) (v:=?_) (a':=?_) #[Y,Y,Y,Y,Y,Y,Y,Y,Y,Y,Y,Y,Y,Y,Y,Y,Y,Y,Y,Y,Y,Y] rfl rfl (any_of HT_.out (by kernel_rfl)) (fun _ _ _ h => h) (Or.inl ⟨by rfl,?_⟩) ?_ ?_;rotate_left
       ·intro w';go_simp;with_reducible rfl
       rotate_left
       ·simp only [Act.put,V,Z,zx,i64_w,i32_w];rfl
       refine done_ (done_of HT_.out (by kernel_rfl)) ?_
       try go_wp2
       have n0_:=zy (Kd.R_drew HO_5.out);have n1_:=zy (blk_drew p3.out);have n2_:=zy (blk_drew p4.out);have n3_:=zy (below_drew1 HB.out);clear HO_5;clear p3;clear p4;clear HB;have HO_5:=n0_;have p3:=n1_;have p4:=n2_;have HB:=n3_;clear n0_ n1_ n2_ n3_;have p368 : 0 ≤ (((rd_T80 l0_1 x8_3).f0) : Int):=of_decide_eq_true (by first | (with_reducible assumption) | assumption);have q368 : ((rd_T80 l0_1 x8_3).f0) < (x5_3.length : Int):=of_decide_eq_true (by first | (with_reducible assumption) | assumption);obtain ⟨ad368,e368,r2⟩:=Kd.at_int (Kd.R_reads' HO_5.out).2.2 ((rd_T80 l0_1 x8_3).f0) p368 q368;obtain rfl : (⟨go18,0,none⟩ : Addr) = ad368:=(by injection e368)
       (first | simp only [add_plain] at r2 | simp only [add_at] at r2 | simp only [Addr.add,Nat.zero_add] at r2 | skip)
       replace p368:=eq_true p368;replace q368:=eq_true q368;have p32 : 0 ≤ (((rd_T80 l0_1 x8_3).f1) : Int):=of_decide_eq_true (by first | (with_reducible assumption) | assumption);have q32 : (((rd_T80 l0_1 x8_3).f1) : Int) < ((x5_3.length : Int) : Int):=of_decide_eq_true (by first | (with_reducible assumption) | assumption);obtain ⟨hx32_0,hf32_0⟩:=Kd.R_celln 0 HO_5.out (((rd_T80 l0_1 x8_3).f1) : Int) p32 q32;replace p32:=eq_true p32;replace q32:=eq_true q32;have HP40:=Kd.R_putn HO_5.out (((rd_T80 l0_1 x8_3).f1) : Int) (wrap64 ((rd x5_3 ((rd_T80 l0_1 x8_3).f0)) + ((rd_T80 l0_1 x8_3).f2)));rw [← Ny369.out] at HP40;have HQ40:=zy HP40;clear HP40;refine start_ (n:=13) (S:=fun w' => w'.cell? ⟨p0,0,none⟩ = some (.int .i64 ((rd_T80 l0_1 x8_3).f0)) ∧ w'.cell? ⟨p0,1,none⟩ = some (.int .i64 ((rd_T80 l0_1 x8_3).f1)) ∧ w'.cell? ⟨p0,2,none⟩ = some (.int .i64 ((rd_T80 l0_1 x8_3).f2)) ∧ w'.cell? ⟨p0,3,none⟩ = some (.int .i64 ((rd_T80 l0_1 x8_3).f3)) ∧ w'.cell? ⟨p0,4,none⟩ = some (.int .i64 ((rd_T80 l0_1 x8_3).f4)) ∧ w'.cell? ⟨go18,(((rd_T80 l0_1 x8_3).f0)).toNat,none⟩ = some (.int .i64 (rd x5_3 ((rd_T80 l0_1 x8_3).f0)))) (ds:=[12]) #[U,U,U,U,U,U,U,U,U,U,U,U,U] (by kernel_rfl) rfl rfl ⟨(blk_cell p4.out 0).trans rfl,(blk_cell p4.out 1).trans rfl,(blk_cell p4.out 2).trans rfl,(blk_cell p4.out 3).trans rfl,(blk_cell p4.out 4).trans rfl,r2⟩ (fun hHeld => ?_); refine with_tabW spec_l3All.tab15 spec_l3All.bits15 (fun HT_ HW_ => ?_);generalize w38.drew = w39 at HO_5 p3 p4 HB HQ40 hf32_0 hx32_0 r2 hHeld ⊢;refine pure_ (i:=0) (N:=some 65) (v:=?_) (a':=?_) #[Y,U,U,U,U,U,U,U,U,U,U,U,U] rfl rfl (any_of HT_.out (by kernel_rfl)) (fun _ _ _ h => h) (Or.inl ⟨by rfl,?_⟩) ?_ ?_;rotate_left
       ·intro w';go_simp;with_reducible rfl
       rotate_left
       ·simp only [Act.put,V,Z,zx,i64_w,i32_w];rfl
       refine pure_ (i:=1) (N:=some 66) (v:=?_) (a':=?_) #[Y,Y,U,U,U,U,U,U,U,U,U,U,U] rfl rfl (any_of HT_.out (by kernel_rfl)) (fun _ _ _ h => h) (Or.inl ⟨by rfl,?_⟩) ?_ ?_;rotate_left
       ·intro w';go_simp;with_reducible rfl
       rotate_left
       ·simp only [Act.put,V,Z,zx,i64_w,i32_w];rfl
       refine pure_ (i:=3) (N:=some 68) (v:=?_) (a':=?_) #[Y,Y,U,Y,U,U,U,U,U,U,U,U,U] rfl rfl (any_of HT_.out (by kernel_rfl)) (fun _ _ _ h => h) (Or.inl ⟨by rfl,?_⟩) ?_ ?_;rotate_left
       ·intro w';go_simp;with_reducible rfl
       rotate_left
       ·simp only [Act.put,V,Z,zx,i64_w,i32_w];rfl
       refine pure_ (i:=4) (N:=some 69) (v:=?_) (a':=?_) #[Y,Y,U,Y,Y,U,U,U,U,U,U,U,U] rfl rfl (any_of HT_.out (by kernel_rfl)) (fun _ _ _ h => h) (Or.inl ⟨by rfl,?_⟩) ?_ ?_;rotate_left
       ·intro w';go_simp;with_reducible rfl
       rotate_left
       ·simp only [Act.put,V,Z,zx,i64_w,i32_w];rfl
       refine pure_ (i:=8) (N:=some 73) (v:=?_) (a':=?_) #[Y,Y,U,Y,Y,U,U,U,Y,U,U,U,U] rfl rfl (any_of HT_.out (by kernel_rfl)) (fun _ _ _ h => h) (Or.inl ⟨by rfl,?_⟩) ?_ ?_;rotate_left
       ·intro w';go_simp;with_reducible rfl
       rotate_left
       ·simp only [Act.put,V,Z,zx,i64_w,i32_w];rfl
       refine take_ (i:=2) (N:=some 67) (v:=?_) (a':=?_) #[Y,Y,Y,Y,Y,U,U,U,Y,U,U,U,U] rfl rfl (take_ofW HT_.out HW_.out (by kernel_rfl)) (fun _ _ _ h => h) (Or.inl ⟨by rfl,?_⟩) hHeld ?_ ?_;rotate_left
       ·rintro w' ⟨s0,s1,s2,s3,s4,s5⟩;go_simp;with_reducible rfl
       rotate_left
       ·simp only [Act.put,V,Z,zx,i64_w,i32_w];rfl
       refine take_ (i:=5) (N:=some 70) (v:=?_) (a':=?_) #[Y,Y,Y,Y,Y,Y,U,U,Y,U,U,U,U] rfl rfl (take_ofW HT_.out HW_.out (by kernel_rfl)) (fun _ _ _ h => h) (Or.inl ⟨by rfl,?_⟩) hHeld ?_ ?_;rotate_left
       ·rintro w' ⟨s0,s1,s2,s3,s4,s5⟩;go_simp;with_reducible rfl
       rotate_left
       ·simp only [Act.put,V,Z,zx,i64_w,i32_w];rfl
       refine pure_ (i:=6) (N:=some 71) (v:=?_) (a':=?_) #[Y,Y,Y,Y,Y,Y,Y,U,Y,U,U,U,U] rfl rfl (any_of HT_.out (by kernel_rfl)) (fun _ _ _ h => h) (Or.inl ⟨by rfl,?_⟩) ?_ ?_;rotate_left
       ·intro w';go_simp;with_reducible rfl
       rotate_left
       ·simp only [Act.put,V,Z,zx,i64_w,i32_w];rfl
       refine take_ (i:=7) (N:=some 72) (v:=?_) (a':=?_) #[Y,Y,Y,Y,Y,Y,Y,Y,Y,U,U,U,U] rfl rfl (take_ofW HT_.out HW_.out (by kernel_rfl)) (fun _ _ _ h => h) (Or.inl ⟨by rfl,?_⟩) hHeld ?_ ?_;rotate_left
       ·rintro w' ⟨s0,s1,s2,s3,s4,s5⟩;go_simp;with_reducible rfl
       rotate_left
       ·simp only [Act.put,V,Z,zx,i64_w,i32_w];rfl
       refine take_ (i:=9) (N:=some 74) (v:=?_) (a':=?_) #[Y,Y,Y,Y,Y,Y,Y,Y,Y,Y,U,U,U] rfl rfl (take_ofW HT_.out HW_.out (by kernel_rfl)) (fun _ _ _ h => h) (Or.inl ⟨by rfl,?_⟩) hHeld ?_ ?_;rotate_left
       ·rintro w' ⟨s0,s1,s2,s3,s4,s5⟩;go_simp;with_reducible rfl
       rotate_left
       ·simp only [Act.put,V,Z,zx,i64_w,i32_w];rfl
       refine pure_ (i:=10) (N:=some 75) (v:=?_) (a':=?_) #[Y,Y,Y,Y,Y,Y,Y,Y,Y,Y,Y,U,U] rfl rfl (any_of HT_.out (by kernel_rfl)) (fun _ _ _ h => h) (Or.inl ⟨by rfl,?_⟩) ?_ ?_;rotate_left
       ·intro w';go_simp;with_reducible rfl
       rotate_left
       ·simp only [Act.put,V,Z,zx,i64_w,i32_w];rfl
       refine pure_ (i:=11) (N:=some 76) (v:=?_) (a':=?_) #[Y,Y,Y,Y,Y,Y,Y,Y,Y,Y,Y,Y,U] rfl rfl (any_of HT_.out (by kernel_rfl)) (fun _ _ _ h => h) (Or.inl ⟨by rfl,?_⟩) ?_ ?_;rotate_left
       ·intro w';go_simp;with_reducible rfl
       rotate_left
       ·simp only [Act.put,V,Z,zx,i64_w,i32_w];rfl
       refine last_ (i:=12) (N:=none) #[true,true,true,true,true,true,true,true,true,true,true,true,true] rfl rfl (one_of HT_.out (by kernel_rfl)) (by decide) (fun K hK => ?_);refine skip_ (w1:=?_) (by rfl) rfl ?_ ?_;rotate_left
       ·go_simp;rfl
       refine hK.out _ _ ?_;clear hK K;refine done_ (done_of HT_.out (by kernel_rfl)) ?_
       try go_wp2
       (try simp only [← hl5_3])
       go_roundg k3
       case measure => have:=HK1.out; have:=HK2.out; have:=HK3.out; omega
       case rel => exact ⟨(y369),(wrap64 (x8_3 + 1)),(by first | rfl | (simp; done) | (simp [*]; done)),H',⟨by have:=HK1.out; have:=HK2.out; have:=HK3.out; omega⟩,⟨by (try simp only [hl5_2]); (try simp only [hl5_3]); (with_reducible repeat (first | apply Kd.R_alloc | apply Kd.R_drewN | apply Kd.R_drew)); exact HQ40.out⟩,⟨by (try simp only [hl5_2]); (try simp only [hl5_3]); (with_reducible repeat (first | refine blk_drewN ?_ _ | refine blk_drew ?_ | refine blk_alloc ?_ _)); refine blk_far ?_ (by have h_:=Kd.R_ne HO_5.out p3.out (by decide); intro e_; exact h_ (by rw [e_]; rfl)) _; (with_reducible repeat (first | refine blk_drewN ?_ _ | refine blk_drew ?_ | refine blk_alloc ?_ _)); exact p3.out⟩,⟨by repeat (first | (with_reducible first | exact HB.out | apply below_alloc | apply pw_below_drewN | apply below_drew1 | refine below_set ?_ GB18.out | refine below_set ?_ r1.out | refine below_set ?_ r3.out) | exact HB.out)⟩⟩
mutual
def spec_ManyAll.j0 : Nat → List Int → List Int → List (List Int) → Bool → Int → List (S80) → Option ((List (List Int)))
 | 0,_,_,_,_,_,_ => none
 | k + 1,x1,x2,x7,x27,p5,p6 => if x27 = true then (some ([] : List (List Int))) else (spec_ManyAll.l0 k x1 x2 x7 0 p5 p6)
def spec_ManyAll.l0 : Nat → List Int → List Int → List (List Int) → Int → Int → List (S80) → Option ((List (List Int)))
 | 0,_,_,_,_,_,_ => none
 | k + 1,x1,x2,x7,x8,p5,p6 => if x8 < (x1.length : Int) then (if 0 ≤ x8 then ((spec_l3All.f k p5 p6 (rd x1 x8)).bind fun t378 => (spec_ManyAll.l1 k x1 x2 x7 x8 t378 (([] : List Int)) 0 p5 p6)) else (none)) else (some x7)
def spec_ManyAll.l1 : Nat → List Int → List Int → List (List Int) → Int → List Int → List Int → Int → Int → List (S80) → Option ((List (List Int)))
 | 0,_,_,_,_,_,_,_,_,_ => none
 | k + 1,x1,x2,x7,x8,x9,x10,x11,p5,p6 => if x11 < (x2.length : Int) then (if 0 ≤ x11 then (if 0 ≤ (rd x2 x11) then (if (rd x2 x11) < (x9.length : Int) then (if x10.length < 17592186044416 then (spec_ManyAll.l1 k x1 x2 x7 x8 x9 (x10 ++ [rd x9 (rd x2 x11)]) (wrap64 (x11 + 1)) p5 p6) else (none)) else (none)) else (none)) else (none)) else (if x7.length < 5864062014805 then (spec_ManyAll.l0 k x1 x2 (x7 ++ [x10]) (wrap64 (x8 + 1)) p5 p6) else (none))
end
def spec_ManyAll.f (k : Nat) (a0_0 : Int) (l0_1 : List (S80)) (l1 : List Int) (l2 : List Int) : Option ((List (List Int))):=(some (([] : List (List Int)) : List (List Int))).bind fun y371 => ((spec_l1Ok.f k a0_0 l0_1).bind fun t374 => (if t374 = true then ((spec_l11Nodes.f k a0_0 l0_1 l1).bind fun t375 => (if t375 = true then ((spec_l11Nodes.f k a0_0 l0_1 l2).bind fun t376 => (spec_ManyAll.j0 k l1 l2 y371 (!t376) a0_0 l0_1)) else (spec_ManyAll.j0 k l1 l2 y371 true a0_0 l0_1))) else (spec_ManyAll.j0 k l1 l2 y371 true a0_0 l0_1)))
set_option maxHeartbeats 8000000 in
set_option maxRecDepth 100000 in
theorem spec_ManyAll.calls (k : Nat) (a0_0 : Int) (A0_1 : Option Addr) (c0_1 : Nat) (l0_1 : List (S80)) (A1 : Option Addr) (c1 : Nat) (l1 : List Int) (A2 : Option Addr) (c2 : Nat) (l2 : List Int) (r : List (List Int)) (w : World) (hr0_1 : Kd.C k80 w A0_1 l0_1.length l0_1) (hc0_1 : l0_1.length ≤ c0_1) (hr1 : Kd.C (Kd.int .i64) w A1 l1.length l1) (hc1 : l1.length ≤ c1) (hr2 : Kd.C (Kd.int .i64) w A2 l2.length l2) (hc2 : l2.length ≤ c2) (h : spec_ManyAll.f k a0_0 l0_1 l1 l2 = some r) :
  Calls Try.prog 37 #[.agg #[.int .i64 a0_0,.slice A0_1 l0_1.length c0_1],.slice A1 l1.length c1,.slice A2 l2.length c2] w fun e w' => ∃ v0_ : Value,e = .returned (v0_) ∧ Kd.S (Kd.slice 3 (Kd.int .i64)) 26 w' w.heap.size (fun _ => True) v0_ r ∧ Below w.heap.size w w':=by
 have hu25:=Try.underlying25;have q1:=zy hr0_1;have q2:=zy hc0_1;clear hr0_1 hc0_1;have HR1:=zy hr1;have HC1:=zy hc1;clear hr1 hc1;have HR2:=zy hr2;have HC2:=zy hc2;clear hr2 hc2;have HB:=zy (Below.refl w.heap.size w);have H : ((some (([] : List (List Int)) : List (List Int))).bind fun y371 => ((spec_l1Ok.f k a0_0 l0_1).bind fun t374 => (if t374 = true then ((spec_l11Nodes.f k a0_0 l0_1 l1).bind fun t375 => (if t375 = true then ((spec_l11Nodes.f k a0_0 l0_1 l2).bind fun t376 => (spec_ManyAll.j0 k l1 l2 y371 (!t376) a0_0 l0_1)) else (spec_ManyAll.j0 k l1 l2 y371 true a0_0 l0_1))) else (spec_ManyAll.j0 k l1 l2 y371 true a0_0 l0_1)))) = some r:=h;clear h;obtain ⟨y371,hy371⟩ : ∃ y_ : List (List Int),y_ = (([] : List (List Int))):=⟨_,rfl⟩
 replace H : ((spec_l1Ok.f k a0_0 l0_1).bind fun t374 => (if t374 = true then ((spec_l11Nodes.f k a0_0 l0_1 l1).bind fun t375 => (if t375 = true then ((spec_l11Nodes.f k a0_0 l0_1 l2).bind fun t376 => (spec_ManyAll.j0 k l1 l2 y371 (!t376) a0_0 l0_1)) else (spec_ManyAll.j0 k l1 l2 y371 true a0_0 l0_1))) else (spec_ManyAll.j0 k l1 l2 y371 true a0_0 l0_1))) = some r:=by first | (rw [hy371]; with_reducible exact H) | (have H2_:=(Option.bind_some _ _).symm.trans H; rw [hy371]; with_reducible exact H2_) | (have H2_:=(Option.bind_some _ _).symm.trans H; with_reducible exact H2_) | with_reducible exact H | (rw [hy371]; exact H) | exact H
 have Ny371:=zy hy371;clear hy371;have HC4:=zy H;clear H
 go_enter Try.func37,Try.ntmps37
 go_upto_region 2 with (first | ((with_reducible refine gate_dst (N:=3) rfl ?_); refine box_event ?hg (N:=3) ?hd (cs:=#[.int .i64 a0_0,.slice A0_1 l0_1.length c0_1]) (t:=25) ?hr ?_; (case hd => rfl); (case hg => rfl); (case hr => first | (go_simp; done) | (go_simp; rfl)); intro p1 hg w5 hbox hb; have n0_:=zy (below_step HB.out hb); have n1_:=zy (hbox); have n2_:=zy ((by rw [hg]; exact (below_size HB.out) : w.heap.size ≤ p1)); have n3_:=zy ((by rw [hg]; exact (below_size HB.out) : w.heap.size ≤ p1)); clear HB; have HB:=n0_; have p0:=n1_; have GW370:=n2_; have p9:=n3_; clear n0_ n1_ n2_ n3_; clear hb hbox hg) | ((with_reducible refine gate_dst (N:=12) rfl ?_); refine Kd.S_lit (Kd.slice 3 (Kd.int .i64)) _ 26 ?hg (N:=12) ?hd (xs:=([] : List (List Int))) (inner:=[]) (ok:=fun _ => True) (okp:=fun _ => True) ?hr ?hp (fun _ hk => hk) trivial (Below.refl _ _) (Nat.le_refl _) (by simp) ?_; (case hd => rfl); (case hg => rfl); (case hr => first | (go_simp; done) | (go_simp; rfl)); (case hp => exact (Reps.none _ _)); intro v372 w6 ho7 hb hg_ hnew_; clear hg_ hnew_; (first | rw [← Ny371.out] at ho7 | (simp only [Int.reduceToNat] at ho7; rw [← Ny371.out] at ho7)); have n0_:=zy (Kd.S_lower ho7 (below_size HB.out)); have n1_:=zy (blk_below (g:=p1) (o:=.cells #[.int .i64 a0_0,.slice A0_1 l0_1.length c0_1] 25 (0,0)) p0.out hb); have n2_:=zy (below_step HB.out hb); clear p0; clear HB; have HO373:=n0_; have p0:=n1_; have HB:=n2_; clear n0_ n1_ n2_; clear hb ho7))
 (try simp only [Act.put,V,Z,zx])
 go_cut [27] (fun v27 wc => ∃ (kq : Nat) (t3 : Bool),v27 = .bool t3 ∧ Aside0 (spec_ManyAll.j0 kq l1 l2 y371 t3 a0_0 l0_1 = some r) ∧ Aside0 (kq ≤ k) ∧ Aside0 (Kd.S (Kd.slice 3 (Kd.int .i64)) 26 wc w.heap.size (fun _ => True) v372 y371) ∧ Aside0 (wc.heap[p1]? = some (.cells #[.int .i64 a0_0,(.slice A0_1 l0_1.length c0_1)] 25 (0,0))) ∧ Aside0 (Below w.heap.size w wc))
 case first =>
  have H:=HC4.out;clear HC4;replace H:=Option.bind_eq_some_iff.mp H;obtain ⟨t374,A80,H⟩:=H;replace H : (if t374 = true then ((spec_l11Nodes.f k a0_0 l0_1 l1).bind fun t375 => (if t375 = true then ((spec_l11Nodes.f k a0_0 l0_1 l2).bind fun t376 => (spec_ManyAll.j0 k l1 l2 y371 (!t376) a0_0 l0_1)) else (spec_ManyAll.j0 k l1 l2 y371 true a0_0 l0_1))) else (spec_ManyAll.j0 k l1 l2 y371 true a0_0 l0_1)) = some r:=H;have A8:=zy A80;clear A80
  by_cases c9 : t374 = true
  case neg =>
   replace c9:=Bool.eq_false_iff.mpr c9;subst c9;have H1 : (spec_ManyAll.j0 k l1 l2 y371 true a0_0 l0_1) = some r:=by rw [if_neg (show ¬ (false = true) by decide)] at H; exact H
   clear H;have H:=H1;clear H1;have H':=zy H;clear H;have s8 : w6.cell? ⟨p1,0,none⟩ = some (.int .i64 a0_0):=(blk_cell p0.out 0).trans rfl;have s9 : w6.cell? ⟨p1,1,none⟩ = some (.slice A0_1 l0_1.length c0_1):=(blk_cell p0.out 1).trans rfl;have t0:=blk_frozen p0.out 0;have t1:=blk_frozen p0.out 1
   go_wp2_with (first | ((with_reducible refine gate_callee (f:=58) rfl ?_); refine goesL_ (some 14) rfl rfl Try.func58 (by kernel_rfl) rfl #[.agg #[.int .i64 a0_0,.slice A0_1 l0_1.length c0_1]] rfl (by (try simp only [List.map_toArray,List.map_cons,List.map_nil]); first | done | rfl | (simp only [List.length_drop,List.length_take]; rfl)) ?_; (with_reducible refine (spec_l1Ok.calls k a0_0 _ _ l0_1 false _ ?side1 ?side2 A8.out).mono ?_); (case side1 => repeat (first | exact (Kd.C_below q1.out HB.out) | (with_reducible refine Kd.C_alloc ?_ _) | (with_reducible refine Kd.C_drewN ?_ _) | (with_reducible refine Kd.C_drew ?_))); (case side2 => exact q2.out); rintro e w24 ⟨rfl,hb⟩; refine ⟨_,rfl,?_⟩; have n0_:=zy (Kd.S_below HO373.out hb); have n1_:=zy (blk_below (g:=p1) (o:=.cells #[.int .i64 a0_0,.slice A0_1 l0_1.length c0_1] 25 (0,0)) p0.out hb); have n2_:=zy (below_step HB.out hb); clear HO373; clear p0; clear HB; have HO373:=n0_; have p0:=n1_; have HB:=n2_; clear n0_ n1_ n2_; (try clear hb); (try clear hb2); (try clear hk); (try clear hi)))
   go_meet
   case rel => exact ⟨_,(true),(by first | rfl | (simp; done) | (simp [*]; done)),H',⟨by first | omega | exact Nat.le_refl _⟩,⟨by (with_reducible repeat (first | apply Kd.S_alloc | apply Kd.S_drewN | apply Kd.S_drew)); exact HO373.out⟩,⟨by (with_reducible repeat (first | refine blk_drewN ?_ _ | refine blk_drew ?_ | refine blk_alloc ?_ _)); exact p0.out⟩,⟨by repeat (first | (with_reducible first | exact HB.out | apply below_alloc | apply pw_below_drewN | apply below_drew1 | refine below_set ?_ p9.out) | exact HB.out)⟩⟩
  subst c9;have H1 : ((spec_l11Nodes.f k a0_0 l0_1 l1).bind fun t375 => (if t375 = true then ((spec_l11Nodes.f k a0_0 l0_1 l2).bind fun t376 => (spec_ManyAll.j0 k l1 l2 y371 (!t376) a0_0 l0_1)) else (spec_ManyAll.j0 k l1 l2 y371 true a0_0 l0_1))) = some r:=by rw [if_pos rfl] at H; exact H
  clear H;have H:=H1;clear H1;replace H:=Option.bind_eq_some_iff.mp H;obtain ⟨t375,A100,H⟩:=H;replace H : (if t375 = true then ((spec_l11Nodes.f k a0_0 l0_1 l2).bind fun t376 => (spec_ManyAll.j0 k l1 l2 y371 (!t376) a0_0 l0_1)) else (spec_ManyAll.j0 k l1 l2 y371 true a0_0 l0_1)) = some r:=H;have A10:=zy A100;clear A100
  by_cases c11 : t375 = true
  case neg =>
   replace c11:=Bool.eq_false_iff.mpr c11;subst c11;have H1 : (spec_ManyAll.j0 k l1 l2 y371 true a0_0 l0_1) = some r:=by rw [if_neg (show ¬ (false = true) by decide)] at H; exact H
   clear H;have H:=H1;clear H1;have H':=zy H;clear H;have r7 : w6.cell? ⟨p1,0,none⟩ = some (.int .i64 a0_0):=(blk_cell p0.out 0).trans rfl;have r8 : w6.cell? ⟨p1,1,none⟩ = some (.slice A0_1 l0_1.length c0_1):=(blk_cell p0.out 1).trans rfl;have r9:=blk_frozen p0.out 0;have s3:=blk_frozen p0.out 1
   go_wp2_with (first | ((with_reducible refine gate_callee (f:=58) rfl ?_); refine goesL_ (some 14) rfl rfl Try.func58 (by kernel_rfl) rfl #[.agg #[.int .i64 a0_0,.slice A0_1 l0_1.length c0_1]] rfl (by (try simp only [List.map_toArray,List.map_cons,List.map_nil]); first | done | rfl | (simp only [List.length_drop,List.length_take]; rfl)) ?_; (with_reducible refine (spec_l1Ok.calls k a0_0 _ _ l0_1 true _ ?side1 ?side2 A8.out).mono ?_); (case side1 => repeat (first | exact (Kd.C_below q1.out HB.out) | (with_reducible refine Kd.C_alloc ?_ _) | (with_reducible refine Kd.C_drewN ?_ _) | (with_reducible refine Kd.C_drew ?_))); (case side2 => exact q2.out); rintro e w20 ⟨rfl,hb⟩; refine ⟨_,rfl,?_⟩; have n0_:=zy (Kd.S_below HO373.out hb); have n1_:=zy (blk_below (g:=p1) (o:=.cells #[.int .i64 a0_0,.slice A0_1 l0_1.length c0_1] 25 (0,0)) p0.out hb); have n2_:=zy (below_step HB.out hb); clear HO373; clear p0; clear HB; have HO373:=n0_; have p0:=n1_; have HB:=n2_; clear n0_ n1_ n2_; (try clear hb); (try clear hb2); (try clear hk); (try clear hi); have s4 : w20.cell? ⟨p1,0,none⟩ = some (.int .i64 a0_0):=(blk_cell p0.out 0).trans rfl; have s5 : w20.cell? ⟨p1,1,none⟩ = some (.slice A0_1 l0_1.length c0_1):=(blk_cell p0.out 1).trans rfl; have s6:=blk_frozen p0.out 0; have s7:=blk_frozen p0.out 1) | (go_at_call 62; (with_reducible refine (spec_l11Nodes.calls k a0_0 _ _ l0_1 _ _ l1 false _ ?side1 ?side2 ?side3 ?side4 A10.out).mono ?_); (case side1 => repeat (first | exact (Kd.C_below q1.out HB.out) | (with_reducible refine Kd.C_alloc ?_ _) | (with_reducible refine Kd.C_drewN ?_ _) | (with_reducible refine Kd.C_drew ?_))); (case side2 => exact q2.out); (case side3 => repeat (first | exact (Kd.C_below HR1.out HB.out) | (with_reducible refine Kd.C_alloc ?_ _) | (with_reducible refine Kd.C_drewN ?_ _) | (with_reducible refine Kd.C_drew ?_))); (case side4 => exact HC1.out); rintro e w22 ⟨rfl,hb⟩; have n0_:=zy (Kd.S_below HO373.out hb); have n1_:=zy (blk_below (g:=p1) (o:=.cells #[.int .i64 a0_0,.slice A0_1 l0_1.length c0_1] 25 (0,0)) p0.out hb); have n2_:=zy (below_step HB.out hb); clear HO373; clear p0; clear HB; have HO373:=n0_; have p0:=n1_; have HB:=n2_; clear n0_ n1_ n2_; (try clear hb); (try clear hb2); (try clear hk); (try clear hi)))
   go_meet
   case rel => exact ⟨_,(true),(by first | rfl | (simp; done) | (simp [*]; done)),H',⟨by first | omega | exact Nat.le_refl _⟩,⟨by (with_reducible repeat (first | apply Kd.S_alloc | apply Kd.S_drewN | apply Kd.S_drew)); exact HO373.out⟩,⟨by (with_reducible repeat (first | refine blk_drewN ?_ _ | refine blk_drew ?_ | refine blk_alloc ?_ _)); exact p0.out⟩,⟨by repeat (first | (with_reducible first | exact HB.out | apply below_alloc | apply pw_below_drewN | apply below_drew1 | refine below_set ?_ p9.out) | exact HB.out)⟩⟩
  subst c11;have H1 : ((spec_l11Nodes.f k a0_0 l0_1 l2).bind fun t376 => (spec_ManyAll.j0 k l1 l2 y371 (!t376) a0_0 l0_1)) = some r:=by rw [if_pos rfl] at H; exact H
  clear H;have H:=H1;clear H1;replace H:=Option.bind_eq_some_iff.mp H;obtain ⟨t376,A120,H⟩:=H;replace H : (spec_ManyAll.j0 k l1 l2 y371 (!t376) a0_0 l0_1) = some r:=H;have A12:=zy A120;clear A120;have H':=zy H;clear H;have q5 : w6.cell? ⟨p1,0,none⟩ = some (.int .i64 a0_0):=(blk_cell p0.out 0).trans rfl;have q6 : w6.cell? ⟨p1,1,none⟩ = some (.slice A0_1 l0_1.length c0_1):=(blk_cell p0.out 1).trans rfl;have q7:=blk_frozen p0.out 0;have q8:=blk_frozen p0.out 1
  go_wp2_with (first | ((with_reducible refine gate_callee (f:=58) rfl ?_); refine goesL_ (some 14) rfl rfl Try.func58 (by kernel_rfl) rfl #[.agg #[.int .i64 a0_0,.slice A0_1 l0_1.length c0_1]] rfl (by (try simp only [List.map_toArray,List.map_cons,List.map_nil]); first | done | rfl | (simp only [List.length_drop,List.length_take]; rfl)) ?_; (with_reducible refine (spec_l1Ok.calls k a0_0 _ _ l0_1 true _ ?side1 ?side2 A8.out).mono ?_); (case side1 => repeat (first | exact (Kd.C_below q1.out HB.out) | (with_reducible refine Kd.C_alloc ?_ _) | (with_reducible refine Kd.C_drewN ?_ _) | (with_reducible refine Kd.C_drew ?_))); (case side2 => exact q2.out); rintro e w14 ⟨rfl,hb⟩; refine ⟨_,rfl,?_⟩; have n0_:=zy (Kd.S_below HO373.out hb); have n1_:=zy (blk_below (g:=p1) (o:=.cells #[.int .i64 a0_0,.slice A0_1 l0_1.length c0_1] 25 (0,0)) p0.out hb); have n2_:=zy (below_step HB.out hb); clear HO373; clear p0; clear HB; have HO373:=n0_; have p0:=n1_; have HB:=n2_; clear n0_ n1_ n2_; (try clear hb); (try clear hb2); (try clear hk); (try clear hi); have q9 : w14.cell? ⟨p1,0,none⟩ = some (.int .i64 a0_0):=(blk_cell p0.out 0).trans rfl; have r0 : w14.cell? ⟨p1,1,none⟩ = some (.slice A0_1 l0_1.length c0_1):=(blk_cell p0.out 1).trans rfl; have r1:=blk_frozen p0.out 0; have r2:=blk_frozen p0.out 1) | (go_at_call 62; (with_reducible refine (spec_l11Nodes.calls k a0_0 _ _ l0_1 _ _ l1 true _ ?side1 ?side2 ?side3 ?side4 A10.out).mono ?_); (case side1 => repeat (first | exact (Kd.C_below q1.out HB.out) | (with_reducible refine Kd.C_alloc ?_ _) | (with_reducible refine Kd.C_drewN ?_ _) | (with_reducible refine Kd.C_drew ?_))); (case side2 => exact q2.out); (case side3 => repeat (first | exact (Kd.C_below HR1.out HB.out) | (with_reducible refine Kd.C_alloc ?_ _) | (with_reducible refine Kd.C_drewN ?_ _) | (with_reducible refine Kd.C_drew ?_))); (case side4 => exact HC1.out); rintro e w16 ⟨rfl,hb⟩; have n0_:=zy (Kd.S_below HO373.out hb); have n1_:=zy (blk_below (g:=p1) (o:=.cells #[.int .i64 a0_0,.slice A0_1 l0_1.length c0_1] 25 (0,0)) p0.out hb); have n2_:=zy (below_step HB.out hb); clear HO373; clear p0; clear HB; have HO373:=n0_; have p0:=n1_; have HB:=n2_; clear n0_ n1_ n2_; (try clear hb); (try clear hb2); (try clear hk); (try clear hi); have r3 : w16.cell? ⟨p1,0,none⟩ = some (.int .i64 a0_0):=(blk_cell p0.out 0).trans rfl; have r4 : w16.cell? ⟨p1,1,none⟩ = some (.slice A0_1 l0_1.length c0_1):=(blk_cell p0.out 1).trans rfl; have r5:=blk_frozen p0.out 0; have r6:=blk_frozen p0.out 1) | (go_at_call 62; (with_reducible refine (spec_l11Nodes.calls k a0_0 _ _ l0_1 _ _ l2 t376 _ ?side1 ?side2 ?side3 ?side4 A12.out).mono ?_); (case side1 => repeat (first | exact (Kd.C_below q1.out HB.out) | (with_reducible refine Kd.C_alloc ?_ _) | (with_reducible refine Kd.C_drewN ?_ _) | (with_reducible refine Kd.C_drew ?_))); (case side2 => exact q2.out); (case side3 => repeat (first | exact (Kd.C_below HR2.out HB.out) | (with_reducible refine Kd.C_alloc ?_ _) | (with_reducible refine Kd.C_drewN ?_ _) | (with_reducible refine Kd.C_drew ?_))); (case side4 => exact HC2.out); rintro e w18 ⟨rfl,hb⟩; have n0_:=zy (Kd.S_below HO373.out hb); have n1_:=zy (blk_below (g:=p1) (o:=.cells #[.int .i64 a0_0,.slice A0_1 l0_1.length c0_1] 25 (0,0)) p0.out hb); have n2_:=zy (below_step HB.out hb); clear HO373; clear p0; clear HB; have HO373:=n0_; have p0:=n1_; have HB:=n2_; clear n0_ n1_ n2_; (try clear hb); (try clear hb2); (try clear hk); (try clear hi)))
  go_meet
  case rel => exact ⟨_,(!t376),(by first | rfl | (simp; done) | (simp [*]; done)),H',⟨by first | omega | exact Nat.le_refl _⟩,⟨by (with_reducible repeat (first | apply Kd.S_alloc | apply Kd.S_drewN | apply Kd.S_drew)); exact HO373.out⟩,⟨by (with_reducible repeat (first | refine blk_drewN ?_ _ | refine blk_drew ?_ | refine blk_alloc ?_ _)); exact p0.out⟩,⟨by repeat (first | (with_reducible first | exact HB.out | apply below_alloc | apply pw_below_drewN | apply below_drew1 | refine below_set ?_ p9.out) | exact HB.out)⟩⟩
 case rest =>
  clear HC4
  try clear c1
  try clear c2
  try clear p2
  try clear c3
  try clear c5
  try clear c9
  try clear c11
  try clear q5
  try clear q6
  try clear q9
  try clear r0
  try clear r3
  try clear r4
  try clear r7
  try clear r8
  try clear s4
  try clear s5
  try clear s8
  try clear s9
  try clear q7
  try clear q8
  try clear r1
  try clear r2
  try clear r5
  try clear r6
  try clear r9
  try clear s3
  try clear s6
  try clear s7
  try clear t0
  try clear t1
  obtain ⟨kq,t3,rfl,HA,HJ3,HO_7,p0,HB⟩:=hcut;cases kq with
  | zero => exact absurd HA.out (by simp [spec_ManyAll.j0])
  | succ kj3 =>
   have H:=HA.out;clear HA;simp only [spec_ManyAll.j0] at H
   by_cases c25 : t3 = true
   case pos =>
    subst c25;have H1 : (some ([] : List (List Int))) = some r:=by rw [if_pos rfl] at H; exact H
    clear H;have H:=H1;clear H1;obtain rfl:=Option.some.inj H
    go_wp2
    go_ret;exact ⟨_,by first | rfl | (simp [errW_none,errW_some] <;> rfl) | (simp [*,errW_none,errW_some] <;> rfl),by first | exact Kd.S_nil _ _ _ _ _ | exact Kd.N_nil _ _ _ _ _ | exact Kd.V_nil _ _ _ _ _ | exact Kd.Q_nil _ _ _ _ _ | exact Kd.R_nil _ _ _ _ _,by repeat (first | (with_reducible first | exact HB.out | apply below_alloc | apply pw_below_drewN | apply below_drew1 | refine below_set ?_ p9.out) | exact HB.out)⟩
   replace c25:=Bool.eq_false_iff.mpr c25;subst c25;have H1 : (spec_ManyAll.l0 kj3 l1 l2 y371 0 a0_0 l0_1) = some r:=by rw [if_neg (show ¬ (false = true) by decide)] at H; exact H
   clear H;have H:=H1;clear H1;have H':=zy H;clear H
   go_wp2
   go_loopg [7,8] kj3 (fun kq v7 v8 w' => ∃ (x7_2 : List (List Int)) (x8_2 : Int),v8 = .int .i64 x8_2 ∧ Aside0 (spec_ManyAll.l0 kq l1 l2 x7_2 x8_2 a0_0 l0_1 = some r) ∧ Aside0 (kq ≤ kj3) ∧ Aside0 (Kd.S (Kd.slice 3 (Kd.int .i64)) 26 w' w.heap.size (fun _ => True) v7 x7_2) ∧ Aside0 (w'.heap[p1]? = some (.cells #[.int .i64 a0_0,(.slice A0_1 l0_1.length c0_1)] 25 (0,0))) ∧ Aside0 (Below w.heap.size w w'))
   case atStart => exact ⟨(y371),(0),(by first | rfl | (simp; done) | (simp [*]; done)),H',⟨Nat.le_refl _⟩,⟨by (with_reducible repeat (first | apply Kd.S_alloc | apply Kd.S_drewN | apply Kd.S_drew)); exact HO_7.out⟩,⟨by (with_reducible repeat (first | refine blk_drewN ?_ _ | refine blk_drew ?_ | refine blk_alloc ?_ _)); exact p0.out⟩,⟨by repeat (first | (with_reducible first | exact HB.out | apply below_alloc | apply pw_below_drewN | apply below_drew1 | refine below_set ?_ p9.out) | exact HB.out)⟩⟩
   case round =>
    clear H'
    try clear c1
    try clear c2
    try clear p2
    try clear c3
    try clear c5
    try clear c9
    try clear c11
    try clear c25
    try clear q5
    try clear q6
    try clear q9
    try clear r0
    try clear r3
    try clear r4
    try clear r7
    try clear r8
    try clear s4
    try clear s5
    try clear s8
    try clear s9
    try clear q7
    try clear q8
    try clear r1
    try clear r2
    try clear r5
    try clear r6
    try clear r9
    try clear s3
    try clear s6
    try clear s7
    try clear t0
    try clear t1
    try clear p2
    obtain ⟨x7_2,x8_2,rfl,HA,HK2,HO_7,p0,HB⟩:=hrel;cases gk with
    | zero => exact absurd HA.out (by simp [spec_ManyAll.l0])
    | succ k2 =>
     have H:=HA.out;clear HA;simp only [spec_ManyAll.l0] at H
     by_cases c26 : x8_2 < (l1.length : Int)
     case neg =>
      rw [if_neg c26] at H;have c26b0 : decide (x8_2 < (l1.length : Int)) = false:=decide_eq_false c26;clear c26;obtain rfl:=Option.some.inj H
      go_wp2
      go_ret;exact ⟨_,by first | rfl | (simp [errW_none,errW_some] <;> rfl) | (simp [*,errW_none,errW_some] <;> rfl),by (with_reducible repeat (first | apply Kd.S_alloc | apply Kd.S_drewN | apply Kd.S_drew)); exact HO_7.out,by repeat (first | (with_reducible first | exact HB.out | apply below_alloc | apply pw_below_drewN | apply below_drew1 | refine below_set ?_ p9.out) | exact HB.out)⟩
     rw [if_pos c26] at H;have c26b0 : decide (x8_2 < (l1.length : Int)) = true:=decide_eq_true c26;clear c26
     by_cases c27 : 0 ≤ x8_2
     case neg =>
      rw [if_neg c27] at H;exact absurd H (by simp)
     rw [if_pos c27] at H;have c27b0 : decide (0 ≤ x8_2) = true:=decide_eq_true c27;clear c27;replace H:=Option.bind_eq_some_iff.mp H;obtain ⟨t378,A280,H⟩:=H;replace H : (spec_ManyAll.l1 k2 l1 l2 x7_2 x8_2 t378 (([] : List Int)) 0 a0_0 l0_1) = some r:=H;have A28:=zy A280;clear A280;obtain ⟨y381,hy381⟩ : ∃ y_ : List Int,y_ = (([] : List Int)):=⟨_,rfl⟩
     replace H : (spec_ManyAll.l1 k2 l1 l2 x7_2 x8_2 t378 y381 0 a0_0 l0_1) = some r:=by first | (rw [hy381]; with_reducible exact H) | (have H2_:=(Option.bind_some _ _).symm.trans H; rw [hy381]; with_reducible exact H2_) | (have H2_:=(Option.bind_some _ _).symm.trans H; with_reducible exact H2_) | with_reducible exact H | (rw [hy381]; exact H) | exact H
     have Ny381:=zy hy381;clear hy381;have H':=zy H;clear H
     try go_wp2
     have n0_:=zy (Kd.S_drew HO_7.out);have n1_:=zy (blk_drew p0.out);have n2_:=zy (below_drew1 HB.out);clear HO_7;clear p0;clear HB;have HO_7:=n0_;have p0:=n1_;have HB:=n2_;clear n0_ n1_ n2_;have p377 : 0 ≤ (x8_2 : Int):=of_decide_eq_true (by first | (with_reducible assumption) | assumption);have q377 : x8_2 < (l1.length : Int):=of_decide_eq_true (by first | (with_reducible assumption) | assumption);obtain ⟨ad377,e377,p7⟩:=Kd.at_int HR1.out x8_2 p377 q377;have q0:=p7;cases e377;replace p7:=(HB.out.cell (World.block_lt_of_cell? w _ p7)).trans p7;replace p377:=eq_true p377;replace q377:=eq_true q377;refine start_ (n:=7) (S:=fun w' => w'.cell? ⟨p1,0,none⟩ = some (.int .i64 a0_0) ∧ w'.cell? ⟨p1,1,none⟩ = some (.slice A0_1 l0_1.length c0_1) ∧ w'.cell? (ad377.add (x8_2).toNat) = some (.int .i64 (rd l1 x8_2))) (ds:=[]) #[false,false,false,false,false,false,false] (by kernel_rfl) rfl rfl ⟨(blk_cell p0.out 0).trans rfl,(blk_cell p0.out 1).trans rfl,((HB.out.cell (World.block_lt_of_cell? w _ q0)).trans q0)⟩ (fun hHeld => ?_);generalize wr.drew = w29 at HO_7 p0 HB p7 hHeld ⊢;refine pure_ (i:=1) (N:=some 35) (v:=?_) (a':=?_) #[false,true,false,false,false,false,false] rfl rfl (by kernel_rfl) (fun _ _ _ h => h) (Or.inl ⟨by rfl,?_⟩) ?_ ?_;rotate_left
     ·intro w';go_simp;with_reducible rfl
     rotate_left
     ·simp only [Act.put,V,Z,zx,i64_w,i32_w];rfl
     refine pure_ (i:=2) (N:=some 36) (v:=?_) (a':=?_) #[false,true,true,false,false,false,false] rfl rfl (by kernel_rfl) (fun _ _ _ h => h) (Or.inl ⟨by rfl,?_⟩) ?_ ?_;rotate_left
     ·intro w';go_simp;with_reducible rfl
     rotate_left
     ·simp only [Act.put,V,Z,zx,i64_w,i32_w];rfl
     refine pure_ (i:=3) (N:=some 37) (v:=?_) (a':=?_) #[false,true,true,true,false,false,false] rfl rfl (by kernel_rfl) (fun _ _ _ h => h) (Or.inl ⟨by rfl,?_⟩) ?_ ?_;rotate_left
     ·intro w';go_simp;with_reducible rfl
     rotate_left
     ·simp only [Act.put,V,Z,zx,i64_w,i32_w];rfl
     refine take_ (i:=0) (N:=some 34) (v:=?_) (a':=?_) #[true,true,true,true,false,false,false] rfl rfl (by kernel_rfl) (fun _ _ _ h => h) (Or.inl ⟨by rfl,?_⟩) hHeld ?_ ?_;rotate_left
     ·rintro w' ⟨s0,s1,s2⟩;go_simp;with_reducible rfl
     rotate_left
     ·simp only [Act.put,V,Z,zx,i64_w,i32_w];rfl
     refine take_ (i:=4) (N:=some 38) (v:=?_) (a':=?_) #[true,true,true,true,true,false,false] rfl rfl (by kernel_rfl) (fun _ _ _ h => h) (Or.inl ⟨by rfl,?_⟩) hHeld ?_ ?_;rotate_left
     ·rintro w' ⟨s0,s1,s2⟩;go_simp;with_reducible rfl
     rotate_left
     ·simp only [Act.put,V,Z,zx,i64_w,i32_w];rfl
     refine one_ (i:=5) (N:=some 39) #[true,true,true,true,true,true,false] rfl rfl (by kernel_rfl) (by decide) (fun K hK => ?_);refine goes_ Try.func63 (by kernel_rfl) rfl #[.agg #[.int .i64 a0_0,.slice A0_1 l0_1.length c0_1],.int .i64 (rd l1 x8_2)] (by rfl) rfl rfl (by (try simp only [List.map_toArray,List.map_cons,List.map_nil]); first | done | rfl | (simp only [List.length_drop,List.length_take]; rfl)) ?_;with_reducible refine (spec_l3All.calls k2 a0_0 _ _ l0_1 (rd l1 x8_2) t378 _ ?side1 ?side2 A28.out).mono ?_
     (case side1 => repeat (first | exact (Kd.C_below q1.out HB.out) | (with_reducible refine Kd.C_alloc ?_ _) | (with_reducible refine Kd.C_drewN ?_ _) | (with_reducible refine Kd.C_drew ?_)))
     (case side2 => exact q2.out)
     rintro e w30 ⟨v379,rfl,ho0,hb⟩;refine ⟨_,rfl,?_⟩;have n0_:=zy (Kd.S_elder' HO_7.out (Kd.R_base ho0) hb);have n1_:=zy (Kd.R_lower ho0 (below_size HB.out));have n2_:=zy (blk_below (g:=p1) (o:=.cells #[.int .i64 a0_0,.slice A0_1 l0_1.length c0_1] 25 (0,0)) p0.out hb);have n3_:=zy (below_step HB.out hb);clear HO_7;clear p0;clear HB;have HO_7:=n0_;have HO380:=n1_;have p0:=n2_;have HB:=n3_;clear n0_ n1_ n2_ n3_
     (try clear hb)
     (try clear hb2)
     (try clear hk)
     (try clear hi)
     (try clear ho0)
     refine hK.out _ _ ⟨(blk_cell p0.out 0).trans rfl,(blk_cell p0.out 1).trans rfl,((HB.out.cell (World.block_lt_of_cell? w _ q0)).trans q0)⟩ (fun hHeld => ?_);clear hK K;refine norm_ (a':=?_) ?_ ?_;rotate_left
     ·show Act.put _ (some 39) _ = _
      simp only [Act.put,V,Z,zx,i64_w,i32_w];rfl
     refine pure_ (i:=6) (N:=some 9) (v:=?_) (a':=?_) #[true,true,true,true,true,true,true] rfl rfl (by kernel_rfl) (fun _ _ _ h => h) (Or.inl ⟨by rfl,?_⟩) ?_ ?_;rotate_left
     ·intro w';go_simp;with_reducible rfl
     rotate_left
     ·simp only [Act.put,V,Z,zx,i64_w,i32_w];rfl
     refine done_ (by kernel_rfl) ?_
     try go_wp2_with (first | ((with_reducible refine gate_dst (N:=40) rfl ?_); refine Kd.R_lit (Kd.int .i64) _ 3 ?hg (N:=40) ?hd (xs:=([] : List Int)) (inner:=[]) (ok:=fun _ => True) (okp:=fun _ => True) ?hr ?hp (fun _ hk => hk) trivial (Below.refl _ _) (Nat.le_refl _) (by simp) ?_; (case hd => rfl); (case hg => rfl); (case hr => first | (go_simp; done) | (go_simp; rfl)); (case hp => exact (Reps.none _ _)); intro v382 w31 ho32 hb hg_ hnew_; clear hg_ hnew_; (first | rw [← Ny381.out] at ho32 | (simp only [Int.reduceToNat] at ho32; rw [← Ny381.out] at ho32)); have n0_:=zy (Kd.S_elder' HO_7.out (Kd.R_base ho32) hb); have n1_:=zy (Kd.R_elder' HO380.out (Kd.R_base ho32) hb); have n2_:=zy (Kd.R_lower (Kd.R_new' ho32 (Kd.R_lt HO380.out)) (below_size HB.out)); have n3_:=zy (blk_below (g:=p1) (o:=.cells #[.int .i64 a0_0,.slice A0_1 l0_1.length c0_1] 25 (0,0)) p0.out hb); have n4_:=zy (below_step HB.out hb); clear HO_7; clear HO380; clear p0; clear HB; have HO_7:=n0_; have HO380:=n1_; have HO383:=n2_; have p0:=n3_; have HB:=n4_; clear n0_ n1_ n2_ n3_ n4_; clear hb ho32))
     go_loopg [10,11] k2 (fun kq v10 v11 w' => ∃ (p8 : List Int) (p4 : Int),v11 = .int .i64 p4 ∧ Aside0 (spec_ManyAll.l1 kq l1 l2 x7_2 x8_2 t378 p8 p4 a0_0 l0_1 = some r) ∧ Aside0 (kq ≤ k2) ∧ Aside0 (Kd.S (Kd.slice 3 (Kd.int .i64)) 26 w' w.heap.size (fun k_ => some k_ ≠ (v379 : Value).ownBlock ∧ some k_ ≠ (v10 : Value).ownBlock) u7 x7_2) ∧ Aside0 (Kd.R (Kd.int .i64) 3 w' w.heap.size (fun k_ => some k_ ≠ (v10 : Value).ownBlock) v379 t378) ∧ Aside0 (Kd.R (Kd.int .i64) 3 w' w.heap.size (fun k_ => some k_ ≠ (v379 : Value).ownBlock) v10 p8) ∧ Aside0 (w'.heap[p1]? = some (.cells #[.int .i64 a0_0,(.slice A0_1 l0_1.length c0_1)] 25 (0,0))) ∧ Aside0 (Below w.heap.size w w'))
     case atStart => exact ⟨(y381),(0),(by first | rfl | (simp; done) | (simp [*]; done)),H',⟨Nat.le_refl _⟩,⟨by (with_reducible repeat (first | apply Kd.S_alloc | apply Kd.S_drewN | apply Kd.S_drew)); exact Kd.S_mono HO_7.out (fun _ hk => ⟨hk.1.2,hk.2⟩)⟩,⟨by (with_reducible repeat (first | apply Kd.R_alloc | apply Kd.R_drewN | apply Kd.R_drew)); exact Kd.R_mono HO380.out (fun _ hk => hk.2)⟩,⟨by (with_reducible repeat (first | apply Kd.R_alloc | apply Kd.R_drewN | apply Kd.R_drew)); exact Kd.R_mono HO383.out (fun _ hk => hk.2)⟩,⟨by (with_reducible repeat (first | refine blk_drewN ?_ _ | refine blk_drew ?_ | refine blk_alloc ?_ _)); exact p0.out⟩,⟨by repeat (first | (with_reducible first | exact HB.out | apply below_alloc | apply pw_below_drewN | apply below_drew1 | refine below_set ?_ p9.out) | exact HB.out)⟩⟩
     case round =>
      clear H'
      try clear c1
      try clear c2
      try clear p2
      try clear c3
      try clear p3
      try clear q3
      try clear hx3
      try clear c5
      try clear c6
      try clear c9
      try clear c11
      try clear c25
      try clear c26
      try clear c26b0
      try clear c27
      try clear c27b0
      try clear q5
      try clear q6
      try clear q9
      try clear r0
      try clear r3
      try clear r4
      try clear r7
      try clear r8
      try clear s4
      try clear s5
      try clear s8
      try clear s9
      try clear q7
      try clear q8
      try clear r1
      try clear r2
      try clear r5
      try clear r6
      try clear r9
      try clear s3
      try clear s6
      try clear s7
      try clear t0
      try clear t1
      try clear p7
      try clear p2
      try clear p377
      try clear q377
      obtain ⟨p8,p4,rfl,HA,HK3,HO_7,HO_9,q4,p0,HB⟩:=hrel;cases gk with
      | zero => exact absurd HA.out (by simp [spec_ManyAll.l1])
      | succ k3 =>
       have H:=HA.out;clear HA;simp only [spec_ManyAll.l1] at H
       by_cases c33 : p4 < (l2.length : Int)
       case neg =>
        rw [if_neg c33] at H;have c33b0 : decide (p4 < (l2.length : Int)) = false:=decide_eq_false c33;clear c33
        by_cases c40 : x7_2.length < 5864062014805
        case neg =>
         rw [if_neg c40] at H;exact absurd H (by simp)
        rw [if_pos c40] at H;have LMc40:=zy c40;clear c40;obtain ⟨y389,hy389⟩ : ∃ y_ : List (List Int),y_ = (x7_2 ++ [p8]):=⟨_,rfl⟩
        replace H : (spec_ManyAll.l0 k3 l1 l2 y389 (wrap64 (x8_2 + 1)) a0_0 l0_1) = some r:=by first | (rw [hy389]; with_reducible exact H) | (have H2_:=(Option.bind_some _ _).symm.trans H; rw [hy389]; with_reducible exact H2_) | (have H2_:=(Option.bind_some _ _).symm.trans H; with_reducible exact H2_) | with_reducible exact H | (rw [hy389]; exact H) | exact H
        have Ny389:=zy hy389;clear hy389;have H':=zy H;clear H;obtain ⟨Ao42,co42,eo42⟩:=Kd.R_slice q4.out;subst eo42
        go_wp2_with (first | ((with_reducible refine gate_builtin (b:=.append) (xs:=#[.tmp 57,.tmp 59]) rfl ?_); at_builtin; refine Kd.S_append (Kd.slice 3 (Kd.int .i64)) (w0:=w) w.heap.size rfl (.tmp 57) (.tmp 59) 56 26 (.slice none 0 0) 24 rfl Try.underlying56 info26 rfl (by decide) (by omega) u7 x7_2 p8 [.slice Ao42 p8.length co42] (fun k_ => some k_ ≠ (v379 : Value).ownBlock) (fun k_ => some k_ = (.slice Ao42 p8.length co42 : Value).ownBlock) rfl rfl ?aP (fun k_ hk_ => ((Kd.R_mono (ok':=fun k_ => ((fun k_ => some k_ ≠ (v379 : Value).ownBlock)) k_ ∧ some k_ ≠ (u7 : Value).ownBlock) (Kd.R_apart' (q4.out) (Kd.S_typed HO_7.out) (by decide)) (fun k_ hk => ⟨hk.1,hk.2⟩))).1 k_ hk_.symm) ?aF ?aO ?aB ?aS ?aL ?_; (case aP => exact Kd.M_row (Kd.R_mono (Kd.R_tight rfl (Kd.R_mono (ok':=fun k_ => ((fun k_ => some k_ ≠ (v379 : Value).ownBlock)) k_ ∧ some k_ ≠ (u7 : Value).ownBlock) (Kd.R_apart' (q4.out) (Kd.S_typed HO_7.out) (by decide)) (fun k_ hk => ⟨hk.1,hk.2⟩))) (fun _ h_ => h_))); (case aB => exact HB.out); (case aF => exact (fun k_ hk => Kd.fresh' (Kd.R_lt HO_9.out) k_ hk)); (case aO => exact (by (with_reducible repeat (first | apply Kd.S_alloc | apply Kd.S_drewN | apply Kd.S_drew)); exact Kd.S_mono HO_7.out (fun k_ hk => ⟨hk.1,fun e_ => hk.2 e_⟩))); (case aS => exact (below_size HB.out)); (case aL => have:=LMc40.out; omega); intro v390 w41 ho hb hg hat; rw [← Ny389.out] at ho; have n0_:=zy (Kd.R_over' HO_9.out (Kd.S_typed HO_7.out) (by decide) hg); have n1_:=zy (blk_grown (g:=p1) (o:=.cells #[.int .i64 a0_0,.slice A0_1 l0_1.length c0_1] 25 (0,0)) p0.out hg (Kd.S_ne HO_7.out p0.out (by decide))); have n2_:=zy (hb); have n3_:=zy (ho); clear HO_9; clear p0; clear HB; clear HO_7; clear q4; have HO_9:=n0_; have p0:=n1_; have HB:=n2_; have HO391:=n3_; clear n0_ n1_ n2_ n3_; clear ho hb hg hat))
        go_roundg k3
        case measure => have:=HJ3.out; have:=HK2.out; have:=HK3.out; omega
        case rel => exact ⟨(y389),(wrap64 (x8_2 + 1)),(by first | rfl | (simp; done) | (simp [*]; done)),H',⟨by have:=HJ3.out; have:=HK2.out; have:=HK3.out; omega⟩,⟨by (with_reducible repeat (first | apply Kd.S_alloc | apply Kd.S_drewN | apply Kd.S_drew)); exact Kd.S_mono HO391.out (fun _ hk => trivial)⟩,⟨by (with_reducible repeat (first | refine blk_drewN ?_ _ | refine blk_drew ?_ | refine blk_alloc ?_ _)); exact p0.out⟩,⟨by repeat (first | (with_reducible first | exact HB.out | apply below_alloc | apply pw_below_drewN | apply below_drew1 | refine below_set ?_ p9.out) | exact HB.out)⟩⟩
       rw [if_pos c33] at H;have c33b0 : decide (p4 < (l2.length : Int)) = true:=decide_eq_true c33;clear c33
       by_cases c34 : 0 ≤ p4
       case neg =>
        rw [if_neg c34] at H;exact absurd H (by simp)
       rw [if_pos c34] at H;have c34b0 : decide (0 ≤ p4) = true:=decide_eq_true c34;clear c34
       by_cases c35 : 0 ≤ (rd l2 p4)
       case neg =>
        rw [if_neg c35] at H;exact absurd H (by simp)
       rw [if_pos c35] at H;have c35b0 : decide (0 ≤ (rd l2 p4)) = true:=decide_eq_true c35;clear c35
       by_cases c36 : (rd l2 p4) < (t378.length : Int)
       case neg =>
        rw [if_neg c36] at H;exact absurd H (by simp)
       rw [if_pos c36] at H;have c36b0 : decide ((rd l2 p4) < (t378.length : Int)) = true:=decide_eq_true c36;clear c36
       by_cases c37 : p8.length < 17592186044416
       case neg =>
        rw [if_neg c37] at H;exact absurd H (by simp)
       rw [if_pos c37] at H;have LMc37:=zy c37;clear c37;obtain ⟨y386,hy386⟩ : ∃ y_ : List Int,y_ = (p8 ++ [rd t378 (rd l2 p4)]):=⟨_,rfl⟩
       replace H : (spec_ManyAll.l1 k3 l1 l2 x7_2 x8_2 t378 y386 (wrap64 (p4 + 1)) a0_0 l0_1) = some r:=by first | (rw [hy386]; with_reducible exact H) | (have H2_:=(Option.bind_some _ _).symm.trans H; rw [hy386]; with_reducible exact H2_) | (have H2_:=(Option.bind_some _ _).symm.trans H; with_reducible exact H2_) | with_reducible exact H | (rw [hy386]; exact H) | exact H
       have Ny386:=zy hy386;clear hy386;have H':=zy H;clear H;have p384 : 0 ≤ (p4 : Int):=of_decide_eq_true (by first | (with_reducible assumption) | assumption);have q384 : p4 < (l2.length : Int):=of_decide_eq_true (by first | (with_reducible assumption) | assumption);obtain ⟨ad384,e384,t2⟩:=Kd.at_int HR2.out p4 p384 q384;cases e384;replace t2:=(HB.out.cell (World.block_lt_of_cell? w _ t2)).trans t2;replace p384:=eq_true p384;replace q384:=eq_true q384;obtain ⟨Ao38,co38,eo38⟩:=Kd.R_slice HO_9.out;subst eo38;have p385 : 0 ≤ ((rd l2 p4) : Int):=of_decide_eq_true (by first | (with_reducible assumption) | assumption);have q385 : (rd l2 p4) < (t378.length : Int):=of_decide_eq_true (by first | (with_reducible assumption) | assumption);obtain ⟨ad385,e385,hx385_0⟩:=Kd.at_int (Kd.R_reads' HO_9.out).2.2 (rd l2 p4) p385 q385;cases e385;replace p385:=eq_true p385;replace q385:=eq_true q385
       go_wp2_with (first | ((with_reducible refine gate_builtin (b:=.append) (xs:=#[.tmp 47,.tmp 55]) rfl ?_); at_builtin; refine Kd.R_append (Kd.int .i64) (w0:=w) w.heap.size rfl (.tmp 47) (.tmp 55) 26 3 (.int .i64 0) 8 rfl Try.underlying26 info3 rfl (by decide) (by omega) u10 p8 (rd t378 (rd l2 p4)) [.int .i64 (rd t378 (rd l2 p4))] (fun k_ => some k_ ≠ (.slice (some ad385) t378.length co38 : Value).ownBlock) (fun _ => False) rfl rfl ?aP (fun _ hk => hk.elim) ?aF ?aO ?aB ?aS ?aL ?_; (case aP => exact rfl); (case aB => exact HB.out); (case aF => exact (fun k_ hk => Kd.fresh' (Kd.R_lt HO_9.out) k_ hk)); (case aO => exact q4.out); (case aS => exact (below_size HB.out)); (case aL => have:=LMc37.out; omega); intro v387 w39 ho hb hg hat; rw [← Ny386.out] at ho; have n0_:=zy (Kd.S_after (ok:=(fun k_ => some k_ ≠ (.slice (some ad385) t378.length co38 : Value).ownBlock)) HO_7.out hg hat); have n1_:=zy (Kd.R_after (ok:=(fun _ => True)) (Kd.R_mono HO_9.out (fun _ hk => ⟨trivial,hk⟩)) hg hat); have n2_:=zy (blk_grown (g:=p1) (o:=.cells #[.int .i64 a0_0,.slice A0_1 l0_1.length c0_1] 25 (0,0)) p0.out hg (Kd.R_ne q4.out p0.out (by decide))); have n3_:=zy (hb); have n4_:=zy (ho); clear HO_7; clear HO_9; clear p0; clear HB; clear q4; have HO_7:=n0_; have HO_9:=n1_; have p0:=n2_; have HB:=n3_; have HO388:=n4_; clear n0_ n1_ n2_ n3_ n4_; clear ho hb hg hat))
       go_roundg k3
       case measure => have:=HJ3.out; have:=HK2.out; have:=HK3.out; omega
       case rel => exact ⟨(y386),(wrap64 (p4 + 1)),(by first | rfl | (simp; done) | (simp [*]; done)),H',⟨by have:=HJ3.out; have:=HK2.out; have:=HK3.out; omega⟩,⟨by (with_reducible repeat (first | apply Kd.S_alloc | apply Kd.S_drewN | apply Kd.S_drew)); exact HO_7.out⟩,⟨by (with_reducible repeat (first | apply Kd.R_alloc | apply Kd.R_drewN | apply Kd.R_drew)); exact Kd.R_mono HO_9.out (fun _ hk => hk.2)⟩,⟨by (with_reducible repeat (first | apply Kd.R_alloc | apply Kd.R_drewN | apply Kd.R_drew)); exact HO388.out⟩,⟨by (with_reducible repeat (first | refine blk_drewN ?_ _ | refine blk_drew ?_ | refine blk_alloc ?_ _)); exact p0.out⟩,⟨by repeat (first | (with_reducible first | exact HB.out | apply below_alloc | apply pw_below_drewN | apply below_drew1 | refine below_set ?_ p9.out) | exact HB.out)⟩⟩
mutual
def spec_l8Order.l0 : Nat → List Int → Int → Int → Option (Bool)
 | 0,_,_,_ => none
 | k + 1,x0,x1,x5 => if x5 < (x0.length : Int) then (if 0 ≤ x5 then ((spec_l1In.f (rd x0 x5) 0 (wrap64 (x1 - 1))).bind fun t561 => (if t561 = true then (spec_l8Order.l1 k x0 x1 x5 0) else (some false))) else (none)) else (some ((x0.length : Int) == x1))
def spec_l8Order.l1 : Nat → List Int → Int → Int → Int → Option (Bool)
 | 0,_,_,_,_ => none
 | k + 1,x0,x1,x5,x6 => if x6 < x5 then (if 0 ≤ x6 then (if x6 < (x0.length : Int) then (if 0 ≤ x5 then (if x5 < (x0.length : Int) then (if (rd x0 x6) = (rd x0 x5) then (some false) else (spec_l8Order.l1 k x0 x1 x5 (wrap64 (x6 + 1)))) else (none)) else (none)) else (none)) else (none)) else (spec_l8Order.l0 k x0 x1 (wrap64 (x5 + 1)))
end
def spec_l8Order.f (k : Nat) (l0 : List Int) (a1 : Int) : Option (Bool):=spec_l8Order.l0 k l0 a1 0
set_option maxHeartbeats 8000000 in
set_option maxRecDepth 100000 in
theorem spec_l8Order.calls (k : Nat) (A0 : Option Addr) (c0 : Nat) (l0 : List Int) (a1 : Int) (r : Bool) (w : World) (hr0 : Kd.C (Kd.int .i64) w A0 l0.length l0) (hc0 : l0.length ≤ c0) (h : spec_l8Order.f k l0 a1 = some r) :
  Calls Try.prog 44 #[.slice A0 l0.length c0,.int .i64 a1] w fun e w' => e = .returned (.bool r) ∧ Drawn0 w w':=by
 have HR0:=zy hr0;have HC0:=zy hc0;clear hr0 hc0;have H : (spec_l8Order.l0 k l0 a1 0) = some r:=h;clear h;have H':=zy H;clear H
 go_enter Try.func44,Try.ntmps44
 go_wp2
 repeat (go_quiet (fail); try go_wp2)
 go_loopg [5] k (fun kq v5 w' => ∃ (x5_1 : Int),v5 = .int .i64 x5_1 ∧ Aside0 (spec_l8Order.l0 kq l0 a1 x5_1 = some r) ∧ Aside0 (kq ≤ k) ∧ Drawn0 w w')
 case atStart => exact ⟨(0),(by first | rfl | (simp; done) | (simp [*]; done)),H',⟨Nat.le_refl _⟩,by repeat (first | exact Drawn0.refl _ | apply Drawn0.step)⟩
 case round =>
  clear H'
  try clear p2
  obtain ⟨x5_1,rfl,HA,HK1,⟨m1,rfl⟩⟩:=hrel;cases gk with
  | zero => exact absurd HA.out (by simp [spec_l8Order.l0])
  | succ k1 =>
   have H:=HA.out;clear HA;simp only [spec_l8Order.l0] at H
   by_cases c3 : x5_1 < (l0.length : Int)
   case neg =>
    rw [if_neg c3] at H;have c3b0 : decide (x5_1 < (l0.length : Int)) = false:=decide_eq_false c3;clear c3;obtain rfl:=Option.some.inj H
    go_wp2
    repeat (go_quiet (fail); try go_wp2)
    go_ret;exact ⟨by first | rfl | (simp; done) | (simp [*]; done),by repeat (first | exact Drawn0.refl _ | apply Drawn0.step)⟩
   rw [if_pos c3] at H;have c3b0 : decide (x5_1 < (l0.length : Int)) = true:=decide_eq_true c3;clear c3
   by_cases c4 : 0 ≤ x5_1
   case neg =>
    rw [if_neg c4] at H;exact absurd H (by simp)
   rw [if_pos c4] at H;have c4b0 : decide (0 ≤ x5_1) = true:=decide_eq_true c4;clear c4;replace H:=Option.bind_eq_some_iff.mp H;obtain ⟨t561,A50,H⟩:=H;replace H : (if t561 = true then (spec_l8Order.l1 k1 l0 a1 x5_1 0) else (some false)) = some r:=H;have A5:=zy A50;clear A50
   by_cases c6 : t561 = true
   case neg =>
    replace c6:=Bool.eq_false_iff.mpr c6;subst c6;have H1 : (some false) = some r:=by rw [if_neg (show ¬ (false = true) by decide)] at H; exact H
    clear H;have H:=H1;clear H1;obtain rfl:=Option.some.inj H;have p560 : 0 ≤ (x5_1 : Int):=of_decide_eq_true (by first | (with_reducible assumption) | assumption);have q560 : x5_1 < (l0.length : Int):=of_decide_eq_true (by first | (with_reducible assumption) | assumption);obtain ⟨ad560,e560,hx560_0⟩:=Kd.at_int HR0.out x5_1 p560 q560;cases e560;replace p560:=eq_true p560;replace q560:=eq_true q560
    go_wp2_with (first | (go_at_call 60; (with_reducible refine (spec_l1In.calls (rd l0 x5_1) 0 (wrap64 (a1 - 1)) false _ A5.out).mono ?_); rintro e w' ⟨rfl,⟨nd,rfl⟩⟩; (try first | exact ⟨rfl,_,World.drewN_drewN _ _ _⟩ | exact ⟨rfl,_,Eq.trans (World.drewN_drewN _ _ _) (congrArg (World.drewN _) (Nat.add_assoc _ _ _))⟩)))
    repeat (go_quiet (first | (go_at_call 60; (with_reducible refine (spec_l1In.calls (rd l0 x5_1) 0 (wrap64 (a1 - 1)) false _ A5.out).mono ?_); rintro e w' ⟨rfl,⟨nd,rfl⟩⟩; (try first | exact ⟨rfl,_,World.drewN_drewN _ _ _⟩ | exact ⟨rfl,_,Eq.trans (World.drewN_drewN _ _ _) (congrArg (World.drewN _) (Nat.add_assoc _ _ _))⟩))); try go_wp2_with (first | (go_at_call 60; (with_reducible refine (spec_l1In.calls (rd l0 x5_1) 0 (wrap64 (a1 - 1)) false _ A5.out).mono ?_); rintro e w' ⟨rfl,⟨nd,rfl⟩⟩; (try first | exact ⟨rfl,_,World.drewN_drewN _ _ _⟩ | exact ⟨rfl,_,Eq.trans (World.drewN_drewN _ _ _) (congrArg (World.drewN _) (Nat.add_assoc _ _ _))⟩))))
    go_ret;exact ⟨by first | rfl | (simp; done) | (simp [*]; done),by repeat (first | exact Drawn0.refl _ | apply Drawn0.step)⟩
   subst c6;have H1 : (spec_l8Order.l1 k1 l0 a1 x5_1 0) = some r:=by rw [if_pos rfl] at H; exact H
   clear H;have H:=H1;clear H1;have H':=zy H;clear H;have p560 : 0 ≤ (x5_1 : Int):=of_decide_eq_true (by first | (with_reducible assumption) | assumption);have q560 : x5_1 < (l0.length : Int):=of_decide_eq_true (by first | (with_reducible assumption) | assumption);obtain ⟨ad560,e560,hx560_0⟩:=Kd.at_int HR0.out x5_1 p560 q560;cases e560;replace p560:=eq_true p560;replace q560:=eq_true q560
   go_wp2_with (first | (go_at_call 60; (with_reducible refine (spec_l1In.calls (rd l0 x5_1) 0 (wrap64 (a1 - 1)) true _ A5.out).mono ?_); rintro e w' ⟨rfl,⟨nd,rfl⟩⟩; (try first | exact ⟨rfl,_,World.drewN_drewN _ _ _⟩ | exact ⟨rfl,_,Eq.trans (World.drewN_drewN _ _ _) (congrArg (World.drewN _) (Nat.add_assoc _ _ _))⟩)))
   repeat (go_quiet (first | (go_at_call 60; (with_reducible refine (spec_l1In.calls (rd l0 x5_1) 0 (wrap64 (a1 - 1)) true _ A5.out).mono ?_); rintro e w' ⟨rfl,⟨nd,rfl⟩⟩; (try first | exact ⟨rfl,_,World.drewN_drewN _ _ _⟩ | exact ⟨rfl,_,Eq.trans (World.drewN_drewN _ _ _) (congrArg (World.drewN _) (Nat.add_assoc _ _ _))⟩))); try go_wp2_with (first | (go_at_call 60; (with_reducible refine (spec_l1In.calls (rd l0 x5_1) 0 (wrap64 (a1 - 1)) true _ A5.out).mono ?_); rintro e w' ⟨rfl,⟨nd,rfl⟩⟩; (try first | exact ⟨rfl,_,World.drewN_drewN _ _ _⟩ | exact ⟨rfl,_,Eq.trans (World.drewN_drewN _ _ _) (congrArg (World.drewN _) (Nat.add_assoc _ _ _))⟩))))
   go_loopg [6] k1 (fun kq v6 w' => ∃ (x6_2 : Int),v6 = .int .i64 x6_2 ∧ Aside0 (spec_l8Order.l1 kq l0 a1 x5_1 x6_2 = some r) ∧ Aside0 (kq ≤ k1) ∧ Drawn0 w w')
   case atStart => exact ⟨(0),(by first | rfl | (simp; done) | (simp [*]; done)),H',⟨Nat.le_refl _⟩,by repeat (first | exact Drawn0.refl _ | apply Drawn0.step)⟩
   case round =>
    clear H'
    try clear p2
    try clear c3
    try clear c3b0
    try clear c4
    try clear c4b0
    try clear p5
    try clear q5
    try clear hx5
    try clear c6
    try clear p6
    try clear hx560_0
    try clear p2
    try clear p560
    try clear q560
    obtain ⟨x6_2,rfl,HA,HK2,⟨m2,rfl⟩⟩:=hrel;cases gk with
    | zero => exact absurd HA.out (by simp [spec_l8Order.l1])
    | succ k2 =>
     have H:=HA.out;clear HA;simp only [spec_l8Order.l1] at H
     by_cases c7 : x6_2 < x5_1
     case neg =>
      rw [if_neg c7] at H;have c7b0 : decide (x6_2 < x5_1) = false:=decide_eq_false c7;clear c7;have H':=zy H;clear H
      go_wp2
      repeat (go_quiet (fail); try go_wp2)
      go_roundg k2
      case measure => have:=HK1.out; have:=HK2.out; omega
      case rel => exact ⟨(wrap64 (x5_1 + 1)),(by first | rfl | (simp; done) | (simp [*]; done)),H',⟨by have:=HK1.out; have:=HK2.out; omega⟩,by repeat (first | exact Drawn0.refl _ | apply Drawn0.step)⟩
     rw [if_pos c7] at H;have c7b0 : decide (x6_2 < x5_1) = true:=decide_eq_true c7;clear c7
     by_cases c8 : 0 ≤ x6_2
     case neg =>
      rw [if_neg c8] at H;exact absurd H (by simp)
     rw [if_pos c8] at H;have c8b0 : decide (0 ≤ x6_2) = true:=decide_eq_true c8;clear c8
     by_cases c9 : x6_2 < (l0.length : Int)
     case neg =>
      rw [if_neg c9] at H;exact absurd H (by simp)
     rw [if_pos c9] at H;have c9b0 : decide (x6_2 < (l0.length : Int)) = true:=decide_eq_true c9;clear c9
     by_cases c10 : 0 ≤ x5_1
     case neg =>
      rw [if_neg c10] at H;exact absurd H (by simp)
     rw [if_pos c10] at H;have c10b0 : decide (0 ≤ x5_1) = true:=decide_eq_true c10;clear c10
     by_cases c11 : x5_1 < (l0.length : Int)
     case neg =>
      rw [if_neg c11] at H;exact absurd H (by simp)
     rw [if_pos c11] at H;have c11b0 : decide (x5_1 < (l0.length : Int)) = true:=decide_eq_true c11;clear c11
     by_cases c12 : (rd l0 x6_2) = (rd l0 x5_1)
     case pos =>
      rw [if_pos c12] at H;have c12b0 : ((rd l0 x6_2) == (rd l0 x5_1)) = true:=beq_iff_eq.mpr c12;have c12b1 : ((rd l0 x6_2) != (rd l0 x5_1)) = false:=bne_eq_false_iff_eq.mpr c12;clear c12;obtain rfl:=Option.some.inj H;have p562 : 0 ≤ (x6_2 : Int):=of_decide_eq_true (by first | (with_reducible assumption) | assumption);have q562 : x6_2 < (l0.length : Int):=of_decide_eq_true (by first | (with_reducible assumption) | assumption);obtain ⟨ad562,e562,hx562_0⟩:=Kd.at_int HR0.out x6_2 p562 q562;obtain rfl : ad560 = ad562:=(by injection e562)
      replace p562:=eq_true p562;replace q562:=eq_true q562;have p563 : 0 ≤ (x5_1 : Int):=of_decide_eq_true (by first | (with_reducible assumption) | assumption);have q563 : x5_1 < (l0.length : Int):=of_decide_eq_true (by first | (with_reducible assumption) | assumption);obtain ⟨ad563,e563,hx563_0⟩:=Kd.at_int HR0.out x5_1 p563 q563;obtain rfl : ad560 = ad563:=(by injection e563)
      replace p563:=eq_true p563;replace q563:=eq_true q563
      go_wp2
      repeat (go_quiet (fail); try go_wp2)
      go_ret;exact ⟨by first | rfl | (simp; done) | (simp [*]; done),by repeat (first | exact Drawn0.refl _ | apply Drawn0.step)⟩
     rw [if_neg c12] at H;have c12b0 : ((rd l0 x6_2) == (rd l0 x5_1)) = false:=beq_eq_false_iff_ne.mpr c12;have c12b1 : ((rd l0 x6_2) != (rd l0 x5_1)) = true:=bne_iff_ne.mpr c12;have H':=zy H;clear H;have p562 : 0 ≤ (x6_2 : Int):=of_decide_eq_true (by first | (with_reducible assumption) | assumption);have q562 : x6_2 < (l0.length : Int):=of_decide_eq_true (by first | (with_reducible assumption) | assumption);obtain ⟨ad562,e562,hx562_0⟩:=Kd.at_int HR0.out x6_2 p562 q562;obtain rfl : ad560 = ad562:=(by injection e562)
     replace p562:=eq_true p562;replace q562:=eq_true q562;have p563 : 0 ≤ (x5_1 : Int):=of_decide_eq_true (by first | (with_reducible assumption) | assumption);have q563 : x5_1 < (l0.length : Int):=of_decide_eq_true (by first | (with_reducible assumption) | assumption);obtain ⟨ad563,e563,hx563_0⟩:=Kd.at_int HR0.out x5_1 p563 q563;obtain rfl : ad560 = ad563:=(by injection e563)
     replace p563:=eq_true p563;replace q563:=eq_true q563
     go_wp2
     repeat (go_quiet (fail); try go_wp2)
     go_roundg k2
     case measure => have:=HK1.out; have:=HK2.out; omega
     case rel => exact ⟨(wrap64 (x6_2 + 1)),(by first | rfl | (simp; done) | (simp [*]; done)),H',⟨by have:=HK1.out; have:=HK2.out; omega⟩,by repeat (first | exact Drawn0.refl _ | apply Drawn0.step)⟩
def spec_JobCost.j0 : Nat → List Int → List Int → List Int → Bool → Int → List (S80) → Option (Int)
 | 0,_,_,_,_,_,_ => none
 | k + 1,x1,x2,x3,x20,x565000,x565001 => if x20 = true then (some (-1)) else ((spec_ManyAll.f k x565000 x565001 x1 x2).bind fun t567 => ((spec_l27Cost.f k t567 x3).bind fun t570 => (some t570)))
def spec_JobCost.f (k : Nat) (a0_0 : Int) (l0_1 : List (S80)) (l1 : List Int) (l2 : List Int) (l3 : List Int) : Option (Int):=(spec_l27Ok.f k a0_0 l0_1 l1 l2).bind fun t565 => (if t565 = true then ((spec_l8Order.f k l3 (l1.length : Int)).bind fun t566 => (spec_JobCost.j0 k l1 l2 l3 (!t566) a0_0 l0_1)) else (spec_JobCost.j0 k l1 l2 l3 true a0_0 l0_1))
set_option maxHeartbeats 8000000 in
set_option maxRecDepth 100000 in
theorem spec_JobCost.calls (k : Nat) (a0_0 : Int) (A0_1 : Option Addr) (c0_1 : Nat) (l0_1 : List (S80)) (A1 : Option Addr) (c1 : Nat) (l1 : List Int) (A2 : Option Addr) (c2 : Nat) (l2 : List Int) (A3 : Option Addr) (c3 : Nat) (l3 : List Int) (r : Int) (w : World) (hr0_1 : Kd.C k80 w A0_1 l0_1.length l0_1) (hc0_1 : l0_1.length ≤ c0_1) (hr1 : Kd.C (Kd.int .i64) w A1 l1.length l1) (hc1 : l1.length ≤ c1) (hr2 : Kd.C (Kd.int .i64) w A2 l2.length l2) (hc2 : l2.length ≤ c2) (hr3 : Kd.C (Kd.int .i64) w A3 l3.length l3) (hc3 : l3.length ≤ c3) (h : spec_JobCost.f k a0_0 l0_1 l1 l2 l3 = some r) :
  Calls Try.prog 21 #[.agg #[.int .i64 a0_0,.slice A0_1 l0_1.length c0_1],.slice A1 l1.length c1,.slice A2 l2.length c2,.slice A3 l3.length c3] w fun e w' => e = .returned (.int .i64 r) ∧ Below w.heap.size w w':=by
 have hu25:=Try.underlying25;have HR0_1:=zy hr0_1;have HC0_1:=zy hc0_1;clear hr0_1 hc0_1;have HR1:=zy hr1;have HC1:=zy hc1;clear hr1 hc1;have HR2:=zy hr2;have HC2:=zy hc2;clear hr2 hc2;have HR3:=zy hr3;have HC3:=zy hc3;clear hr3 hc3;have HB:=zy (Below.refl w.heap.size w);have H : ((spec_l27Ok.f k a0_0 l0_1 l1 l2).bind fun t565 => (if t565 = true then ((spec_l8Order.f k l3 (l1.length : Int)).bind fun t566 => (spec_JobCost.j0 k l1 l2 l3 (!t566) a0_0 l0_1)) else (spec_JobCost.j0 k l1 l2 l3 true a0_0 l0_1))) = some r:=h;clear h;have HC5:=zy H;clear H
 go_enter Try.func21,Try.ntmps21
 go_upto_region 1 with (first | ((with_reducible refine gate_dst (N:=4) rfl ?_); (try (refine gate_guard (by rfl) ?_; dsimp only)); refine box_event ?hg (N:=4) ?hd (cs:=#[.int .i64 a0_0,.slice A0_1 l0_1.length c0_1]) (t:=25) ?hr ?_; (case hd => rfl); (case hg => rfl); (case hr => first | (go_simp; done) | (go_simp; rfl)); intro gb564 hg w6 hbox hb; have n0_:=zy (below_step (by repeat (first | (with_reducible first | exact HB.out | apply below_alloc | apply pw_below_drewN | apply below_drew1) | exact HB.out)) hb); have n1_:=zy (hbox); have n2_:=zy ((by rw [hg]; exact (below_size (by repeat (first | (with_reducible first | exact HB.out | apply below_alloc | apply pw_below_drewN | apply below_drew1) | exact HB.out))) : w.heap.size ≤ gb564)); have n3_:=zy ((by rw [hg]; exact (below_size (by repeat (first | (with_reducible first | exact HB.out | apply below_alloc | apply pw_below_drewN | apply below_drew1) | exact HB.out))) : w.heap.size ≤ gb564)); clear HB; have HB:=n0_; have BK564:=n1_; have GW564:=n2_; have GE564:=n3_; clear n0_ n1_ n2_ n3_; clear hb hbox hg))
 (try simp only [Act.put,V,Z,zx])
 go_cut [20] (fun v20 wc => ∃ (kq : Nat) (x20_4 : Bool),v20 = .bool x20_4 ∧ Aside0 (spec_JobCost.j0 kq l1 l2 l3 x20_4 a0_0 l0_1 = some r) ∧ Aside0 (kq ≤ k) ∧ Aside0 (wc.heap[gb564]? = some (.cells #[.int .i64 a0_0,(.slice A0_1 l0_1.length c0_1)] 25 (0,0))) ∧ Aside0 (Below w.heap.size w wc))
 case first =>
  have H:=HC5.out;clear HC5;replace H:=Option.bind_eq_some_iff.mp H;obtain ⟨t565,A70,H⟩:=H;replace H : (if t565 = true then ((spec_l8Order.f k l3 (l1.length : Int)).bind fun t566 => (spec_JobCost.j0 k l1 l2 l3 (!t566) a0_0 l0_1)) else (spec_JobCost.j0 k l1 l2 l3 true a0_0 l0_1)) = some r:=H;have A7:=zy A70;clear A70
  by_cases c8 : t565 = true
  case neg =>
   replace c8:=Bool.eq_false_iff.mpr c8;subst c8;have H1 : (spec_JobCost.j0 k l1 l2 l3 true a0_0 l0_1) = some r:=by rw [if_neg (show ¬ (false = true) by decide)] at H; exact H
   clear H;have H:=H1;clear H1;have H':=zy H;clear H;have hcz12_0 : w6.cell? ⟨gb564,0,none⟩ = some (.int .i64 a0_0):=(blk_cell BK564.out 0).trans rfl;have hcz12_1 : w6.cell? ⟨gb564,1,none⟩ = some (.slice A0_1 l0_1.length c0_1):=(blk_cell BK564.out 1).trans rfl;have hfz12_0:=blk_frozen BK564.out 0;have hfz12_1:=blk_frozen BK564.out 1
   go_wp2_with (first | ((with_reducible refine gate_callee (f:=35) rfl ?_); refine goesL_ (some 12) rfl rfl Try.func35 (by kernel_rfl) rfl #[.agg #[.int .i64 a0_0,.slice A0_1 l0_1.length c0_1],.slice A1 l1.length c1,.slice A2 l2.length c2] rfl (by (try simp only [List.map_toArray,List.map_cons,List.map_nil]); first | done | rfl | (simp only [List.length_drop,List.length_take]; rfl)) ?_; (with_reducible refine (spec_l27Ok.calls k a0_0 _ _ l0_1 _ _ l1 _ _ l2 false _ ?side1 ?side2 ?side3 ?side4 ?side5 ?side6 A7.out).mono ?_); (case side1 => repeat (first | exact (Kd.C_below HR0_1.out HB.out) | (with_reducible refine Kd.C_alloc ?_ _) | (with_reducible refine Kd.C_drewN ?_ _) | (with_reducible refine Kd.C_drew ?_))); (case side2 => exact HC0_1.out); (case side3 => repeat (first | exact (Kd.C_below HR1.out HB.out) | (with_reducible refine Kd.C_alloc ?_ _) | (with_reducible refine Kd.C_drewN ?_ _) | (with_reducible refine Kd.C_drew ?_))); (case side4 => exact HC1.out); (case side5 => repeat (first | exact (Kd.C_below HR2.out HB.out) | (with_reducible refine Kd.C_alloc ?_ _) | (with_reducible refine Kd.C_drewN ?_ _) | (with_reducible refine Kd.C_drew ?_))); (case side6 => exact HC2.out); rintro e w13 ⟨rfl,hb⟩; refine ⟨_,rfl,?_⟩; have n0_:=zy (blk_below (g:=gb564) (o:=.cells #[.int .i64 a0_0,.slice A0_1 l0_1.length c0_1] 25 (0,0)) (by (with_reducible repeat (first | refine blk_drewN ?_ _ | refine blk_drew ?_ | refine blk_alloc ?_ _)); exact BK564.out) hb); have n1_:=zy (below_step (by repeat (first | (with_reducible first | exact HB.out | apply below_alloc | apply pw_below_drewN | apply below_drew1 | refine below_set ?_ GE564.out) | exact HB.out)) hb); clear BK564; clear HB; have BK564:=n0_; have HB:=n1_; clear n0_ n1_; (try clear hb); (try clear hb2); (try clear hk); (try clear hi)))
   go_meet
   case rel => exact ⟨_,(true),(by first | rfl | (simp; done) | (simp [*]; done)),H',⟨by first | omega | exact Nat.le_refl _⟩,⟨by (with_reducible repeat (first | refine blk_drewN ?_ _ | refine blk_drew ?_ | refine blk_alloc ?_ _)); exact BK564.out⟩,⟨by repeat (first | (with_reducible first | exact HB.out | apply below_alloc | apply pw_below_drewN | apply below_drew1 | refine below_set ?_ GE564.out) | exact HB.out)⟩⟩
  subst c8;have H1 : ((spec_l8Order.f k l3 (l1.length : Int)).bind fun t566 => (spec_JobCost.j0 k l1 l2 l3 (!t566) a0_0 l0_1)) = some r:=by rw [if_pos rfl] at H; exact H
  clear H;have H:=H1;clear H1;replace H:=Option.bind_eq_some_iff.mp H;obtain ⟨t566,A90,H⟩:=H;replace H : (spec_JobCost.j0 k l1 l2 l3 (!t566) a0_0 l0_1) = some r:=H;have A9:=zy A90;clear A90;have H':=zy H;clear H;have hcz10_0 : w6.cell? ⟨gb564,0,none⟩ = some (.int .i64 a0_0):=(blk_cell BK564.out 0).trans rfl;have hcz10_1 : w6.cell? ⟨gb564,1,none⟩ = some (.slice A0_1 l0_1.length c0_1):=(blk_cell BK564.out 1).trans rfl;have hfz10_0:=blk_frozen BK564.out 0;have hfz10_1:=blk_frozen BK564.out 1
  go_wp2_with (first | ((with_reducible refine gate_callee (f:=35) rfl ?_); refine goesL_ (some 12) rfl rfl Try.func35 (by kernel_rfl) rfl #[.agg #[.int .i64 a0_0,.slice A0_1 l0_1.length c0_1],.slice A1 l1.length c1,.slice A2 l2.length c2] rfl (by (try simp only [List.map_toArray,List.map_cons,List.map_nil]); first | done | rfl | (simp only [List.length_drop,List.length_take]; rfl)) ?_; (with_reducible refine (spec_l27Ok.calls k a0_0 _ _ l0_1 _ _ l1 _ _ l2 true _ ?side1 ?side2 ?side3 ?side4 ?side5 ?side6 A7.out).mono ?_); (case side1 => repeat (first | exact (Kd.C_below HR0_1.out HB.out) | (with_reducible refine Kd.C_alloc ?_ _) | (with_reducible refine Kd.C_drewN ?_ _) | (with_reducible refine Kd.C_drew ?_))); (case side2 => exact HC0_1.out); (case side3 => repeat (first | exact (Kd.C_below HR1.out HB.out) | (with_reducible refine Kd.C_alloc ?_ _) | (with_reducible refine Kd.C_drewN ?_ _) | (with_reducible refine Kd.C_drew ?_))); (case side4 => exact HC1.out); (case side5 => repeat (first | exact (Kd.C_below HR2.out HB.out) | (with_reducible refine Kd.C_alloc ?_ _) | (with_reducible refine Kd.C_drewN ?_ _) | (with_reducible refine Kd.C_drew ?_))); (case side6 => exact HC2.out); rintro e w11 ⟨rfl,hb⟩; refine ⟨_,rfl,?_⟩; have n0_:=zy (blk_below (g:=gb564) (o:=.cells #[.int .i64 a0_0,.slice A0_1 l0_1.length c0_1] 25 (0,0)) (by (with_reducible repeat (first | refine blk_drewN ?_ _ | refine blk_drew ?_ | refine blk_alloc ?_ _)); exact BK564.out) hb); have n1_:=zy (below_step (by repeat (first | (with_reducible first | exact HB.out | apply below_alloc | apply pw_below_drewN | apply below_drew1 | refine below_set ?_ GE564.out) | exact HB.out)) hb); clear BK564; clear HB; have BK564:=n0_; have HB:=n1_; clear n0_ n1_; (try clear hb); (try clear hb2); (try clear hk); (try clear hi)) | (go_at_call 44; (with_reducible refine (spec_l8Order.calls k _ _ l3 (l1.length : Int) t566 _ ?side1 ?side2 A9.out).mono ?_); (case side1 => repeat (first | exact (Kd.C_below HR3.out HB.out) | (with_reducible refine Kd.C_alloc ?_ _) | (with_reducible refine Kd.C_drewN ?_ _) | (with_reducible refine Kd.C_drew ?_))); (case side2 => exact HC3.out); rintro e w' ⟨rfl,⟨nd,rfl⟩⟩))
  go_meet
  case rel => exact ⟨_,(!t566),(by first | rfl | (simp; done) | (simp [*]; done)),H',⟨by first | omega | exact Nat.le_refl _⟩,⟨by (with_reducible repeat (first | refine blk_drewN ?_ _ | refine blk_drew ?_ | refine blk_alloc ?_ _)); exact BK564.out⟩,⟨by repeat (first | (with_reducible first | exact HB.out | apply below_alloc | apply pw_below_drewN | apply below_drew1 | refine below_set ?_ GE564.out) | exact HB.out)⟩⟩
 case rest =>
  clear HC5
  try clear c1
  try clear c2
  try clear p2
  try clear c3
  try clear c8
  try clear hcz10_0
  try clear hcz10_1
  try clear hcz12_0
  try clear hcz12_1
  try clear hfz10_0
  try clear hfz10_1
  try clear hfz12_0
  try clear hfz12_1
  obtain ⟨kq,x20_4,rfl,HA,HJ4,BK564,HB⟩:=hcut;cases kq with
  | zero => exact absurd HA.out (by simp [spec_JobCost.j0])
  | succ kj4 =>
   have H:=HA.out;clear HA;simp only [spec_JobCost.j0] at H
   by_cases c14 : x20_4 = true
   case pos =>
    subst c14;have H1 : (some (-1)) = some r:=by rw [if_pos rfl] at H; exact H
    clear H;have H:=H1;clear H1;obtain rfl:=Option.some.inj H
    go_wp2
    go_ret;exact ⟨by first | rfl | (simp [errW_none,errW_some] <;> rfl) | (simp [*,errW_none,errW_some] <;> rfl),by repeat (first | (with_reducible first | exact HB.out | apply below_alloc | apply pw_below_drewN | apply below_drew1 | refine below_set ?_ GE564.out) | exact HB.out)⟩
   replace c14:=Bool.eq_false_iff.mpr c14;subst c14;have H1 : ((spec_ManyAll.f kj4 a0_0 l0_1 l1 l2).bind fun t567 => ((spec_l27Cost.f kj4 t567 l3).bind fun t570 => (some t570))) = some r:=by rw [if_neg (show ¬ (false = true) by decide)] at H; exact H
   clear H;have H:=H1;clear H1;replace H:=Option.bind_eq_some_iff.mp H;obtain ⟨t567,A150,H⟩:=H;replace H : ((spec_l27Cost.f kj4 t567 l3).bind fun t570 => (some t570)) = some r:=H;have A15:=zy A150;clear A150;replace H:=Option.bind_eq_some_iff.mp H;obtain ⟨t570,A160,H⟩:=H;replace H : (some t570) = some r:=H;have A16:=zy A160;clear A160;obtain rfl:=Option.some.inj H;have hcz17_0 : wc.cell? ⟨gb564,0,none⟩ = some (.int .i64 a0_0):=(blk_cell BK564.out 0).trans rfl;have hcz17_1 : wc.cell? ⟨gb564,1,none⟩ = some (.slice A0_1 l0_1.length c0_1):=(blk_cell BK564.out 1).trans rfl;have hfz17_0:=blk_frozen BK564.out 0;have hfz17_1:=blk_frozen BK564.out 1
   go_wp2_with (first | ((with_reducible refine gate_callee (f:=37) rfl ?_); refine goesL_ (some 24) rfl rfl Try.func37 (by kernel_rfl) rfl #[.agg #[.int .i64 a0_0,.slice A0_1 l0_1.length c0_1],.slice A1 l1.length c1,.slice A2 l2.length c2] rfl (by (try simp only [List.map_toArray,List.map_cons,List.map_nil]); first | done | rfl | (simp only [List.length_drop,List.length_take]; rfl)) ?_; (with_reducible refine (spec_ManyAll.calls kj4 a0_0 _ _ l0_1 _ _ l1 _ _ l2 t567 _ ?side1 ?side2 ?side3 ?side4 ?side5 ?side6 A15.out).mono ?_); (case side1 => repeat (first | exact (Kd.C_below HR0_1.out HB.out) | (with_reducible refine Kd.C_alloc ?_ _) | (with_reducible refine Kd.C_drewN ?_ _) | (with_reducible refine Kd.C_drew ?_))); (case side2 => exact HC0_1.out); (case side3 => repeat (first | exact (Kd.C_below HR1.out HB.out) | (with_reducible refine Kd.C_alloc ?_ _) | (with_reducible refine Kd.C_drewN ?_ _) | (with_reducible refine Kd.C_drew ?_))); (case side4 => exact HC1.out); (case side5 => repeat (first | exact (Kd.C_below HR2.out HB.out) | (with_reducible refine Kd.C_alloc ?_ _) | (with_reducible refine Kd.C_drewN ?_ _) | (with_reducible refine Kd.C_drew ?_))); (case side6 => exact HC2.out); rintro e w18 ⟨v568,rfl,ho0,hb⟩; refine ⟨_,rfl,?_⟩; have n0_:=zy (Kd.S_lower ho0 (below_size (by repeat (first | (with_reducible first | exact HB.out | apply below_alloc | apply pw_below_drewN | apply below_drew1 | refine below_set ?_ GE564.out) | exact HB.out)))); have n1_:=zy (blk_below (g:=gb564) (o:=.cells #[.int .i64 a0_0,.slice A0_1 l0_1.length c0_1] 25 (0,0)) (by (with_reducible repeat (first | refine blk_drewN ?_ _ | refine blk_drew ?_ | refine blk_alloc ?_ _)); exact BK564.out) hb); have n2_:=zy (below_step (by repeat (first | (with_reducible first | exact HB.out | apply below_alloc | apply pw_below_drewN | apply below_drew1 | refine below_set ?_ GE564.out) | exact HB.out)) hb); clear BK564; clear HB; have HO569:=n0_; have BK564:=n1_; have HB:=n2_; clear n0_ n1_ n2_; (try clear hb); (try clear hb2); (try clear hk); (try clear hi); (try clear ho0); obtain ⟨Ao19,co19,eo19⟩:=Kd.S_slice HO569.out; subst eo19) | ((with_reducible refine gate_callee (f:=45) rfl ?_); refine goesL_ (some 26) rfl rfl Try.func45 (by kernel_rfl) rfl #[.slice Ao19 t567.length co19,.slice A3 l3.length c3] rfl (by (try simp only [List.map_toArray,List.map_cons,List.map_nil]); first | done | rfl | (simp only [List.length_drop,List.length_take]; rfl)) ?_; (with_reducible refine (spec_l27Cost.calls kj4 _ _ t567 _ _ l3 t570 _ ?side1 ?side2 ?side3 ?side4 A16.out).mono ?_); (case side1 => repeat (first | exact (Kd.S_reads' HO569.out).2.2 | (with_reducible refine Kd.C_alloc ?_ _) | (with_reducible refine Kd.C_drewN ?_ _) | (with_reducible refine Kd.C_drew ?_))); (case side2 => exact (Kd.S_reads' HO569.out).2.1); (case side3 => repeat (first | exact (Kd.C_below HR3.out HB.out) | (with_reducible refine Kd.C_alloc ?_ _) | (with_reducible refine Kd.C_drewN ?_ _) | (with_reducible refine Kd.C_drew ?_))); (case side4 => exact HC3.out); rintro e w' ⟨rfl,⟨nd,rfl⟩⟩; refine ⟨_,rfl,?_⟩))
   go_ret;exact ⟨by first | rfl | (simp [errW_none,errW_some] <;> rfl) | (simp [*,errW_none,errW_some] <;> rfl),by repeat (first | (with_reducible first | exact HB.out | apply below_alloc | apply pw_below_drewN | apply below_drew1 | refine below_set ?_ GE564.out) | exact HB.out)⟩
end Go.Proofs.Ytmioaahiflfcdaa.Pr
end
