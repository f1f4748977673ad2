/- For the statement FnTreeSwap of this seat: it is proved here, with no further conditions (part 6 of its texts: words, walks of the functions, the plain law, the row). -/
import Derived.Shelf.SlicesE.Compact
import Derived.Shelf.SlSortCmp.Insertion
import Derived.RangeFuncFrom
import Derived.Shelf.SortM.SortNone
import Derived.Shelf.SortM.Plain
import Derived.Sort.OwnSortedInts
import Derived.Maps.AppendAt
import Derived.RangeFuncBox
import Derived.Laws.AppendOwn
import Derived.LoopIn
import Derived.TacticsInMore
import Derived.RegionIn
import Derived.OwnWalkIn
import Derived.Test.YtlhmljngjdfbpaaKFnTreeSwap4
section
namespace Go.Proofs.Ytlhmljngjdfbpaa.Pr
open Go.RowKit Go.Proofs.YtlhmljngjdfbpaaW.PrintWords Go.Proofs.YtlhmljngjdfbpaaW.PrintLast Go.Proofs.YtlhmljngjdfbpaaW.PrintMore
attribute [local go_sem] max2_int min2_int max_two min_two max_three min_three max_four min_four
set_option linter.unusedVariables false
set_option linter.unusedSimpArgs false
open List renaming setIfInBounds_toArray → V,set_cons_zero → Z,set_cons_succ → zx
open Go.Proofs.YtlhmljngjdfbpaaW.PrintWords.Aside0 renaming mk → zy
def spec_l1Ok.l0 : Nat → Int → Int → List (S58) → Option (Bool)
 | 0,_,_,_ => none
 | k + 1,x3,x335000,x335001 => if x3 < (x335001.length : Int) then (if 0 ≤ x3 then ((spec_l1In.f ((rd_T58 x335001 x3).f0) 0 (wrap64 (x335000 - 1))).bind fun t338 => (if t338 = true then ((spec_l1In.f ((rd_T58 x335001 x3).f1) 0 (wrap64 (x335000 - 1))).bind fun t339 => (if t339 = true then (if ((rd_T58 x335001 x3).f0) = ((rd_T58 x335001 x3).f1) then (some false) else ((spec_l1In.f ((rd_T58 x335001 x3).f2) 0 99).bind fun t340 => (if t340 = true then ((spec_l1In.f ((rd_T58 x335001 x3).f3) 0 99).bind fun t341 => (if t341 = true then ((spec_l1In.f ((rd_T58 x335001 x3).f4) 0 9).bind fun t342 => (if t342 = true then (spec_l1Ok.l0 k (wrap64 (x3 + 1)) x335000 x335001) else (some false))) else (some false))) else (some false)))) else (some false))) else (some false))) else (none)) else ((spec_l1In.f x335000 1 8).bind fun t335 => (if t335 = true then (some (decide ((x335001.length : Int) ≤ 16))) else (some false)))
def spec_l1Ok.f (k : Nat) (a0_0 : Int) (l0_1 : List (S58)) : Option (Bool):=spec_l1Ok.l0 k 0 a0_0 l0_1
set_option maxHeartbeats 8000000 in
set_option maxRecDepth 100000 in
theorem spec_l1Ok.calls (k : Nat) (a0_0 : Int) (A0_1 : Option Addr) (c0_1 : Nat) (l0_1 : List (S58)) (r : Bool) (w : World) (hr0_1 : Kd.C k58 w A0_1 l0_1.length l0_1) (hc0_1 : l0_1.length ≤ c0_1) (h : spec_l1Ok.f k a0_0 l0_1 = some r) :
  Calls Try.prog 76 #[.agg #[.int .i64 a0_0,.slice A0_1 l0_1.length c0_1]] w fun e w' => e = .returned (.bool r) ∧ Below w.heap.size w w':=by
 have hu34:=Try.underlying34;have hu58:=Try.underlying58;have HR0_1:=zy hr0_1;have HC0_1:=zy hc0_1;clear hr0_1 hc0_1;have HB:=zy (Below.refl w.heap.size w);have H : (spec_l1Ok.l0 k 0 a0_0 l0_1) = some r:=h;clear h;have H':=zy H;clear H
 go_enter Try.func76,Try.ntmps76
 go_wp2_with (first | ((with_reducible refine gate_dst (N:=1) rfl ?_); (try (refine gate_guard (by rfl) ?_; dsimp only)); refine box_event ?hg (N:=1) ?hd (cs:=#[.int .i64 a0_0,.slice A0_1 l0_1.length c0_1]) (t:=34) ?hr ?_; (case hd => rfl); (case hg => rfl); (case hr => first | (go_simp; done) | (go_simp; rfl)); intro gb334 hg w2 hbox hb; have n0_:=zy (below_step (by repeat (first | (with_reducible first | exact HB.out | apply below_alloc | apply pw_below_drewN | apply below_drew1) | exact HB.out)) hb); have n1_:=zy (hbox); have n2_:=zy ((by rw [hg]; exact (below_size (by repeat (first | (with_reducible first | exact HB.out | apply below_alloc | apply pw_below_drewN | apply below_drew1) | exact HB.out))) : w.heap.size ≤ gb334)); have n3_:=zy ((by rw [hg]; exact (below_size (by repeat (first | (with_reducible first | exact HB.out | apply below_alloc | apply pw_below_drewN | apply below_drew1) | exact HB.out))) : w.heap.size ≤ gb334)); clear HB; have HB:=n0_; have BK334:=n1_; have GW334:=n2_; have GE334:=n3_; clear n0_ n1_ n2_ n3_; clear hb hbox hg))
 go_loopg [3] k (fun kq v3 w' => ∃ (x3_1 : Int),v3 = .int .i64 x3_1 ∧ Aside0 (spec_l1Ok.l0 kq x3_1 a0_0 l0_1 = some r) ∧ Aside0 (kq ≤ k) ∧ Aside0 (w'.heap[gb334]? = some (.cells #[.int .i64 a0_0,(.slice A0_1 l0_1.length c0_1)] 34 (0,0))) ∧ Aside0 (Below w.heap.size w w'))
 case atStart => exact ⟨(0),(by first | rfl | (simp; done) | (simp [*]; done)),H',⟨Nat.le_refl _⟩,⟨by (with_reducible repeat (first | refine blk_drewN ?_ _ | refine blk_drew ?_ | refine blk_alloc ?_ _)); exact BK334.out⟩,⟨by repeat (first | (with_reducible first | exact HB.out | apply below_alloc | apply pw_below_drewN | apply below_drew1 | refine below_set ?_ GE334.out) | exact HB.out)⟩⟩
 case round =>
  clear H'
  try clear p2
  obtain ⟨x3_1,rfl,HA,HK1,BK334,HB⟩:=hrel;cases gk with
  | zero => exact absurd HA.out (by simp [spec_l1Ok.l0])
  | succ k1 =>
   have H:=HA.out;clear HA;simp only [spec_l1Ok.l0] at H
   by_cases c3 : x3_1 < (l0_1.length : Int)
   case neg =>
    rw [if_neg c3] at H;have c3b0 : decide (x3_1 < (l0_1.length : Int)) = false:=decide_eq_false c3;clear c3;replace H:=Option.bind_eq_some_iff.mp H;obtain ⟨t335,A510,H⟩:=H;replace H : (if t335 = true then (some (decide ((l0_1.length : Int) ≤ 16))) else (some false)) = some r:=H;have A51:=zy A510;clear A510
    by_cases c52 : t335 = true
    case pos =>
     subst c52;have H1 : (some (decide ((l0_1.length : Int) ≤ 16))) = some r:=by rw [if_pos rfl] at H; exact H
     clear H;have H:=H1;clear H1;obtain rfl:=Option.some.inj H;have hcz53_0 : wr.cell? ⟨gb334,0,none⟩ = some (.int .i64 a0_0):=(blk_cell BK334.out 0).trans rfl;have hcz53_1 : wr.cell? ⟨gb334,1,none⟩ = some (.slice A0_1 l0_1.length c0_1):=(blk_cell BK334.out 1).trans rfl;have hfz53_0:=blk_frozen BK334.out 0;have hfz53_1:=blk_frozen BK334.out 1
     go_wp2_with (first | ((with_reducible refine gate_callee (f:=90) rfl ?_); refine goesL_ (some 60) rfl rfl Try.func90 (by kernel_rfl) rfl #[.int .i64 a0_0,.int .i64 1,.int .i64 8] rfl (by (try simp only [List.map_toArray,List.map_cons,List.map_nil]); first | done | rfl | (simp only [List.length_drop,List.length_take]; rfl)) ?_; (with_reducible refine (spec_l1In.calls a0_0 1 8 true _ A51.out).mono ?_); rintro e w' ⟨rfl,⟨nd,rfl⟩⟩; refine ⟨_,rfl,?_⟩))
     go_ret;exact ⟨by first | rfl | (simp [errW_none,errW_some] <;> rfl) | (simp [*,errW_none,errW_some] <;> rfl),by repeat (first | (with_reducible first | exact HB.out | apply below_alloc | apply pw_below_drewN | apply below_drew1 | refine below_set ?_ GE334.out) | exact HB.out)⟩
    replace c52:=Bool.eq_false_iff.mpr c52;subst c52;have H1 : (some false) = some r:=by rw [if_neg (show ¬ (false = true) by decide)] at H; exact H
    clear H;have H:=H1;clear H1;obtain rfl:=Option.some.inj H;have hcz54_0 : wr.cell? ⟨gb334,0,none⟩ = some (.int .i64 a0_0):=(blk_cell BK334.out 0).trans rfl;have hcz54_1 : wr.cell? ⟨gb334,1,none⟩ = some (.slice A0_1 l0_1.length c0_1):=(blk_cell BK334.out 1).trans rfl;have hfz54_0:=blk_frozen BK334.out 0;have hfz54_1:=blk_frozen BK334.out 1
    go_wp2_with (first | ((with_reducible refine gate_callee (f:=90) rfl ?_); refine goesL_ (some 60) rfl rfl Try.func90 (by kernel_rfl) rfl #[.int .i64 a0_0,.int .i64 1,.int .i64 8] rfl (by (try simp only [List.map_toArray,List.map_cons,List.map_nil]); first | done | rfl | (simp only [List.length_drop,List.length_take]; rfl)) ?_; (with_reducible refine (spec_l1In.calls a0_0 1 8 false _ A51.out).mono ?_); rintro e w' ⟨rfl,⟨nd,rfl⟩⟩; refine ⟨_,rfl,?_⟩))
    go_ret;exact ⟨by first | rfl | (simp [errW_none,errW_some] <;> rfl) | (simp [*,errW_none,errW_some] <;> rfl),by repeat (first | (with_reducible first | exact HB.out | apply below_alloc | apply pw_below_drewN | apply below_drew1 | refine below_set ?_ GE334.out) | exact HB.out)⟩
   rw [if_pos c3] at H;have c3b0 : decide (x3_1 < (l0_1.length : Int)) = true:=decide_eq_true c3;clear c3
   by_cases c4 : 0 ≤ x3_1
   case neg =>
    rw [if_neg c4] at H;exact absurd H (by simp)
   rw [if_pos c4] at H;have c4b0 : decide (0 ≤ x3_1) = true:=decide_eq_true c4;clear c4;replace H:=Option.bind_eq_some_iff.mp H;obtain ⟨t338,A50,H⟩:=H;replace H : (if t338 = true then ((spec_l1In.f ((rd_T58 l0_1 x3_1).f1) 0 (wrap64 (a0_0 - 1))).bind fun t339 => (if t339 = true then (if ((rd_T58 l0_1 x3_1).f0) = ((rd_T58 l0_1 x3_1).f1) then (some false) else ((spec_l1In.f ((rd_T58 l0_1 x3_1).f2) 0 99).bind fun t340 => (if t340 = true then ((spec_l1In.f ((rd_T58 l0_1 x3_1).f3) 0 99).bind fun t341 => (if t341 = true then ((spec_l1In.f ((rd_T58 l0_1 x3_1).f4) 0 9).bind fun t342 => (if t342 = true then (spec_l1Ok.l0 k1 (wrap64 (x3_1 + 1)) a0_0 l0_1) else (some false))) else (some false))) else (some false)))) else (some false))) else (some false)) = some r:=H;have A5:=zy A50;clear A50
   by_cases c6 : t338 = true
   case neg =>
    replace c6:=Bool.eq_false_iff.mpr c6;subst c6;have H1 : (some false) = some r:=by rw [if_neg (show ¬ (false = true) by decide)] at H; exact H
    clear H;have H:=H1;clear H1;obtain rfl:=Option.some.inj H;have hcz46_0 : wr.cell? ⟨gb334,0,none⟩ = some (.int .i64 a0_0):=(blk_cell BK334.out 0).trans rfl;have hcz46_1 : wr.cell? ⟨gb334,1,none⟩ = some (.slice A0_1 l0_1.length c0_1):=(blk_cell BK334.out 1).trans rfl;have hfz46_0:=blk_frozen BK334.out 0;have hfz46_1:=blk_frozen BK334.out 1;have p336 : 0 ≤ (x3_1 : Int):=of_decide_eq_true (by first | (with_reducible assumption) | assumption);have q336 : x3_1 < (l0_1.length : Int):=of_decide_eq_true (by first | (with_reducible assumption) | assumption);obtain ⟨ad336,e336,hx336_0,hx336_1,hx336_2,hx336_3,hx336_4⟩:=at_T58 HR0_1.out x3_1 p336 q336;cases e336;replace hx336_0:=(HB.out.cell (World.block_lt_of_cell? w _ hx336_0)).trans hx336_0;replace hx336_1:=(HB.out.cell (World.block_lt_of_cell? w _ hx336_1)).trans hx336_1;replace hx336_2:=(HB.out.cell (World.block_lt_of_cell? w _ hx336_2)).trans hx336_2;replace hx336_3:=(HB.out.cell (World.block_lt_of_cell? w _ hx336_3)).trans hx336_3;replace hx336_4:=(HB.out.cell (World.block_lt_of_cell? w _ hx336_4)).trans hx336_4;replace p336:=eq_true p336;replace q336:=eq_true q336
    go_wp2_with (first | ((with_reducible refine gate_dst (N:=4) rfl ?_); (try (refine gate_guard (by rfl) ?_; dsimp only)); refine box_event ?hg (N:=4) ?hd (cs:=#[.int .i64 0,.int .i64 0,.int .i64 0,.int .i64 0,.int .i64 0]) (t:=58) ?hr ?_; (case hd => rfl); (case hg => rfl); (case hr => first | (go_simp; done) | (go_simp; rfl)); intro gb337 hg w47 hbox hb; have n0_:=zy (blk_below (g:=gb334) (o:=.cells #[.int .i64 a0_0,.slice (some ad336) l0_1.length c0_1] 34 (0,0)) (by (with_reducible repeat (first | refine blk_drewN ?_ _ | refine blk_drew ?_ | refine blk_alloc ?_ _)); exact BK334.out) hb); have n1_:=zy (below_step (by repeat (first | (with_reducible first | exact HB.out | apply below_alloc | apply pw_below_drewN | apply below_drew1 | refine below_set ?_ GE334.out) | exact HB.out)) hb); have n2_:=zy (hbox); have n3_:=zy ((by rw [hg]; exact (below_size (by repeat (first | (with_reducible first | exact HB.out | apply below_alloc | apply pw_below_drewN | apply below_drew1 | refine below_set ?_ GE334.out) | exact HB.out))) : w.heap.size ≤ gb337)); have n4_:=zy ((by rw [hg]; exact (below_size (by repeat (first | (with_reducible first | exact HB.out | apply below_alloc | apply pw_below_drewN | apply below_drew1 | refine below_set ?_ GE334.out) | exact HB.out))) : w.heap.size ≤ gb337)); have n5_:=zy ((by rw [hg]; exact Nat.ne_of_lt (blk_lt (g:=gb334) (o:=.cells #[.int .i64 a0_0,.slice (some ad336) l0_1.length c0_1] 34 (0,0)) (by (with_reducible repeat (first | refine blk_drewN ?_ _ | refine blk_drew ?_ | refine blk_alloc ?_ _)); exact BK334.out)) : gb334 ≠ gb337)); have n6_:=zy ((by rw [hg]; exact Nat.ne_of_gt (blk_lt (g:=gb334) (o:=.cells #[.int .i64 a0_0,.slice (some ad336) l0_1.length c0_1] 34 (0,0)) (by (with_reducible repeat (first | refine blk_drewN ?_ _ | refine blk_drew ?_ | refine blk_alloc ?_ _)); exact BK334.out)) : gb337 ≠ gb334)); clear BK334; clear HB; have BK334:=n0_; have HB:=n1_; have BK337:=n2_; have GW337:=n3_; have GE337:=n4_; have NB334_337:=n5_; have NB337_334:=n6_; clear n0_ n1_ n2_ n3_ n4_ n5_ n6_; clear hb hbox hg; have hnb48:=NB337_334.out; have hnc48:=NB334_337.out; have hcz49_0 : w47.cell? ⟨gb337,0,none⟩ = some (.int .i64 0):=(blk_cell BK337.out 0).trans rfl; have hcz49_1 : w47.cell? ⟨gb337,1,none⟩ = some (.int .i64 0):=(blk_cell BK337.out 1).trans rfl; have hcz49_2 : w47.cell? ⟨gb337,2,none⟩ = some (.int .i64 0):=(blk_cell BK337.out 2).trans rfl; have hcz49_3 : w47.cell? ⟨gb337,3,none⟩ = some (.int .i64 0):=(blk_cell BK337.out 3).trans rfl; have hcz49_4 : w47.cell? ⟨gb337,4,none⟩ = some (.int .i64 0):=(blk_cell BK337.out 4).trans rfl; have hfz49_0:=blk_frozen BK337.out 0; have hfz49_1:=blk_frozen BK337.out 1; have hfz49_2:=blk_frozen BK337.out 2; have hfz49_3:=blk_frozen BK337.out 3; have hfz49_4:=blk_frozen BK337.out 4; have hcz50_0 : w47.cell? ⟨gb334,0,none⟩ = some (.int .i64 a0_0):=(blk_cell BK334.out 0).trans rfl; have hcz50_1 : w47.cell? ⟨gb334,1,none⟩ = some (.slice (some ad336) l0_1.length c0_1):=(blk_cell BK334.out 1).trans rfl; have hfz50_0:=blk_frozen BK334.out 0; have hfz50_1:=blk_frozen BK334.out 1) | ((with_reducible refine gate_callee (f:=90) rfl ?_); refine goesL_ (some 22) rfl rfl Try.func90 (by kernel_rfl) rfl #[.int .i64 ((rd_T58 l0_1 x3_1).f0),.int .i64 0,.int .i64 (wrap64 (a0_0 - 1))] rfl (by (try simp only [List.map_toArray,List.map_cons,List.map_nil]); first | done | rfl | (simp only [List.length_drop,List.length_take]; rfl)) ?_; (with_reducible refine (spec_l1In.calls ((rd_T58 l0_1 x3_1).f0) 0 (wrap64 (a0_0 - 1)) false _ A5.out).mono ?_); rintro e w' ⟨rfl,⟨nd,rfl⟩⟩; refine ⟨_,rfl,?_⟩))
    go_ret;exact ⟨by first | rfl | (simp [errW_none,errW_some] <;> rfl) | (simp [*,errW_none,errW_some] <;> rfl),by repeat (first | (with_reducible first | exact HB.out | apply below_alloc | apply pw_below_drewN | apply below_drew1 | refine below_set ?_ GE334.out | refine below_set ?_ GE337.out) | exact HB.out)⟩
   subst c6;have H1 : ((spec_l1In.f ((rd_T58 l0_1 x3_1).f1) 0 (wrap64 (a0_0 - 1))).bind fun t339 => (if t339 = true then (if ((rd_T58 l0_1 x3_1).f0) = ((rd_T58 l0_1 x3_1).f1) then (some false) else ((spec_l1In.f ((rd_T58 l0_1 x3_1).f2) 0 99).bind fun t340 => (if t340 = true then ((spec_l1In.f ((rd_T58 l0_1 x3_1).f3) 0 99).bind fun t341 => (if t341 = true then ((spec_l1In.f ((rd_T58 l0_1 x3_1).f4) 0 9).bind fun t342 => (if t342 = true then (spec_l1Ok.l0 k1 (wrap64 (x3_1 + 1)) a0_0 l0_1) else (some false))) else (some false))) else (some false)))) else (some false))) = some r:=by rw [if_pos rfl] at H; exact H
   clear H;have H:=H1;clear H1;replace H:=Option.bind_eq_some_iff.mp H;obtain ⟨t339,A70,H⟩:=H;replace H : (if t339 = true then (if ((rd_T58 l0_1 x3_1).f0) = ((rd_T58 l0_1 x3_1).f1) then (some false) else ((spec_l1In.f ((rd_T58 l0_1 x3_1).f2) 0 99).bind fun t340 => (if t340 = true then ((spec_l1In.f ((rd_T58 l0_1 x3_1).f3) 0 99).bind fun t341 => (if t341 = true then ((spec_l1In.f ((rd_T58 l0_1 x3_1).f4) 0 9).bind fun t342 => (if t342 = true then (spec_l1Ok.l0 k1 (wrap64 (x3_1 + 1)) a0_0 l0_1) else (some false))) else (some false))) else (some false)))) else (some false)) = some r:=H;have A7:=zy A70;clear A70
   by_cases c8 : t339 = true
   case neg =>
    replace c8:=Bool.eq_false_iff.mpr c8;subst c8;have H1 : (some false) = some r:=by rw [if_neg (show ¬ (false = true) by decide)] at H; exact H
    clear H;have H:=H1;clear H1;obtain rfl:=Option.some.inj H;have hcz41_0 : wr.cell? ⟨gb334,0,none⟩ = some (.int .i64 a0_0):=(blk_cell BK334.out 0).trans rfl;have hcz41_1 : wr.cell? ⟨gb334,1,none⟩ = some (.slice A0_1 l0_1.length c0_1):=(blk_cell BK334.out 1).trans rfl;have hfz41_0:=blk_frozen BK334.out 0;have hfz41_1:=blk_frozen BK334.out 1;have p336 : 0 ≤ (x3_1 : Int):=of_decide_eq_true (by first | (with_reducible assumption) | assumption);have q336 : x3_1 < (l0_1.length : Int):=of_decide_eq_true (by first | (with_reducible assumption) | assumption);obtain ⟨ad336,e336,hx336_0,hx336_1,hx336_2,hx336_3,hx336_4⟩:=at_T58 HR0_1.out x3_1 p336 q336;cases e336;replace hx336_0:=(HB.out.cell (World.block_lt_of_cell? w _ hx336_0)).trans hx336_0;replace hx336_1:=(HB.out.cell (World.block_lt_of_cell? w _ hx336_1)).trans hx336_1;replace hx336_2:=(HB.out.cell (World.block_lt_of_cell? w _ hx336_2)).trans hx336_2;replace hx336_3:=(HB.out.cell (World.block_lt_of_cell? w _ hx336_3)).trans hx336_3;replace hx336_4:=(HB.out.cell (World.block_lt_of_cell? w _ hx336_4)).trans hx336_4;replace p336:=eq_true p336;replace q336:=eq_true q336
    go_wp2_with (first | ((with_reducible refine gate_dst (N:=4) rfl ?_); (try (refine gate_guard (by rfl) ?_; dsimp only)); refine box_event ?hg (N:=4) ?hd (cs:=#[.int .i64 0,.int .i64 0,.int .i64 0,.int .i64 0,.int .i64 0]) (t:=58) ?hr ?_; (case hd => rfl); (case hg => rfl); (case hr => first | (go_simp; done) | (go_simp; rfl)); intro gb337 hg w42 hbox hb; have n0_:=zy (blk_below (g:=gb334) (o:=.cells #[.int .i64 a0_0,.slice (some ad336) l0_1.length c0_1] 34 (0,0)) (by (with_reducible repeat (first | refine blk_drewN ?_ _ | refine blk_drew ?_ | refine blk_alloc ?_ _)); exact BK334.out) hb); have n1_:=zy (below_step (by repeat (first | (with_reducible first | exact HB.out | apply below_alloc | apply pw_below_drewN | apply below_drew1 | refine below_set ?_ GE334.out) | exact HB.out)) hb); have n2_:=zy (hbox); have n3_:=zy ((by rw [hg]; exact (below_size (by repeat (first | (with_reducible first | exact HB.out | apply below_alloc | apply pw_below_drewN | apply below_drew1 | refine below_set ?_ GE334.out) | exact HB.out))) : w.heap.size ≤ gb337)); have n4_:=zy ((by rw [hg]; exact (below_size (by repeat (first | (with_reducible first | exact HB.out | apply below_alloc | apply pw_below_drewN | apply below_drew1 | refine below_set ?_ GE334.out) | exact HB.out))) : w.heap.size ≤ gb337)); have n5_:=zy ((by rw [hg]; exact Nat.ne_of_lt (blk_lt (g:=gb334) (o:=.cells #[.int .i64 a0_0,.slice (some ad336) l0_1.length c0_1] 34 (0,0)) (by (with_reducible repeat (first | refine blk_drewN ?_ _ | refine blk_drew ?_ | refine blk_alloc ?_ _)); exact BK334.out)) : gb334 ≠ gb337)); have n6_:=zy ((by rw [hg]; exact Nat.ne_of_gt (blk_lt (g:=gb334) (o:=.cells #[.int .i64 a0_0,.slice (some ad336) l0_1.length c0_1] 34 (0,0)) (by (with_reducible repeat (first | refine blk_drewN ?_ _ | refine blk_drew ?_ | refine blk_alloc ?_ _)); exact BK334.out)) : gb337 ≠ gb334)); clear BK334; clear HB; have BK334:=n0_; have HB:=n1_; have BK337:=n2_; have GW337:=n3_; have GE337:=n4_; have NB334_337:=n5_; have NB337_334:=n6_; clear n0_ n1_ n2_ n3_ n4_ n5_ n6_; clear hb hbox hg; have hnb43:=NB337_334.out; have hnc43:=NB334_337.out; have hcz44_0 : w42.cell? ⟨gb337,0,none⟩ = some (.int .i64 0):=(blk_cell BK337.out 0).trans rfl; have hcz44_1 : w42.cell? ⟨gb337,1,none⟩ = some (.int .i64 0):=(blk_cell BK337.out 1).trans rfl; have hcz44_2 : w42.cell? ⟨gb337,2,none⟩ = some (.int .i64 0):=(blk_cell BK337.out 2).trans rfl; have hcz44_3 : w42.cell? ⟨gb337,3,none⟩ = some (.int .i64 0):=(blk_cell BK337.out 3).trans rfl; have hcz44_4 : w42.cell? ⟨gb337,4,none⟩ = some (.int .i64 0):=(blk_cell BK337.out 4).trans rfl; have hfz44_0:=blk_frozen BK337.out 0; have hfz44_1:=blk_frozen BK337.out 1; have hfz44_2:=blk_frozen BK337.out 2; have hfz44_3:=blk_frozen BK337.out 3; have hfz44_4:=blk_frozen BK337.out 4; have hcz45_0 : w42.cell? ⟨gb334,0,none⟩ = some (.int .i64 a0_0):=(blk_cell BK334.out 0).trans rfl; have hcz45_1 : w42.cell? ⟨gb334,1,none⟩ = some (.slice (some ad336) l0_1.length c0_1):=(blk_cell BK334.out 1).trans rfl; have hfz45_0:=blk_frozen BK334.out 0; have hfz45_1:=blk_frozen BK334.out 1) | ((with_reducible refine gate_callee (f:=90) rfl ?_); refine goesL_ (some 22) rfl rfl Try.func90 (by kernel_rfl) rfl #[.int .i64 ((rd_T58 l0_1 x3_1).f0),.int .i64 0,.int .i64 (wrap64 (a0_0 - 1))] rfl (by (try simp only [List.map_toArray,List.map_cons,List.map_nil]); first | done | rfl | (simp only [List.length_drop,List.length_take]; rfl)) ?_; (with_reducible refine (spec_l1In.calls ((rd_T58 l0_1 x3_1).f0) 0 (wrap64 (a0_0 - 1)) true _ A5.out).mono ?_); rintro e w' ⟨rfl,⟨nd,rfl⟩⟩; refine ⟨_,rfl,?_⟩) | (go_at_call 90; (with_reducible refine (spec_l1In.calls ((rd_T58 l0_1 x3_1).f1) 0 (wrap64 (a0_0 - 1)) false _ A7.out).mono ?_); rintro e w' ⟨rfl,⟨nd,rfl⟩⟩))
    go_ret;exact ⟨by first | rfl | (simp [errW_none,errW_some] <;> rfl) | (simp [*,errW_none,errW_some] <;> rfl),by repeat (first | (with_reducible first | exact HB.out | apply below_alloc | apply pw_below_drewN | apply below_drew1 | refine below_set ?_ GE334.out | refine below_set ?_ GE337.out) | exact HB.out)⟩
   subst c8;have H1 : (if ((rd_T58 l0_1 x3_1).f0) = ((rd_T58 l0_1 x3_1).f1) then (some false) else ((spec_l1In.f ((rd_T58 l0_1 x3_1).f2) 0 99).bind fun t340 => (if t340 = true then ((spec_l1In.f ((rd_T58 l0_1 x3_1).f3) 0 99).bind fun t341 => (if t341 = true then ((spec_l1In.f ((rd_T58 l0_1 x3_1).f4) 0 9).bind fun t342 => (if t342 = true then (spec_l1Ok.l0 k1 (wrap64 (x3_1 + 1)) a0_0 l0_1) else (some false))) else (some false))) else (some false)))) = some r:=by rw [if_pos rfl] at H; exact H
   clear H;have H:=H1;clear H1
   by_cases c9 : ((rd_T58 l0_1 x3_1).f0) = ((rd_T58 l0_1 x3_1).f1)
   case pos =>
    rw [if_pos c9] at H;have c9b0 : (((rd_T58 l0_1 x3_1).f0) == ((rd_T58 l0_1 x3_1).f1)) = true:=beq_iff_eq.mpr c9;have c9b1 : (((rd_T58 l0_1 x3_1).f0) != ((rd_T58 l0_1 x3_1).f1)) = false:=bne_eq_false_iff_eq.mpr c9;clear c9;obtain rfl:=Option.some.inj H;have hcz10_0 : wr.cell? ⟨gb334,0,none⟩ = some (.int .i64 a0_0):=(blk_cell BK334.out 0).trans rfl;have hcz10_1 : wr.cell? ⟨gb334,1,none⟩ = some (.slice A0_1 l0_1.length c0_1):=(blk_cell BK334.out 1).trans rfl;have hfz10_0:=blk_frozen BK334.out 0;have hfz10_1:=blk_frozen BK334.out 1;have p336 : 0 ≤ (x3_1 : Int):=of_decide_eq_true (by first | (with_reducible assumption) | assumption);have q336 : x3_1 < (l0_1.length : Int):=of_decide_eq_true (by first | (with_reducible assumption) | assumption);obtain ⟨ad336,e336,hx336_0,hx336_1,hx336_2,hx336_3,hx336_4⟩:=at_T58 HR0_1.out x3_1 p336 q336;cases e336;replace hx336_0:=(HB.out.cell (World.block_lt_of_cell? w _ hx336_0)).trans hx336_0;replace hx336_1:=(HB.out.cell (World.block_lt_of_cell? w _ hx336_1)).trans hx336_1;replace hx336_2:=(HB.out.cell (World.block_lt_of_cell? w _ hx336_2)).trans hx336_2;replace hx336_3:=(HB.out.cell (World.block_lt_of_cell? w _ hx336_3)).trans hx336_3;replace hx336_4:=(HB.out.cell (World.block_lt_of_cell? w _ hx336_4)).trans hx336_4;replace p336:=eq_true p336;replace q336:=eq_true q336
    go_wp2_with (first | ((with_reducible refine gate_dst (N:=4) rfl ?_); (try (refine gate_guard (by rfl) ?_; dsimp only)); refine box_event ?hg (N:=4) ?hd (cs:=#[.int .i64 0,.int .i64 0,.int .i64 0,.int .i64 0,.int .i64 0]) (t:=58) ?hr ?_; (case hd => rfl); (case hg => rfl); (case hr => first | (go_simp; done) | (go_simp; rfl)); intro gb337 hg w11 hbox hb; have n0_:=zy (blk_below (g:=gb334) (o:=.cells #[.int .i64 a0_0,.slice (some ad336) l0_1.length c0_1] 34 (0,0)) (by (with_reducible repeat (first | refine blk_drewN ?_ _ | refine blk_drew ?_ | refine blk_alloc ?_ _)); exact BK334.out) hb); have n1_:=zy (below_step (by repeat (first | (with_reducible first | exact HB.out | apply below_alloc | apply pw_below_drewN | apply below_drew1 | refine below_set ?_ GE334.out) | exact HB.out)) hb); have n2_:=zy (hbox); have n3_:=zy ((by rw [hg]; exact (below_size (by repeat (first | (with_reducible first | exact HB.out | apply below_alloc | apply pw_below_drewN | apply below_drew1 | refine below_set ?_ GE334.out) | exact HB.out))) : w.heap.size ≤ gb337)); have n4_:=zy ((by rw [hg]; exact (below_size (by repeat (first | (with_reducible first | exact HB.out | apply below_alloc | apply pw_below_drewN | apply below_drew1 | refine below_set ?_ GE334.out) | exact HB.out))) : w.heap.size ≤ gb337)); have n5_:=zy ((by rw [hg]; exact Nat.ne_of_lt (blk_lt (g:=gb334) (o:=.cells #[.int .i64 a0_0,.slice (some ad336) l0_1.length c0_1] 34 (0,0)) (by (with_reducible repeat (first | refine blk_drewN ?_ _ | refine blk_drew ?_ | refine blk_alloc ?_ _)); exact BK334.out)) : gb334 ≠ gb337)); have n6_:=zy ((by rw [hg]; exact Nat.ne_of_gt (blk_lt (g:=gb334) (o:=.cells #[.int .i64 a0_0,.slice (some ad336) l0_1.length c0_1] 34 (0,0)) (by (with_reducible repeat (first | refine blk_drewN ?_ _ | refine blk_drew ?_ | refine blk_alloc ?_ _)); exact BK334.out)) : gb337 ≠ gb334)); clear BK334; clear HB; have BK334:=n0_; have HB:=n1_; have BK337:=n2_; have GW337:=n3_; have GE337:=n4_; have NB334_337:=n5_; have NB337_334:=n6_; clear n0_ n1_ n2_ n3_ n4_ n5_ n6_; clear hb hbox hg; have hnb12:=NB337_334.out; have hnc12:=NB334_337.out; have hcz13_0 : w11.cell? ⟨gb337,0,none⟩ = some (.int .i64 0):=(blk_cell BK337.out 0).trans rfl; have hcz13_1 : w11.cell? ⟨gb337,1,none⟩ = some (.int .i64 0):=(blk_cell BK337.out 1).trans rfl; have hcz13_2 : w11.cell? ⟨gb337,2,none⟩ = some (.int .i64 0):=(blk_cell BK337.out 2).trans rfl; have hcz13_3 : w11.cell? ⟨gb337,3,none⟩ = some (.int .i64 0):=(blk_cell BK337.out 3).trans rfl; have hcz13_4 : w11.cell? ⟨gb337,4,none⟩ = some (.int .i64 0):=(blk_cell BK337.out 4).trans rfl; have hfz13_0:=blk_frozen BK337.out 0; have hfz13_1:=blk_frozen BK337.out 1; have hfz13_2:=blk_frozen BK337.out 2; have hfz13_3:=blk_frozen BK337.out 3; have hfz13_4:=blk_frozen BK337.out 4; have hcz14_0 : w11.cell? ⟨gb334,0,none⟩ = some (.int .i64 a0_0):=(blk_cell BK334.out 0).trans rfl; have hcz14_1 : w11.cell? ⟨gb334,1,none⟩ = some (.slice (some ad336) l0_1.length c0_1):=(blk_cell BK334.out 1).trans rfl; have hfz14_0:=blk_frozen BK334.out 0; have hfz14_1:=blk_frozen BK334.out 1) | ((with_reducible refine gate_callee (f:=90) rfl ?_); refine goesL_ (some 22) rfl rfl Try.func90 (by kernel_rfl) rfl #[.int .i64 ((rd_T58 l0_1 x3_1).f0),.int .i64 0,.int .i64 (wrap64 (a0_0 - 1))] rfl (by (try simp only [List.map_toArray,List.map_cons,List.map_nil]); first | done | rfl | (simp only [List.length_drop,List.length_take]; rfl)) ?_; (with_reducible refine (spec_l1In.calls ((rd_T58 l0_1 x3_1).f0) 0 (wrap64 (a0_0 - 1)) true _ A5.out).mono ?_); rintro e w' ⟨rfl,⟨nd,rfl⟩⟩; refine ⟨_,rfl,?_⟩) | (go_at_call 90; (with_reducible refine (spec_l1In.calls ((rd_T58 l0_1 x3_1).f1) 0 (wrap64 (a0_0 - 1)) true _ A7.out).mono ?_); rintro e w' ⟨rfl,⟨nd,rfl⟩⟩))
    go_ret;exact ⟨by first | rfl | (simp [errW_none,errW_some] <;> rfl) | (simp [*,errW_none,errW_some] <;> rfl),by repeat (first | (with_reducible first | exact HB.out | apply below_alloc | apply pw_below_drewN | apply below_drew1 | refine below_set ?_ GE334.out | refine below_set ?_ GE337.out) | exact HB.out)⟩
   rw [if_neg c9] at H;have c9b0 : (((rd_T58 l0_1 x3_1).f0) == ((rd_T58 l0_1 x3_1).f1)) = false:=beq_eq_false_iff_ne.mpr c9;have c9b1 : (((rd_T58 l0_1 x3_1).f0) != ((rd_T58 l0_1 x3_1).f1)) = true:=bne_iff_ne.mpr c9;replace H:=Option.bind_eq_some_iff.mp H;obtain ⟨t340,A150,H⟩:=H;replace H : (if t340 = true then ((spec_l1In.f ((rd_T58 l0_1 x3_1).f3) 0 99).bind fun t341 => (if t341 = true then ((spec_l1In.f ((rd_T58 l0_1 x3_1).f4) 0 9).bind fun t342 => (if t342 = true then (spec_l1Ok.l0 k1 (wrap64 (x3_1 + 1)) a0_0 l0_1) else (some false))) else (some false))) else (some false)) = some r:=H;have A15:=zy A150;clear A150
   by_cases c16 : t340 = true
   case neg =>
    replace c16:=Bool.eq_false_iff.mpr c16;subst c16;have H1 : (some false) = some r:=by rw [if_neg (show ¬ (false = true) by decide)] at H; exact H
    clear H;have H:=H1;clear H1;obtain rfl:=Option.some.inj H;have hcz36_0 : wr.cell? ⟨gb334,0,none⟩ = some (.int .i64 a0_0):=(blk_cell BK334.out 0).trans rfl;have hcz36_1 : wr.cell? ⟨gb334,1,none⟩ = some (.slice A0_1 l0_1.length c0_1):=(blk_cell BK334.out 1).trans rfl;have hfz36_0:=blk_frozen BK334.out 0;have hfz36_1:=blk_frozen BK334.out 1;have p336 : 0 ≤ (x3_1 : Int):=of_decide_eq_true (by first | (with_reducible assumption) | assumption);have q336 : x3_1 < (l0_1.length : Int):=of_decide_eq_true (by first | (with_reducible assumption) | assumption);obtain ⟨ad336,e336,hx336_0,hx336_1,hx336_2,hx336_3,hx336_4⟩:=at_T58 HR0_1.out x3_1 p336 q336;cases e336;replace hx336_0:=(HB.out.cell (World.block_lt_of_cell? w _ hx336_0)).trans hx336_0;replace hx336_1:=(HB.out.cell (World.block_lt_of_cell? w _ hx336_1)).trans hx336_1;replace hx336_2:=(HB.out.cell (World.block_lt_of_cell? w _ hx336_2)).trans hx336_2;replace hx336_3:=(HB.out.cell (World.block_lt_of_cell? w _ hx336_3)).trans hx336_3;replace hx336_4:=(HB.out.cell (World.block_lt_of_cell? w _ hx336_4)).trans hx336_4;replace p336:=eq_true p336;replace q336:=eq_true q336
    go_wp2_with (first | ((with_reducible refine gate_dst (N:=4) rfl ?_); (try (refine gate_guard (by rfl) ?_; dsimp only)); refine box_event ?hg (N:=4) ?hd (cs:=#[.int .i64 0,.int .i64 0,.int .i64 0,.int .i64 0,.int .i64 0]) (t:=58) ?hr ?_; (case hd => rfl); (case hg => rfl); (case hr => first | (go_simp; done) | (go_simp; rfl)); intro gb337 hg w37 hbox hb; have n0_:=zy (blk_below (g:=gb334) (o:=.cells #[.int .i64 a0_0,.slice (some ad336) l0_1.length c0_1] 34 (0,0)) (by (with_reducible repeat (first | refine blk_drewN ?_ _ | refine blk_drew ?_ | refine blk_alloc ?_ _)); exact BK334.out) hb); have n1_:=zy (below_step (by repeat (first | (with_reducible first | exact HB.out | apply below_alloc | apply pw_below_drewN | apply below_drew1 | refine below_set ?_ GE334.out) | exact HB.out)) hb); have n2_:=zy (hbox); have n3_:=zy ((by rw [hg]; exact (below_size (by repeat (first | (with_reducible first | exact HB.out | apply below_alloc | apply pw_below_drewN | apply below_drew1 | refine below_set ?_ GE334.out) | exact HB.out))) : w.heap.size ≤ gb337)); have n4_:=zy ((by rw [hg]; exact (below_size (by repeat (first | (with_reducible first | exact HB.out | apply below_alloc | apply pw_below_drewN | apply below_drew1 | refine below_set ?_ GE334.out) | exact HB.out))) : w.heap.size ≤ gb337)); have n5_:=zy ((by rw [hg]; exact Nat.ne_of_lt (blk_lt (g:=gb334) (o:=.cells #[.int .i64 a0_0,.slice (some ad336) l0_1.length c0_1] 34 (0,0)) (by (with_reducible repeat (first | refine blk_drewN ?_ _ | refine blk_drew ?_ | refine blk_alloc ?_ _)); exact BK334.out)) : gb334 ≠ gb337)); have n6_:=zy ((by rw [hg]; exact Nat.ne_of_gt (blk_lt (g:=gb334) (o:=.cells #[.int .i64 a0_0,.slice (some ad336) l0_1.length c0_1] 34 (0,0)) (by (with_reducible repeat (first | refine blk_drewN ?_ _ | refine blk_drew ?_ | refine blk_alloc ?_ _)); exact BK334.out)) : gb337 ≠ gb334)); clear BK334; clear HB; have BK334:=n0_; have HB:=n1_; have BK337:=n2_; have GW337:=n3_; have GE337:=n4_; have NB334_337:=n5_; have NB337_334:=n6_; clear n0_ n1_ n2_ n3_ n4_ n5_ n6_; clear hb hbox hg; have hnb38:=NB337_334.out; have hnc38:=NB334_337.out; have hcz39_0 : w37.cell? ⟨gb337,0,none⟩ = some (.int .i64 0):=(blk_cell BK337.out 0).trans rfl; have hcz39_1 : w37.cell? ⟨gb337,1,none⟩ = some (.int .i64 0):=(blk_cell BK337.out 1).trans rfl; have hcz39_2 : w37.cell? ⟨gb337,2,none⟩ = some (.int .i64 0):=(blk_cell BK337.out 2).trans rfl; have hcz39_3 : w37.cell? ⟨gb337,3,none⟩ = some (.int .i64 0):=(blk_cell BK337.out 3).trans rfl; have hcz39_4 : w37.cell? ⟨gb337,4,none⟩ = some (.int .i64 0):=(blk_cell BK337.out 4).trans rfl; have hfz39_0:=blk_frozen BK337.out 0; have hfz39_1:=blk_frozen BK337.out 1; have hfz39_2:=blk_frozen BK337.out 2; have hfz39_3:=blk_frozen BK337.out 3; have hfz39_4:=blk_frozen BK337.out 4; have hcz40_0 : w37.cell? ⟨gb334,0,none⟩ = some (.int .i64 a0_0):=(blk_cell BK334.out 0).trans rfl; have hcz40_1 : w37.cell? ⟨gb334,1,none⟩ = some (.slice (some ad336) l0_1.length c0_1):=(blk_cell BK334.out 1).trans rfl; have hfz40_0:=blk_frozen BK334.out 0; have hfz40_1:=blk_frozen BK334.out 1) | ((with_reducible refine gate_callee (f:=90) rfl ?_); refine goesL_ (some 22) rfl rfl Try.func90 (by kernel_rfl) rfl #[.int .i64 ((rd_T58 l0_1 x3_1).f0),.int .i64 0,.int .i64 (wrap64 (a0_0 - 1))] rfl (by (try simp only [List.map_toArray,List.map_cons,List.map_nil]); first | done | rfl | (simp only [List.length_drop,List.length_take]; rfl)) ?_; (with_reducible refine (spec_l1In.calls ((rd_T58 l0_1 x3_1).f0) 0 (wrap64 (a0_0 - 1)) true _ A5.out).mono ?_); rintro e w' ⟨rfl,⟨nd,rfl⟩⟩; refine ⟨_,rfl,?_⟩) | (go_at_call 90; (with_reducible refine (spec_l1In.calls ((rd_T58 l0_1 x3_1).f1) 0 (wrap64 (a0_0 - 1)) true _ A7.out).mono ?_); rintro e w' ⟨rfl,⟨nd,rfl⟩⟩) | (go_at_call 90; (with_reducible refine (spec_l1In.calls ((rd_T58 l0_1 x3_1).f2) 0 99 false _ A15.out).mono ?_); rintro e w' ⟨rfl,⟨nd,rfl⟩⟩))
    go_ret;exact ⟨by first | rfl | (simp [errW_none,errW_some] <;> rfl) | (simp [*,errW_none,errW_some] <;> rfl),by repeat (first | (with_reducible first | exact HB.out | apply below_alloc | apply pw_below_drewN | apply below_drew1 | refine below_set ?_ GE334.out | refine below_set ?_ GE337.out) | exact HB.out)⟩
   subst c16;have H1 : ((spec_l1In.f ((rd_T58 l0_1 x3_1).f3) 0 99).bind fun t341 => (if t341 = true then ((spec_l1In.f ((rd_T58 l0_1 x3_1).f4) 0 9).bind fun t342 => (if t342 = true then (spec_l1Ok.l0 k1 (wrap64 (x3_1 + 1)) a0_0 l0_1) else (some false))) else (some false))) = some r:=by rw [if_pos rfl] at H; exact H
   clear H;have H:=H1;clear H1;replace H:=Option.bind_eq_some_iff.mp H;obtain ⟨t341,A170,H⟩:=H;replace H : (if t341 = true then ((spec_l1In.f ((rd_T58 l0_1 x3_1).f4) 0 9).bind fun t342 => (if t342 = true then (spec_l1Ok.l0 k1 (wrap64 (x3_1 + 1)) a0_0 l0_1) else (some false))) else (some false)) = some r:=H;have A17:=zy A170;clear A170
   by_cases c18 : t341 = true
   case neg =>
    replace c18:=Bool.eq_false_iff.mpr c18;subst c18;have H1 : (some false) = some r:=by rw [if_neg (show ¬ (false = true) by decide)] at H; exact H
    clear H;have H:=H1;clear H1;obtain rfl:=Option.some.inj H;have hcz31_0 : wr.cell? ⟨gb334,0,none⟩ = some (.int .i64 a0_0):=(blk_cell BK334.out 0).trans rfl;have hcz31_1 : wr.cell? ⟨gb334,1,none⟩ = some (.slice A0_1 l0_1.length c0_1):=(blk_cell BK334.out 1).trans rfl;have hfz31_0:=blk_frozen BK334.out 0;have hfz31_1:=blk_frozen BK334.out 1;have p336 : 0 ≤ (x3_1 : Int):=of_decide_eq_true (by first | (with_reducible assumption) | assumption);have q336 : x3_1 < (l0_1.length : Int):=of_decide_eq_true (by first | (with_reducible assumption) | assumption);obtain ⟨ad336,e336,hx336_0,hx336_1,hx336_2,hx336_3,hx336_4⟩:=at_T58 HR0_1.out x3_1 p336 q336;cases e336;replace hx336_0:=(HB.out.cell (World.block_lt_of_cell? w _ hx336_0)).trans hx336_0;replace hx336_1:=(HB.out.cell (World.block_lt_of_cell? w _ hx336_1)).trans hx336_1;replace hx336_2:=(HB.out.cell (World.block_lt_of_cell? w _ hx336_2)).trans hx336_2;replace hx336_3:=(HB.out.cell (World.block_lt_of_cell? w _ hx336_3)).trans hx336_3;replace hx336_4:=(HB.out.cell (World.block_lt_of_cell? w _ hx336_4)).trans hx336_4;replace p336:=eq_true p336;replace q336:=eq_true q336
    go_wp2_with (first | ((with_reducible refine gate_dst (N:=4) rfl ?_); (try (refine gate_guard (by rfl) ?_; dsimp only)); refine box_event ?hg (N:=4) ?hd (cs:=#[.int .i64 0,.int .i64 0,.int .i64 0,.int .i64 0,.int .i64 0]) (t:=58) ?hr ?_; (case hd => rfl); (case hg => rfl); (case hr => first | (go_simp; done) | (go_simp; rfl)); intro gb337 hg w32 hbox hb; have n0_:=zy (blk_below (g:=gb334) (o:=.cells #[.int .i64 a0_0,.slice (some ad336) l0_1.length c0_1] 34 (0,0)) (by (with_reducible repeat (first | refine blk_drewN ?_ _ | refine blk_drew ?_ | refine blk_alloc ?_ _)); exact BK334.out) hb); have n1_:=zy (below_step (by repeat (first | (with_reducible first | exact HB.out | apply below_alloc | apply pw_below_drewN | apply below_drew1 | refine below_set ?_ GE334.out) | exact HB.out)) hb); have n2_:=zy (hbox); have n3_:=zy ((by rw [hg]; exact (below_size (by repeat (first | (with_reducible first | exact HB.out | apply below_alloc | apply pw_below_drewN | apply below_drew1 | refine below_set ?_ GE334.out) | exact HB.out))) : w.heap.size ≤ gb337)); have n4_:=zy ((by rw [hg]; exact (below_size (by repeat (first | (with_reducible first | exact HB.out | apply below_alloc | apply pw_below_drewN | apply below_drew1 | refine below_set ?_ GE334.out) | exact HB.out))) : w.heap.size ≤ gb337)); have n5_:=zy ((by rw [hg]; exact Nat.ne_of_lt (blk_lt (g:=gb334) (o:=.cells #[.int .i64 a0_0,.slice (some ad336) l0_1.length c0_1] 34 (0,0)) (by (with_reducible repeat (first | refine blk_drewN ?_ _ | refine blk_drew ?_ | refine blk_alloc ?_ _)); exact BK334.out)) : gb334 ≠ gb337)); have n6_:=zy ((by rw [hg]; exact Nat.ne_of_gt (blk_lt (g:=gb334) (o:=.cells #[.int .i64 a0_0,.slice (some ad336) l0_1.length c0_1] 34 (0,0)) (by (with_reducible repeat (first | refine blk_drewN ?_ _ | refine blk_drew ?_ | refine blk_alloc ?_ _)); exact BK334.out)) : gb337 ≠ gb334)); clear BK334; clear HB; have BK334:=n0_; have HB:=n1_; have BK337:=n2_; have GW337:=n3_; have GE337:=n4_; have NB334_337:=n5_; have NB337_334:=n6_; clear n0_ n1_ n2_ n3_ n4_ n5_ n6_; clear hb hbox hg; have hnb33:=NB337_334.out; have hnc33:=NB334_337.out; have hcz34_0 : w32.cell? ⟨gb337,0,none⟩ = some (.int .i64 0):=(blk_cell BK337.out 0).trans rfl; have hcz34_1 : w32.cell? ⟨gb337,1,none⟩ = some (.int .i64 0):=(blk_cell BK337.out 1).trans rfl; have hcz34_2 : w32.cell? ⟨gb337,2,none⟩ = some (.int .i64 0):=(blk_cell BK337.out 2).trans rfl; have hcz34_3 : w32.cell? ⟨gb337,3,none⟩ = some (.int .i64 0):=(blk_cell BK337.out 3).trans rfl; have hcz34_4 : w32.cell? ⟨gb337,4,none⟩ = some (.int .i64 0):=(blk_cell BK337.out 4).trans rfl; have hfz34_0:=blk_frozen BK337.out 0; have hfz34_1:=blk_frozen BK337.out 1; have hfz34_2:=blk_frozen BK337.out 2; have hfz34_3:=blk_frozen BK337.out 3; have hfz34_4:=blk_frozen BK337.out 4; have hcz35_0 : w32.cell? ⟨gb334,0,none⟩ = some (.int .i64 a0_0):=(blk_cell BK334.out 0).trans rfl; have hcz35_1 : w32.cell? ⟨gb334,1,none⟩ = some (.slice (some ad336) l0_1.length c0_1):=(blk_cell BK334.out 1).trans rfl; have hfz35_0:=blk_frozen BK334.out 0; have hfz35_1:=blk_frozen BK334.out 1) | ((with_reducible refine gate_callee (f:=90) rfl ?_); refine goesL_ (some 22) rfl rfl Try.func90 (by kernel_rfl) rfl #[.int .i64 ((rd_T58 l0_1 x3_1).f0),.int .i64 0,.int .i64 (wrap64 (a0_0 - 1))] rfl (by (try simp only [List.map_toArray,List.map_cons,List.map_nil]); first | done | rfl | (simp only [List.length_drop,List.length_take]; rfl)) ?_; (with_reducible refine (spec_l1In.calls ((rd_T58 l0_1 x3_1).f0) 0 (wrap64 (a0_0 - 1)) true _ A5.out).mono ?_); rintro e w' ⟨rfl,⟨nd,rfl⟩⟩; refine ⟨_,rfl,?_⟩) | (go_at_call 90; (with_reducible refine (spec_l1In.calls ((rd_T58 l0_1 x3_1).f1) 0 (wrap64 (a0_0 - 1)) true _ A7.out).mono ?_); rintro e w' ⟨rfl,⟨nd,rfl⟩⟩) | (go_at_call 90; (with_reducible refine (spec_l1In.calls ((rd_T58 l0_1 x3_1).f2) 0 99 true _ A15.out).mono ?_); rintro e w' ⟨rfl,⟨nd,rfl⟩⟩) | (go_at_call 90; (with_reducible refine (spec_l1In.calls ((rd_T58 l0_1 x3_1).f3) 0 99 false _ A17.out).mono ?_); rintro e w' ⟨rfl,⟨nd,rfl⟩⟩))
    go_ret;exact ⟨by first | rfl | (simp [errW_none,errW_some] <;> rfl) | (simp [*,errW_none,errW_some] <;> rfl),by repeat (first | (with_reducible first | exact HB.out | apply below_alloc | apply pw_below_drewN | apply below_drew1 | refine below_set ?_ GE334.out | refine below_set ?_ GE337.out) | exact HB.out)⟩
   subst c18;have H1 : ((spec_l1In.f ((rd_T58 l0_1 x3_1).f4) 0 9).bind fun t342 => (if t342 = true then (spec_l1Ok.l0 k1 (wrap64 (x3_1 + 1)) a0_0 l0_1) else (some false))) = some r:=by rw [if_pos rfl] at H; exact H
   clear H;have H:=H1;clear H1;replace H:=Option.bind_eq_some_iff.mp H;obtain ⟨t342,A190,H⟩:=H;replace H : (if t342 = true then (spec_l1Ok.l0 k1 (wrap64 (x3_1 + 1)) a0_0 l0_1) else (some false)) = some r:=H;have A19:=zy A190;clear A190
   by_cases c20 : t342 = true
   case neg =>
    replace c20:=Bool.eq_false_iff.mpr c20;subst c20;have H1 : (some false) = some r:=by rw [if_neg (show ¬ (false = true) by decide)] at H; exact H
    clear H;have H:=H1;clear H1;obtain rfl:=Option.some.inj H;have hcz26_0 : wr.cell? ⟨gb334,0,none⟩ = some (.int .i64 a0_0):=(blk_cell BK334.out 0).trans rfl;have hcz26_1 : wr.cell? ⟨gb334,1,none⟩ = some (.slice A0_1 l0_1.length c0_1):=(blk_cell BK334.out 1).trans rfl;have hfz26_0:=blk_frozen BK334.out 0;have hfz26_1:=blk_frozen BK334.out 1;have p336 : 0 ≤ (x3_1 : Int):=of_decide_eq_true (by first | (with_reducible assumption) | assumption);have q336 : x3_1 < (l0_1.length : Int):=of_decide_eq_true (by first | (with_reducible assumption) | assumption);obtain ⟨ad336,e336,hx336_0,hx336_1,hx336_2,hx336_3,hx336_4⟩:=at_T58 HR0_1.out x3_1 p336 q336;cases e336;replace hx336_0:=(HB.out.cell (World.block_lt_of_cell? w _ hx336_0)).trans hx336_0;replace hx336_1:=(HB.out.cell (World.block_lt_of_cell? w _ hx336_1)).trans hx336_1;replace hx336_2:=(HB.out.cell (World.block_lt_of_cell? w _ hx336_2)).trans hx336_2;replace hx336_3:=(HB.out.cell (World.block_lt_of_cell? w _ hx336_3)).trans hx336_3;replace hx336_4:=(HB.out.cell (World.block_lt_of_cell? w _ hx336_4)).trans hx336_4;replace p336:=eq_true p336;replace q336:=eq_true q336
    go_wp2_with (first | ((with_reducible refine gate_dst (N:=4) rfl ?_); (try (refine gate_guard (by rfl) ?_; dsimp only)); refine box_event ?hg (N:=4) ?hd (cs:=#[.int .i64 0,.int .i64 0,.int .i64 0,.int .i64 0,.int .i64 0]) (t:=58) ?hr ?_; (case hd => rfl); (case hg => rfl); (case hr => first | (go_simp; done) | (go_simp; rfl)); intro gb337 hg w27 hbox hb; have n0_:=zy (blk_below (g:=gb334) (o:=.cells #[.int .i64 a0_0,.slice (some ad336) l0_1.length c0_1] 34 (0,0)) (by (with_reducible repeat (first | refine blk_drewN ?_ _ | refine blk_drew ?_ | refine blk_alloc ?_ _)); exact BK334.out) hb); have n1_:=zy (below_step (by repeat (first | (with_reducible first | exact HB.out | apply below_alloc | apply pw_below_drewN | apply below_drew1 | refine below_set ?_ GE334.out) | exact HB.out)) hb); have n2_:=zy (hbox); have n3_:=zy ((by rw [hg]; exact (below_size (by repeat (first | (with_reducible first | exact HB.out | apply below_alloc | apply pw_below_drewN | apply below_drew1 | refine below_set ?_ GE334.out) | exact HB.out))) : w.heap.size ≤ gb337)); have n4_:=zy ((by rw [hg]; exact (below_size (by repeat (first | (with_reducible first | exact HB.out | apply below_alloc | apply pw_below_drewN | apply below_drew1 | refine below_set ?_ GE334.out) | exact HB.out))) : w.heap.size ≤ gb337)); have n5_:=zy ((by rw [hg]; exact Nat.ne_of_lt (blk_lt (g:=gb334) (o:=.cells #[.int .i64 a0_0,.slice (some ad336) l0_1.length c0_1] 34 (0,0)) (by (with_reducible repeat (first | refine blk_drewN ?_ _ | refine blk_drew ?_ | refine blk_alloc ?_ _)); exact BK334.out)) : gb334 ≠ gb337)); have n6_:=zy ((by rw [hg]; exact Nat.ne_of_gt (blk_lt (g:=gb334) (o:=.cells #[.int .i64 a0_0,.slice (some ad336) l0_1.length c0_1] 34 (0,0)) (by (with_reducible repeat (first | refine blk_drewN ?_ _ | refine blk_drew ?_ | refine blk_alloc ?_ _)); exact BK334.out)) : gb337 ≠ gb334)); clear BK334; clear HB; have BK334:=n0_; have HB:=n1_; have BK337:=n2_; have GW337:=n3_; have GE337:=n4_; have NB334_337:=n5_; have NB337_334:=n6_; clear n0_ n1_ n2_ n3_ n4_ n5_ n6_; clear hb hbox hg; have hnb28:=NB337_334.out; have hnc28:=NB334_337.out; have hcz29_0 : w27.cell? ⟨gb337,0,none⟩ = some (.int .i64 0):=(blk_cell BK337.out 0).trans rfl; have hcz29_1 : w27.cell? ⟨gb337,1,none⟩ = some (.int .i64 0):=(blk_cell BK337.out 1).trans rfl; have hcz29_2 : w27.cell? ⟨gb337,2,none⟩ = some (.int .i64 0):=(blk_cell BK337.out 2).trans rfl; have hcz29_3 : w27.cell? ⟨gb337,3,none⟩ = some (.int .i64 0):=(blk_cell BK337.out 3).trans rfl; have hcz29_4 : w27.cell? ⟨gb337,4,none⟩ = some (.int .i64 0):=(blk_cell BK337.out 4).trans rfl; have hfz29_0:=blk_frozen BK337.out 0; have hfz29_1:=blk_frozen BK337.out 1; have hfz29_2:=blk_frozen BK337.out 2; have hfz29_3:=blk_frozen BK337.out 3; have hfz29_4:=blk_frozen BK337.out 4; have hcz30_0 : w27.cell? ⟨gb334,0,none⟩ = some (.int .i64 a0_0):=(blk_cell BK334.out 0).trans rfl; have hcz30_1 : w27.cell? ⟨gb334,1,none⟩ = some (.slice (some ad336) l0_1.length c0_1):=(blk_cell BK334.out 1).trans rfl; have hfz30_0:=blk_frozen BK334.out 0; have hfz30_1:=blk_frozen BK334.out 1) | ((with_reducible refine gate_callee (f:=90) rfl ?_); refine goesL_ (some 22) rfl rfl Try.func90 (by kernel_rfl) rfl #[.int .i64 ((rd_T58 l0_1 x3_1).f0),.int .i64 0,.int .i64 (wrap64 (a0_0 - 1))] rfl (by (try simp only [List.map_toArray,List.map_cons,List.map_nil]); first | done | rfl | (simp only [List.length_drop,List.length_take]; rfl)) ?_; (with_reducible refine (spec_l1In.calls ((rd_T58 l0_1 x3_1).f0) 0 (wrap64 (a0_0 - 1)) true _ A5.out).mono ?_); rintro e w' ⟨rfl,⟨nd,rfl⟩⟩; refine ⟨_,rfl,?_⟩) | (go_at_call 90; (with_reducible refine (spec_l1In.calls ((rd_T58 l0_1 x3_1).f1) 0 (wrap64 (a0_0 - 1)) true _ A7.out).mono ?_); rintro e w' ⟨rfl,⟨nd,rfl⟩⟩) | (go_at_call 90; (with_reducible refine (spec_l1In.calls ((rd_T58 l0_1 x3_1).f2) 0 99 true _ A15.out).mono ?_); rintro e w' ⟨rfl,⟨nd,rfl⟩⟩) | (go_at_call 90; (with_reducible refine (spec_l1In.calls ((rd_T58 l0_1 x3_1).f3) 0 99 true _ A17.out).mono ?_); rintro e w' ⟨rfl,⟨nd,rfl⟩⟩) | (go_at_call 90; (with_reducible refine (spec_l1In.calls ((rd_T58 l0_1 x3_1).f4) 0 9 false _ A19.out).mono ?_); rintro e w' ⟨rfl,⟨nd,rfl⟩⟩))
    go_ret;exact ⟨by first | rfl | (simp [errW_none,errW_some] <;> rfl) | (simp [*,errW_none,errW_some] <;> rfl),by repeat (first | (with_reducible first | exact HB.out | apply below_alloc | apply pw_below_drewN | apply below_drew1 | refine below_set ?_ GE334.out | refine below_set ?_ GE337.out) | exact HB.out)⟩
   subst c20;have H1 : (spec_l1Ok.l0 k1 (wrap64 (x3_1 + 1)) a0_0 l0_1) = some r:=by rw [if_pos rfl] at H; exact H
   clear H;have H:=H1;clear H1;have H':=zy H;clear H;have hcz21_0 : wr.cell? ⟨gb334,0,none⟩ = some (.int .i64 a0_0):=(blk_cell BK334.out 0).trans rfl;have hcz21_1 : wr.cell? ⟨gb334,1,none⟩ = some (.slice A0_1 l0_1.length c0_1):=(blk_cell BK334.out 1).trans rfl;have hfz21_0:=blk_frozen BK334.out 0;have hfz21_1:=blk_frozen BK334.out 1;have p336 : 0 ≤ (x3_1 : Int):=of_decide_eq_true (by first | (with_reducible assumption) | assumption);have q336 : x3_1 < (l0_1.length : Int):=of_decide_eq_true (by first | (with_reducible assumption) | assumption);obtain ⟨ad336,e336,hx336_0,hx336_1,hx336_2,hx336_3,hx336_4⟩:=at_T58 HR0_1.out x3_1 p336 q336;cases e336;replace hx336_0:=(HB.out.cell (World.block_lt_of_cell? w _ hx336_0)).trans hx336_0;replace hx336_1:=(HB.out.cell (World.block_lt_of_cell? w _ hx336_1)).trans hx336_1;replace hx336_2:=(HB.out.cell (World.block_lt_of_cell? w _ hx336_2)).trans hx336_2;replace hx336_3:=(HB.out.cell (World.block_lt_of_cell? w _ hx336_3)).trans hx336_3;replace hx336_4:=(HB.out.cell (World.block_lt_of_cell? w _ hx336_4)).trans hx336_4;replace p336:=eq_true p336;replace q336:=eq_true q336
   go_wp2_with (first | ((with_reducible refine gate_dst (N:=4) rfl ?_); (try (refine gate_guard (by rfl) ?_; dsimp only)); refine box_event ?hg (N:=4) ?hd (cs:=#[.int .i64 0,.int .i64 0,.int .i64 0,.int .i64 0,.int .i64 0]) (t:=58) ?hr ?_; (case hd => rfl); (case hg => rfl); (case hr => first | (go_simp; done) | (go_simp; rfl)); intro gb337 hg w22 hbox hb; have n0_:=zy (blk_below (g:=gb334) (o:=.cells #[.int .i64 a0_0,.slice (some ad336) l0_1.length c0_1] 34 (0,0)) (by (with_reducible repeat (first | refine blk_drewN ?_ _ | refine blk_drew ?_ | refine blk_alloc ?_ _)); exact BK334.out) hb); have n1_:=zy (below_step (by repeat (first | (with_reducible first | exact HB.out | apply below_alloc | apply pw_below_drewN | apply below_drew1 | refine below_set ?_ GE334.out) | exact HB.out)) hb); have n2_:=zy (hbox); have n3_:=zy ((by rw [hg]; exact (below_size (by repeat (first | (with_reducible first | exact HB.out | apply below_alloc | apply pw_below_drewN | apply below_drew1 | refine below_set ?_ GE334.out) | exact HB.out))) : w.heap.size ≤ gb337)); have n4_:=zy ((by rw [hg]; exact (below_size (by repeat (first | (with_reducible first | exact HB.out | apply below_alloc | apply pw_below_drewN | apply below_drew1 | refine below_set ?_ GE334.out) | exact HB.out))) : w.heap.size ≤ gb337)); have n5_:=zy ((by rw [hg]; exact Nat.ne_of_lt (blk_lt (g:=gb334) (o:=.cells #[.int .i64 a0_0,.slice (some ad336) l0_1.length c0_1] 34 (0,0)) (by (with_reducible repeat (first | refine blk_drewN ?_ _ | refine blk_drew ?_ | refine blk_alloc ?_ _)); exact BK334.out)) : gb334 ≠ gb337)); have n6_:=zy ((by rw [hg]; exact Nat.ne_of_gt (blk_lt (g:=gb334) (o:=.cells #[.int .i64 a0_0,.slice (some ad336) l0_1.length c0_1] 34 (0,0)) (by (with_reducible repeat (first | refine blk_drewN ?_ _ | refine blk_drew ?_ | refine blk_alloc ?_ _)); exact BK334.out)) : gb337 ≠ gb334)); clear BK334; clear HB; have BK334:=n0_; have HB:=n1_; have BK337:=n2_; have GW337:=n3_; have GE337:=n4_; have NB334_337:=n5_; have NB337_334:=n6_; clear n0_ n1_ n2_ n3_ n4_ n5_ n6_; clear hb hbox hg; have hnb23:=NB337_334.out; have hnc23:=NB334_337.out; have hcz24_0 : w22.cell? ⟨gb337,0,none⟩ = some (.int .i64 0):=(blk_cell BK337.out 0).trans rfl; have hcz24_1 : w22.cell? ⟨gb337,1,none⟩ = some (.int .i64 0):=(blk_cell BK337.out 1).trans rfl; have hcz24_2 : w22.cell? ⟨gb337,2,none⟩ = some (.int .i64 0):=(blk_cell BK337.out 2).trans rfl; have hcz24_3 : w22.cell? ⟨gb337,3,none⟩ = some (.int .i64 0):=(blk_cell BK337.out 3).trans rfl; have hcz24_4 : w22.cell? ⟨gb337,4,none⟩ = some (.int .i64 0):=(blk_cell BK337.out 4).trans rfl; have hfz24_0:=blk_frozen BK337.out 0; have hfz24_1:=blk_frozen BK337.out 1; have hfz24_2:=blk_frozen BK337.out 2; have hfz24_3:=blk_frozen BK337.out 3; have hfz24_4:=blk_frozen BK337.out 4; have hcz25_0 : w22.cell? ⟨gb334,0,none⟩ = some (.int .i64 a0_0):=(blk_cell BK334.out 0).trans rfl; have hcz25_1 : w22.cell? ⟨gb334,1,none⟩ = some (.slice (some ad336) l0_1.length c0_1):=(blk_cell BK334.out 1).trans rfl; have hfz25_0:=blk_frozen BK334.out 0; have hfz25_1:=blk_frozen BK334.out 1) | ((with_reducible refine gate_callee (f:=90) rfl ?_); refine goesL_ (some 22) rfl rfl Try.func90 (by kernel_rfl) rfl #[.int .i64 ((rd_T58 l0_1 x3_1).f0),.int .i64 0,.int .i64 (wrap64 (a0_0 - 1))] rfl (by (try simp only [List.map_toArray,List.map_cons,List.map_nil]); first | done | rfl | (simp only [List.length_drop,List.length_take]; rfl)) ?_; (with_reducible refine (spec_l1In.calls ((rd_T58 l0_1 x3_1).f0) 0 (wrap64 (a0_0 - 1)) true _ A5.out).mono ?_); rintro e w' ⟨rfl,⟨nd,rfl⟩⟩; refine ⟨_,rfl,?_⟩) | (go_at_call 90; (with_reducible refine (spec_l1In.calls ((rd_T58 l0_1 x3_1).f1) 0 (wrap64 (a0_0 - 1)) true _ A7.out).mono ?_); rintro e w' ⟨rfl,⟨nd,rfl⟩⟩) | (go_at_call 90; (with_reducible refine (spec_l1In.calls ((rd_T58 l0_1 x3_1).f2) 0 99 true _ A15.out).mono ?_); rintro e w' ⟨rfl,⟨nd,rfl⟩⟩) | (go_at_call 90; (with_reducible refine (spec_l1In.calls ((rd_T58 l0_1 x3_1).f3) 0 99 true _ A17.out).mono ?_); rintro e w' ⟨rfl,⟨nd,rfl⟩⟩) | (go_at_call 90; (with_reducible refine (spec_l1In.calls ((rd_T58 l0_1 x3_1).f4) 0 9 true _ A19.out).mono ?_); rintro e w' ⟨rfl,⟨nd,rfl⟩⟩))
   go_roundg k1
   case measure => have:=HK1.out; omega
   case rel => exact ⟨(wrap64 (x3_1 + 1)),(by first | rfl | (simp; done) | (simp [*]; done)),H',⟨by have:=HK1.out; omega⟩,⟨by (with_reducible repeat (first | refine blk_drewN ?_ _ | refine blk_drew ?_ | refine blk_alloc ?_ _)); refine blk_far ?_ NB334_337.out _; (with_reducible repeat (first | refine blk_drewN ?_ _ | refine blk_drew ?_ | refine blk_alloc ?_ _)); refine blk_far ?_ NB334_337.out _; (with_reducible repeat (first | refine blk_drewN ?_ _ | refine blk_drew ?_ | refine blk_alloc ?_ _)); refine blk_far ?_ NB334_337.out _; (with_reducible repeat (first | refine blk_drewN ?_ _ | refine blk_drew ?_ | refine blk_alloc ?_ _)); refine blk_far ?_ NB334_337.out _; (with_reducible repeat (first | refine blk_drewN ?_ _ | refine blk_drew ?_ | refine blk_alloc ?_ _)); refine blk_far ?_ NB334_337.out _; (with_reducible repeat (first | refine blk_drewN ?_ _ | refine blk_drew ?_ | refine blk_alloc ?_ _)); exact BK334.out⟩,⟨by repeat (first | (with_reducible first | exact HB.out | apply below_alloc | apply pw_below_drewN | apply below_drew1 | refine below_set ?_ GE334.out | refine below_set ?_ GE337.out) | exact HB.out)⟩⟩
def spec_l23Root.l0 : Nat → List Int → Int → Option (Int)
 | 0,_,_ => none
 | k + 1,x0,x1 => if 0 ≤ x1 then (if x1 < (x0.length : Int) then (if (rd x0 x1) = x1 then (some x1) else (spec_l23Root.l0 k x0 (rd x0 x1))) else (none)) else (none)
def spec_l23Root.f (k : Nat) (l0 : List Int) (a1 : Int) : Option (Int):=spec_l23Root.l0 k l0 a1
set_option maxHeartbeats 8000000 in
set_option maxRecDepth 100000 in
theorem spec_l23Root.calls (k : Nat) (A0 : Option Addr) (c0 : Nat) (l0 : List Int) (a1 : Int) (r : Int) (w : World) (hr0 : Kd.C (Kd.int .i64) w A0 l0.length l0) (hc0 : l0.length ≤ c0) (h : spec_l23Root.f k l0 a1 = some r) :
  Calls Try.prog 136 #[.slice A0 l0.length c0,.int .i64 a1] w fun e w' => e = .returned (.int .i64 r) ∧ Drawn0 w w':=by
 have HR0:=zy hr0;have HC0:=zy hc0;clear hr0 hc0;have H : (spec_l23Root.l0 k l0 a1) = some r:=h;clear h;have H':=zy H;clear H
 go_enter Try.func136,Try.ntmps136
 go_wp2
 go_loopg [1] k (fun kq v1 w' => ∃ (x1_1 : Int),v1 = .int .i64 x1_1 ∧ Aside0 (spec_l23Root.l0 kq l0 x1_1 = some r) ∧ Aside0 (kq ≤ k) ∧ Drawn0 w w')
 case atStart => exact ⟨(a1),(by first | rfl | (simp; done) | (simp [*]; done)),H',⟨Nat.le_refl _⟩,by repeat (first | exact Drawn0.refl _ | apply Drawn0.step)⟩
 case round =>
  clear H'
  try clear c1
  try clear p2
  obtain ⟨x1_1,rfl,HA,HK1,⟨m1,rfl⟩⟩:=hrel;cases gk with
  | zero => exact absurd HA.out (by simp [spec_l23Root.l0])
  | succ k1 =>
   have H:=HA.out;clear HA;simp only [spec_l23Root.l0] at H
   by_cases c3 : 0 ≤ x1_1
   case neg =>
    rw [if_neg c3] at H;exact absurd H (by simp)
   rw [if_pos c3] at H;have c3b0 : decide (0 ≤ x1_1) = true:=decide_eq_true c3;clear c3
   by_cases c4 : x1_1 < (l0.length : Int)
   case neg =>
    rw [if_neg c4] at H;exact absurd H (by simp)
   rw [if_pos c4] at H;have c4b0 : decide (x1_1 < (l0.length : Int)) = true:=decide_eq_true c4;clear c4
   by_cases c5 : (rd l0 x1_1) = x1_1
   case pos =>
    rw [if_pos c5] at H;have c5b0 : ((rd l0 x1_1) == x1_1) = true:=beq_iff_eq.mpr c5;have c5b1 : ((rd l0 x1_1) != x1_1) = false:=bne_eq_false_iff_eq.mpr c5;clear c5;obtain rfl:=Option.some.inj H;have p1020 : 0 ≤ (x1_1 : Int):=of_decide_eq_true (by first | (with_reducible assumption) | assumption);have q1020 : x1_1 < (l0.length : Int):=of_decide_eq_true (by first | (with_reducible assumption) | assumption);obtain ⟨ad1020,e1020,hx1020_0⟩:=Kd.at_int HR0.out x1_1 p1020 q1020;cases e1020;replace p1020:=eq_true p1020;replace q1020:=eq_true q1020
    go_wp2
    go_ret;exact ⟨by first | rfl | (simp; done) | (simp [*]; done),by repeat (first | exact Drawn0.refl _ | apply Drawn0.step)⟩
   rw [if_neg c5] at H;have c5b0 : ((rd l0 x1_1) == x1_1) = false:=beq_eq_false_iff_ne.mpr c5;have c5b1 : ((rd l0 x1_1) != x1_1) = true:=bne_iff_ne.mpr c5;have H':=zy H;clear H;have p1020 : 0 ≤ (x1_1 : Int):=of_decide_eq_true (by first | (with_reducible assumption) | assumption);have q1020 : x1_1 < (l0.length : Int):=of_decide_eq_true (by first | (with_reducible assumption) | assumption);obtain ⟨ad1020,e1020,hx1020_0⟩:=Kd.at_int HR0.out x1_1 p1020 q1020;cases e1020;replace p1020:=eq_true p1020;replace q1020:=eq_true q1020;have p1021 : 0 ≤ (x1_1 : Int):=of_decide_eq_true (by first | (with_reducible assumption) | assumption);have q1021 : x1_1 < (l0.length : Int):=of_decide_eq_true (by first | (with_reducible assumption) | assumption);obtain ⟨ad1021,e1021,hx1021_0⟩:=Kd.at_int HR0.out x1_1 p1021 q1021;obtain rfl : ad1020 = ad1021:=(by injection e1021)
   replace p1021:=eq_true p1021;replace q1021:=eq_true q1021
   go_wp2
   go_roundg k1
   case measure => have:=HK1.out; omega
   case rel => exact ⟨(rd l0 x1_1),(by first | rfl | (simp; done) | (simp [*]; done)),H',⟨by have:=HK1.out; omega⟩,by repeat (first | exact Drawn0.refl _ | apply Drawn0.step)⟩
mutual
def spec_l23Tree.l0 : Nat → List Int → Int → Int → List (S58) → Option (List Int)
 | 0,_,_,_,_ => none
 | k + 1,x3,x4,x1023000,x1023001 => if x4 < x1023000 then (if x3.length < 17592186044416 then (spec_l23Tree.l0 k (x3 ++ [x4]) (wrap64 (x4 + 1)) x1023000 x1023001) else (none)) else (spec_l23Tree.l1 k x3 (([] : List Int)) 0 x1023000 x1023001)
def spec_l23Tree.l1 : Nat → List Int → List Int → Int → Int → List (S58) → Option (List Int)
 | 0,_,_,_,_,_ => none
 | k + 1,x3,x5,x6,x1023000,x1023001 => if x6 ≤ 99 then (spec_l23Tree.l2 k x3 x5 x6 0 x1023000 x1023001) else (some x5)
def spec_l23Tree.l2 : Nat → List Int → List Int → Int → Int → Int → List (S58) → Option (List Int)
 | 0,_,_,_,_,_,_ => none
 | k + 1,x3,x5,x6,x7,x1023000,x1023001 => if x7 < (x1023001.length : Int) then (if 0 ≤ x7 then ((spec_l23Root.f k x3 ((rd_T58 x1023001 x7).f0)).bind fun t1033 => ((spec_l23Root.f k x3 ((rd_T58 x1023001 x7).f1)).bind fun t1035 => (if ((rd_T58 x1023001 x7).f2) = x6 then (spec_l23Tree.j3 k x3 x5 x6 x7 t1033 t1035 (t1033 == t1035) x1023000 x1023001) else (spec_l23Tree.j3 k x3 x5 x6 x7 t1033 t1035 true x1023000 x1023001)))) else (none)) else (spec_l23Tree.l1 k x3 x5 (wrap64 (x6 + 1)) x1023000 x1023001)
def spec_l23Tree.j3 : Nat → List Int → List Int → Int → Int → Int → Int → Bool → Int → List (S58) → Option (List Int)
 | 0,_,_,_,_,_,_,_,_,_ => none
 | k + 1,x3,x5,x6,x7,x8,x9,x61,x1023000,x1023001 => if x61 = true then (spec_l23Tree.l2 k x3 x5 x6 (wrap64 (x7 + 1)) x1023000 x1023001) else (if x8 < x9 then (if 0 ≤ x9 then (if x9 < (x3.length : Int) then (if x5.length < 17592186044416 then (spec_l23Tree.l2 k (x3.set (x9 : Int).toNat x8) (x5 ++ [x7]) x6 (wrap64 (x7 + 1)) x1023000 x1023001) else (none)) else (none)) else (none)) else (if 0 ≤ x8 then (if x8 < (x3.length : Int) then (if x5.length < 17592186044416 then (spec_l23Tree.l2 k (x3.set (x8 : Int).toNat x9) (x5 ++ [x7]) x6 (wrap64 (x7 + 1)) x1023000 x1023001) else (none)) else (none)) else (none)))
end
def spec_l23Tree.f (k : Nat) (a0_0 : Int) (l0_1 : List (S58)) : Option (List Int):=spec_l23Tree.l0 k (([] : List Int)) 0 a0_0 l0_1
set_option maxHeartbeats 8000000 in
set_option maxRecDepth 100000 in
theorem spec_l23Tree.calls (k : Nat) (a0_0 : Int) (A0_1 : Option Addr) (c0_1 : Nat) (l0_1 : List (S58)) (r : List Int) (w : World) (hr0_1 : Kd.C k58 w A0_1 l0_1.length l0_1) (hc0_1 : l0_1.length ≤ c0_1) (h : spec_l23Tree.f k a0_0 l0_1 = some r) :
  Calls Try.prog 106 #[.agg #[.int .i64 a0_0,.slice A0_1 l0_1.length c0_1]] w fun e w' => ∃ v0_ : Value,e = .returned (v0_) ∧ Kd.R (Kd.int .i64) 3 w' w.heap.size (fun _ => True) v0_ r ∧ Below w.heap.size w w':=by
 have hu34:=Try.underlying34;have HR0_1:=zy hr0_1;have HC0_1:=zy hc0_1;clear hr0_1 hc0_1;have HB:=zy (Below.refl w.heap.size w);have H : (spec_l23Tree.l0 k (([] : List Int)) 0 a0_0 l0_1) = some r:=h;clear h;obtain ⟨y1023,hy1023⟩ : ∃ y_ : List Int,y_ = (([] : List Int)):=⟨_,rfl⟩
 replace H : (spec_l23Tree.l0 k y1023 0 a0_0 l0_1) = some r:=by first | (rw [hy1023]; with_reducible exact H) | (have H2_:=(Option.bind_some _ _).symm.trans H; rw [hy1023]; with_reducible exact H2_) | (have H2_:=(Option.bind_some _ _).symm.trans H; with_reducible exact H2_) | with_reducible exact H | (rw [hy1023]; exact H) | exact H
 have Ny1023:=zy hy1023;clear hy1023;have H':=zy H;clear H
 go_enter Try.func106,Try.ntmps106
 go_wp2_with (first | ((with_reducible refine gate_dst (N:=1) rfl ?_); refine box_event ?hg (N:=1) ?hd (cs:=#[.int .i64 a0_0,.slice A0_1 l0_1.length c0_1]) (t:=34) ?hr ?_; (case hd => rfl); (case hg => rfl); (case hr => first | (go_simp; done) | (go_simp; rfl)); intro gb1022 hg w2 hbox hb; have n0_:=zy (below_step (by repeat (first | (with_reducible first | exact HB.out | apply below_alloc | apply pw_below_drewN | apply below_drew1) | exact HB.out)) hb); have n1_:=zy (hbox); have n2_:=zy ((by rw [hg]; exact (below_size (by repeat (first | (with_reducible first | exact HB.out | apply below_alloc | apply pw_below_drewN | apply below_drew1) | exact HB.out))) : w.heap.size ≤ gb1022)); have n3_:=zy ((by rw [hg]; exact (below_size (by repeat (first | (with_reducible first | exact HB.out | apply below_alloc | apply pw_below_drewN | apply below_drew1) | exact HB.out))) : w.heap.size ≤ gb1022)); clear HB; have HB:=n0_; have BK1022:=n1_; have GW1022:=n2_; have GE1022:=n3_; clear n0_ n1_ n2_ n3_; clear hb hbox hg) | ((with_reducible refine gate_dst (N:=10) rfl ?_); refine Kd.R_lit (Kd.int .i64) _ 3 ?hg (N:=10) ?hd (xs:=([] : List Int)) (inner:=[]) (ok:=fun _ => True) (okp:=fun _ => True) ?hr ?hp (fun _ hk => hk) trivial (Below.refl _ _) (Nat.le_refl _) (by simp) ?_; (case hd => rfl); (case hg => rfl); (case hr => first | (go_simp; done) | (go_simp; rfl)); (case hp => exact (Reps.none _ _)); intro v1024 w3 ho4 hb hg_ hnew_; clear hg_ hnew_; (first | rw [← Ny1023.out] at ho4 | (simp only [Int.reduceToNat] at ho4; rw [← Ny1023.out] at ho4)); have n0_:=zy (Kd.R_lower ho4 (below_size (by repeat (first | (with_reducible first | exact HB.out | apply below_alloc | apply pw_below_drewN | apply below_drew1 | refine below_set ?_ GE1022.out) | exact HB.out)))); have n1_:=zy (blk_below (g:=gb1022) (o:=.cells #[.int .i64 a0_0,.slice A0_1 l0_1.length c0_1] 34 (0,0)) (by (with_reducible repeat (first | refine blk_drewN ?_ _ | refine blk_drew ?_ | refine blk_alloc ?_ _)); exact BK1022.out) hb); have n2_:=zy (below_step (by repeat (first | (with_reducible first | exact HB.out | apply below_alloc | apply pw_below_drewN | apply below_drew1 | refine below_set ?_ GE1022.out) | exact HB.out)) hb); clear BK1022; clear HB; have HO1025:=n0_; have BK1022:=n1_; have HB:=n2_; clear n0_ n1_ n2_; clear hb ho4))
 go_loopg [3,4] k (fun kq v3 v4 w' => ∃ (x3_1 : List Int) (x4_1 : Int),v4 = .int .i64 x4_1 ∧ Aside0 (spec_l23Tree.l0 kq x3_1 x4_1 a0_0 l0_1 = some r) ∧ Aside0 (kq ≤ k) ∧ Aside0 (Kd.R (Kd.int .i64) 3 w' w.heap.size (fun _ => True) v3 x3_1) ∧ Aside0 (w'.heap[gb1022]? = some (.cells #[.int .i64 a0_0,(.slice A0_1 l0_1.length c0_1)] 34 (0,0))) ∧ Aside0 (Below w.heap.size w w'))
 case atStart => exact ⟨(y1023),(0),(by first | rfl | (simp; done) | (simp [*]; done)),H',⟨Nat.le_refl _⟩,⟨by (with_reducible repeat (first | apply Kd.R_alloc | apply Kd.R_drewN | apply Kd.R_drew)); exact HO1025.out⟩,⟨by (with_reducible repeat (first | refine blk_drewN ?_ _ | refine blk_drew ?_ | refine blk_alloc ?_ _)); exact BK1022.out⟩,⟨by repeat (first | (with_reducible first | exact HB.out | apply below_alloc | apply pw_below_drewN | apply below_drew1 | refine below_set ?_ GE1022.out) | exact HB.out)⟩⟩
 case round =>
  clear H'
  try clear c1
  try clear p2
  obtain ⟨x3_1,x4_1,rfl,HA,HK1,HO_3,BK1022,HB⟩:=hrel;cases gk with
  | zero => exact absurd HA.out (by simp [spec_l23Tree.l0])
  | succ k1 =>
   have H:=HA.out;clear HA;simp only [spec_l23Tree.l0] at H
   by_cases c5 : x4_1 < a0_0
   case pos =>
    rw [if_pos c5] at H;have c5b0 : decide (x4_1 < a0_0) = true:=decide_eq_true c5;clear c5
    by_cases c6 : x3_1.length < 17592186044416
    case neg =>
     rw [if_neg c6] at H;exact absurd H (by simp)
    rw [if_pos c6] at H;have LMc6:=zy c6;clear c6;obtain ⟨y1026,hy1026⟩ : ∃ y_ : List Int,y_ = (x3_1 ++ [x4_1]):=⟨_,rfl⟩
    replace H : (spec_l23Tree.l0 k1 y1026 (wrap64 (x4_1 + 1)) a0_0 l0_1) = some r:=by first | (rw [hy1026]; with_reducible exact H) | (have H2_:=(Option.bind_some _ _).symm.trans H; rw [hy1026]; with_reducible exact H2_) | (have H2_:=(Option.bind_some _ _).symm.trans H; with_reducible exact H2_) | with_reducible exact H | (rw [hy1026]; exact H) | exact H
    have Ny1026:=zy hy1026;clear hy1026;have H':=zy H;clear H;have hcz7_0 : wr.cell? ⟨gb1022,0,none⟩ = some (.int .i64 a0_0):=(blk_cell BK1022.out 0).trans rfl;have hcz7_1 : wr.cell? ⟨gb1022,1,none⟩ = some (.slice A0_1 l0_1.length c0_1):=(blk_cell BK1022.out 1).trans rfl;have hfz7_0:=blk_frozen BK1022.out 0;have hfz7_1:=blk_frozen BK1022.out 1
    go_wp2_with (first | ((with_reducible refine gate_builtin (b:=.append) (xs:=#[.tmp 17,.tmp 19]) rfl ?_); at_builtin; refine Kd.R_append (Kd.int .i64) (w0:=w) w.heap.size rfl (.tmp 17) (.tmp 19) 23 3 (.int .i64 0) 8 rfl Try.underlying23 info3 rfl (by decide) (by omega) u3 x3_1 x4_1 [.int .i64 x4_1] (fun _ => True) (fun _ => False) rfl rfl ?aP (fun _ hk => hk.elim) ?aF ?aO ?aB ?aS ?aL ?_; (case aP => exact rfl); (case aB => exact (by repeat (first | (with_reducible first | exact HB.out | apply below_alloc | apply pw_below_drewN | apply below_drew1 | refine below_set ?_ GE1022.out) | exact HB.out))); (case aF => exact (fun _ _ => trivial)); (case aO => exact (by (with_reducible repeat (first | apply Kd.R_alloc | apply Kd.R_drewN | apply Kd.R_drew)); exact HO_3.out)); (case aS => exact (below_size (by repeat (first | (with_reducible first | exact HB.out | apply below_alloc | apply pw_below_drewN | apply below_drew1 | refine below_set ?_ GE1022.out) | exact HB.out)))); (case aL => have:=LMc6.out; omega); intro v1027 w8 ho hb hg hat; rw [← Ny1026.out] at ho; have n0_:=zy (blk_grown (g:=gb1022) (o:=.cells #[.int .i64 a0_0,.slice A0_1 l0_1.length c0_1] 34 (0,0)) (by (with_reducible repeat (first | refine blk_drewN ?_ _ | refine blk_drew ?_ | refine blk_alloc ?_ _)); exact BK1022.out) hg (Kd.R_ne HO_3.out BK1022.out (by decide))); have n1_:=zy (hb); have n2_:=zy (ho); clear BK1022; clear HB; clear HO_3; have BK1022:=n0_; have HB:=n1_; have HO1028:=n2_; clear n0_ n1_ n2_; clear ho hb hg hat))
    go_roundg k1
    case measure => have:=HK1.out; omega
    case rel => exact ⟨(y1026),(wrap64 (x4_1 + 1)),(by first | rfl | (simp; done) | (simp [*]; done)),H',⟨by have:=HK1.out; omega⟩,⟨by (with_reducible repeat (first | apply Kd.R_alloc | apply Kd.R_drewN | apply Kd.R_drew)); exact HO1028.out⟩,⟨by (with_reducible repeat (first | refine blk_drewN ?_ _ | refine blk_drew ?_ | refine blk_alloc ?_ _)); exact BK1022.out⟩,⟨by repeat (first | (with_reducible first | exact HB.out | apply below_alloc | apply pw_below_drewN | apply below_drew1 | refine below_set ?_ GE1022.out) | exact HB.out)⟩⟩
   rw [if_neg c5] at H;have c5b0 : decide (x4_1 < a0_0) = false:=decide_eq_false c5;clear c5;obtain ⟨y1029,hy1029⟩ : ∃ y_ : List Int,y_ = (([] : List Int)):=⟨_,rfl⟩
   replace H : (spec_l23Tree.l1 k1 x3_1 y1029 0 a0_0 l0_1) = some r:=by first | (rw [hy1029]; with_reducible exact H) | (have H2_:=(Option.bind_some _ _).symm.trans H; rw [hy1029]; with_reducible exact H2_) | (have H2_:=(Option.bind_some _ _).symm.trans H; with_reducible exact H2_) | with_reducible exact H | (rw [hy1029]; exact H) | exact H
   have Ny1029:=zy hy1029;clear hy1029;have H':=zy H;clear H;have hcz9_0 : wr.cell? ⟨gb1022,0,none⟩ = some (.int .i64 a0_0):=(blk_cell BK1022.out 0).trans rfl;have hcz9_1 : wr.cell? ⟨gb1022,1,none⟩ = some (.slice A0_1 l0_1.length c0_1):=(blk_cell BK1022.out 1).trans rfl;have hfz9_0:=blk_frozen BK1022.out 0;have hfz9_1:=blk_frozen BK1022.out 1
   go_wp2_with (first | ((with_reducible refine gate_dst (N:=21) rfl ?_); refine Kd.R_lit (Kd.int .i64) _ 3 ?hg (N:=21) ?hd (xs:=([] : List Int)) (inner:=[]) (ok:=fun _ => True) (okp:=fun _ => True) ?hr ?hp (fun _ hk => hk) trivial (Below.refl _ _) (Nat.le_refl _) (by simp) ?_; (case hd => rfl); (case hg => rfl); (case hr => first | (go_simp; done) | (go_simp; rfl)); (case hp => exact (Reps.none _ _)); intro v1030 w10 ho11 hb hg_ hnew_; clear hg_ hnew_; (first | rw [← Ny1029.out] at ho11 | (simp only [Int.reduceToNat] at ho11; rw [← Ny1029.out] at ho11)); have n0_:=zy (Kd.R_elder' (by (with_reducible repeat (first | apply Kd.R_alloc | apply Kd.R_drewN | apply Kd.R_drew)); exact HO_3.out) (Kd.R_base ho11) hb); have n1_:=zy (Kd.R_lower (Kd.R_new' ho11 (Kd.R_lt (by (with_reducible repeat (first | apply Kd.R_alloc | apply Kd.R_drewN | apply Kd.R_drew)); exact HO_3.out))) (below_size (by repeat (first | (with_reducible first | exact HB.out | apply below_alloc | apply pw_below_drewN | apply below_drew1 | refine below_set ?_ GE1022.out) | exact HB.out)))); have n2_:=zy (blk_below (g:=gb1022) (o:=.cells #[.int .i64 a0_0,.slice A0_1 l0_1.length c0_1] 34 (0,0)) (by (with_reducible repeat (first | refine blk_drewN ?_ _ | refine blk_drew ?_ | refine blk_alloc ?_ _)); exact BK1022.out) hb); have n3_:=zy (below_step (by repeat (first | (with_reducible first | exact HB.out | apply below_alloc | apply pw_below_drewN | apply below_drew1 | refine below_set ?_ GE1022.out) | exact HB.out)) hb); clear HO_3; clear BK1022; clear HB; have HO_3:=n0_; have HO1031:=n1_; have BK1022:=n2_; have HB:=n3_; clear n0_ n1_ n2_ n3_; clear hb ho11))
   go_loopg [5,6] k1 (fun kq v5 v6 w' => ∃ (x3_2 : List Int) (x5_2 : List Int) (x6_2 : Int),v6 = .int .i64 x6_2 ∧ Aside0 (spec_l23Tree.l1 kq x3_2 x5_2 x6_2 a0_0 l0_1 = some r) ∧ Aside0 (kq ≤ k1) ∧ Aside0 (Kd.R (Kd.int .i64) 3 w' w.heap.size (fun k_ => some k_ ≠ (v5 : Value).ownBlock) u3 x3_2) ∧ Aside0 (Kd.R (Kd.int .i64) 3 w' w.heap.size (fun k_ => some k_ ≠ (u3 : Value).ownBlock) v5 x5_2) ∧ Aside0 (w'.heap[gb1022]? = some (.cells #[.int .i64 a0_0,(.slice A0_1 l0_1.length c0_1)] 34 (0,0))) ∧ Aside0 (Below w.heap.size w w'))
   case atStart => exact ⟨(x3_1),(y1029),(0),(by first | rfl | (simp; done) | (simp [*]; done)),H',⟨Nat.le_refl _⟩,⟨by (with_reducible repeat (first | apply Kd.R_alloc | apply Kd.R_drewN | apply Kd.R_drew)); exact Kd.R_mono HO_3.out (fun _ hk => hk.2)⟩,⟨by (with_reducible repeat (first | apply Kd.R_alloc | apply Kd.R_drewN | apply Kd.R_drew)); exact Kd.R_mono HO1031.out (fun _ hk => hk.2)⟩,⟨by (with_reducible repeat (first | refine blk_drewN ?_ _ | refine blk_drew ?_ | refine blk_alloc ?_ _)); exact BK1022.out⟩,⟨by repeat (first | (with_reducible first | exact HB.out | apply below_alloc | apply pw_below_drewN | apply below_drew1 | refine below_set ?_ GE1022.out) | exact HB.out)⟩⟩
   case round =>
    clear H'
    try clear c1
    try clear p2
    try clear c5
    try clear c5b0
    try clear c6
    try clear p6
    try clear c10
    try clear hcz7_0
    try clear hcz7_1
    try clear hcz9_0
    try clear hcz9_1
    try clear hfz7_0
    try clear hfz7_1
    try clear hfz9_0
    try clear hfz9_1
    try clear p2
    obtain ⟨x3_2,x5_2,x6_2,rfl,HA,HK2,HO_3,HO_5,BK1022,HB⟩:=hrel;cases gk with
    | zero => exact absurd HA.out (by simp [spec_l23Tree.l1])
    | succ k2 =>
     have H:=HA.out;clear HA;simp only [spec_l23Tree.l1] at H
     by_cases c12 : x6_2 ≤ 99
     case neg =>
      rw [if_neg c12] at H;have c12b0 : decide (x6_2 ≤ 99) = false:=decide_eq_false c12;clear c12;obtain rfl:=Option.some.inj H
      go_wp2
      go_ret;exact ⟨_,by first | rfl | (simp [errW_none,errW_some] <;> rfl) | (simp [*,errW_none,errW_some] <;> rfl),by (with_reducible repeat (first | apply Kd.R_alloc | apply Kd.R_drewN | apply Kd.R_drew)); exact Kd.R_mono HO_5.out (fun _ hk => trivial),by repeat (first | (with_reducible first | exact HB.out | apply below_alloc | apply pw_below_drewN | apply below_drew1 | refine below_set ?_ GE1022.out) | exact HB.out)⟩
     rw [if_pos c12] at H;have c12b0 : decide (x6_2 ≤ 99) = true:=decide_eq_true c12;clear c12;have H':=zy H;clear H
     go_wp2
     go_loopg [5,7] k2 (fun kq v5 v7 w' => ∃ (x3_3 : List Int) (x5_3 : List Int) (x7_3 : Int),v7 = .int .i64 x7_3 ∧ Aside0 (spec_l23Tree.l2 kq x3_3 x5_3 x6_2 x7_3 a0_0 l0_1 = some r) ∧ Aside0 (kq ≤ k2) ∧ Aside0 (Kd.R (Kd.int .i64) 3 w' w.heap.size (fun k_ => some k_ ≠ (v5 : Value).ownBlock) u3 x3_3) ∧ Aside0 (Kd.R (Kd.int .i64) 3 w' w.heap.size (fun k_ => some k_ ≠ (u3 : Value).ownBlock) v5 x5_3) ∧ Aside0 (w'.heap[gb1022]? = some (.cells #[.int .i64 a0_0,(.slice A0_1 l0_1.length c0_1)] 34 (0,0))) ∧ Aside0 (Below w.heap.size w w'))
     case atStart => exact ⟨(x3_2),(x5_2),(0),(by first | rfl | (simp; done) | (simp [*]; done)),H',⟨Nat.le_refl _⟩,⟨by (with_reducible repeat (first | apply Kd.R_alloc | apply Kd.R_drewN | apply Kd.R_drew)); exact HO_3.out⟩,⟨by (with_reducible repeat (first | apply Kd.R_alloc | apply Kd.R_drewN | apply Kd.R_drew)); exact HO_5.out⟩,⟨by (with_reducible repeat (first | refine blk_drewN ?_ _ | refine blk_drew ?_ | refine blk_alloc ?_ _)); exact BK1022.out⟩,⟨by repeat (first | (with_reducible first | exact HB.out | apply below_alloc | apply pw_below_drewN | apply below_drew1 | refine below_set ?_ GE1022.out) | exact HB.out)⟩⟩
     case round =>
      clear H'
      try clear c1
      try clear p2
      try clear c5
      try clear c5b0
      try clear c6
      try clear p6
      try clear c10
      try clear c12
      try clear c12b0
      try clear hcz7_0
      try clear hcz7_1
      try clear hcz9_0
      try clear hcz9_1
      try clear hfz7_0
      try clear hfz7_1
      try clear hfz9_0
      try clear hfz9_1
      try clear p2
      try clear p6
      obtain ⟨x3_3,x5_3,x7_3,rfl,HA,HK3,HO_3,HO_5,BK1022,HB⟩:=hrel;cases gk with
      | zero => exact absurd HA.out (by simp [spec_l23Tree.l2])
      | succ k3 =>
       have H:=HA.out;clear HA;simp only [spec_l23Tree.l2] at H
       by_cases c13 : x7_3 < (l0_1.length : Int)
       case neg =>
        rw [if_neg c13] at H;have c13b0 : decide (x7_3 < (l0_1.length : Int)) = false:=decide_eq_false c13;clear c13;have H':=zy H;clear H;have hcz39_0 : wr.cell? ⟨gb1022,0,none⟩ = some (.int .i64 a0_0):=(blk_cell BK1022.out 0).trans rfl;have hcz39_1 : wr.cell? ⟨gb1022,1,none⟩ = some (.slice A0_1 l0_1.length c0_1):=(blk_cell BK1022.out 1).trans rfl;have hfz39_0:=blk_frozen BK1022.out 0;have hfz39_1:=blk_frozen BK1022.out 1
        go_wp2
        go_roundg k3
        case measure => have:=HK1.out; have:=HK2.out; have:=HK3.out; omega
        case rel => exact ⟨(x3_3),(x5_3),(wrap64 (x6_2 + 1)),(by first | rfl | (simp; done) | (simp [*]; done)),H',⟨by have:=HK1.out; have:=HK2.out; have:=HK3.out; omega⟩,⟨by (with_reducible repeat (first | apply Kd.R_alloc | apply Kd.R_drewN | apply Kd.R_drew)); exact HO_3.out⟩,⟨by (with_reducible repeat (first | apply Kd.R_alloc | apply Kd.R_drewN | apply Kd.R_drew)); exact HO_5.out⟩,⟨by (with_reducible repeat (first | refine blk_drewN ?_ _ | refine blk_drew ?_ | refine blk_alloc ?_ _)); exact BK1022.out⟩,⟨by repeat (first | (with_reducible first | exact HB.out | apply below_alloc | apply pw_below_drewN | apply below_drew1 | refine below_set ?_ GE1022.out) | exact HB.out)⟩⟩
       rw [if_pos c13] at H;have c13b0 : decide (x7_3 < (l0_1.length : Int)) = true:=decide_eq_true c13;clear c13
       by_cases c14 : 0 ≤ x7_3
       case neg =>
        rw [if_neg c14] at H;exact absurd H (by simp)
       rw [if_pos c14] at H;have c14b0 : decide (0 ≤ x7_3) = true:=decide_eq_true c14;clear c14;replace H:=Option.bind_eq_some_iff.mp H;obtain ⟨t1033,A150,H⟩:=H;replace H : ((spec_l23Root.f k3 x3_3 ((rd_T58 l0_1 x7_3).f1)).bind fun t1035 => (if ((rd_T58 l0_1 x7_3).f2) = x6_2 then (spec_l23Tree.j3 k3 x3_3 x5_3 x6_2 x7_3 t1033 t1035 (t1033 == t1035) a0_0 l0_1) else (spec_l23Tree.j3 k3 x3_3 x5_3 x6_2 x7_3 t1033 t1035 true a0_0 l0_1))) = some r:=H;have A15:=zy A150;clear A150;replace H:=Option.bind_eq_some_iff.mp H;obtain ⟨t1035,A160,H⟩:=H;replace H : (if ((rd_T58 l0_1 x7_3).f2) = x6_2 then (spec_l23Tree.j3 k3 x3_3 x5_3 x6_2 x7_3 t1033 t1035 (t1033 == t1035) a0_0 l0_1) else (spec_l23Tree.j3 k3 x3_3 x5_3 x6_2 x7_3 t1033 t1035 true a0_0 l0_1)) = some r:=H;have A16:=zy A160;clear A160;have HC17:=zy H;clear H;have hcz18_0 : wr.cell? ⟨gb1022,0,none⟩ = some (.int .i64 a0_0):=(blk_cell BK1022.out 0).trans rfl;have hcz18_1 : wr.cell? ⟨gb1022,1,none⟩ = some (.slice A0_1 l0_1.length c0_1):=(blk_cell BK1022.out 1).trans rfl;have hfz18_0:=blk_frozen BK1022.out 0;have hfz18_1:=blk_frozen BK1022.out 1;have p1032 : 0 ≤ (x7_3 : Int):=of_decide_eq_true (by first | (with_reducible assumption) | assumption);have q1032 : x7_3 < (l0_1.length : Int):=of_decide_eq_true (by first | (with_reducible assumption) | assumption);obtain ⟨ad1032,e1032,hx1032_0,hx1032_1,hx1032_2,hx1032_3,hx1032_4⟩:=at_T58 HR0_1.out x7_3 p1032 q1032;cases e1032;replace hx1032_0:=(HB.out.cell (World.block_lt_of_cell? w _ hx1032_0)).trans hx1032_0;replace hx1032_1:=(HB.out.cell (World.block_lt_of_cell? w _ hx1032_1)).trans hx1032_1;replace hx1032_2:=(HB.out.cell (World.block_lt_of_cell? w _ hx1032_2)).trans hx1032_2;replace hx1032_3:=(HB.out.cell (World.block_lt_of_cell? w _ hx1032_3)).trans hx1032_3;replace hx1032_4:=(HB.out.cell (World.block_lt_of_cell? w _ hx1032_4)).trans hx1032_4;replace p1032:=eq_true p1032;replace q1032:=eq_true q1032;obtain ⟨Ao19,co19,eo19⟩:=Kd.R_slice HO_3.out;subst eo19
       go_upto_region 15 with (first | ((with_reducible refine gate_callee (f:=136) rfl ?_); refine goesL_ (some 40) rfl rfl Try.func136 (by kernel_rfl) rfl #[.slice Ao19 x3_3.length co19,.int .i64 ((rd_T58 l0_1 x7_3).f0)] rfl (by (try simp only [List.map_toArray,List.map_cons,List.map_nil]); first | done | rfl | (simp only [List.length_drop,List.length_take]; rfl)) ?_; (with_reducible refine (spec_l23Root.calls k3 _ _ x3_3 ((rd_T58 l0_1 x7_3).f0) t1033 _ ?side1 ?side2 A15.out).mono ?_); (case side1 => repeat (first | exact (Kd.R_reads' HO_3.out).2.2 | (with_reducible refine Kd.C_alloc ?_ _) | (with_reducible refine Kd.C_drewN ?_ _) | (with_reducible refine Kd.C_drew ?_))); (case side2 => exact (Kd.R_reads' HO_3.out).2.1); rintro e w' ⟨rfl,⟨nd,rfl⟩⟩; refine ⟨_,rfl,?_⟩; have p1034 : 0 ≤ (x7_3 : Int):=of_decide_eq_true (by first | (with_reducible assumption) | assumption); have q1034 : x7_3 < (l0_1.length : Int):=of_decide_eq_true (by first | (with_reducible assumption) | assumption); obtain ⟨ad1034,e1034,hx1034_0,hx1034_1,hx1034_2,hx1034_3,hx1034_4⟩:=at_T58 HR0_1.out x7_3 p1034 q1034; obtain rfl : ad1032 = ad1034:=(by injection e1034); replace hx1034_0:=(HB.out.cell (World.block_lt_of_cell? w _ hx1034_0)).trans hx1034_0; replace hx1034_1:=(HB.out.cell (World.block_lt_of_cell? w _ hx1034_1)).trans hx1034_1; replace hx1034_2:=(HB.out.cell (World.block_lt_of_cell? w _ hx1034_2)).trans hx1034_2; replace hx1034_3:=(HB.out.cell (World.block_lt_of_cell? w _ hx1034_3)).trans hx1034_3; replace hx1034_4:=(HB.out.cell (World.block_lt_of_cell? w _ hx1034_4)).trans hx1034_4; replace p1034:=eq_true p1034; replace q1034:=eq_true q1034) | ((with_reducible refine gate_callee (f:=136) rfl ?_); refine goesL_ (some 48) rfl rfl Try.func136 (by kernel_rfl) rfl #[.slice Ao19 x3_3.length co19,.int .i64 ((rd_T58 l0_1 x7_3).f1)] rfl (by (try simp only [List.map_toArray,List.map_cons,List.map_nil]); first | done | rfl | (simp only [List.length_drop,List.length_take]; rfl)) ?_; (with_reducible refine (spec_l23Root.calls k3 _ _ x3_3 ((rd_T58 l0_1 x7_3).f1) t1035 _ ?side1 ?side2 A16.out).mono ?_); (case side1 => repeat (first | exact (Kd.R_reads' HO_3.out).2.2 | (with_reducible refine Kd.C_alloc ?_ _) | (with_reducible refine Kd.C_drewN ?_ _) | (with_reducible refine Kd.C_drew ?_))); (case side2 => exact (Kd.R_reads' HO_3.out).2.1); rintro e w' ⟨rfl,⟨nd,rfl⟩⟩; refine ⟨_,rfl,?_⟩))
       (try simp only [Act.put,V,Z,zx])
       go_cut [61] (fun v61 wc => ∃ (kq : Nat) (x61_16 : Bool),v61 = .bool x61_16 ∧ Aside0 (spec_l23Tree.j3 kq x3_3 x5_3 x6_2 x7_3 t1033 t1035 x61_16 a0_0 l0_1 = some r) ∧ Aside0 (kq ≤ k3) ∧ Aside0 (Kd.R (Kd.int .i64) 3 wc w.heap.size (fun k_ => some k_ ≠ (u5 : Value).ownBlock) (.slice Ao19 x3_3.length co19) x3_3) ∧ Aside0 (Kd.R (Kd.int .i64) 3 wc w.heap.size (fun k_ => some k_ ≠ ((.slice Ao19 x3_3.length co19) : Value).ownBlock) u5 x5_3) ∧ Aside0 (wc.heap[gb1022]? = some (.cells #[.int .i64 a0_0,(.slice (some ad1032) l0_1.length c0_1)] 34 (0,0))) ∧ Aside0 (Below w.heap.size w wc))
       case first =>
        have H:=HC17.out;clear HC17
        by_cases c20 : ((rd_T58 l0_1 x7_3).f2) = x6_2
        case neg =>
         rw [if_neg c20] at H;have c20b0 : (((rd_T58 l0_1 x7_3).f2) == x6_2) = false:=beq_eq_false_iff_ne.mpr c20;have c20b1 : (((rd_T58 l0_1 x7_3).f2) != x6_2) = true:=bne_iff_ne.mpr c20
         (first | rw [c20b0] | (simp only [i64_w,i32_w]; rw [c20b0]) | skip)
         have H':=zy H;clear H;have hcz22_0 : wr.cell? ⟨gb1022,0,none⟩ = some (.int .i64 a0_0):=(blk_cell BK1022.out 0).trans rfl;have hcz22_1 : wr.cell? ⟨gb1022,1,none⟩ = some (.slice (some ad1032) l0_1.length c0_1):=(blk_cell BK1022.out 1).trans rfl;have hfz22_0:=blk_frozen BK1022.out 0;have hfz22_1:=blk_frozen BK1022.out 1;have p1036 : 0 ≤ (x7_3 : Int):=of_decide_eq_true (by first | (with_reducible assumption) | assumption);have q1036 : x7_3 < (l0_1.length : Int):=of_decide_eq_true (by first | (with_reducible assumption) | assumption);obtain ⟨ad1036,e1036,hx1036_0,hx1036_1,hx1036_2,hx1036_3,hx1036_4⟩:=at_T58 HR0_1.out x7_3 p1036 q1036;obtain rfl : ad1032 = ad1036:=(by injection e1036)
         replace hx1036_0:=(HB.out.cell (World.block_lt_of_cell? w _ hx1036_0)).trans hx1036_0;replace hx1036_1:=(HB.out.cell (World.block_lt_of_cell? w _ hx1036_1)).trans hx1036_1;replace hx1036_2:=(HB.out.cell (World.block_lt_of_cell? w _ hx1036_2)).trans hx1036_2;replace hx1036_3:=(HB.out.cell (World.block_lt_of_cell? w _ hx1036_3)).trans hx1036_3;replace hx1036_4:=(HB.out.cell (World.block_lt_of_cell? w _ hx1036_4)).trans hx1036_4;replace p1036:=eq_true p1036;replace q1036:=eq_true q1036
         go_wp2
         go_meet
         case rel => exact ⟨_,(true),(by first | rfl | (simp; done) | (simp [*]; done)),H',⟨by have:=HK1.out; have:=HK2.out; have:=HK3.out; first | omega | exact Nat.le_refl _⟩,⟨by (with_reducible repeat (first | apply Kd.R_alloc | apply Kd.R_drewN | apply Kd.R_drew)); exact HO_3.out⟩,⟨by (with_reducible repeat (first | apply Kd.R_alloc | apply Kd.R_drewN | apply Kd.R_drew)); exact HO_5.out⟩,⟨by (with_reducible repeat (first | refine blk_drewN ?_ _ | refine blk_drew ?_ | refine blk_alloc ?_ _)); exact BK1022.out⟩,⟨by repeat (first | (with_reducible first | exact HB.out | apply below_alloc | apply pw_below_drewN | apply below_drew1 | refine below_set ?_ GE1022.out) | exact HB.out)⟩⟩
        rw [if_pos c20] at H;have c20b0 : (((rd_T58 l0_1 x7_3).f2) == x6_2) = true:=beq_iff_eq.mpr c20;have c20b1 : (((rd_T58 l0_1 x7_3).f2) != x6_2) = false:=bne_eq_false_iff_eq.mpr c20;clear c20
        (first | rw [c20b0] | (simp only [i64_w,i32_w]; rw [c20b0]) | skip)
        have H':=zy H;clear H;have hcz21_0 : wr.cell? ⟨gb1022,0,none⟩ = some (.int .i64 a0_0):=(blk_cell BK1022.out 0).trans rfl;have hcz21_1 : wr.cell? ⟨gb1022,1,none⟩ = some (.slice (some ad1032) l0_1.length c0_1):=(blk_cell BK1022.out 1).trans rfl;have hfz21_0:=blk_frozen BK1022.out 0;have hfz21_1:=blk_frozen BK1022.out 1;have p1036 : 0 ≤ (x7_3 : Int):=of_decide_eq_true (by first | (with_reducible assumption) | assumption);have q1036 : x7_3 < (l0_1.length : Int):=of_decide_eq_true (by first | (with_reducible assumption) | assumption);obtain ⟨ad1036,e1036,hx1036_0,hx1036_1,hx1036_2,hx1036_3,hx1036_4⟩:=at_T58 HR0_1.out x7_3 p1036 q1036;obtain rfl : ad1032 = ad1036:=(by injection e1036)
        replace hx1036_0:=(HB.out.cell (World.block_lt_of_cell? w _ hx1036_0)).trans hx1036_0;replace hx1036_1:=(HB.out.cell (World.block_lt_of_cell? w _ hx1036_1)).trans hx1036_1;replace hx1036_2:=(HB.out.cell (World.block_lt_of_cell? w _ hx1036_2)).trans hx1036_2;replace hx1036_3:=(HB.out.cell (World.block_lt_of_cell? w _ hx1036_3)).trans hx1036_3;replace hx1036_4:=(HB.out.cell (World.block_lt_of_cell? w _ hx1036_4)).trans hx1036_4;replace p1036:=eq_true p1036;replace q1036:=eq_true q1036
        go_wp2
        go_meet
        case rel => exact ⟨_,((t1033 == t1035)),(by first | rfl | (simp; done) | (simp [*]; done)),H',⟨by have:=HK1.out; have:=HK2.out; have:=HK3.out; first | omega | exact Nat.le_refl _⟩,⟨by (with_reducible repeat (first | apply Kd.R_alloc | apply Kd.R_drewN | apply Kd.R_drew)); exact HO_3.out⟩,⟨by (with_reducible repeat (first | apply Kd.R_alloc | apply Kd.R_drewN | apply Kd.R_drew)); exact HO_5.out⟩,⟨by (with_reducible repeat (first | refine blk_drewN ?_ _ | refine blk_drew ?_ | refine blk_alloc ?_ _)); exact BK1022.out⟩,⟨by repeat (first | (with_reducible first | exact HB.out | apply below_alloc | apply pw_below_drewN | apply below_drew1 | refine below_set ?_ GE1022.out) | exact HB.out)⟩⟩
       case rest =>
        clear HC17
        try clear c1
        try clear p1
        try clear q1
        try clear hx1
        try clear c2
        try clear p2
        try clear c5
        try clear c5b0
        try clear c6
        try clear p6
        try clear c10
        try clear p10
        try clear q10
        try clear hx10
        try clear c12
        try clear c12b0
        try clear c13
        try clear c13b0
        try clear c14
        try clear c14b0
        try clear c20
        try clear c20b0
        try clear c20b1
        try clear hcz18_0
        try clear hcz18_1
        try clear hcz21_0
        try clear hcz21_1
        try clear hcz22_0
        try clear hcz22_1
        try clear hcz7_0
        try clear hcz7_1
        try clear hcz9_0
        try clear hcz9_1
        try clear hfz18_0
        try clear hfz18_1
        try clear hfz21_0
        try clear hfz21_1
        try clear hfz22_0
        try clear hfz22_1
        try clear hfz7_0
        try clear hfz7_1
        try clear hfz9_0
        try clear hfz9_1
        try clear hx1032_0
        try clear hx1032_1
        try clear hx1032_2
        try clear hx1032_3
        try clear hx1032_4
        try clear hx1034_0
        try clear hx1034_1
        try clear hx1034_2
        try clear hx1034_3
        try clear hx1034_4
        try clear hx1036_0
        try clear hx1036_1
        try clear hx1036_2
        try clear hx1036_3
        try clear hx1036_4
        try clear p1032
        try clear p1034
        try clear p1036
        try clear p2
        try clear p6
        try clear q1032
        try clear q1034
        try clear q1036
        obtain ⟨kq,x61_16,rfl,HA,HJ16,HO_3,HO_5,BK1022,HB⟩:=hcut;cases kq with
        | zero => exact absurd HA.out (by simp [spec_l23Tree.j3])
        | succ kj16 =>
         have H:=HA.out;clear HA;simp only [spec_l23Tree.j3] at H
         by_cases c23 : x61_16 = true
         case pos =>
          subst c23;have H1 : (spec_l23Tree.l2 kj16 x3_3 x5_3 x6_2 (wrap64 (x7_3 + 1)) a0_0 l0_1) = some r:=by rw [if_pos rfl] at H; exact H
          clear H;have H:=H1;clear H1;have H':=zy H;clear H
          go_wp2
          go_roundg kj16
          case measure => have:=HK1.out; have:=HK2.out; have:=HK3.out; have:=HJ16.out; omega
          case rel => exact ⟨(x3_3),(x5_3),(wrap64 (x7_3 + 1)),(by first | rfl | (simp; done) | (simp [*]; done)),H',⟨by have:=HK1.out; have:=HK2.out; have:=HK3.out; have:=HJ16.out; omega⟩,⟨by (with_reducible repeat (first | apply Kd.R_alloc | apply Kd.R_drewN | apply Kd.R_drew)); exact HO_3.out⟩,⟨by (with_reducible repeat (first | apply Kd.R_alloc | apply Kd.R_drewN | apply Kd.R_drew)); exact HO_5.out⟩,⟨by (with_reducible repeat (first | refine blk_drewN ?_ _ | refine blk_drew ?_ | refine blk_alloc ?_ _)); exact BK1022.out⟩,⟨by repeat (first | (with_reducible first | exact HB.out | apply below_alloc | apply pw_below_drewN | apply below_drew1 | refine below_set ?_ GE1022.out) | exact HB.out)⟩⟩
         replace c23:=Bool.eq_false_iff.mpr c23;subst c23;have H1 : (if t1033 < t1035 then (if 0 ≤ t1035 then (if t1035 < (x3_3.length : Int) then (if x5_3.length < 17592186044416 then (spec_l23Tree.l2 kj16 (x3_3.set (t1035 : Int).toNat t1033) (x5_3 ++ [x7_3]) x6_2 (wrap64 (x7_3 + 1)) a0_0 l0_1) else (none)) else (none)) else (none)) else (if 0 ≤ t1033 then (if t1033 < (x3_3.length : Int) then (if x5_3.length < 17592186044416 then (spec_l23Tree.l2 kj16 (x3_3.set (t1033 : Int).toNat t1035) (x5_3 ++ [x7_3]) x6_2 (wrap64 (x7_3 + 1)) a0_0 l0_1) else (none)) else (none)) else (none))) = some r:=by rw [if_neg (show ¬ (false = true) by decide)] at H; exact H
         clear H;have H:=H1;clear H1
         by_cases c24 : t1033 < t1035
         case pos =>
          rw [if_pos c24] at H;have c24b0 : decide (t1033 < t1035) = true:=decide_eq_true c24;clear c24
          by_cases c25 : 0 ≤ t1035
          case neg =>
           rw [if_neg c25] at H;exact absurd H (by simp)
          rw [if_pos c25] at H;have c25b0 : decide (0 ≤ t1035) = true:=decide_eq_true c25;clear c25
          by_cases c26 : t1035 < (x3_3.length : Int)
          case neg =>
           rw [if_neg c26] at H;exact absurd H (by simp)
          rw [if_pos c26] at H;have c26b0 : decide (t1035 < (x3_3.length : Int)) = true:=decide_eq_true c26;clear c26;obtain ⟨y1037,hy1037⟩ : ∃ y_ : List Int,y_ = (x3_3.set (t1035 : Int).toNat t1033):=⟨_,rfl⟩
          replace H : (if x5_3.length < 17592186044416 then (spec_l23Tree.l2 kj16 y1037 (x5_3 ++ [x7_3]) x6_2 (wrap64 (x7_3 + 1)) a0_0 l0_1) else (none)) = some r:=by first | (rw [hy1037]; with_reducible exact H) | (have H2_:=(Option.bind_some _ _).symm.trans H; rw [hy1037]; with_reducible exact H2_) | (have H2_:=(Option.bind_some _ _).symm.trans H; with_reducible exact H2_) | with_reducible exact H | (rw [hy1037]; exact H) | exact H
          have Ny1037:=zy hy1037;clear hy1037
          by_cases c28 : x5_3.length < 17592186044416
          case neg =>
           rw [if_neg c28] at H;exact absurd H (by simp)
          rw [if_pos c28] at H;have LMc28:=zy c28;clear c28;obtain ⟨y1038,hy1038⟩ : ∃ y_ : List Int,y_ = (x5_3 ++ [x7_3]):=⟨_,rfl⟩
          replace H : (spec_l23Tree.l2 kj16 y1037 y1038 x6_2 (wrap64 (x7_3 + 1)) a0_0 l0_1) = some r:=by first | (rw [hy1038]; with_reducible exact H) | (have H2_:=(Option.bind_some _ _).symm.trans H; rw [hy1038]; with_reducible exact H2_) | (have H2_:=(Option.bind_some _ _).symm.trans H; with_reducible exact H2_) | with_reducible exact H | (rw [hy1038]; exact H) | exact H
          have Ny1038:=zy hy1038;clear hy1038;have H':=zy H;clear H;have p27 : 0 ≤ (t1035 : Int):=of_decide_eq_true (by first | (with_reducible assumption) | assumption);have q27 : (t1035 : Int) < ((x3_3.length : Int) : Int):=of_decide_eq_true (by first | (with_reducible assumption) | assumption);obtain ⟨go27,co27,eo27,gb27,gl27,cl27,HG27⟩:=Kd.R_form HO_3.out (by omega)
          (first | cases eo27 | (injection eo27 with ea_ en_ ec_; (first | subst ea_ | (injection ea_ with ea_; subst ea_)); subst ec_; clear en_))
          have GB27:=zy gb27;have GG27:=zy HG27;clear gb27 gl27 HG27;obtain ⟨hx27_0,hf27_0⟩:=Kd.R_celln 0 HO_3.out (t1035 : Int) p27 q27;replace p27:=eq_true p27;replace q27:=eq_true q27;have HP29:=Kd.R_putg HO_3.out (t1035 : Int) t1033
          go_wp2_with (first | ((with_reducible refine gate_store (t:=3) (p:=68) rfl ?_); refine store_event (t:=3) (p:=68) (v:=?vo_w30) (w1:=(wc.setCell ⟨go27,(t1035 : Int).toNat,none⟩ (.int .i64 t1033))) ?hg ?ho ?hn ?hr ?_; (case ho => rfl); (case hg => rfl); (case hn => rfl); (case hr => first | (go_simp; done) | (go_simp; rfl)); intro w30 hw; have hg : wc.grownBy w30 (some go27):=(by rw [hw]; exact HP29.2); have hp_ : Kd.R (Kd.int .i64) 3 w30 w.heap.size (fun k_ => some k_ ≠ (u5 : Value).ownBlock) (.slice (some ⟨go27,0,none⟩) x3_3.length co19) y1037:=(by rw [hw,Ny1037.out]; exact HP29.1); clear HP29; have n0_:=zy (hp_); have n1_:=zy (Kd.R_after (v:=(.slice (some ⟨go27,0,none⟩) x3_3.length co19)) (v1:=(.slice (some ⟨go27,0,none⟩) x3_3.length co19)) (ok:=(fun _ => True)) (by (with_reducible repeat (first | apply Kd.R_alloc | apply Kd.R_drewN | apply Kd.R_drew)); exact Kd.R_mono HO_5.out (fun _ hk => ⟨trivial,hk⟩)) hg (.inl rfl)); have n2_:=zy (blk_grown (g:=gb1022) (o:=.cells #[.int .i64 a0_0,.slice (some ad1032) l0_1.length c0_1] 34 (0,0)) (by (with_reducible repeat (first | refine blk_drewN ?_ _ | refine blk_drew ?_ | refine blk_alloc ?_ _)); exact BK1022.out) hg (Kd.R_ne HO_3.out BK1022.out (by decide))); have n3_:=zy ((by rw [hw]; exact below_set (HB.out) GB27.out : Below w.heap.size w w30)); clear HO_3; clear HO_5; clear BK1022; clear HB; have HO_3:=n0_; have HO_5:=n1_; have BK1022:=n2_; have HB:=n3_; clear n0_ n1_ n2_ n3_; clear hg hw hp_) | ((with_reducible refine gate_builtin (b:=.append) (xs:=#[.tmp 73,.tmp 75]) rfl ?_); at_builtin; refine Kd.R_append (Kd.int .i64) (w0:=w) w.heap.size rfl (.tmp 73) (.tmp 75) 23 3 (.int .i64 0) 8 rfl Try.underlying23 info3 rfl (by decide) (by omega) u5 x5_3 x7_3 [.int .i64 x7_3] (fun k_ => some k_ ≠ (.slice (some ⟨go27,0,none⟩) x3_3.length co19 : Value).ownBlock) (fun _ => False) rfl rfl ?aP (fun _ hk => hk.elim) ?aF ?aO ?aB ?aS ?aL ?_; (case aP => exact rfl); (case aB => exact (by repeat (first | (with_reducible first | exact HB.out | apply below_alloc | apply pw_below_drewN | apply below_drew1 | refine below_set ?_ GE1022.out) | exact HB.out))); (case aF => exact (fun k_ hk => Kd.fresh' (Kd.R_lt (by (with_reducible repeat (first | apply Kd.R_alloc | apply Kd.R_drewN | apply Kd.R_drew)); exact HO_3.out)) k_ hk)); (case aO => exact (by (with_reducible repeat (first | apply Kd.R_alloc | apply Kd.R_drewN | apply Kd.R_drew)); exact Kd.R_mono HO_5.out (fun _ hk => hk.2))); (case aS => exact (below_size (by repeat (first | (with_reducible first | exact HB.out | apply below_alloc | apply pw_below_drewN | apply below_drew1 | refine below_set ?_ GE1022.out) | exact HB.out)))); (case aL => have:=LMc28.out; omega); intro v1039 w31 ho hb hg hat; rw [← Ny1038.out] at ho; have n0_:=zy (Kd.R_after (ok:=(fun _ => True)) (by (with_reducible repeat (first | apply Kd.R_alloc | apply Kd.R_drewN | apply Kd.R_drew)); exact Kd.R_mono HO_3.out (fun _ hk => ⟨trivial,hk⟩)) hg hat); have n1_:=zy (blk_grown (g:=gb1022) (o:=.cells #[.int .i64 a0_0,.slice (some ad1032) l0_1.length c0_1] 34 (0,0)) (by (with_reducible repeat (first | refine blk_drewN ?_ _ | refine blk_drew ?_ | refine blk_alloc ?_ _)); exact BK1022.out) hg (Kd.R_ne HO_5.out BK1022.out (by decide))); have n2_:=zy (hb); have n3_:=zy (ho); clear HO_3; clear BK1022; clear HB; clear HO_5; have HO_3:=n0_; have BK1022:=n1_; have HB:=n2_; have HO1040:=n3_; clear n0_ n1_ n2_ n3_; clear ho hb hg hat))
          go_roundg kj16
          case measure => have:=HK1.out; have:=HK2.out; have:=HK3.out; have:=HJ16.out; omega
          case rel => exact ⟨(y1037),(y1038),(wrap64 (x7_3 + 1)),(by first | rfl | (simp; done) | (simp [*]; done)),H',⟨by have:=HK1.out; have:=HK2.out; have:=HK3.out; have:=HJ16.out; omega⟩,⟨by (with_reducible repeat (first | apply Kd.R_alloc | apply Kd.R_drewN | apply Kd.R_drew)); exact Kd.R_mono HO_3.out (fun _ hk => hk.2)⟩,⟨by (with_reducible repeat (first | apply Kd.R_alloc | apply Kd.R_drewN | apply Kd.R_drew)); exact HO1040.out⟩,⟨by (with_reducible repeat (first | refine blk_drewN ?_ _ | refine blk_drew ?_ | refine blk_alloc ?_ _)); exact BK1022.out⟩,⟨by repeat (first | (with_reducible first | exact HB.out | apply below_alloc | apply pw_below_drewN | apply below_drew1 | refine below_set ?_ GE1022.out) | exact HB.out)⟩⟩
         rw [if_neg c24] at H;have c24b0 : decide (t1033 < t1035) = false:=decide_eq_false c24;clear c24
         by_cases c32 : 0 ≤ t1033
         case neg =>
          rw [if_neg c32] at H;exact absurd H (by simp)
         rw [if_pos c32] at H;have c32b0 : decide (0 ≤ t1033) = true:=decide_eq_true c32;clear c32
         by_cases c33 : t1033 < (x3_3.length : Int)
         case neg =>
          rw [if_neg c33] at H;exact absurd H (by simp)
         rw [if_pos c33] at H;have c33b0 : decide (t1033 < (x3_3.length : Int)) = true:=decide_eq_true c33;clear c33;obtain ⟨y1041,hy1041⟩ : ∃ y_ : List Int,y_ = (x3_3.set (t1033 : Int).toNat t1035):=⟨_,rfl⟩
         replace H : (if x5_3.length < 17592186044416 then (spec_l23Tree.l2 kj16 y1041 (x5_3 ++ [x7_3]) x6_2 (wrap64 (x7_3 + 1)) a0_0 l0_1) else (none)) = some r:=by first | (rw [hy1041]; with_reducible exact H) | (have H2_:=(Option.bind_some _ _).symm.trans H; rw [hy1041]; with_reducible exact H2_) | (have H2_:=(Option.bind_some _ _).symm.trans H; with_reducible exact H2_) | with_reducible exact H | (rw [hy1041]; exact H) | exact H
         have Ny1041:=zy hy1041;clear hy1041
         by_cases c35 : x5_3.length < 17592186044416
         case neg =>
          rw [if_neg c35] at H;exact absurd H (by simp)
         rw [if_pos c35] at H;have LMc35:=zy c35;clear c35;obtain ⟨y1042,hy1042⟩ : ∃ y_ : List Int,y_ = (x5_3 ++ [x7_3]):=⟨_,rfl⟩
         replace H : (spec_l23Tree.l2 kj16 y1041 y1042 x6_2 (wrap64 (x7_3 + 1)) a0_0 l0_1) = some r:=by first | (rw [hy1042]; with_reducible exact H) | (have H2_:=(Option.bind_some _ _).symm.trans H; rw [hy1042]; with_reducible exact H2_) | (have H2_:=(Option.bind_some _ _).symm.trans H; with_reducible exact H2_) | with_reducible exact H | (rw [hy1042]; exact H) | exact H
         have Ny1042:=zy hy1042;clear hy1042;have H':=zy H;clear H;have p34 : 0 ≤ (t1033 : Int):=of_decide_eq_true (by first | (with_reducible assumption) | assumption);have q34 : (t1033 : Int) < ((x3_3.length : Int) : Int):=of_decide_eq_true (by first | (with_reducible assumption) | assumption);obtain ⟨go34,co34,eo34,gb34,gl34,cl34,HG34⟩:=Kd.R_form HO_3.out (by omega)
         (first | cases eo34 | (injection eo34 with ea_ en_ ec_; (first | subst ea_ | (injection ea_ with ea_; subst ea_)); subst ec_; clear en_))
         have GB34:=zy gb34;have GG34:=zy HG34;clear gb34 gl34 HG34;obtain ⟨hx34_0,hf34_0⟩:=Kd.R_celln 0 HO_3.out (t1033 : Int) p34 q34;replace p34:=eq_true p34;replace q34:=eq_true q34;have HP36:=Kd.R_putg HO_3.out (t1033 : Int) t1035
         go_wp2_with (first | ((with_reducible refine gate_store (t:=3) (p:=72) rfl ?_); refine store_event (t:=3) (p:=72) (v:=?vo_w37) (w1:=(wc.setCell ⟨go34,(t1033 : Int).toNat,none⟩ (.int .i64 t1035))) ?hg ?ho ?hn ?hr ?_; (case ho => rfl); (case hg => rfl); (case hn => rfl); (case hr => first | (go_simp; done) | (go_simp; rfl)); intro w37 hw; have hg : wc.grownBy w37 (some go34):=(by rw [hw]; exact HP36.2); have hp_ : Kd.R (Kd.int .i64) 3 w37 w.heap.size (fun k_ => some k_ ≠ (u5 : Value).ownBlock) (.slice (some ⟨go34,0,none⟩) x3_3.length co19) y1041:=(by rw [hw,Ny1041.out]; exact HP36.1); clear HP36; have n0_:=zy (hp_); have n1_:=zy (Kd.R_after (v:=(.slice (some ⟨go34,0,none⟩) x3_3.length co19)) (v1:=(.slice (some ⟨go34,0,none⟩) x3_3.length co19)) (ok:=(fun _ => True)) (by (with_reducible repeat (first | apply Kd.R_alloc | apply Kd.R_drewN | apply Kd.R_drew)); exact Kd.R_mono HO_5.out (fun _ hk => ⟨trivial,hk⟩)) hg (.inl rfl)); have n2_:=zy (blk_grown (g:=gb1022) (o:=.cells #[.int .i64 a0_0,.slice (some ad1032) l0_1.length c0_1] 34 (0,0)) (by (with_reducible repeat (first | refine blk_drewN ?_ _ | refine blk_drew ?_ | refine blk_alloc ?_ _)); exact BK1022.out) hg (Kd.R_ne HO_3.out BK1022.out (by decide))); have n3_:=zy ((by rw [hw]; exact below_set (HB.out) GB34.out : Below w.heap.size w w37)); clear HO_3; clear HO_5; clear BK1022; clear HB; have HO_3:=n0_; have HO_5:=n1_; have BK1022:=n2_; have HB:=n3_; clear n0_ n1_ n2_ n3_; clear hg hw hp_) | ((with_reducible refine gate_builtin (b:=.append) (xs:=#[.tmp 73,.tmp 75]) rfl ?_); at_builtin; refine Kd.R_append (Kd.int .i64) (w0:=w) w.heap.size rfl (.tmp 73) (.tmp 75) 23 3 (.int .i64 0) 8 rfl Try.underlying23 info3 rfl (by decide) (by omega) u5 x5_3 x7_3 [.int .i64 x7_3] (fun k_ => some k_ ≠ (.slice (some ⟨go34,0,none⟩) x3_3.length co19 : Value).ownBlock) (fun _ => False) rfl rfl ?aP (fun _ hk => hk.elim) ?aF ?aO ?aB ?aS ?aL ?_; (case aP => exact rfl); (case aB => exact (by repeat (first | (with_reducible first | exact HB.out | apply below_alloc | apply pw_below_drewN | apply below_drew1 | refine below_set ?_ GE1022.out) | exact HB.out))); (case aF => exact (fun k_ hk => Kd.fresh' (Kd.R_lt (by (with_reducible repeat (first | apply Kd.R_alloc | apply Kd.R_drewN | apply Kd.R_drew)); exact HO_3.out)) k_ hk)); (case aO => exact (by (with_reducible repeat (first | apply Kd.R_alloc | apply Kd.R_drewN | apply Kd.R_drew)); exact Kd.R_mono HO_5.out (fun _ hk => hk.2))); (case aS => exact (below_size (by repeat (first | (with_reducible first | exact HB.out | apply below_alloc | apply pw_below_drewN | apply below_drew1 | refine below_set ?_ GE1022.out) | exact HB.out)))); (case aL => have:=LMc35.out; omega); intro v1043 w38 ho hb hg hat; rw [← Ny1042.out] at ho; have n0_:=zy (Kd.R_after (ok:=(fun _ => True)) (by (with_reducible repeat (first | apply Kd.R_alloc | apply Kd.R_drewN | apply Kd.R_drew)); exact Kd.R_mono HO_3.out (fun _ hk => ⟨trivial,hk⟩)) hg hat); have n1_:=zy (blk_grown (g:=gb1022) (o:=.cells #[.int .i64 a0_0,.slice (some ad1032) l0_1.length c0_1] 34 (0,0)) (by (with_reducible repeat (first | refine blk_drewN ?_ _ | refine blk_drew ?_ | refine blk_alloc ?_ _)); exact BK1022.out) hg (Kd.R_ne HO_5.out BK1022.out (by decide))); have n2_:=zy (hb); have n3_:=zy (ho); clear HO_3; clear BK1022; clear HB; clear HO_5; have HO_3:=n0_; have BK1022:=n1_; have HB:=n2_; have HO1044:=n3_; clear n0_ n1_ n2_ n3_; clear ho hb hg hat))
         go_roundg kj16
         case measure => have:=HK1.out; have:=HK2.out; have:=HK3.out; have:=HJ16.out; omega
         case rel => exact ⟨(y1041),(y1042),(wrap64 (x7_3 + 1)),(by first | rfl | (simp; done) | (simp [*]; done)),H',⟨by have:=HK1.out; have:=HK2.out; have:=HK3.out; have:=HJ16.out; omega⟩,⟨by (with_reducible repeat (first | apply Kd.R_alloc | apply Kd.R_drewN | apply Kd.R_drew)); exact Kd.R_mono HO_3.out (fun _ hk => hk.2)⟩,⟨by (with_reducible repeat (first | apply Kd.R_alloc | apply Kd.R_drewN | apply Kd.R_drew)); exact HO1044.out⟩,⟨by (with_reducible repeat (first | refine blk_drewN ?_ _ | refine blk_drew ?_ | refine blk_alloc ?_ _)); exact BK1022.out⟩,⟨by repeat (first | (with_reducible first | exact HB.out | apply below_alloc | apply pw_below_drewN | apply below_drew1 | refine below_set ?_ GE1022.out) | exact HB.out)⟩⟩
def spec_TreeBest.f (k : Nat) (a0_0 : Int) (l0_1 : List (S58)) : Option (List Int):=(spec_l1Ok.f k a0_0 l0_1).bind fun t1046 => (if t1046 = true then ((spec_l23Tree.f k a0_0 l0_1).bind fun t1047 => (some t1047)) else (some ([] : List Int)))
set_option maxHeartbeats 8000000 in
set_option maxRecDepth 100000 in
theorem spec_TreeBest.calls (k : Nat) (a0_0 : Int) (A0_1 : Option Addr) (c0_1 : Nat) (l0_1 : List (S58)) (r : List Int) (w : World) (hr0_1 : Kd.C k58 w A0_1 l0_1.length l0_1) (hc0_1 : l0_1.length ≤ c0_1) (h : spec_TreeBest.f k a0_0 l0_1 = some r) :
  Calls Try.prog 50 #[.agg #[.int .i64 a0_0,.slice A0_1 l0_1.length c0_1]] w fun e w' => ∃ v0_ : Value,e = .returned (v0_) ∧ Kd.R (Kd.int .i64) 3 w' w.heap.size (fun _ => True) v0_ r ∧ Below w.heap.size w w':=by
 have hu34:=Try.underlying34;have HR0_1:=zy hr0_1;have HC0_1:=zy hc0_1;clear hr0_1 hc0_1;have HB:=zy (Below.refl w.heap.size w);have H : ((spec_l1Ok.f k a0_0 l0_1).bind fun t1046 => (if t1046 = true then ((spec_l23Tree.f k a0_0 l0_1).bind fun t1047 => (some t1047)) else (some ([] : List Int)))) = some r:=h;clear h;replace H:=Option.bind_eq_some_iff.mp H;obtain ⟨t1046,A20,H⟩:=H;replace H : (if t1046 = true then ((spec_l23Tree.f k a0_0 l0_1).bind fun t1047 => (some t1047)) else (some ([] : List Int))) = some r:=H;have A2:=zy A20;clear A20
 by_cases c3 : t1046 = true
 case neg =>
  replace c3:=Bool.eq_false_iff.mpr c3;subst c3;have H1 : (some ([] : List Int)) = some r:=by rw [if_neg (show ¬ (false = true) by decide)] at H; exact H
  clear H;have H:=H1;clear H1;obtain rfl:=Option.some.inj H
  go_enter Try.func50,Try.ntmps50
  go_wp2_with (first | ((with_reducible refine gate_dst (N:=1) rfl ?_); refine box_event ?hg (N:=1) ?hd (cs:=#[.int .i64 a0_0,.slice A0_1 l0_1.length c0_1]) (t:=34) ?hr ?_; (case hd => rfl); (case hg => rfl); (case hr => first | (go_simp; done) | (go_simp; rfl)); intro gb1045 hg w10 hbox hb; have n0_:=zy (below_step (by repeat (first | (with_reducible first | exact HB.out | apply below_alloc | apply pw_below_drewN | apply below_drew1) | exact HB.out)) hb); have n1_:=zy (hbox); have n2_:=zy ((by rw [hg]; exact (below_size (by repeat (first | (with_reducible first | exact HB.out | apply below_alloc | apply pw_below_drewN | apply below_drew1) | exact HB.out))) : w.heap.size ≤ gb1045)); have n3_:=zy ((by rw [hg]; exact (below_size (by repeat (first | (with_reducible first | exact HB.out | apply below_alloc | apply pw_below_drewN | apply below_drew1) | exact HB.out))) : w.heap.size ≤ gb1045)); clear HB; have HB:=n0_; have BK1045:=n1_; have GW1045:=n2_; have GE1045:=n3_; clear n0_ n1_ n2_ n3_; clear hb hbox hg; have hcz11_0 : w10.cell? ⟨gb1045,0,none⟩ = some (.int .i64 a0_0):=(blk_cell BK1045.out 0).trans rfl; have hcz11_1 : w10.cell? ⟨gb1045,1,none⟩ = some (.slice A0_1 l0_1.length c0_1):=(blk_cell BK1045.out 1).trans rfl; have hfz11_0:=blk_frozen BK1045.out 0; have hfz11_1:=blk_frozen BK1045.out 1) | ((with_reducible refine gate_callee (f:=76) rfl ?_); refine goesL_ (some 4) rfl rfl Try.func76 (by kernel_rfl) rfl #[.agg #[.int .i64 a0_0,.slice A0_1 l0_1.length c0_1]] rfl (by (try simp only [List.map_toArray,List.map_cons,List.map_nil]); first | done | rfl | (simp only [List.length_drop,List.length_take]; rfl)) ?_; (with_reducible refine (spec_l1Ok.calls k a0_0 _ _ l0_1 false _ ?side1 ?side2 A2.out).mono ?_); (case side1 => repeat (first | exact (Kd.C_below HR0_1.out HB.out) | (with_reducible refine Kd.C_alloc ?_ _) | (with_reducible refine Kd.C_drewN ?_ _) | (with_reducible refine Kd.C_drew ?_))); (case side2 => exact HC0_1.out); rintro e w12 ⟨rfl,hb⟩; refine ⟨_,rfl,?_⟩; have n0_:=zy (blk_below (g:=gb1045) (o:=.cells #[.int .i64 a0_0,.slice A0_1 l0_1.length c0_1] 34 (0,0)) (by (with_reducible repeat (first | refine blk_drewN ?_ _ | refine blk_drew ?_ | refine blk_alloc ?_ _)); exact BK1045.out) hb); have n1_:=zy (below_step (by repeat (first | (with_reducible first | exact HB.out | apply below_alloc | apply pw_below_drewN | apply below_drew1 | refine below_set ?_ GE1045.out) | exact HB.out)) hb); clear BK1045; clear HB; have BK1045:=n0_; have HB:=n1_; clear n0_ n1_; (try clear hb); (try clear hb2); (try clear hk); (try clear hi)))
  go_ret;exact ⟨_,by first | rfl | (simp [errW_none,errW_some] <;> rfl) | (simp [*,errW_none,errW_some] <;> rfl),by first | exact Kd.R_nil _ _ _ _ _ | exact Kd.N_nil _ _ _ _ _ | exact Kd.V_nil _ _ _ _ _ | exact Kd.Q_nil _ _ _ _ _ | exact Kd.S_nil _ _ _ _ _,by repeat (first | (with_reducible first | exact HB.out | apply below_alloc | apply pw_below_drewN | apply below_drew1 | refine below_set ?_ GE1045.out) | exact HB.out)⟩
 subst c3;have H1 : ((spec_l23Tree.f k a0_0 l0_1).bind fun t1047 => (some t1047)) = some r:=by rw [if_pos rfl] at H; exact H
 clear H;have H:=H1;clear H1;replace H:=Option.bind_eq_some_iff.mp H;obtain ⟨t1047,A40,H⟩:=H;replace H : (some t1047) = some r:=H;have A4:=zy A40;clear A40;obtain rfl:=Option.some.inj H
 go_enter Try.func50,Try.ntmps50
 go_wp2_with (first | ((with_reducible refine gate_dst (N:=1) rfl ?_); refine box_event ?hg (N:=1) ?hd (cs:=#[.int .i64 a0_0,.slice A0_1 l0_1.length c0_1]) (t:=34) ?hr ?_; (case hd => rfl); (case hg => rfl); (case hr => first | (go_simp; done) | (go_simp; rfl)); intro gb1045 hg w5 hbox hb; have n0_:=zy (below_step (by repeat (first | (with_reducible first | exact HB.out | apply below_alloc | apply pw_below_drewN | apply below_drew1) | exact HB.out)) hb); have n1_:=zy (hbox); have n2_:=zy ((by rw [hg]; exact (below_size (by repeat (first | (with_reducible first | exact HB.out | apply below_alloc | apply pw_below_drewN | apply below_drew1) | exact HB.out))) : w.heap.size ≤ gb1045)); have n3_:=zy ((by rw [hg]; exact (below_size (by repeat (first | (with_reducible first | exact HB.out | apply below_alloc | apply pw_below_drewN | apply below_drew1) | exact HB.out))) : w.heap.size ≤ gb1045)); clear HB; have HB:=n0_; have BK1045:=n1_; have GW1045:=n2_; have GE1045:=n3_; clear n0_ n1_ n2_ n3_; clear hb hbox hg; have hcz6_0 : w5.cell? ⟨gb1045,0,none⟩ = some (.int .i64 a0_0):=(blk_cell BK1045.out 0).trans rfl; have hcz6_1 : w5.cell? ⟨gb1045,1,none⟩ = some (.slice A0_1 l0_1.length c0_1):=(blk_cell BK1045.out 1).trans rfl; have hfz6_0:=blk_frozen BK1045.out 0; have hfz6_1:=blk_frozen BK1045.out 1) | ((with_reducible refine gate_callee (f:=76) rfl ?_); refine goesL_ (some 4) rfl rfl Try.func76 (by kernel_rfl) rfl #[.agg #[.int .i64 a0_0,.slice A0_1 l0_1.length c0_1]] rfl (by (try simp only [List.map_toArray,List.map_cons,List.map_nil]); first | done | rfl | (simp only [List.length_drop,List.length_take]; rfl)) ?_; (with_reducible refine (spec_l1Ok.calls k a0_0 _ _ l0_1 true _ ?side1 ?side2 A2.out).mono ?_); (case side1 => repeat (first | exact (Kd.C_below HR0_1.out HB.out) | (with_reducible refine Kd.C_alloc ?_ _) | (with_reducible refine Kd.C_drewN ?_ _) | (with_reducible refine Kd.C_drew ?_))); (case side2 => exact HC0_1.out); rintro e w7 ⟨rfl,hb⟩; refine ⟨_,rfl,?_⟩; have n0_:=zy (blk_below (g:=gb1045) (o:=.cells #[.int .i64 a0_0,.slice A0_1 l0_1.length c0_1] 34 (0,0)) (by (with_reducible repeat (first | refine blk_drewN ?_ _ | refine blk_drew ?_ | refine blk_alloc ?_ _)); exact BK1045.out) hb); have n1_:=zy (below_step (by repeat (first | (with_reducible first | exact HB.out | apply below_alloc | apply pw_below_drewN | apply below_drew1 | refine below_set ?_ GE1045.out) | exact HB.out)) hb); clear BK1045; clear HB; have BK1045:=n0_; have HB:=n1_; clear n0_ n1_; (try clear hb); (try clear hb2); (try clear hk); (try clear hi); have hcz8_0 : w7.cell? ⟨gb1045,0,none⟩ = some (.int .i64 a0_0):=(blk_cell BK1045.out 0).trans rfl; have hcz8_1 : w7.cell? ⟨gb1045,1,none⟩ = some (.slice A0_1 l0_1.length c0_1):=(blk_cell BK1045.out 1).trans rfl; have hfz8_0:=blk_frozen BK1045.out 0; have hfz8_1:=blk_frozen BK1045.out 1) | ((with_reducible refine gate_callee (f:=106) rfl ?_); refine goesL_ (some 7) rfl rfl Try.func106 (by kernel_rfl) rfl #[.agg #[.int .i64 a0_0,.slice A0_1 l0_1.length c0_1]] rfl (by (try simp only [List.map_toArray,List.map_cons,List.map_nil]); first | done | rfl | (simp only [List.length_drop,List.length_take]; rfl)) ?_; (with_reducible refine (spec_l23Tree.calls k a0_0 _ _ l0_1 t1047 _ ?side1 ?side2 A4.out).mono ?_); (case side1 => repeat (first | exact (Kd.C_below HR0_1.out HB.out) | (with_reducible refine Kd.C_alloc ?_ _) | (with_reducible refine Kd.C_drewN ?_ _) | (with_reducible refine Kd.C_drew ?_))); (case side2 => exact HC0_1.out); rintro e w9 ⟨v1048,rfl,ho0,hb⟩; refine ⟨_,rfl,?_⟩; have n0_:=zy (Kd.R_lower ho0 (below_size (by repeat (first | (with_reducible first | exact HB.out | apply below_alloc | apply pw_below_drewN | apply below_drew1 | refine below_set ?_ GE1045.out) | exact HB.out)))); have n1_:=zy (blk_below (g:=gb1045) (o:=.cells #[.int .i64 a0_0,.slice A0_1 l0_1.length c0_1] 34 (0,0)) (by (with_reducible repeat (first | refine blk_drewN ?_ _ | refine blk_drew ?_ | refine blk_alloc ?_ _)); exact BK1045.out) hb); have n2_:=zy (below_step (by repeat (first | (with_reducible first | exact HB.out | apply below_alloc | apply pw_below_drewN | apply below_drew1 | refine below_set ?_ GE1045.out) | exact HB.out)) hb); clear BK1045; clear HB; have HO1049:=n0_; have BK1045:=n1_; have HB:=n2_; clear n0_ n1_ n2_; (try clear hb); (try clear hb2); (try clear hk); (try clear hi); (try clear ho0)))
 go_ret;exact ⟨_,by first | rfl | (simp [errW_none,errW_some] <;> rfl) | (simp [*,errW_none,errW_some] <;> rfl),by (with_reducible repeat (first | apply Kd.R_alloc | apply Kd.R_drewN | apply Kd.R_drew)); exact HO1049.out,by repeat (first | (with_reducible first | exact HB.out | apply below_alloc | apply pw_below_drewN | apply below_drew1 | refine below_set ?_ GE1045.out) | exact HB.out)⟩
def impl_arcsOk.f (a0_0 : Int) (l0_1 : List S58) (l1 : List Int) : Option Bool:=some (netOkB a0_0 l0_1 && decide ((l1.length : Int) ≤ 16) && l1.all (okN (l0_1.length : Int)))
set_option maxHeartbeats 8000000 in
set_option maxRecDepth 100000 in
theorem arcsOk_closure (x n : Int) (g : Nat) (A : Option Addr) (c m : Nat) (w : World) (hm : m ≤ 16) (hb : w.heap[g]? = some (.cells #[.int .i64 n,.slice A m c] 34 (0,0))) :
  Calls Try.prog 139 #[.int .i64 x,.pointer (some ⟨g,0,none⟩)] w fun e w' => e = .returned (.bool (!okN (m : Int) x)) ∧ Below w.heap.size w w':=by
 have hcell1 : w.cell? ⟨g,1,none⟩ = some (.slice A m c):=(blk_cell hb 1).trans rfl;have hcall:=impl_within.calls x 0 ((m : Int) - 1) (okN (m : Int) x) w (okN_within (m : Int) x);have hu:=Try.underlying34;generalize okN (m : Int) x = b at hcall;clear hb
 go_enter Try.func139,Try.ntmps139
 go_wp2_with (go_at_call 82; refine hcall.mono ?_; rintro e w' ⟨rfl,⟨nd,rfl⟩⟩)
 go_ret;exact ⟨rfl,pw_below_drewN (Below.refl _ _) _⟩
set_option maxHeartbeats 8000000 in
set_option maxRecDepth 100000 in
theorem impl_arcsOk.calls (a0_0 : Int) (A0_1 : Option Addr) (c0_1 : Nat) (l0_1 : List S58) (A1 : Option Addr) (c1 : Nat) (l1 : List Int) (r : Bool) (w : World) (hr0_1 : Kd.C k58 w A0_1 l0_1.length l0_1) (hc0_1 : l0_1.length ≤ c0_1) (hr1 : Kd.C (Kd.int .i64) w A1 l1.length l1) (hc1 : l1.length ≤ c1) (h : impl_arcsOk.f a0_0 l0_1 l1 = some r) :
  Calls Try.prog 110 #[.agg #[.int .i64 a0_0,.slice A0_1 l0_1.length c0_1],.slice A1 l1.length c1] w fun e w' => e = .returned (.bool r) ∧ Below w.heap.size w w':=by
 obtain rfl:=Option.some.inj h;clear h;have hu:=Try.underlying34;have hw1:=impl_NetOk.calls a0_0 A0_1 c0_1 l0_1 (netOkB a0_0 l0_1) (w.alloc (.cells #[.int .i64 a0_0,.slice A0_1 l0_1.length c0_1] 34)) (Kd.C_below hr0_1 (below_alloc (Below.refl _ _) _)) hc0_1 rfl;cases hb : netOkB a0_0 l0_1 with
 | false =>
  rw [hb] at hw1;clear hb hr0_1 hr1
  go_enter Try.func110,Try.ntmps110
  go_wp2_with (go_at_call 51; refine hw1.mono ?_; rintro e w1 ⟨rfl,hB⟩)
  go_ret;exact ⟨rfl,below_then (below_alloc (Below.refl _ _) _) (by simp) hB⟩
 | true =>
  have hlen : l0_1.length ≤ 16:=by
   have:=hb;simp only [netOkB,Bool.and_eq_true,decide_eq_true_eq] at this;omega
  rw [hb] at hw1;clear hb
  by_cases hl : (l1.length : Int) ≤ 16
  case neg =>
   have e1 : decide ((l1.length : Int) ≤ 16) = false:=decide_eq_false hl;have e2 : decide (l1.length ≤ 16) = false:=decide_eq_false (by omega);rw [e1];clear hl hr0_1 hr1
   go_enter Try.func110,Try.ntmps110
   go_wp2_with (go_at_call 51; refine hw1.mono ?_; rintro e w1 ⟨rfl,hB⟩)
   go_ret;exact ⟨rfl,below_then (below_alloc (Below.refl _ _) _) (by simp) hB⟩
  have e1 : decide ((l1.length : Int) ≤ 16) = true:=decide_eq_true hl;have e2 : decide (l1.length ≤ 16) = true:=decide_eq_true (by omega);rw [e1];have hbox:=fun (W : World) (hB : Below w.heap.size w W) (hg : W.heap[w.heap.size]? = some (.cells #[.int .i64 a0_0,.slice A0_1 l0_1.length c0_1] 34 (0,0))) => slices_ContainsFunc_int_int.calls (fun v => !okN (l0_1.length : Int) v) 139 #[.pointer (some ⟨w.heap.size,0,none⟩)] (enters_of Try.func139 (by kernel_rfl) rfl) A1 c1 l1 W (Kd.C_below hr1 hB) hc1
   (fun W1 x _ hB1 => arcsOk_closure x a0_0 w.heap.size A0_1 c0_1 l0_1.length W1 hlen ((hB1.block w.heap.size (blk_lt hg)).trans hg))
  have hall : (!(l1.any fun v => !okN (l0_1.length : Int) v)) = l1.all (okN (l0_1.length : Int)):=by
   rw [List.not_any_eq_all_not]
   congr 1
   funext v
   simp
  rw [← hall];clear hall hr0_1 hr1 hc0_1 hc1 hl hlen;generalize (l1.any fun v => !okN (l0_1.length : Int) v) = b at hbox;have HBX:=zy hbox;clear hbox
  go_enter Try.func110,Try.ntmps110
  go_wp2_with (first | (go_at_call 51; refine hw1.mono ?_; rintro e w1 ⟨rfl,hB⟩) | (go_at_call 120; refine (HBX.out _ ?h1 ?h2).mono ?_; (case h1 => exact below_then (below_alloc (Below.refl _ _) _) (by simp) hB); (case h2 => exact (hB.block w.heap.size (by simp)).trans (heap_alloc_new w _)); rintro e w2 ⟨rfl,hb'⟩))
  go_ret;exact ⟨by cases b <;> rfl,below_then (below_then (below_alloc (Below.refl _ _) _) (by simp) hB) (by have:=hB.size; simp at this; omega) hb'⟩
def impl_TreeParts.f (k : Nat) (a0_0 : Int) (l0_1 : List (S58)) (l1 : List Int) : Option (List Int):=(impl_arcsOk.f a0_0 l0_1 l1).bind fun t1051 => (if t1051 = true then ((impl_Net_joined.f k a0_0 l0_1 l1).bind fun t1052 => (some t1052)) else (some ([] : List Int)))
set_option maxHeartbeats 8000000 in
set_option maxRecDepth 100000 in
theorem impl_TreeParts.calls (k : Nat) (a0_0 : Int) (A0_1 : Option Addr) (c0_1 : Nat) (l0_1 : List (S58)) (A1 : Option Addr) (c1 : Nat) (l1 : List Int) (r : List Int) (w : World) (hr0_1 : Kd.C k58 w A0_1 l0_1.length l0_1) (hc0_1 : l0_1.length ≤ c0_1) (hr1 : Kd.C (Kd.int .i64) w A1 l1.length l1) (hc1 : l1.length ≤ c1) (h : impl_TreeParts.f k a0_0 l0_1 l1 = some r) :
  Calls Try.prog 52 #[.agg #[.int .i64 a0_0,.slice A0_1 l0_1.length c0_1],.slice A1 l1.length c1] w fun e w' => ∃ v0_ : Value,e = .returned (v0_) ∧ Kd.R (Kd.int .i64) 3 w' w.heap.size (fun _ => True) v0_ r ∧ Below w.heap.size w w':=by
 have hu34:=Try.underlying34;have HR0_1:=zy hr0_1;have HC0_1:=zy hc0_1;clear hr0_1 hc0_1;have HR1:=zy hr1;have HC1:=zy hc1;clear hr1 hc1;have HB:=zy (Below.refl w.heap.size w);have H : ((impl_arcsOk.f a0_0 l0_1 l1).bind fun t1051 => (if t1051 = true then ((impl_Net_joined.f k a0_0 l0_1 l1).bind fun t1052 => (some t1052)) else (some ([] : List Int)))) = some r:=h;clear h;replace H:=Option.bind_eq_some_iff.mp H;obtain ⟨t1051,A30,H⟩:=H;replace H : (if t1051 = true then ((impl_Net_joined.f k a0_0 l0_1 l1).bind fun t1052 => (some t1052)) else (some ([] : List Int))) = some r:=H;have A3:=zy A30;clear A30
 by_cases c4 : t1051 = true
 case neg =>
  replace c4:=Bool.eq_false_iff.mpr c4;subst c4;have H1 : (some ([] : List Int)) = some r:=by rw [if_neg (show ¬ (false = true) by decide)] at H; exact H
  clear H;have H:=H1;clear H1;obtain rfl:=Option.some.inj H
  go_enter Try.func52,Try.ntmps52
  go_wp2_with (first | ((with_reducible refine gate_dst (N:=2) rfl ?_); refine box_event ?hg (N:=2) ?hd (cs:=#[.int .i64 a0_0,.slice A0_1 l0_1.length c0_1]) (t:=34) ?hr ?_; (case hd => rfl); (case hg => rfl); (case hr => first | (go_simp; done) | (go_simp; rfl)); intro gb1050 hg w11 hbox hb; have n0_:=zy (below_step (by repeat (first | (with_reducible first | exact HB.out | apply below_alloc | apply pw_below_drewN | apply below_drew1) | exact HB.out)) hb); have n1_:=zy (hbox); have n2_:=zy ((by rw [hg]; exact (below_size (by repeat (first | (with_reducible first | exact HB.out | apply below_alloc | apply pw_below_drewN | apply below_drew1) | exact HB.out))) : w.heap.size ≤ gb1050)); have n3_:=zy ((by rw [hg]; exact (below_size (by repeat (first | (with_reducible first | exact HB.out | apply below_alloc | apply pw_below_drewN | apply below_drew1) | exact HB.out))) : w.heap.size ≤ gb1050)); clear HB; have HB:=n0_; have BK1050:=n1_; have GW1050:=n2_; have GE1050:=n3_; clear n0_ n1_ n2_ n3_; clear hb hbox hg; have hcz12_0 : w11.cell? ⟨gb1050,0,none⟩ = some (.int .i64 a0_0):=(blk_cell BK1050.out 0).trans rfl; have hcz12_1 : w11.cell? ⟨gb1050,1,none⟩ = some (.slice A0_1 l0_1.length c0_1):=(blk_cell BK1050.out 1).trans rfl; have hfz12_0:=blk_frozen BK1050.out 0; have hfz12_1:=blk_frozen BK1050.out 1) | ((with_reducible refine gate_callee (f:=110) rfl ?_); refine goesL_ (some 7) rfl rfl Try.func110 (by kernel_rfl) rfl #[.agg #[.int .i64 a0_0,.slice A0_1 l0_1.length c0_1],.slice A1 l1.length c1] rfl (by (try simp only [List.map_toArray,List.map_cons,List.map_nil]); first | done | rfl | (simp only [List.length_drop,List.length_take]; rfl)) ?_; (with_reducible refine (impl_arcsOk.calls a0_0 _ _ l0_1 _ _ l1 false _ ?side1 ?side2 ?side3 ?side4 A3.out).mono ?_); (case side1 => repeat (first | exact (Kd.C_below HR0_1.out HB.out) | (with_reducible refine Kd.C_alloc ?_ _) | (with_reducible refine Kd.C_drewN ?_ _) | (with_reducible refine Kd.C_drew ?_))); (case side2 => exact HC0_1.out); (case side3 => repeat (first | exact (Kd.C_below HR1.out HB.out) | (with_reducible refine Kd.C_alloc ?_ _) | (with_reducible refine Kd.C_drewN ?_ _) | (with_reducible refine Kd.C_drew ?_))); (case side4 => exact HC1.out); rintro e w13 ⟨rfl,hb⟩; refine ⟨_,rfl,?_⟩; have n0_:=zy (blk_below (g:=gb1050) (o:=.cells #[.int .i64 a0_0,.slice A0_1 l0_1.length c0_1] 34 (0,0)) (by (with_reducible repeat (first | refine blk_drewN ?_ _ | refine blk_drew ?_ | refine blk_alloc ?_ _)); exact BK1050.out) hb); have n1_:=zy (below_step (by repeat (first | (with_reducible first | exact HB.out | apply below_alloc | apply pw_below_drewN | apply below_drew1 | refine below_set ?_ GE1050.out) | exact HB.out)) hb); clear BK1050; clear HB; have BK1050:=n0_; have HB:=n1_; clear n0_ n1_; (try clear hb); (try clear hb2); (try clear hk); (try clear hi)))
  go_ret;exact ⟨_,by first | rfl | (simp [errW_none,errW_some] <;> rfl) | (simp [*,errW_none,errW_some] <;> rfl),by first | exact Kd.R_nil _ _ _ _ _ | exact Kd.N_nil _ _ _ _ _ | exact Kd.V_nil _ _ _ _ _ | exact Kd.Q_nil _ _ _ _ _ | exact Kd.S_nil _ _ _ _ _,by repeat (first | (with_reducible first | exact HB.out | apply below_alloc | apply pw_below_drewN | apply below_drew1 | refine below_set ?_ GE1050.out) | exact HB.out)⟩
 subst c4;have H1 : ((impl_Net_joined.f k a0_0 l0_1 l1).bind fun t1052 => (some t1052)) = some r:=by rw [if_pos rfl] at H; exact H
 clear H;have H:=H1;clear H1;replace H:=Option.bind_eq_some_iff.mp H;obtain ⟨t1052,A50,H⟩:=H;replace H : (some t1052) = some r:=H;have A5:=zy A50;clear A50;obtain rfl:=Option.some.inj H
 go_enter Try.func52,Try.ntmps52
 go_wp2_with (first | ((with_reducible refine gate_dst (N:=2) rfl ?_); refine box_event ?hg (N:=2) ?hd (cs:=#[.int .i64 a0_0,.slice A0_1 l0_1.length c0_1]) (t:=34) ?hr ?_; (case hd => rfl); (case hg => rfl); (case hr => first | (go_simp; done) | (go_simp; rfl)); intro gb1050 hg w6 hbox hb; have n0_:=zy (below_step (by repeat (first | (with_reducible first | exact HB.out | apply below_alloc | apply pw_below_drewN | apply below_drew1) | exact HB.out)) hb); have n1_:=zy (hbox); have n2_:=zy ((by rw [hg]; exact (below_size (by repeat (first | (with_reducible first | exact HB.out | apply below_alloc | apply pw_below_drewN | apply below_drew1) | exact HB.out))) : w.heap.size ≤ gb1050)); have n3_:=zy ((by rw [hg]; exact (below_size (by repeat (first | (with_reducible first | exact HB.out | apply below_alloc | apply pw_below_drewN | apply below_drew1) | exact HB.out))) : w.heap.size ≤ gb1050)); clear HB; have HB:=n0_; have BK1050:=n1_; have GW1050:=n2_; have GE1050:=n3_; clear n0_ n1_ n2_ n3_; clear hb hbox hg; have hcz7_0 : w6.cell? ⟨gb1050,0,none⟩ = some (.int .i64 a0_0):=(blk_cell BK1050.out 0).trans rfl; have hcz7_1 : w6.cell? ⟨gb1050,1,none⟩ = some (.slice A0_1 l0_1.length c0_1):=(blk_cell BK1050.out 1).trans rfl; have hfz7_0:=blk_frozen BK1050.out 0; have hfz7_1:=blk_frozen BK1050.out 1) | ((with_reducible refine gate_callee (f:=110) rfl ?_); refine goesL_ (some 7) rfl rfl Try.func110 (by kernel_rfl) rfl #[.agg #[.int .i64 a0_0,.slice A0_1 l0_1.length c0_1],.slice A1 l1.length c1] rfl (by (try simp only [List.map_toArray,List.map_cons,List.map_nil]); first | done | rfl | (simp only [List.length_drop,List.length_take]; rfl)) ?_; (with_reducible refine (impl_arcsOk.calls a0_0 _ _ l0_1 _ _ l1 true _ ?side1 ?side2 ?side3 ?side4 A3.out).mono ?_); (case side1 => repeat (first | exact (Kd.C_below HR0_1.out HB.out) | (with_reducible refine Kd.C_alloc ?_ _) | (with_reducible refine Kd.C_drewN ?_ _) | (with_reducible refine Kd.C_drew ?_))); (case side2 => exact HC0_1.out); (case side3 => repeat (first | exact (Kd.C_below HR1.out HB.out) | (with_reducible refine Kd.C_alloc ?_ _) | (with_reducible refine Kd.C_drewN ?_ _) | (with_reducible refine Kd.C_drew ?_))); (case side4 => exact HC1.out); rintro e w8 ⟨rfl,hb⟩; refine ⟨_,rfl,?_⟩; have n0_:=zy (blk_below (g:=gb1050) (o:=.cells #[.int .i64 a0_0,.slice A0_1 l0_1.length c0_1] 34 (0,0)) (by (with_reducible repeat (first | refine blk_drewN ?_ _ | refine blk_drew ?_ | refine blk_alloc ?_ _)); exact BK1050.out) hb); have n1_:=zy (below_step (by repeat (first | (with_reducible first | exact HB.out | apply below_alloc | apply pw_below_drewN | apply below_drew1 | refine below_set ?_ GE1050.out) | exact HB.out)) hb); clear BK1050; clear HB; have BK1050:=n0_; have HB:=n1_; clear n0_ n1_; (try clear hb); (try clear hb2); (try clear hk); (try clear hi); have hcz9_0 : w8.cell? ⟨gb1050,0,none⟩ = some (.int .i64 a0_0):=(blk_cell BK1050.out 0).trans rfl; have hcz9_1 : w8.cell? ⟨gb1050,1,none⟩ = some (.slice A0_1 l0_1.length c0_1):=(blk_cell BK1050.out 1).trans rfl; have hfz9_0:=blk_frozen BK1050.out 0; have hfz9_1:=blk_frozen BK1050.out 1) | ((with_reducible refine gate_callee (f:=105) rfl ?_); refine goesL_ (some 11) rfl rfl Try.func105 (by kernel_rfl) rfl #[.agg #[.int .i64 a0_0,.slice A0_1 l0_1.length c0_1],.slice A1 l1.length c1] rfl (by (try simp only [List.map_toArray,List.map_cons,List.map_nil]); first | done | rfl | (simp only [List.length_drop,List.length_take]; rfl)) ?_; (with_reducible refine (impl_Net_joined.calls k a0_0 _ _ l0_1 _ _ l1 t1052 _ ?side1 ?side2 ?side3 ?side4 A5.out).mono ?_); (case side1 => repeat (first | exact (Kd.C_below HR0_1.out HB.out) | (with_reducible refine Kd.C_alloc ?_ _) | (with_reducible refine Kd.C_drewN ?_ _) | (with_reducible refine Kd.C_drew ?_))); (case side2 => exact HC0_1.out); (case side3 => repeat (first | exact (Kd.C_below HR1.out HB.out) | (with_reducible refine Kd.C_alloc ?_ _) | (with_reducible refine Kd.C_drewN ?_ _) | (with_reducible refine Kd.C_drew ?_))); (case side4 => exact HC1.out); rintro e w10 ⟨v1053,rfl,ho0,hb⟩; refine ⟨_,rfl,?_⟩; have n0_:=zy (Kd.R_lower ho0 (below_size (by repeat (first | (with_reducible first | exact HB.out | apply below_alloc | apply pw_below_drewN | apply below_drew1 | refine below_set ?_ GE1050.out) | exact HB.out)))); have n1_:=zy (blk_below (g:=gb1050) (o:=.cells #[.int .i64 a0_0,.slice A0_1 l0_1.length c0_1] 34 (0,0)) (by (with_reducible repeat (first | refine blk_drewN ?_ _ | refine blk_drew ?_ | refine blk_alloc ?_ _)); exact BK1050.out) hb); have n2_:=zy (below_step (by repeat (first | (with_reducible first | exact HB.out | apply below_alloc | apply pw_below_drewN | apply below_drew1 | refine below_set ?_ GE1050.out) | exact HB.out)) hb); clear BK1050; clear HB; have HO1054:=n0_; have BK1050:=n1_; have HB:=n2_; clear n0_ n1_ n2_; (try clear hb); (try clear hb2); (try clear hk); (try clear hi); (try clear ho0)))
 go_ret;exact ⟨_,by first | rfl | (simp [errW_none,errW_some] <;> rfl) | (simp [*,errW_none,errW_some] <;> rfl),by (with_reducible repeat (first | apply Kd.R_alloc | apply Kd.R_drewN | apply Kd.R_drew)); exact HO1054.out,by repeat (first | (with_reducible first | exact HB.out | apply below_alloc | apply pw_below_drewN | apply below_drew1 | refine below_set ?_ GE1050.out) | exact HB.out)⟩
def impl_Net_cost.l0 : Nat → Int → List Int → Int → Int → Int → List (S58) → Option (Int)
 | 0,_,_,_,_,_,_ => none
 | k + 1,x5,x8,x9,x10,x1306000,x1306001 => if x10 < x9 then (if 0 ≤ x10 then (if x10 < (x8.length : Int) then (if 0 ≤ (rd x8 x10) then (if (rd x8 x10) < (x1306001.length : Int) then (impl_Net_cost.l0 k (wrap64 (x5 + ((rd_T58 x1306001 (rd x8 x10)).f2))) x8 x9 (wrap64 (x10 + 1)) x1306000 x1306001) else (none)) else (none)) else (none)) else (none)) else (some x5)
def impl_Net_cost.f (k : Nat) (a0_0 : Int) (l0_1 : List (S58)) (l1 : List Int) : Option (Int):=impl_Net_cost.l0 k 0 l1 (l1.length : Int) 0 a0_0 l0_1
set_option maxHeartbeats 8000000 in
set_option maxRecDepth 100000 in
theorem impl_Net_cost.calls (k : Nat) (a0_0 : Int) (A0_1 : Option Addr) (c0_1 : Nat) (l0_1 : List (S58)) (A1 : Option Addr) (c1 : Nat) (l1 : List Int) (r : Int) (w : World) (hr0_1 : Kd.C k58 w A0_1 l0_1.length l0_1) (hc0_1 : l0_1.length ≤ c0_1) (hr1 : Kd.C (Kd.int .i64) w A1 l1.length l1) (hc1 : l1.length ≤ c1) (h : impl_Net_cost.f k a0_0 l0_1 l1 = some r) :
  Calls Try.prog 115 #[.agg #[.int .i64 a0_0,.slice A0_1 l0_1.length c0_1],.slice A1 l1.length c1] w fun e w' => e = .returned (.int .i64 r) ∧ Below w.heap.size w w':=by
 have hu34:=Try.underlying34;have HR0_1:=zy hr0_1;have HC0_1:=zy hc0_1;clear hr0_1 hc0_1;have HR1:=zy hr1;have HC1:=zy hc1;clear hr1 hc1;have HB:=zy (Below.refl w.heap.size w);have H : (impl_Net_cost.l0 k 0 l1 (l1.length : Int) 0 a0_0 l0_1) = some r:=h;clear h;have H':=zy H;clear H
 go_enter Try.func115,Try.ntmps115
 go_wp2_with (first | ((with_reducible refine gate_dst (N:=2) rfl ?_); refine box_event ?hg (N:=2) ?hd (cs:=#[.int .i64 a0_0,.slice A0_1 l0_1.length c0_1]) (t:=34) ?hr ?_; (case hd => rfl); (case hg => rfl); (case hr => first | (go_simp; done) | (go_simp; rfl)); intro gb1305 hg w3 hbox hb; have n0_:=zy (below_step (by repeat (first | (with_reducible first | exact HB.out | apply below_alloc | apply pw_below_drewN | apply below_drew1) | exact HB.out)) hb); have n1_:=zy (hbox); have n2_:=zy ((by rw [hg]; exact (below_size (by repeat (first | (with_reducible first | exact HB.out | apply below_alloc | apply pw_below_drewN | apply below_drew1) | exact HB.out))) : w.heap.size ≤ gb1305)); have n3_:=zy ((by rw [hg]; exact (below_size (by repeat (first | (with_reducible first | exact HB.out | apply below_alloc | apply pw_below_drewN | apply below_drew1) | exact HB.out))) : w.heap.size ≤ gb1305)); clear HB; have HB:=n0_; have BK1305:=n1_; have GW1305:=n2_; have GE1305:=n3_; clear n0_ n1_ n2_ n3_; clear hb hbox hg))
 go_loopg [5,10] k (fun kq v5 v10 w' => ∃ (x5_1 : Int) (x10_1 : Int),v5 = .int .i64 x5_1 ∧ v10 = .int .i64 x10_1 ∧ Aside0 (impl_Net_cost.l0 kq x5_1 l1 (l1.length : Int) x10_1 a0_0 l0_1 = some r) ∧ Aside0 (kq ≤ k) ∧ Aside0 (w'.heap[gb1305]? = some (.cells #[.int .i64 a0_0,(.slice A0_1 l0_1.length c0_1)] 34 (0,0))) ∧ Aside0 (Below w.heap.size w w'))
 case atStart => exact ⟨(0),(0),(by first | rfl | (simp; done) | (simp [*]; done)),(by first | rfl | (simp; done) | (simp [*]; done)),H',⟨Nat.le_refl _⟩,⟨by (with_reducible repeat (first | refine blk_drewN ?_ _ | refine blk_drew ?_ | refine blk_alloc ?_ _)); exact BK1305.out⟩,⟨by repeat (first | (with_reducible first | exact HB.out | apply below_alloc | apply pw_below_drewN | apply below_drew1 | refine below_set ?_ GE1305.out) | exact HB.out)⟩⟩
 case round =>
  clear H'
  try clear c1
  try clear p2
  obtain ⟨x5_1,x10_1,rfl,rfl,HA,HK1,BK1305,HB⟩:=hrel;cases gk with
  | zero => exact absurd HA.out (by simp [impl_Net_cost.l0])
  | succ k1 =>
   have H:=HA.out;clear HA;simp only [impl_Net_cost.l0] at H
   by_cases c4 : x10_1 < (l1.length : Int)
   case neg =>
    rw [if_neg c4] at H;have c4b0 : decide (x10_1 < (l1.length : Int)) = false:=decide_eq_false c4;clear c4;obtain rfl:=Option.some.inj H
    go_wp2
    go_ret;exact ⟨by first | rfl | (simp [errW_none,errW_some] <;> rfl) | (simp [*,errW_none,errW_some] <;> rfl),by repeat (first | (with_reducible first | exact HB.out | apply below_alloc | apply pw_below_drewN | apply below_drew1 | refine below_set ?_ GE1305.out) | exact HB.out)⟩
   rw [if_pos c4] at H;have c4b0 : decide (x10_1 < (l1.length : Int)) = true:=decide_eq_true c4;clear c4
   by_cases c5 : 0 ≤ x10_1
   case neg =>
    rw [if_neg c5] at H;exact absurd H (by simp)
   rw [if_pos c5] at H;have c5b0 : decide (0 ≤ x10_1) = true:=decide_eq_true c5;clear c5
   by_cases c6 : x10_1 < (l1.length : Int)
   case neg =>
    rw [if_neg c6] at H;exact absurd H (by simp)
   rw [if_pos c6] at H;have c6b0 : decide (x10_1 < (l1.length : Int)) = true:=decide_eq_true c6;clear c6
   by_cases c7 : 0 ≤ (rd l1 x10_1)
   case neg =>
    rw [if_neg c7] at H;exact absurd H (by simp)
   rw [if_pos c7] at H;have c7b0 : decide (0 ≤ (rd l1 x10_1)) = true:=decide_eq_true c7;clear c7
   by_cases c8 : (rd l1 x10_1) < (l0_1.length : Int)
   case neg =>
    rw [if_neg c8] at H;exact absurd H (by simp)
   rw [if_pos c8] at H;have c8b0 : decide ((rd l1 x10_1) < (l0_1.length : Int)) = true:=decide_eq_true c8;clear c8;have H':=zy H;clear H;have p1306 : 0 ≤ (x10_1 : Int):=of_decide_eq_true (by first | (with_reducible assumption) | assumption);have q1306 : x10_1 < (l1.length : Int):=of_decide_eq_true (by first | (with_reducible assumption) | assumption);obtain ⟨ad1306,e1306,hx1306_0⟩:=Kd.at_int HR1.out x10_1 p1306 q1306;cases e1306;replace hx1306_0:=(HB.out.cell (World.block_lt_of_cell? w _ hx1306_0)).trans hx1306_0;replace p1306:=eq_true p1306;replace q1306:=eq_true q1306;have hcz9_0 : wr.cell? ⟨gb1305,0,none⟩ = some (.int .i64 a0_0):=(blk_cell BK1305.out 0).trans rfl;have hcz9_1 : wr.cell? ⟨gb1305,1,none⟩ = some (.slice A0_1 l0_1.length c0_1):=(blk_cell BK1305.out 1).trans rfl;have hfz9_0:=blk_frozen BK1305.out 0;have hfz9_1:=blk_frozen BK1305.out 1;have p1307 : 0 ≤ ((rd l1 x10_1) : Int):=of_decide_eq_true (by first | (with_reducible assumption) | assumption);have q1307 : (rd l1 x10_1) < (l0_1.length : Int):=of_decide_eq_true (by first | (with_reducible assumption) | assumption);obtain ⟨ad1307,e1307,hx1307_0,hx1307_1,hx1307_2,hx1307_3,hx1307_4⟩:=at_T58 HR0_1.out (rd l1 x10_1) p1307 q1307;cases e1307;replace hx1307_0:=(HB.out.cell (World.block_lt_of_cell? w _ hx1307_0)).trans hx1307_0;replace hx1307_1:=(HB.out.cell (World.block_lt_of_cell? w _ hx1307_1)).trans hx1307_1;replace hx1307_2:=(HB.out.cell (World.block_lt_of_cell? w _ hx1307_2)).trans hx1307_2;replace hx1307_3:=(HB.out.cell (World.block_lt_of_cell? w _ hx1307_3)).trans hx1307_3;replace hx1307_4:=(HB.out.cell (World.block_lt_of_cell? w _ hx1307_4)).trans hx1307_4;replace p1307:=eq_true p1307;replace q1307:=eq_true q1307
   go_wp2
   go_roundg k1
   case measure => have:=HK1.out; omega
   case rel => exact ⟨(wrap64 (x5_1 + ((rd_T58 l0_1 (rd l1 x10_1)).f2))),(wrap64 (x10_1 + 1)),(by first | rfl | (simp; done) | (simp [*]; done)),(by first | rfl | (simp; done) | (simp [*]; done)),H',⟨by have:=HK1.out; omega⟩,⟨by (with_reducible repeat (first | refine blk_drewN ?_ _ | refine blk_drew ?_ | refine blk_alloc ?_ _)); exact BK1305.out⟩,⟨by repeat (first | (with_reducible first | exact HB.out | apply below_alloc | apply pw_below_drewN | apply below_drew1 | refine below_set ?_ GE1305.out) | exact HB.out)⟩⟩
end Go.Proofs.Ytlhmljngjdfbpaa.Pr
end
section
namespace Go.Proofs.Ytlhmljngjdfbpaa.Pr
open Go.RowKit Go.Proofs.YtlhmljngjdfbpaaW.PrintWords Go.Proofs.YtlhmljngjdfbpaaW.PrintLast Go.Proofs.YtlhmljngjdfbpaaW.PrintMore
attribute [local go_sem] max2_int min2_int max_two min_two max_three min_three max_four min_four
set_option linter.unusedVariables false
set_option linter.unusedSimpArgs false
open List renaming setIfInBounds_toArray → V, set_cons_zero → Z, set_cons_succ → zx
open Go.Proofs.YtlhmljngjdfbpaaW.PrintWords.Aside0 renaming mk → zy
def rho_e43 : Go.Shelf.Ren := ⟨fun n => if n = 43 then 116 else n, fun n => if n = 22 then 23 else if n = 23 then 3 else n, fun n => n⟩
theorem lays_e43 : Go.Proofs.SlLaysE.n43 Try.prog rho_e43 where
 mixed := by kernel_rfl
 f43 := ⟨"slices.Compact[[]int,int]", by decide, by kernel_rfl⟩
 t0 := by kernel_rfl
 a0 := fun w => by kernel_rfl
 z0 := fun w => by kernel_rfl
 v0 := fun w => by kernel_rfl
 t3 := by kernel_rfl
 a3 := fun w => by kernel_rfl
 z3 := fun w => by kernel_rfl
 v3 := fun w => by kernel_rfl
 t4 := by kernel_rfl
 a4 := fun w => by kernel_rfl
 z4 := fun w => by kernel_rfl
 v4 := fun w => by kernel_rfl
 t22 := by kernel_rfl
 a22 := fun w => by kernel_rfl
 z22 := fun w => by kernel_rfl
 v22 := fun w => by kernel_rfl
 a23 := fun w => by kernel_rfl
 z23 := fun w => by kernel_rfl
theorem compact_len (d : Array Int) : ∀ m, (Go.Lib.compactUpTo d m).length ≤ m
 | 0 => by simp [Go.Lib.compactUpTo]
 | m + 1 => by
  have := compact_len d m;rw [Go.Lib.compactUpTo_succ, List.length_append]
  split <;> simp <;> omega
theorem grownBy_putC (w : World) (g q : Nat) (d : Array Int) : w.grownBy (Go.Sort.putRow (Value.int .i64) (Go.Sort.ahead w q) g 0 d) (some g) := by
 refine ⟨rfl, rfl, rfl, by simp, fun k hk hne => ?_⟩;have : g ≠ k := fun e => hne (by rw [e])
 simp [Go.Sort.putRow, Go.Sort.mapBlock, Go.Sort.ahead, Array.getElem?_modify, this]
theorem compact_calls {base : Nat} (g cap : Nat) (xs : List Int) (W : World) (hR : (Kd.int .i64).R 3 W base (fun _ => True) (.slice (some ⟨g, 0, none⟩) xs.length cap) xs) :
  Calls Try.prog 116 #[.slice (some ⟨g, 0, none⟩) xs.length cap] W fun e w' => e = .returned (.slice (some ⟨g, 0, none⟩) (Go.Lib.compactUpTo xs.toArray xs.length).length cap) ∧ (Kd.int .i64).R 3 w' base (fun _ => True) (.slice (some ⟨g, 0, none⟩) (Go.Lib.compactUpTo xs.toArray xs.length).length cap) (Go.Lib.compactUpTo xs.toArray xs.length) ∧ W.grownBy w' (some g) := by
 obtain ⟨o1, o2⟩ := Kd.own_of_R hR;have hle := compact_len xs.toArray xs.length;have hH : Go.Sort.Holds (Value.int .i64) W g 0 xs.toArray := by
  intro j hj;have hj : j < xs.length := by simpa using hj
  obtain ⟨h1, h2⟩ := Kd.R_celln 0 hR (j : Int) (by omega) (by omega);rw [Int.toNat_natCast] at h1 h2;rw [Nat.zero_add];refine ⟨h1.trans ?_, h2⟩;simp [rdOf, hj]
 rcases o2 with ⟨he, _⟩ | ⟨g', cap', cur, he, hb, hh, hnc, hcm, hcs, ht⟩
 ·exact absurd he (by simp)
 injection he with he1 he2 he3
 injection he1 with he1
 injection he1 with he1 he4 he5
 subst he1 he3;have hsz : xs.toArray.size = xs.length := by simp
 have hbig : xs.toArray.size ≤ 9223372036854775807 := by rw [hsz]; exact Nat.le_trans (Nat.le_trans hnc hcm) (by decide)
 have hcon := Go.Proofs.AnyE.slices_Compact lays_e43 (Value.int .i64) (fun _ => rfl) (Go.Proofs.EqlAt.int Try.prog 3 .i64) (Go.Proofs.NeqAt.int Try.prog 3 .i64) 0 (fun w => by kernel_rfl) g 0 cap xs.toArray W hH hbig (by rw [hsz]; exact hnc);rw [hsz] at hcon
 change Calls Try.prog 116 _ _ _ at hcon
 refine hcon.mono ?_;rintro e w' ⟨rfl, q, rfl⟩;refine ⟨rfl, Kd.R_of_own ⟨?_, .inr ⟨g, cap, Go.Sort.putCells (Value.int .i64) 0 (Go.Lib.compactUpTo xs.toArray xs.length ++ List.replicate (xs.length - (Go.Lib.compactUpTo xs.toArray xs.length).length) 0).toArray cur, rfl, hb, ?_, by omega, hcm, by simp [Go.Sort.putCells]; omega, ?_⟩⟩ (fun _ _ => trivial), grownBy_putC _ _ _ _⟩
 ·rw [encs_length, Nat.mul_one]
 ·simp [Go.Sort.putRow, Go.Sort.mapBlock, Go.Sort.ahead, Array.getElem?_modify, hh, Go.Sort.onCells]
 ·rw [Nat.mul_one]
  apply List.ext_getElem?
  intro j
  by_cases hj : j < (Go.Lib.compactUpTo xs.toArray xs.length).length
  case neg => rw [List.getElem?_take_eq_none (by omega), List.getElem?_eq_none (by rw [encs_length]; omega)]
  rw [List.getElem?_take_of_lt hj, Array.getElem?_toList];have h3 : j < cur.size := by omega
  have h4 : j < xs.length := by omega
  simp [Go.Sort.putCells, encs, h3, hj, List.getElem_append_left hj, List.getElem?_append_left hj];intro h5;omega
set_option maxHeartbeats 2000000 in
set_option maxRecDepth 100000 in
theorem compact_none (c : Nat) (w : World) : Calls Try.prog 116 #[.slice none 0 c] w fun e w' => e = .returned (.slice none 0 c) ∧ w' = w := by
 go_enter Try.func116, Try.ntmps116
 go_wp2
 go_ret;exact ⟨rfl, rfl⟩
theorem compact_R {base : Nat} {v : Value} {xs : List Int} {W : World} (hR : (Kd.int .i64).R 3 W base (fun _ => True) v xs) (hb : base ≤ W.heap.size) :
  Calls Try.prog 116 #[v] W fun e w' => ∃ v', e = .returned v' ∧ (Kd.int .i64).R 3 w' base (fun _ => True) v' (Go.Lib.compactUpTo xs.toArray xs.length) ∧ Below base W w' ∧ W.grownBy w' v.ownBlock := by
 obtain ⟨o1, o2⟩ := Kd.own_of_R hR
 rcases o2 with ⟨rfl, hz⟩ | ⟨g, cap, cur, rfl, hg, _⟩
 ·have : xs = [] := List.length_eq_zero_iff.1 hz;subst this;refine (compact_none 0 W).mono ?_;rintro e w' ⟨rfl, rfl⟩;exact ⟨_, rfl, Kd.R_nil _ _ _ _ _, Below.refl _ _, World.grownBy.refl _ _⟩
 ·refine (compact_calls g cap xs W hR).mono ?_;rintro e w' ⟨rfl, h1, h2⟩;exact ⟨_, rfl, h1, (Below.refl base W).grown h2 hb (fun k e => by obtain rfl := Option.some.inj e; exact hg), h2⟩
set_option maxHeartbeats 2000000 in
set_option maxRecDepth 100000 in
theorem values_calls (A : Option Addr) (n c : Nat) (w : World) : Calls Try.prog 118 #[.slice A n c] w fun e w' => ∃ g, e = .returned (.func (.func 144) #[] #[.pointer (some ⟨g, 0, none⟩)]) ∧ w'.heap[g]? = some (.cells #[.slice A n c] 23 (0, 0)) ∧ w.heap.size ≤ g ∧ Below w.heap.size w w' := by
 go_enter Try.func118, Try.ntmps118
 go_wp2_with (first | ((with_reducible refine gate_dst (N := 1) rfl ?_); refine box_event ?hg (N := 1) ?hd (cs := #[.slice A n c]) (t := 23) ?hr ?_; (case hd => rfl); (case hg => rfl); (case hr => first | (go_simp; done) | (go_simp; rfl)); intro gB hgB w1 hbox hb; have HB := zy hbox; have H1 := zy hb; have H2 := zy (show w.heap.size ≤ gB by rw [hgB]; exact Nat.le_refl _); clear hbox hb hgB))
 go_ret;exact ⟨gB, rfl, HB.out, H2.out, H1.out⟩
set_option maxHeartbeats 2000000 in
set_option maxRecDepth 100000 in
theorem values_stops (F : Fence) (n : Nat) (hf : F.fn 144) (hro : F.round = none) (hn : 1 ≤ n) (Bm : Nat) (A : Option Addr) (c : Nat) (xs : List Int) (hx : xs.length ≤ 100000) (w : World) (hm : w.heap[Bm]? = some (.cells #[.slice A xs.length c] 23 (0, 0))) (hr : Kd.C (Kd.int .i64) w A xs.length xs) :
  SeqStopsK F n Try.prog 144 #[.pointer (some ⟨Bm, 0, none⟩)] (fun x : Int => #[.int .i64 x]) (Below w.heap.size) (fun ss => ss = xs) (fun _ => True) xs.length w := by
 intro l J Jx W hW _ _ hY h0;have HR := zy (Kd.C_below hr hW);have HWl := zy (show w.heap.size ≤ W.heap.size from hW.size);have HY := zy hY;have H0 := zy h0;have HX := zy hx;have q0 : W.cell? ⟨Bm, 0, none⟩ = some (.slice A xs.length c) := (blk_cell (blk_below hm hW) 0).trans rfl;have hrow : ∀ W', Below w.heap.size W W' → Kd.C (Kd.int .i64) W' A xs.length xs := fun W' hB => Kd.C_below hr (hW.trans hB)
 have HROW := zy hrow;clear hm hr hY h0 hx hW hrow;refine callsIn_of_wp Try.func144 rfl hf ?_ hro;simp only [Try.ntmps144, List.size_toArray, List.length_cons, List.length_nil, Nat.reduceAdd, Nat.reduceSub, Array.replicate_succ, Array.replicate_zero, List.push_toArray, List.append_toArray, List.nil_append, List.cons_append]
 gi_wp2
 clear q0
 gi_loopw [7] (fun i wr => ∃ j : Nat, i = .int .i64 (j : Int) ∧ Aside0 (j ≤ xs.length) ∧ Aside0 (J (xs.take j) wr) ∧ Aside0 (Below w.heap.size W wr)) (fun i _ => xs.length - (intOf i).toNat)
 case atStart => exact ⟨0, rfl, ⟨Nat.zero_le _⟩, H0, ⟨Below.refl _ _⟩⟩
 case round =>
  obtain ⟨j, rfl, J0, J1, J2⟩ := hrel
  by_cases hj : j < xs.length
  case neg =>
   have c1 : decide ((j : Int) < (xs.length : Int)) = false := decide_eq_false (by omega);have c2 : decide (j < xs.length) = false := decide_eq_false hj;have hjx : j = xs.length := by have := J0.out; omega
   have hJx : J xs wr := by have h := J1.out; rwa [hjx, List.take_length] at h
   clear hj hjx
   gi_wp2
   go_end0
   exact ⟨⟨_, rfl⟩, .inl ⟨_, rfl, hJx⟩⟩
  have c1 : decide ((j : Int) < (xs.length : Int)) = true := decide_eq_true (by omega);have c2 : decide (j < xs.length) = true := decide_eq_true hj;obtain ⟨ad, e, hxc⟩ := Kd.at_int (HROW.out _ J2.out) (j : Int) (by omega) (by omega);cases e;rw [Int.toNat_natCast] at hxc;have hrd : rd xs (j : Int) = xs[j] := by simp [rd, hj]
  have hnext : xs.take j ++ [rd xs (j : Int)] = xs.take (j + 1) := by rw [hrd, List.take_succ_eq_append_getElem hj]
  have HN := zy hnext;obtain ⟨fn, tmps, assign, body, hy, hR⟩ := HY.out (xs.take j) (rd xs (j : Int)) wr J1.out (by rw [List.length_take]; omega);generalize rd xs (j : Int) = x at hxc hy hR HN;have p0 : ((0 : Int) ≤ (j : Int)) = True := eq_true (by omega);have p1 : ((j : Int) < (xs.length : Int)) = True := eq_true (by omega);have hw : wrap64 ((j : Int) + 1) = ((j + 1 : Nat) : Int) := by have h1 := HX.out; unfold wrap64; omega
  have HW := zy hw;have HJ2 := zy hj;clear hw hj hrd hnext
  gi_wp2
  refine hR.mono ?_;rintro e W3 (⟨rfl, hJ3, hk3⟩ | ⟨rfl, hJx⟩)
  ·have K2 := zy (show Below w.heap.size W W3 from J2.out.trans hk3);clear hR hy hxc hk3 J1 J2
   gi_wp2
   have hj2 := HJ2.out
   go_roundw
   case rel => exact ⟨j + 1, by rw [HW.out], ⟨by omega⟩, ⟨by rw [← HN.out]; exact hJ3⟩, K2⟩
   case measure =>
    rw [HW.out]
    show xs.length - (((j + 1 : Nat) : Int)).toNat < xs.length - ((j : Int)).toNat
    omega
  ·clear hR hy hxc J1 J2
   gi_wp2
   refine bodyPost_ret (results_none rfl _ _ _) rfl ?_;exact ⟨⟨_, rfl⟩, .inr ⟨_, trivial, hJx⟩⟩
theorem below_setCell {B b : Nat} {A W : World} (h : Below B A W) (hb : B ≤ b) (u : Value) : Below B A (W.setCell ⟨b, 0, none⟩ u) := h.setCell hb u
theorem _root_.Go.World.ownsRow.setCell_other {w : World} {base e size n b : Nat} {v : Value} {xs : List Value} (h : w.ownsRow base e size v n xs) (u : Value) (hne : v.ownBlock = none ∨ v.ownBlock ≠ some b) : (w.setCell ⟨b, 0, none⟩ u).ownsRow base e size v n xs :=
 h.kept (row := some b) (grownBy_setCell' w b u) hne
set_option maxHeartbeats 4000000 in
set_option maxRecDepth 100000 in
theorem appendSeq_in (F : Fence) (n : Nat) (h11 : F.fn 153) (hro : F.round = none) (hn : 3 ≤ n) (g : Nat) (lb : Array Value) (hFg : F.fn g) (eg : ∀ args w, (callFunc g args).run Try.prog w = .ok (.enter g args) w) (xs : List Int) (hx : xs.length ≤ 100000) (w0 w : World) (hb : Below w0.heap.size w0 w) (hs0 : w0.heap.size ≤ w.heap.size) (hseq : SeqStopsK F (n - 1) Try.prog g lb (fun x : Int => #[.int .i64 x]) (Below w0.heap.size) (fun ss => ss = xs) (fun _ => True) xs.length w0) :
  CallsIn F n Try.prog 153 #[.slice none 0 0, .func (.func g) #[] lb] w fun e w' => ∃ v, e = .returned v ∧ w'.ownsRow w.heap.size 3 1 v xs.length (xs.map (Value.int .i64)) ∧ Below w.heap.size w w' := by
 have h1 : 1 ≤ n := by omega
 obtain ⟨i0, hi, hz0, hz1, hz2⟩ := info_parts info3;refine callsIn_of_wp_marks Try.func153 rfl h11 ?_ hro;simp only [Try.ntmps153, List.size_toArray, List.length_cons, List.length_nil, Nat.reduceAdd, Nat.reduceSub, Array.replicate_succ, Array.replicate_zero, List.push_toArray, List.append_toArray, List.nil_append, List.cons_append]
 gi_wp2
 have hv0 := heap_alloc_new w (.cells #[.slice none 0 0] 23);have hB0 : Below w.heap.size w (w.alloc (.cells #[.slice none 0 0] 23)) := below_alloc (Below.refl _ _) _;have hsz : (w.alloc (.cells #[.slice none 0 0] 23)).heap.size = w.heap.size + 1 := by simp
 have hb1 : Below w0.heap.size w0 (w.alloc (.cells #[.slice none 0 0] 23)) := hb.trans (hB0.mono hs0);generalize w.alloc (.cells #[.slice none 0 0] 23) = w1 at hv0 hB0 hsz hb1 ⊢;have own_ne : ∀ {W : World} {v : Value} {k : Nat} {ys : List Value} {j : Nat} {o : Obj}, W.ownsRow w.heap.size 3 1 v k ys → W.heap[j]? = some o → (∀ cur, o ≠ .cells cur 3 (0, 0)) → v.ownBlock = none ∨ v.ownBlock ≠ some j := by
  intro W v k ys j o ho hj hno
  rcases ho.2 with ⟨rfl, _⟩ | ⟨g', cap', cur', rfl, _, hh, _⟩
  ·exact .inl (by simp [Value.ownBlock])
  ·refine .inr (fun e => ?_);have e2 : g' = j := by simpa [Value.ownBlock] using e
   subst e2;rw [hh] at hj;exact hno _ (Option.some.inj hj).symm
 refine wpIn_rangeFunc_ownF hro h1 (gf := g) (lb := lb) rfl hFg eg hseq (fun h k => h.trans k) (fun W l o o' hl hh _ _ => (Below.refl _ W).grown (grownBy_putObj' W l o') (by have := (Array.getElem?_eq_some_iff.1 hh).1; omega) (fun k e => by cases e; omega)) hb1 (fun _ => rfl)
  (fun ss W => ∃ v, W.heap[w.heap.size]? = some (.cells #[v] 23 (0, 0)) ∧ W.ownsRow w.heap.size 3 1 v ss.length (ss.map (Value.int .i64)) ∧ Below w.heap.size w W)
  (fun _ _ _ => False) ?hI (fun _ _ _ _ _ hs _ _ => hs) ⟨_, hv0, ⟨rfl, .inl ⟨rfl, rfl⟩⟩, hB0⟩
  (fun x => { tmps := #[.slice none 0 0, .func (.func g) #[] lb, .pointer (some ⟨w.heap.size, 0, none⟩), undef, .slice none 0 0, .int .i64 x, .func (.func g) #[] lb, .int .i64 x, undef, undef, undef, undef, undef], defers := [] }) ?assign ?body ?done ?stop
 case hI =>
  rintro s W W' row ⟨v, a1, a2, a3⟩ hg hr;refine ⟨v, blk_grown a1 hg (fun e => ?_), a2.kept hg ?_, a3.grown hg a3.size (fun k e => by have := (hr k e).1; omega)⟩
  ·obtain ⟨_, o, ho, hc⟩ := hr _ e.symm;rw [a1] at ho;obtain rfl := Option.some.inj ho;cases hc
  ·cases row with
   | none =>
    rcases a2.2 with ⟨rfl, _⟩ | ⟨g', cap', cur', rfl, _⟩
    ·exact .inl (by simp [Value.ownBlock])
    ·exact .inr (by simp [Value.ownBlock])
   | some r =>
    obtain ⟨_, o, ho, hc⟩ := hr r rfl;exact own_ne a2 ho (fun cur e => by subst e; cases hc)
 case assign =>
  intro l x W K hK
  gi_wp2_with (first | (rw [Oper.semAt_eq _ _ _ (fun c h => by cases h)]; go_simp; try go_bits))
  exact hK
 case body =>
  rintro l pre x W ⟨v, a1, a2, a3⟩ hlt;have hc1 : W.cell? ⟨w.heap.size, 0, none⟩ = some v := (blk_cell a1 0).trans rfl;have hs1 : w.heap.size < W.heap.size := (Array.getElem?_eq_some_iff.1 a1).1;have hne2 : some w.heap.size ≠ v.ownBlock := by
   rcases own_ne a2 a1 (fun cur e => absurd (Obj.cells.inj e).2.1 (by decide)) with e | e
   ·rw [e]; simp
   ·exact fun e2 => e e2.symm
  gi_wp2_with (first
   | (gi_at_builtin; refine wpListIn_append_own _ rfl _ _ 23 rfl w.heap.size 3 i0 (.int .i64 0) 1 8 Try.underlying23 hi hz0 hz1 hz2 rfl (by decide) v pre.length (pre.map (Value.int .i64)) rfl (a2.alloc _) ⟨W.heap.size, 0, none⟩ 1 1 [.int .i64 x] rfl rfl (cell_one_new _ _ _) (by simp [Value.oneCell']) (by unfold maxLen; omega) (by omega) (by simp; omega) ?_; intro v' w3 hown' hg3 hnil3; have hv3 : w3.heap[w.heap.size]? = some (.cells #[v] 23 (0, 0)) := (hg3.block _ (by simp; omega) hne2).trans ((Below.heap_alloc _ _ _ hs1).trans a1); have hc3 : w3.cell? ⟨w.heap.size, 0, none⟩ = some v := (blk_cell hv3 0).trans rfl; have hf3 : w3.frozen? ⟨w.heap.size, 0, none⟩ = false := blk_frozen hv3 0; obtain ⟨g', cap', rfl⟩ : ∃ g' cap', v' = .slice (some ⟨g', 0, none⟩) (pre.length + 1) cap' := (by rcases hown'.2 with ⟨_, h0⟩ | ⟨g', cap', cur', e, _⟩; (exact absurd h0 (by omega)); exact ⟨g', cap', e⟩))
   | (rw [Oper.semAt_eq _ _ _ (fun c h => by cases h)]; go_simp; try go_bits))
  have hw3 : W.heap.size + 1 ≤ w3.heap.size := by have := hg3.size; simpa using this
  have hk3 : KeepsOthers (W.alloc (.cells #[.int .i64 x] 3)) w3 := KeepsOthers.of_grownBy hg3 (fun j o hj ho => by
   rcases (a2.alloc (.cells #[.int .i64 x] 3)).2 with ⟨rfl, _⟩ | ⟨g', cap', cur', rfl, _, hh, _⟩
   ·simp [Value.ownBlock] at hj
   ·have e2 : g' = j := by simpa [Value.ownBlock] using hj
    subst e2;rw [hh] at ho;rw [← Option.some.inj ho];rfl)
  have hb3 : Below w.heap.size w w3 := (a3.alloc a3.size _).grown hg3 (by have := a3.size; simp; omega) (fun k e => by
   rcases a2.2 with ⟨rfl, _⟩ | ⟨g', cap', cur', rfl, hb', _⟩
   ·simp [Value.ownBlock] at e
   ·have e2 : g' = k := by simpa [Value.ownBlock] using e
    omega)
  have hK3 : Below w0.heap.size W w3 := ((Below.refl w0.heap.size W).alloc (by have := a3.size; omega) _).grown hg3 (by have := a3.size; simp; omega) (fun k e => by
   rcases a2.2 with ⟨rfl, _⟩ | ⟨g', cap', cur', rfl, hb', _⟩
   ·simp [Value.ownBlock] at e
   ·have e2 : g' = k := by simpa [Value.ownBlock] using e
    omega)
  refine ⟨((KeepsOthers.alloc W _).trans hk3).trans (KeepsOthers.setCell _ _ _), below_setCell hK3 hs0 _, .slice (some ⟨g', 0, none⟩) (pre.length + 1) cap', ?_, ?_, below_setCell hb3 (Nat.le_refl _) _⟩
  ·exact blk_set hv3 0 _
  ·rw [List.length_append, List.map_append];exact hown'.setCell_other _ (own_ne hown' hv3 (fun cur e => absurd (Obj.cells.inj e).2.1 (by decide)))
 case done =>
  rintro D ss W hD rfl ⟨v, a1, a2, a3⟩ hK;have hc1 : W.cell? ⟨w.heap.size, 0, none⟩ = some v := (blk_cell a1 0).trans rfl
  gi_wp2
  refine ⟨by simp, .inl ⟨_, _, rfl, run_takeDeferred hK, ?_⟩⟩;refine ⟨_, results_tmp rfl _ _ _, v, rfl, a2.kept (grownBy_putObj' _ _ _) (own_ne a2 hK (fun cur e => by cases e)), a3.grown (grownBy_putObj' _ _ _) a3.size (fun k e => by cases e; omega)⟩
 case stop =>
  rintro D c pre W _ _ h _;exact h.elim
def rho_m5 : Go.Shelf.Ren := ⟨fun n => if n = 5 then 143 else if n = 7 then 154 else if n = 8 then 155 else if n = 10 then 159 else if n = 11 then 160 else if n = 12 then 161 else if n = 13 then 162 else if n = 14 then 163 else if n = 15 then 164 else if n = 16 then 126 else if n = 17 then 165 else if n = 18 then 166 else if n = 19 then 167 else if n = 20 then 168 else if n = 30 then 170 else if n = 31 then 171 else if n = 32 then 172 else if n = 33 then 173 else if n = 34 then 174 else if n = 35 then 135 else if n = 40 then 175 else n, fun n => if n = 22 then 23 else if n = 25 then 3 else if n = 32 then 140 else if n = 35 then 160 else if n = 36 then 161 else if n = 41 then 55 else if n = 44 then 153 else if n = 46 then 156 else if n = 53 then 168 else if n = 57 then 172 else if n = 63 then 174 else if n = 64 then 175 else n, fun n => n⟩
theorem lays_m5 : Go.Proofs.SlLaysM.n5 Try.prog rho_m5 where
 mixed := by kernel_rfl
 f5 := ⟨"slices.Sort[[]int,int]", by decide, by kernel_rfl⟩
 f7 := ⟨"slices.pdqsortOrdered[int]", by decide, by kernel_rfl⟩
 f8 := by kernel_rfl
 f10 := ⟨"slices.insertionSortOrdered[int]", by decide, by kernel_rfl⟩
 f11 := ⟨"slices.heapSortOrdered[int]", by decide, by kernel_rfl⟩
 f12 := ⟨"slices.breakPatternsOrdered[int]", by decide, by kernel_rfl⟩
 f13 := ⟨"slices.choosePivotOrdered[int]", by decide, by kernel_rfl⟩
 f14 := ⟨"slices.reverseRangeOrdered[int]", by decide, by kernel_rfl⟩
 f15 := ⟨"slices.partialInsertionSortOrdered[int]", by decide, by kernel_rfl⟩
 f16 := ⟨"cmp.Less[int]", by decide, by kernel_rfl⟩
 f17 := ⟨"slices.partitionEqualOrdered[int]", by decide, by kernel_rfl⟩
 f18 := ⟨"slices.partitionOrdered[int]", by decide, by kernel_rfl⟩
 f19 := by kernel_rfl
 f20 := by kernel_rfl
 f30 := ⟨"slices.siftDownOrdered[int]", by decide, by kernel_rfl⟩
 f31 := by kernel_rfl
 f32 := by kernel_rfl
 f33 := ⟨"slices.medianAdjacentOrdered[int]", by decide, by kernel_rfl⟩
 f34 := ⟨"slices.medianOrdered[int]", by decide, by kernel_rfl⟩
 f35 := ⟨"cmp.isNaN[int]", by decide, by kernel_rfl⟩
 f40 := ⟨"slices.order2Ordered[int]", by decide, by kernel_rfl⟩
 t0 := by kernel_rfl
 a0 := fun w => by kernel_rfl
 z0 := fun w => by kernel_rfl
 v0 := fun w => by kernel_rfl
 t3 := by kernel_rfl
 a3 := fun w => by kernel_rfl
 z3 := fun w => by kernel_rfl
 v3 := fun w => by kernel_rfl
 t4 := by kernel_rfl
 a4 := fun w => by kernel_rfl
 z4 := fun w => by kernel_rfl
 v4 := fun w => by kernel_rfl
 t5 := by kernel_rfl
 a5 := fun w => by kernel_rfl
 z5 := fun w => by kernel_rfl
 v5 := fun w => by kernel_rfl
 t9 := by kernel_rfl
 a9 := fun w => by kernel_rfl
 z9 := fun w => by kernel_rfl
 v9 := fun w => by kernel_rfl
 t22 := by kernel_rfl
 a22 := fun w => by kernel_rfl
 z22 := fun w => by kernel_rfl
 v22 := fun w => by kernel_rfl
 t23 := by kernel_rfl
 a23 := fun w => by kernel_rfl
 z23 := fun w => by kernel_rfl
 v23 := fun w => by kernel_rfl
 t25 := by kernel_rfl
 a25 := fun w => by kernel_rfl
 z25 := fun w => by kernel_rfl
 v25 := fun w => by kernel_rfl
 t32 := by kernel_rfl
 a32 := fun w => by kernel_rfl
 z32 := fun w => by kernel_rfl
 v32 := fun w => by kernel_rfl
 t35 := by kernel_rfl
 a35 := fun w => by kernel_rfl
 z35 := fun w => by kernel_rfl
 v35 := fun w => by kernel_rfl
 t36 := by kernel_rfl
 a36 := fun w => by kernel_rfl
 z36 := fun w => by kernel_rfl
 v36 := fun w => by kernel_rfl
 t41 := by kernel_rfl
 a41 := fun w => by kernel_rfl
 z41 := fun w => by kernel_rfl
 v41 := fun w => by kernel_rfl
 t44 := by kernel_rfl
 a44 := fun w => by kernel_rfl
 z44 := fun w => by kernel_rfl
 v44 := fun w => by kernel_rfl
 t46 := by kernel_rfl
 a46 := fun w => by kernel_rfl
 z46 := fun w => by kernel_rfl
 v46 := fun w => by kernel_rfl
 t53 := by kernel_rfl
 a53 := fun w => by kernel_rfl
 z53 := fun w => by kernel_rfl
 v53 := fun w => by kernel_rfl
 t57 := by kernel_rfl
 a57 := fun w => by kernel_rfl
 z57 := fun w => by kernel_rfl
 v57 := fun w => by kernel_rfl
 t63 := by kernel_rfl
 a63 := fun w => by kernel_rfl
 z63 := fun w => by kernel_rfl
 v63 := fun w => by kernel_rfl
 t64 := by kernel_rfl
 a64 := fun w => by kernel_rfl
 z64 := fun w => by kernel_rfl
 v64 := fun w => by kernel_rfl
set_option maxHeartbeats 2000000 in
set_option maxRecDepth 100000 in
theorem collect_calls (Bm : Nat) (A : Option Addr) (c : Nat) (xs : List Int) (hx : xs.length ≤ 100000) (w : World) (hm : w.heap[Bm]? = some (.cells #[.slice A xs.length c] 23 (0, 0))) (hr : Kd.C (Kd.int .i64) w A xs.length xs) :
  Calls Try.prog 142 #[.func (.func 144) #[] #[.pointer (some ⟨Bm, 0, none⟩)]] w fun e w' => ∃ v, e = .returned v ∧ w'.ownsRow w.heap.size 3 1 v xs.length (xs.map (Value.int .i64)) ∧ Below w.heap.size w w' := by
 have hv := values_stops Fence.wide 2 trivial rfl (by omega) Bm A c xs hx w hm hr;have ha := callsIn_wide.1 (appendSeq_in Fence.wide 3 trivial rfl (by omega) 144 #[.pointer (some ⟨Bm, 0, none⟩)] trivial (enters_of Try.func144 (by kernel_rfl) rfl) xs hx w w (Below.refl _ _) (Nat.le_refl _) hv);clear hv hm hr
 go_enter Try.func142, Try.ntmps142
 go_wp2_with (go_at_call 153; refine ha.mono ?_; rintro e W ⟨v, rfl, hrow, hb⟩)
 go_ret;exact ⟨v, rfl, hrow, hb⟩
set_option maxHeartbeats 2000000 in
set_option maxRecDepth 100000 in
theorem sorted_calls (Bm : Nat) (A : Option Addr) (c : Nat) (xs : List Int) (hx : xs.length ≤ 100000) (w : World) (hm : w.heap[Bm]? = some (.cells #[.slice A xs.length c] 23 (0, 0))) (hr : Kd.C (Kd.int .i64) w A xs.length xs) :
  Calls Try.prog 117 #[.func (.func 144) #[] #[.pointer (some ⟨Bm, 0, none⟩)]] w fun e w' => ∃ v, e = .returned v ∧ Kd.R (Kd.int .i64) 3 w' w.heap.size (fun _ => True) v (xs.mergeSort fun x y => decide (x ≤ y)) ∧ Below w.heap.size w w' := by
 have hcol := collect_calls Bm A c xs hx w hm hr;clear hm hr
 go_enter Try.func117, Try.ntmps117
 go_wp2_with (go_at_call 142; refine hcol.mono ?_; rintro e W ⟨v, rfl, hrow, hb⟩)
 have hlen : (xs.mergeSort fun x y => decide (x ≤ y)).length = xs.length := List.length_mergeSort _
 rcases hrow.2 with ⟨rfl, hz⟩ | ⟨gb, cap, cur, rfl, hbase, hgb, r1, r2, r3, r4⟩
 ·have hss : xs = [] := List.eq_nil_of_length_eq_zero hz;subst hss;have hs := Go.Proofs.AnyM.slices_Sort_int_none lays_m5 none 0 W
  change Calls Try.prog 143 _ _ _ at hs
  go_wp2_with (go_at_call 143; refine hs.mono ?_; rintro e w' ⟨rfl, rfl⟩)
  go_ret;refine ⟨_, rfl, ?_, hb⟩;rw [show (([] : List Int).mergeSort fun x y => decide (x ≤ y)) = [] from List.mergeSort_nil];exact Kd.R_nil _ _ _ _ _
 ·have hH : Go.Sort.Holds (Value.int .i64) W gb 0 xs.toArray := by
   intro j hj;have hj : j < xs.length := by simpa using hj
   refine ⟨?_, blk_frozen hgb _⟩;rw [Nat.zero_add, blk_cell hgb];have h4 : (cur.toList.take (xs.length * 1))[j]? = (xs.map (Value.int .i64))[j]? := by rw [r4]
   rw [List.getElem?_take_of_lt (by omega), Array.getElem?_toList] at h4;rw [h4];simp [hj]
  have hs := Go.Proofs.AnyM.slices_Sort_int lays_m5 gb 0 cap xs W hH (blk_lt hgb) (by omega)
  change Calls Try.prog 143 _ _ _ at hs
  go_wp2_with (go_at_call 143; refine hs.mono ?_; rintro e w' ⟨rfl, nn, os, rfl⟩)
  go_ret;have hR := Go.ownsRow_sortedI (n := nn) (os := os) hlen hbase hgb r1 r2 r3;have hg := Go.grownBy_sortedI (w := W) (g := gb) (n := nn) (os := os) (xs.mergeSort fun x y => decide (x ≤ y)).toArray;refine ⟨_, rfl, Kd.R_of_own (World.ownsRow.two (by rw [hlen]; exact hR)) (fun _ _ => trivial), hb.grown hg hb.size (fun j hj => by cases hj; exact hbase)⟩
end Go.Proofs.Ytlhmljngjdfbpaa.Pr
end
section
namespace Go.Proofs.Ytlhmljngjdfbpaa.Pr
open Go.RowKit Go.Proofs.YtlhmljngjdfbpaaW.PrintWords Go.Proofs.YtlhmljngjdfbpaaW.PrintLast Go.Proofs.YtlhmljngjdfbpaaW.PrintMore
attribute [local go_sem] max2_int min2_int max_two min_two max_three min_three max_four min_four
set_option linter.unusedVariables false
set_option linter.unusedSimpArgs false
open List renaming setIfInBounds_toArray → V,set_cons_zero → Z,set_cons_succ → zx
open Go.Proofs.YtlhmljngjdfbpaaW.PrintWords.Aside0 renaming mk → zy
def sortedOnce (x : List Int) : List Int:=Go.Lib.compactUpTo (x.mergeSort fun x y => decide (x ≤ y)).toArray (x.mergeSort fun x y => decide (x ≤ y)).length
def impl_TreeCost.f (k : Nat) (a0_0 : Int) (l0_1 : List S58) (l1 : List Int) : Option Int:=(impl_arcsOk.f a0_0 l0_1 l1).bind fun b => if b = true then if l1.length ≤ 100000 then impl_Net_cost.f k a0_0 l0_1 (sortedOnce l1) else none else some (-1)
set_option maxHeartbeats 8000000 in
set_option maxRecDepth 100000 in
theorem impl_TreeCost.calls (k : Nat) (a0_0 : Int) (A0_1 : Option Addr) (c0_1 : Nat) (l0_1 : List S58) (A1 : Option Addr) (c1 : Nat) (l1 : List Int) (r : Int) (w : World) (hr0_1 : Kd.C k58 w A0_1 l0_1.length l0_1) (hc0_1 : l0_1.length ≤ c0_1) (hr1 : Kd.C (Kd.int .i64) w A1 l1.length l1) (hc1 : l1.length ≤ c1) (h : impl_TreeCost.f k a0_0 l0_1 l1 = some r) :
  Calls Try.prog 60 #[.agg #[.int .i64 a0_0,.slice A0_1 l0_1.length c0_1],.slice A1 l1.length c1] w fun e w' => e = .returned (.int .i64 r) ∧ Below w.heap.size w w':=by
 have hu:=Try.underlying34;have HR:=zy hr0_1;have HC:=zy hc0_1;have HR1:=zy hr1;have HC1:=zy hc1;clear hr0_1 hc0_1 hr1 hc1
 unfold impl_TreeCost.f at h
 obtain ⟨b0,h0,h⟩:=Option.bind_eq_some_iff.1 h;have E0:=zy h0;clear h0;cases b0 with
 | false =>
  obtain rfl : (-1 : Int) = r:=by simpa using h
  clear h
  go_enter Try.func60,Try.ntmps60
  go_wp2_with (first
   | ((with_reducible refine gate_dst (N:=2) rfl ?_); refine box_event ?hg (N:=2) ?hd (cs:=#[.int .i64 a0_0,.slice A0_1 l0_1.length c0_1]) (t:=34) ?hr ?_; (case hd => rfl); (case hg => rfl); (case hr => first | (go_simp; done) | (go_simp; rfl)); intro gN hgN w1 hbox hb; have M1:=zy hbox; have B1:=zy hb; have q10 : w1.cell? ⟨gN,0,none⟩ = some (.int .i64 a0_0):=(blk_cell hbox 0).trans rfl; have q11 : w1.cell? ⟨gN,1,none⟩ = some (.slice A0_1 l0_1.length c0_1):=(blk_cell hbox 1).trans rfl; clear hbox hb hgN)
   | (go_at_call 110; refine (impl_arcsOk.calls a0_0 A0_1 c0_1 l0_1 A1 c1 l1 false w1 (Kd.C_below HR.out B1.out) HC.out (Kd.C_below HR1.out B1.out) HC1.out E0.out).mono ?_; rintro e w2 ⟨rfl,hB⟩; have B2:=zy (below_step B1.out hB); clear hB q10 q11))
  go_ret;exact ⟨rfl,B2.out⟩
 | true =>
  rw [if_pos rfl] at h;have hcond : l1.length ≤ 100000:=by
   by_cases hc : l1.length ≤ 100000
   case pos => exact hc
   rw [if_neg hc] at h; exact absurd h (by simp)
  rw [if_pos hcond] at h;have HT:=zy h;have HX:=zy hcond;clear h hcond
  go_enter Try.func60,Try.ntmps60
  go_wp2_with (first
   | ((with_reducible refine gate_dst (N:=2) rfl ?_); refine box_event ?hg (N:=2) ?hd (cs:=#[.int .i64 a0_0,.slice A0_1 l0_1.length c0_1]) (t:=34) ?hr ?_; (case hd => rfl); (case hg => rfl); (case hr => first | (go_simp; done) | (go_simp; rfl)); intro gN hgN w1 hbox hb; have M1:=zy hbox; have B1:=zy hb; have q10 : w1.cell? ⟨gN,0,none⟩ = some (.int .i64 a0_0):=(blk_cell hbox 0).trans rfl; have q11 : w1.cell? ⟨gN,1,none⟩ = some (.slice A0_1 l0_1.length c0_1):=(blk_cell hbox 1).trans rfl; clear hbox hb hgN)
   | (go_at_call 110; refine (impl_arcsOk.calls a0_0 A0_1 c0_1 l0_1 A1 c1 l1 true w1 (Kd.C_below HR.out B1.out) HC.out (Kd.C_below HR1.out B1.out) HC1.out E0.out).mono ?_; rintro e w2 ⟨rfl,hB⟩; have B2:=zy (below_step B1.out hB); have M2:=zy (blk_below M1.out hB); have q20 : w2.cell? ⟨gN,0,none⟩ = some (.int .i64 a0_0):=(blk_cell M2.out 0).trans rfl; have q21 : w2.cell? ⟨gN,1,none⟩ = some (.slice A0_1 l0_1.length c0_1):=(blk_cell M2.out 1).trans rfl; clear hB q10 q11))
  refine start_ (n:=7) (S:=fun w' => w'.cell? ⟨gN,0,none⟩ = some (.int .i64 a0_0) ∧ w'.cell? ⟨gN,1,none⟩ = some (.slice A0_1 l0_1.length c0_1)) (ds:=[]) #[false,false,false,false,false,false,false] (by kernel_rfl) rfl rfl ⟨q20,q21⟩ (fun hHeld => ?_);clear q20 q21;have M2d:=zy (blk_drew M2.out);have B2d:=zy (below_drew B2.out);clear M2 B2 M1 B1;generalize w2.drew = w2d at M2d B2d hHeld ⊢;refine pure_ (i:=1) (N:=some 10) (v:=?_) (a':=?_) #[false,true,false,false,false,false,false] rfl rfl (by kernel_rfl) (fun _ _ _ h => h) (Or.inl ⟨by rfl,?_⟩) ?_ ?_;rotate_left
  ·intro w';go_simp;with_reducible rfl
  rotate_left
  ·simp only [Act.put,V,Z,zx,i64_w,i32_w];rfl
  refine take_ (i:=0) (N:=some 9) (v:=?_) (a':=?_) #[true,true,false,false,false,false,false] rfl rfl (by kernel_rfl) (fun _ _ _ h => h) (Or.inl ⟨by rfl,?_⟩) hHeld ?_ ?_;rotate_left
  ·rintro w' ⟨s0,s1⟩;go_simp;with_reducible rfl
  rotate_left
  ·simp only [Act.put,V,Z,zx,i64_w,i32_w];rfl
  refine one_ (i:=2) (N:=some 11) #[true,true,true,false,false,false,false] rfl rfl (by kernel_rfl) (by decide) (fun K hK => ?_);replace hK:=zy hK;refine goes_ Try.func118 (by kernel_rfl) rfl #[.slice A1 l1.length c1] (by rfl) rfl rfl (by (try simp only [List.map_toArray,List.map_cons,List.map_nil]); first | done | rfl) ?_;refine (values_calls A1 l1.length c1 _).mono ?_;rintro e w3 ⟨gB,rfl,hB1,hB2,hB3⟩;refine ⟨_,rfl,?_⟩;have V3:=zy hB1;have M3:=zy (blk_below (by repeat (first | exact M2d.out | apply blk_drew | refine blk_drewN ?_ _)) hB3);have B3:=zy (below_step (by repeat (first | exact B2d.out | apply below_drew | apply pw_below_drewN)) hB3);clear hB1 hB2 hB3;refine hK.out _ _ ⟨(blk_cell M3.out 0).trans rfl,(blk_cell M3.out 1).trans rfl⟩ (fun hHeld => ?_);clear hK K;refine norm_ (a':=?_) ?_ ?_;rotate_left
  ·show Act.put _ (some 11) _ = _
   simp only [Act.put,V,Z,zx,i64_w,i32_w];rfl
  refine one_ (i:=3) (N:=some 12) #[true,true,true,true,false,false,false] rfl rfl (by kernel_rfl) (by decide) (fun K hK => ?_);replace hK:=zy hK;refine goes_ Try.func117 (by kernel_rfl) rfl #[.func (.func 144) #[] #[.pointer (some ⟨gB,0,none⟩)]] (by rfl) rfl rfl (by (try simp only [List.map_toArray,List.map_cons,List.map_nil]); first | done | rfl) ?_;refine (sorted_calls gB A1 c1 l1 HX.out _ (by repeat (first | exact V3.out | apply blk_drew | refine blk_drewN ?_ _)) (Kd.C_below HR1.out (by repeat (first | exact B3.out | apply below_drew | apply pw_below_drewN)))).mono ?_;rintro e w4 ⟨v4,rfl,hR4,hb4⟩;refine ⟨_,rfl,?_⟩;have R4:=zy (Kd.R_lower hR4 (below_size (by repeat (first | exact B3.out | apply below_drew | apply pw_below_drewN))));have M4:=zy (blk_below (by repeat (first | exact M3.out | apply blk_drew | refine blk_drewN ?_ _)) hb4);have B4:=zy (below_step (by repeat (first | exact B3.out | apply below_drew | apply pw_below_drewN)) hb4);clear hR4 hb4;refine hK.out _ _ ⟨(blk_cell M4.out 0).trans rfl,(blk_cell M4.out 1).trans rfl⟩ (fun hHeld => ?_);clear hK K;refine norm_ (a':=?_) ?_ ?_;rotate_left
  ·show Act.put _ (some 12) _ = _
   simp only [Act.put,V,Z,zx,i64_w,i32_w];rfl
  refine one_ (i:=4) (N:=some 13) #[true,true,true,true,true,false,false] rfl rfl (by kernel_rfl) (by decide) (fun K hK => ?_);replace hK:=zy hK;refine goes_ Try.func116 (by kernel_rfl) rfl #[v4] (by rfl) rfl rfl (by (try simp only [List.map_toArray,List.map_cons,List.map_nil]); first | done | rfl) ?_;refine (compact_R (by repeat (first | exact R4.out | apply Kd.R_drew | apply Kd.R_drewN)) (below_size (by repeat (first | exact B4.out | apply below_drew | apply pw_below_drewN)))).mono ?_;rintro e w5 ⟨v5,rfl,hR5,hb5,hg5⟩;obtain ⟨A5,c5,rfl⟩:=Kd.R_slice hR5;refine ⟨_,rfl,?_⟩;have R5:=zy hR5;have B5:=zy (Below.trans (by repeat (first | exact B4.out | apply below_drew | apply pw_below_drewN)) hb5);have M5:=zy (blk_grown (by repeat (first | exact M4.out | apply blk_drew | refine blk_drewN ?_ _)) hg5 (Kd.R_ne (by repeat (first | exact R4.out | apply Kd.R_drew | apply Kd.R_drewN)) (by repeat (first | exact M4.out | apply blk_drew | refine blk_drewN ?_ _)) (by decide)));clear hR5 hb5 hg5;refine hK.out _ _ ⟨(blk_cell M5.out 0).trans rfl,(blk_cell M5.out 1).trans rfl⟩ (fun hHeld => ?_);clear hK K;refine norm_ (a':=?_) ?_ ?_;rotate_left
  ·show Act.put _ (some 13) _ = _
   simp only [Act.put,V,Z,zx,i64_w,i32_w];rfl
  refine one_ (i:=5) (N:=some 14) #[true,true,true,true,true,true,false] rfl rfl (by kernel_rfl) (by decide) (fun K hK => ?_);replace hK:=zy hK;refine goes_ Try.func115 (by kernel_rfl) rfl #[.agg #[.int .i64 a0_0,.slice A0_1 l0_1.length c0_1],.slice A5 (sortedOnce l1).length c5] (by rfl) rfl rfl (by (try simp only [List.map_toArray,List.map_cons,List.map_nil]); first | done | rfl) ?_;refine (impl_Net_cost.calls k a0_0 A0_1 c0_1 l0_1 A5 c5 (sortedOnce l1) r _ (Kd.C_below HR.out (by repeat (first | exact B5.out | apply below_drew | apply pw_below_drewN))) HC.out (Kd.R_reads' (by repeat (first | exact R5.out | apply Kd.R_drew | apply Kd.R_drewN))).2.2 (Kd.R_reads' (by repeat (first | exact R5.out | apply Kd.R_drew | apply Kd.R_drewN))).2.1 HT.out).mono ?_;rintro e w6 ⟨rfl,hb6⟩;refine ⟨_,rfl,?_⟩;have M6:=zy (blk_below (by repeat (first | exact M5.out | apply blk_drew | refine blk_drewN ?_ _)) hb6);have B6:=zy (below_step (by repeat (first | exact B5.out | apply below_drew | apply pw_below_drewN)) hb6);clear hb6;refine hK.out _ _ ⟨(blk_cell M6.out 0).trans rfl,(blk_cell M6.out 1).trans rfl⟩ (fun hHeld => ?_);clear hK K;refine norm_ (a':=?_) ?_ ?_;rotate_left
  ·show Act.put _ (some 14) _ = _
   simp only [Act.put,V,Z,zx,i64_w,i32_w];rfl
  refine pure_ (i:=6) (N:=some 4) (v:=?_) (a':=?_) #[true,true,true,true,true,true,true] rfl rfl (by kernel_rfl) (fun _ _ _ h => h) (Or.inl ⟨by rfl,?_⟩) ?_ ?_;rotate_left
  ·intro w';go_simp;with_reducible rfl
  rotate_left
  ·simp only [Act.put,V,Z,zx,i64_w,i32_w];rfl
  refine done_ (by kernel_rfl) ?_
  go_wp2
  go_ret;exact ⟨rfl,(by repeat (first | exact B6.out | apply below_drew | apply pw_below_drewN))⟩
end Go.Proofs.Ytlhmljngjdfbpaa.Pr
end
