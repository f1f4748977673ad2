/- For the statement FnRingWay of this seat: it is proved here, with no further conditions (part 6 of its texts: words, walks of the functions, the plain law, the row). -/
import Derived.Test.YtljdcinpjnijcaaKFnRingWay4
section
namespace Go.Proofs.Ytljdcinpjnijcaa.Pr
open Go.RowKit Go.Proofs.YtljdcinpjnijcaaW.PrintWords Go.Proofs.YtljdcinpjnijcaaW.PrintLast Go.Proofs.YtljdcinpjnijcaaW.PrintMore
attribute [local go_sem] max2_int min2_int max_two min_two max_three min_three max_four min_four
set_option linter.unusedVariables false
set_option linter.unusedSimpArgs false
open List renaming setIfInBounds_toArray → U,set_cons_zero → V,set_cons_succ → Z
open Go.Proofs.YtljdcinpjnijcaaW.PrintWords.Aside0 renaming mk → zx
mutual
def impl_RingBest.l0 : Nat → List Int → Int → List (S34) → Int → Int → Int → List (S34) → Option (List Int × Int)
 | 0,_,_,_,_,_,_,_ => none
 | k + 1,x4,x5,x14,x15,x16,q0,q1 => if x16 < x15 then (if 0 ≤ x16 then (if x16 < (x14.length : Int) then ((impl_Net_best.f k q0 q1 ((rd_T34 x14 x16).f1) ((rd_T34 x14 x16).f0)).bind fun bt779 => (if bt779.2 = true then ((impl_Net_cost.f k q0 q1 bt779.1).bind fun t783 => (impl_RingBest.j1 k x4 x5 x16 bt779.1 x14 x15 x16 (decide ((wrap64 (((rd_T34 x14 x16).f2) + t783)) < x5)) q0 q1 ((rd_T34 x14 x16).f0) ((rd_T34 x14 x16).f1) ((rd_T34 x14 x16).f2) ((rd_T34 x14 x16).f3) ((rd_T34 x14 x16).f4))) else (impl_RingBest.j1 k x4 x5 x16 bt779.1 x14 x15 x16 false q0 q1 ((rd_T34 x14 x16).f0) ((rd_T34 x14 x16).f1) ((rd_T34 x14 x16).f2) ((rd_T34 x14 x16).f3) ((rd_T34 x14 x16).f4)))) else (none)) else (none)) else (some (x4,x5))
def impl_RingBest.j1 : Nat → List Int → Int → Int → List Int → List (S34) → Int → Int → Bool → Int → List (S34) → Int → Int → Int → Int → Int → Option (List Int × Int)
 | 0,_,_,_,_,_,_,_,_,_,_,_,_,_,_,_ => none
 | k + 1,x4,x5,x6,x8,x14,x15,x16,x40,q0,q1,x779000,x779001,t1,x779003,x779004 => if x40 = true then ((slices_Concat_int_int.f (([(([x6] : List Int)),x8] : List (List Int)))).bind fun t790 => ((impl_Net_cost.f k q0 q1 x8).bind fun t793 => (impl_RingBest.l0 k t790 (wrap64 (t1 + t793)) x14 x15 (wrap64 (x16 + 1)) q0 q1))) else (impl_RingBest.l0 k x4 x5 x14 x15 (wrap64 (x16 + 1)) q0 q1)
end
def impl_RingBest.f (k : Nat) (a0_0 : Int) (l0_1 : List (S34)) : Option (List Int × Int):=(impl_NetOk.f a0_0 l0_1).bind fun t774 => (if t774 = true then (impl_RingBest.l0 k ([] : List Int) 99999 l0_1 (l0_1.length : Int) 0 a0_0 l0_1) else (some (([] : List Int),(-1))))
def impl_RingBest.T9 : Bool × List (List Nat × List Nat):=(true,[([],[]),([0],[0]),([1],[1]),([2,1],[1,2]),([1],[1]),([1],[1]),([4,5,1,1],[1,4,5]),([3,6,1],[1,3,6]),([1],[1]),([7,8,1],[1,7,8]),([1,9],[1,9])])
def impl_RingBest.B9 : List Nat:=[0,1,3,7,3,3,51,127,3,511,1023]
theorem impl_RingBest.tab9 : rtab .any (opsOf Try.f37 9) = impl_RingBest.T9:=by kernel_rfl
theorem impl_RingBest.bits9 : waitsOk impl_RingBest.T9.2 impl_RingBest.B9 = true:=by kernel_rfl
def impl_RingBest.T10 : Bool × List (List Nat × List Nat):=(true,[([],[]),([0],[0]),([],[]),([1,2],[1,2]),([3],[3]),([],[]),([5],[5]),([],[]),([],[]),([7,8,4],[7,8]),([6,9],[6,9]),([4,9,0,1,2,3,4],[4]),([10,11,0,1,2,3,4,5,6,7,8,9,10,11],[10])])
def impl_RingBest.B10 : List Nat:=[0,1,0,7,15,0,32,0,0,415,1023,927,4095]
theorem impl_RingBest.tab10 : rtab .any (opsOf Try.f37 10) = impl_RingBest.T10:=by kernel_rfl
theorem impl_RingBest.bits10 : waitsOk impl_RingBest.T10.2 impl_RingBest.B10 = true:=by kernel_rfl
set_option maxHeartbeats 8000000 in
set_option maxRecDepth 100000 in
theorem impl_RingBest.calls (k : Nat) (a0_0 : Int) (A0_1 : Option Addr) (c0_1 : Nat) (l0_1 : List (S34)) (r1 : List Int) (r2 : Int) (w : World) (hr0_1 : Kd.C k34 w A0_1 l0_1.length l0_1) (hc0_1 : l0_1.length ≤ c0_1) (h : impl_RingBest.f k a0_0 l0_1 = some (r1,r2)) :
  Calls Try.prog 37 #[.agg #[.int .i64 a0_0,.slice A0_1 l0_1.length c0_1]] w fun e w' => ∃ v0_ : Value,e = .returned (.tuple #[v0_,.int .i64 r2]) ∧ Kd.R (Kd.int .i64) 3 w' w.heap.size (fun _ => True) v0_ r1 ∧ Below w.heap.size w w':=by
 have hu25:=Try.underlying25;have hu34:=Try.underlying34;have r0:=zx hr0_1;have r4:=zx hc0_1;clear hr0_1 hc0_1;have HB:=zx (Below.refl w.heap.size w);have H : ((impl_NetOk.f a0_0 l0_1).bind fun t774 => (if t774 = true then (impl_RingBest.l0 k ([] : List Int) 99999 l0_1 (l0_1.length : Int) 0 a0_0 l0_1) else (some (([] : List Int),(-1))))) = some (r1,r2):=h;clear h;replace H:=Option.bind_eq_some_iff.mp H;obtain ⟨t774,A20,H⟩:=H;replace H : (if t774 = true then (impl_RingBest.l0 k ([] : List Int) 99999 l0_1 (l0_1.length : Int) 0 a0_0 l0_1) else (some (([] : List Int),(-1)))) = some (r1,r2):=H;have A2:=zx A20;clear A20
 by_cases c3 : t774 = true
 case neg =>
  replace c3:=Bool.eq_false_iff.mpr c3;subst c3;have H1 : (some (([] : List Int),(-1))) = some (r1,r2):=by rw [if_neg (show ¬ (false = true) by decide)] at H; exact H
  clear H;have H:=H1;clear H1;simp only [Option.some.injEq,Prod.mk.injEq] at H;obtain ⟨rfl,rfl⟩:=H
  go_enter Try.func37,Try.ntmps37
  go_wp2_with (first | ((with_reducible refine gate_dst (N:=1) rfl ?_); refine box_event ?hg (N:=1) ?hd (cs:=#[.int .i64 a0_0,.slice A0_1 l0_1.length c0_1]) (t:=25) ?hr ?_; (case hd => rfl); (case hg => rfl); (case hr => first | (go_simp; done) | (go_simp; rfl)); intro p5 hg w39 hbox hb; have n0_:=zx (below_step HB.out hb); have n1_:=zx (hbox); have n2_:=zx ((by rw [hg]; exact (below_size HB.out) : w.heap.size ≤ p5)); have n3_:=zx ((by rw [hg]; exact (below_size HB.out) : w.heap.size ≤ p5)); clear HB; have HB:=n0_; have p3:=n1_; have GW773:=n2_; have q2:=n3_; clear n0_ n1_ n2_ n3_; clear hb hbox hg; have hcz40_0 : w39.cell? ⟨p5,0,none⟩ = some (.int .i64 a0_0):=(blk_cell p3.out 0).trans rfl; have hcz40_1 : w39.cell? ⟨p5,1,none⟩ = some (.slice A0_1 l0_1.length c0_1):=(blk_cell p3.out 1).trans rfl; have hfz40_0:=blk_frozen p3.out 0; have hfz40_1:=blk_frozen p3.out 1) | ((with_reducible refine gate_callee (f:=63) rfl ?_); refine goesL_ (some 11) rfl rfl Try.func63 (by kernel_rfl) rfl #[.agg #[.int .i64 a0_0,.slice A0_1 l0_1.length c0_1]] rfl (by (try simp only [List.map_toArray,List.map_cons,List.map_nil]); first | done | rfl | (simp only [List.length_drop,List.length_take]; rfl)) ?_; (with_reducible refine (impl_NetOk.calls a0_0 _ _ l0_1 false _ ?side1 ?side2 A2.out).mono ?_); (case side1 => repeat (first | exact (Kd.C_below r0.out HB.out) | (with_reducible refine Kd.C_alloc ?_ _) | (with_reducible refine Kd.C_drewN ?_ _) | (with_reducible refine Kd.C_drew ?_))); (case side2 => exact r4.out); rintro e w41 ⟨rfl,hb⟩; refine ⟨_,rfl,?_⟩; have n0_:=zx (blk_below (g:=p5) (o:=.cells #[.int .i64 a0_0,.slice A0_1 l0_1.length c0_1] 25 (0,0)) p3.out hb); have n1_:=zx (below_step HB.out hb); clear p3; clear HB; have p3:=n0_; have HB:=n1_; clear n0_ n1_; (try clear hb); (try clear hb2); (try clear hk); (try clear hi)))
  go_ret2;exact ⟨_,by first | rfl | (simp [errW_none,errW_some] <;> rfl) | (simp [*,errW_none,errW_some] <;> rfl),by first | exact Kd.R_nil _ _ _ _ _ | exact Kd.N_nil _ _ _ _ _ | exact Kd.V_nil _ _ _ _ _ | exact Kd.Q_nil _ _ _ _ _ | exact Kd.S_nil _ _ _ _ _,by repeat (first | (with_reducible first | exact HB.out | apply below_alloc | apply pw_below_drewN | apply below_drew1 | refine below_set ?_ q2.out) | exact HB.out)⟩
 subst c3;have H1 : (impl_RingBest.l0 k ([] : List Int) 99999 l0_1 (l0_1.length : Int) 0 a0_0 l0_1) = some (r1,r2):=by rw [if_pos rfl] at H; exact H
 clear H;have H:=H1;clear H1;have H':=zx H;clear H
 go_enter Try.func37,Try.ntmps37
 go_wp2_with (first | ((with_reducible refine gate_dst (N:=1) rfl ?_); refine box_event ?hg (N:=1) ?hd (cs:=#[.int .i64 a0_0,.slice A0_1 l0_1.length c0_1]) (t:=25) ?hr ?_; (case hd => rfl); (case hg => rfl); (case hr => first | (go_simp; done) | (go_simp; rfl)); intro p5 hg w4 hbox hb; have n0_:=zx (below_step HB.out hb); have n1_:=zx (hbox); have n2_:=zx ((by rw [hg]; exact (below_size HB.out) : w.heap.size ≤ p5)); have n3_:=zx ((by rw [hg]; exact (below_size HB.out) : w.heap.size ≤ p5)); clear HB; have HB:=n0_; have p3:=n1_; have GW773:=n2_; have q2:=n3_; clear n0_ n1_ n2_ n3_; clear hb hbox hg; have r6 : w4.cell? ⟨p5,0,none⟩ = some (.int .i64 a0_0):=(blk_cell p3.out 0).trans rfl; have r7 : w4.cell? ⟨p5,1,none⟩ = some (.slice A0_1 l0_1.length c0_1):=(blk_cell p3.out 1).trans rfl; have r8:=blk_frozen p3.out 0; have r9:=blk_frozen p3.out 1) | ((with_reducible refine gate_callee (f:=63) rfl ?_); refine goesL_ (some 11) rfl rfl Try.func63 (by kernel_rfl) rfl #[.agg #[.int .i64 a0_0,.slice A0_1 l0_1.length c0_1]] rfl (by (try simp only [List.map_toArray,List.map_cons,List.map_nil]); first | done | rfl | (simp only [List.length_drop,List.length_take]; rfl)) ?_; (with_reducible refine (impl_NetOk.calls a0_0 _ _ l0_1 true _ ?side1 ?side2 A2.out).mono ?_); (case side1 => repeat (first | exact (Kd.C_below r0.out HB.out) | (with_reducible refine Kd.C_alloc ?_ _) | (with_reducible refine Kd.C_drewN ?_ _) | (with_reducible refine Kd.C_drew ?_))); (case side2 => exact r4.out); rintro e w6 ⟨rfl,hb⟩; refine ⟨_,rfl,?_⟩; have n0_:=zx (blk_below (g:=p5) (o:=.cells #[.int .i64 a0_0,.slice A0_1 l0_1.length c0_1] 25 (0,0)) p3.out hb); have n1_:=zx (below_step HB.out hb); clear p3; clear HB; have p3:=n0_; have HB:=n1_; clear n0_ n1_; (try clear hb); (try clear hb2); (try clear hk); (try clear hi); have s7 : w6.cell? ⟨p5,0,none⟩ = some (.int .i64 a0_0):=(blk_cell p3.out 0).trans rfl; have s8 : w6.cell? ⟨p5,1,none⟩ = some (.slice A0_1 l0_1.length c0_1):=(blk_cell p3.out 1).trans rfl; have s9:=blk_frozen p3.out 0; have t0:=blk_frozen p3.out 1))
 go_loopg [4,5,16] k (fun kq v4 v5 v16 w' => ∃ (x4_1 : List Int) (x5_1 : Int) (p0 : Int),v5 = .int .i64 x5_1 ∧ v16 = .int .i64 p0 ∧ Aside0 (impl_RingBest.l0 kq x4_1 x5_1 l0_1 (l0_1.length : Int) p0 a0_0 l0_1 = some (r1,r2)) ∧ Aside0 (kq ≤ k) ∧ Aside0 (Kd.R (Kd.int .i64) 3 w' w.heap.size (fun _ => True) v4 x4_1) ∧ Aside0 (w'.heap[p5]? = some (.cells #[.int .i64 a0_0,(.slice A0_1 l0_1.length c0_1)] 25 (0,0))) ∧ Aside0 (Below w.heap.size w w'))
 case atStart => exact ⟨(([] : List Int)),(99999),(0),(by first | rfl | (simp; done) | (simp [*]; done)),(by first | rfl | (simp; done) | (simp [*]; done)),H',⟨Nat.le_refl _⟩,⟨by first | exact Kd.R_nil _ _ _ _ _ | exact Kd.N_nil _ _ _ _ _ | exact Kd.V_nil _ _ _ _ _ | exact Kd.Q_nil _ _ _ _ _ | exact Kd.S_nil _ _ _ _ _⟩,⟨by exact p3.out⟩,⟨by repeat (first | (with_reducible first | exact HB.out | apply below_alloc | apply pw_below_drewN | apply below_drew1 | refine below_set ?_ q2.out) | exact HB.out)⟩⟩
 case round =>
  clear H'
  try clear p2
  try clear c3
  try clear c6
  try clear r6
  try clear r7
  try clear s7
  try clear s8
  try clear r8
  try clear r9
  try clear s9
  try clear t0
  obtain ⟨x4_1,x5_1,p0,rfl,rfl,HA,HK1,HO_4,p3,HB⟩:=hrel;cases gk with
  | zero => exact absurd HA.out (by simp [impl_RingBest.l0])
  | succ k1 =>
   have H:=HA.out;clear HA;simp only [impl_RingBest.l0] at H
   by_cases c8 : p0 < (l0_1.length : Int)
   case neg =>
    rw [if_neg c8] at H;have c8b0 : decide (p0 < (l0_1.length : Int)) = false:=decide_eq_false c8;clear c8;simp only [Option.some.injEq,Prod.mk.injEq] at H;obtain ⟨rfl,rfl⟩:=H;obtain ⟨Ao37,co37,eo37⟩:=Kd.R_slice HO_4.out;subst eo37;have hc38:=zx (Kd.R_reads' HO_4.out).2.1;have hr38:=Kd.R_cap1 HO_4.out;clear HO_4;have HO776:=zx hr38;clear hr38
    go_wp2_with (first | ((with_reducible refine gate_callee (f:=71) rfl ?_); refine goesL_ (some 54) rfl rfl Try.func71 (by kernel_rfl) rfl #[.slice Ao37 x4_1.length co37] rfl (by (try simp only [List.map_toArray,List.map_cons,List.map_nil]); first | done | rfl) ?_; (with_reducible refine (clip71_calls _ _ _ _ hc38.out).mono ?_); rintro e w_ ⟨rfl,rfl⟩; refine ⟨_,rfl,?_⟩))
    go_ret2;exact ⟨_,by first | rfl | (simp [errW_none,errW_some] <;> rfl) | (simp [*,errW_none,errW_some] <;> rfl),by exact HO776.out,by repeat (first | (with_reducible first | exact HB.out | apply below_alloc | apply pw_below_drewN | apply below_drew1 | refine below_set ?_ q2.out) | exact HB.out)⟩
   rw [if_pos c8] at H;have c8b0 : decide (p0 < (l0_1.length : Int)) = true:=decide_eq_true c8;clear c8
   by_cases c9 : 0 ≤ p0
   case neg =>
    rw [if_neg c9] at H;exact absurd H (by simp)
   rw [if_pos c9] at H;have c9b0 : decide (0 ≤ p0) = true:=decide_eq_true c9;clear c9
   by_cases c10 : p0 < (l0_1.length : Int)
   case neg =>
    rw [if_neg c10] at H;exact absurd H (by simp)
   rw [if_pos c10] at H;have c10b0 : decide (p0 < (l0_1.length : Int)) = true:=decide_eq_true c10;clear c10;replace H:=Option.bind_eq_some_iff.mp H;obtain ⟨⟨t779,t782⟩,A110,H⟩:=H;replace H : (if t782 = true then ((impl_Net_cost.f k1 a0_0 l0_1 t779).bind fun t783 => (impl_RingBest.j1 k1 x4_1 x5_1 p0 t779 l0_1 (l0_1.length : Int) p0 (decide ((wrap64 (((rd_T34 l0_1 p0).f2) + t783)) < x5_1)) a0_0 l0_1 ((rd_T34 l0_1 p0).f0) ((rd_T34 l0_1 p0).f1) ((rd_T34 l0_1 p0).f2) ((rd_T34 l0_1 p0).f3) ((rd_T34 l0_1 p0).f4))) else (impl_RingBest.j1 k1 x4_1 x5_1 p0 t779 l0_1 (l0_1.length : Int) p0 false a0_0 l0_1 ((rd_T34 l0_1 p0).f0) ((rd_T34 l0_1 p0).f1) ((rd_T34 l0_1 p0).f2) ((rd_T34 l0_1 p0).f3) ((rd_T34 l0_1 p0).f4))) = some (r1,r2):=H;have A11:=zx A110;clear A110;have HC12:=zx H;clear H;have p777 : 0 ≤ (p0 : Int):=of_decide_eq_true (by first | (with_reducible assumption) | assumption);have q777 : p0 < (l0_1.length : Int):=of_decide_eq_true (by first | (with_reducible assumption) | assumption);obtain ⟨p8,e777,q3,q4,q5,q6,q8⟩:=at_T34 r0.out p0 p777 q777;cases e777;replace q3:=(HB.out.cell (World.block_lt_of_cell? w _ q3)).trans q3;replace q4:=(HB.out.cell (World.block_lt_of_cell? w _ q4)).trans q4;replace q5:=(HB.out.cell (World.block_lt_of_cell? w _ q5)).trans q5;replace q6:=(HB.out.cell (World.block_lt_of_cell? w _ q6)).trans q6;replace q8:=(HB.out.cell (World.block_lt_of_cell? w _ q8)).trans q8;replace p777:=eq_true p777;replace q777:=eq_true q777
   go_upto_region 9 with (first | ((with_reducible refine gate_dst (N:=7) rfl ?_); refine box_event ?hg (N:=7) ?hd (cs:=#[.int .i64 0,.int .i64 0,.int .i64 0,.int .i64 0,.int .i64 0]) (t:=34) ?hr ?_; (case hd => rfl); (case hg => rfl); (case hr => first | (go_simp; done) | (go_simp; rfl)); intro p4 hg w13 hbox hb; have n0_:=zx (Kd.R_below HO_4.out hb); have n1_:=zx (blk_below (g:=p5) (o:=.cells #[.int .i64 a0_0,.slice (some p8) l0_1.length c0_1] 25 (0,0)) p3.out hb); have n2_:=zx (below_step HB.out hb); have n3_:=zx (hbox); have n4_:=zx ((by rw [hg]; exact (below_size HB.out) : w.heap.size ≤ p4)); have n5_:=zx ((by rw [hg]; exact (below_size HB.out) : w.heap.size ≤ p4)); have n6_:=zx ((by rw [hg]; exact Nat.ne_of_lt (blk_lt (g:=p5) (o:=.cells #[.int .i64 a0_0,.slice (some p8) l0_1.length c0_1] 25 (0,0)) p3.out) : p5 ≠ p4)); have n7_:=zx ((by rw [hg]; exact Nat.ne_of_gt (blk_lt (g:=p5) (o:=.cells #[.int .i64 a0_0,.slice (some p8) l0_1.length c0_1] 25 (0,0)) p3.out) : p4 ≠ p5)); clear HO_4; clear p3; clear HB; have HO_4:=n0_; have p3:=n1_; have HB:=n2_; have p1:=n3_; have GW778:=n4_; have q9:=n5_; have p9:=n6_; have r5:=n7_; clear n0_ n1_ n2_ n3_ n4_ n5_ n6_ n7_; clear hb hbox hg; have hnb14:=r5.out; have hnc14:=p9.out; have t2 : w13.cell? ⟨p4,0,none⟩ = some (.int .i64 0):=(blk_cell p1.out 0).trans rfl; have t3 : w13.cell? ⟨p4,1,none⟩ = some (.int .i64 0):=(blk_cell p1.out 1).trans rfl; have t4 : w13.cell? ⟨p4,2,none⟩ = some (.int .i64 0):=(blk_cell p1.out 2).trans rfl; have t5 : w13.cell? ⟨p4,3,none⟩ = some (.int .i64 0):=(blk_cell p1.out 3).trans rfl; have t6 : w13.cell? ⟨p4,4,none⟩ = some (.int .i64 0):=(blk_cell p1.out 4).trans rfl; have t7:=blk_frozen p1.out 0; have t8:=blk_frozen p1.out 1; have t9:=blk_frozen p1.out 2; have u0:=blk_frozen p1.out 3; have u1:=blk_frozen p1.out 4; have u2 : w13.cell? ⟨p5,0,none⟩ = some (.int .i64 a0_0):=(blk_cell p3.out 0).trans rfl; have u3 : w13.cell? ⟨p5,1,none⟩ = some (.slice (some p8) l0_1.length c0_1):=(blk_cell p3.out 1).trans rfl; have u5:=blk_frozen p3.out 0; have u6:=blk_frozen p3.out 1) | ((with_reducible refine gate_callee (f:=56) rfl ?_); refine goesL_ (some 27) rfl rfl Try.func56 (by kernel_rfl) rfl #[.agg #[.int .i64 a0_0,.slice (some p8) l0_1.length c0_1],.int .i64 ((rd_T34 l0_1 p0).f1),.int .i64 ((rd_T34 l0_1 p0).f0)] rfl (by (try simp only [List.map_toArray,List.map_cons,List.map_nil]); first | done | rfl | (simp only [List.length_drop,List.length_take]; rfl)) ?_; (with_reducible refine (impl_Net_best.calls k1 a0_0 _ _ l0_1 ((rd_T34 l0_1 p0).f1) ((rd_T34 l0_1 p0).f0) t779 t782 _ ?side1 ?side2 A11.out).mono ?_); (case side1 => exact Kd.C_below r0.out (by repeat (first | (with_reducible first | exact HB.out | apply below_alloc | apply pw_below_drewN | apply below_drew1 | refine below_set ?_ q2.out | refine below_set ?_ q9.out) | exact HB.out))); (case side2 => exact r4.out); rintro e w17 ⟨v780,rfl,ho0,hb⟩; refine ⟨_,rfl,?_⟩; have n0_:=zx (Kd.R_elder' (Kd.R_mono (Kd.R_far (p:=⟨p4,4,none⟩) (Kd.R_far (p:=⟨p4,3,none⟩) (Kd.R_far (p:=⟨p4,2,none⟩) (Kd.R_far (p:=⟨p4,1,none⟩) (Kd.R_far (p:=⟨p4,0,none⟩) (Kd.R_types HO_4.out p1.out (by decide)) (fun _ hk => hk.2) (.int .i64 ((rd_T34 l0_1 p0).f0))) (fun _ hk => hk.2) (.int .i64 ((rd_T34 l0_1 p0).f1))) (fun _ hk => hk.2) (.int .i64 ((rd_T34 l0_1 p0).f2))) (fun _ hk => hk.2) (.int .i64 ((rd_T34 l0_1 p0).f3))) (fun _ hk => hk.2) (.int .i64 ((rd_T34 l0_1 p0).f4))) (fun _ h_ => h_.1)) (Kd.R_base ho0) hb); have n1_:=zx (Kd.R_lower (Kd.R_new' ho0 (Kd.R_lt (Kd.R_mono (Kd.R_far (p:=⟨p4,4,none⟩) (Kd.R_far (p:=⟨p4,3,none⟩) (Kd.R_far (p:=⟨p4,2,none⟩) (Kd.R_far (p:=⟨p4,1,none⟩) (Kd.R_far (p:=⟨p4,0,none⟩) (Kd.R_types HO_4.out p1.out (by decide)) (fun _ hk => hk.2) (.int .i64 ((rd_T34 l0_1 p0).f0))) (fun _ hk => hk.2) (.int .i64 ((rd_T34 l0_1 p0).f1))) (fun _ hk => hk.2) (.int .i64 ((rd_T34 l0_1 p0).f2))) (fun _ hk => hk.2) (.int .i64 ((rd_T34 l0_1 p0).f3))) (fun _ hk => hk.2) (.int .i64 ((rd_T34 l0_1 p0).f4))) (fun _ h_ => h_.1)))) (below_size (by repeat (first | (with_reducible first | exact HB.out | apply below_alloc | apply pw_below_drewN | apply below_drew1 | refine below_set ?_ q2.out | refine below_set ?_ q9.out) | exact HB.out)))); have n2_:=zx (blk_below (g:=p5) (o:=.cells #[.int .i64 a0_0,.slice (some p8) l0_1.length c0_1] 25 (0,0)) (by refine blk_far ?_ p9.out _; refine blk_far ?_ p9.out _; refine blk_far ?_ p9.out _; refine blk_far ?_ p9.out _; refine blk_far ?_ p9.out _; exact p3.out) hb); have n3_:=zx (blk_below (g:=p4) (o:=.cells #[.int .i64 ((rd_T34 l0_1 p0).f0),.int .i64 ((rd_T34 l0_1 p0).f1),.int .i64 ((rd_T34 l0_1 p0).f2),.int .i64 ((rd_T34 l0_1 p0).f3),.int .i64 ((rd_T34 l0_1 p0).f4)] 34 (0,0)) (by refine blk_put (cs:=#[.int .i64 ((rd_T34 l0_1 p0).f0),.int .i64 ((rd_T34 l0_1 p0).f1),.int .i64 ((rd_T34 l0_1 p0).f2),.int .i64 ((rd_T34 l0_1 p0).f3),.int .i64 0]) ?_ 4 _ rfl; refine blk_put (cs:=#[.int .i64 ((rd_T34 l0_1 p0).f0),.int .i64 ((rd_T34 l0_1 p0).f1),.int .i64 ((rd_T34 l0_1 p0).f2),.int .i64 0,.int .i64 0]) ?_ 3 _ rfl; refine blk_put (cs:=#[.int .i64 ((rd_T34 l0_1 p0).f0),.int .i64 ((rd_T34 l0_1 p0).f1),.int .i64 0,.int .i64 0,.int .i64 0]) ?_ 2 _ rfl; refine blk_put (cs:=#[.int .i64 ((rd_T34 l0_1 p0).f0),.int .i64 0,.int .i64 0,.int .i64 0,.int .i64 0]) ?_ 1 _ rfl; refine blk_put (cs:=#[.int .i64 0,.int .i64 0,.int .i64 0,.int .i64 0,.int .i64 0]) ?_ 0 _ rfl; exact p1.out) hb); have n4_:=zx (below_step (by repeat (first | (with_reducible first | exact HB.out | apply below_alloc | apply pw_below_drewN | apply below_drew1 | refine below_set ?_ q2.out | refine below_set ?_ q9.out) | exact HB.out)) hb); clear HO_4; clear p3; clear p1; clear HB; have HO_4:=n0_; have HO781:=n1_; have p3:=n2_; have p1:=n3_; have HB:=n4_; clear n0_ n1_ n2_ n3_ n4_; (try clear hb); (try clear hb2); (try clear hk); (try clear hi); (try clear ho0)))
   (try simp only [Act.put,U,V,Z])
   go_cut [40] (fun v40 wc => ∃ (kq : Nat) (r3 : Bool),v40 = .bool r3 ∧ Aside0 (impl_RingBest.j1 kq x4_1 x5_1 p0 t779 l0_1 (l0_1.length : Int) p0 r3 a0_0 l0_1 ((rd_T34 l0_1 p0).f0) ((rd_T34 l0_1 p0).f1) ((rd_T34 l0_1 p0).f2) ((rd_T34 l0_1 p0).f3) ((rd_T34 l0_1 p0).f4) = some (r1,r2)) ∧ Aside0 (kq ≤ k1) ∧ Aside0 (Kd.R (Kd.int .i64) 3 wc w.heap.size (fun k_ => some k_ ≠ (v780 : Value).ownBlock) u4 x4_1) ∧ Aside0 (Kd.R (Kd.int .i64) 3 wc w.heap.size (fun k_ => some k_ ≠ (u4 : Value).ownBlock) v780 t779) ∧ Aside0 (wc.heap[p5]? = some (.cells #[.int .i64 a0_0,(.slice (some p8) l0_1.length c0_1)] 25 (0,0))) ∧ Aside0 (wc.heap[p4]? = some (.cells #[.int .i64 ((rd_T34 l0_1 p0).f0),.int .i64 ((rd_T34 l0_1 p0).f1),.int .i64 ((rd_T34 l0_1 p0).f2),.int .i64 ((rd_T34 l0_1 p0).f3),.int .i64 ((rd_T34 l0_1 p0).f4)] 34 (0,0))) ∧ Aside0 (Below w.heap.size w wc))
   case first =>
    have H:=HC12.out;clear HC12
    by_cases c18 : t782 = true
    case neg =>
     replace c18:=Bool.eq_false_iff.mpr c18;subst c18;have H1 : (impl_RingBest.j1 k1 x4_1 x5_1 p0 t779 l0_1 (l0_1.length : Int) p0 false a0_0 l0_1 ((rd_T34 l0_1 p0).f0) ((rd_T34 l0_1 p0).f1) ((rd_T34 l0_1 p0).f2) ((rd_T34 l0_1 p0).f3) ((rd_T34 l0_1 p0).f4)) = some (r1,r2):=by rw [if_neg (show ¬ (false = true) by decide)] at H; exact H
     clear H;have H:=H1;clear H1;have H':=zx H;clear H
     try go_wp2
     have n0_:=zx (Kd.R_drew HO_4.out);have n1_:=zx (Kd.R_drew HO781.out);have n2_:=zx (blk_drew p3.out);have n3_:=zx (blk_drew p1.out);have n4_:=zx (below_drew1 HB.out);clear HO_4;clear HO781;clear p3;clear p1;clear HB;have HO_4:=n0_;have HO781:=n1_;have p3:=n2_;have p1:=n3_;have HB:=n4_;clear n0_ n1_ n2_ n3_ n4_;refine start_ (n:=11) (S:=fun w' => True) (ds:=[]) #[J,J,J,J,J,J,J,J,J,J,J] (by kernel_rfl) rfl rfl trivial (fun hHeld => ?_); refine with_tabW impl_RingBest.tab9 impl_RingBest.bits9 (fun HT_ HW_ => ?_);generalize w17.drew = w23 at HO_4 HO781 p3 p1 HB hHeld ⊢;refine pure_ (i:=0) (N:=some 30) (v:=?_) (a':=?_) #[Y,J,J,J,J,J,J,J,J,J,J] rfl rfl (any_of HT_.out (by kernel_rfl)) (fun _ _ _ h => h) (Or.inl ⟨by rfl,?_⟩) ?_ ?_;rotate_left
     ·intro w';go_simp;with_reducible rfl
     rotate_left
     ·simp only [Act.put,U,V,Z,i64_w,i32_w];rfl
     refine pure_ (i:=1) (N:=some 31) (v:=?_) (a':=?_) #[Y,Y,J,J,J,J,J,J,J,J,J] rfl rfl (any_of HT_.out (by kernel_rfl)) (fun _ _ _ h => h) (Or.inl ⟨by rfl,?_⟩) ?_ ?_;rotate_left
     ·intro w';go_simp;with_reducible rfl
     rotate_left
     ·simp only [Act.put,U,V,Z,i64_w,i32_w];rfl
     refine pure_ (i:=2) (N:=some 32) (v:=undef) (a':=?_) #[Y,Y,Y,J,J,J,J,J,J,J,J] rfl rfl (any_of HT_.out (by kernel_rfl)) (fun _ _ _ h => h) (Or.inr ⟨by rfl,rfl⟩) ?_ ?_;rotate_left
     ·simp only [Act.put,U,V,Z,i64_w,i32_w];rfl
     refine pure_ (i:=3) (N:=some 33) (v:=undef) (a':=?_) #[Y,Y,Y,Y,J,J,J,J,J,J,J] rfl rfl (any_of HT_.out (by kernel_rfl)) (fun _ _ _ h => h) (Or.inr ⟨by rfl,rfl⟩) ?_ ?_;rotate_left
     ·simp only [Act.put,U,V,Z,i64_w,i32_w];rfl
     refine pure_ (i:=4) (N:=some 34) (v:=undef) (a':=?_) #[Y,Y,Y,Y,Y,J,J,J,J,J,J] rfl rfl (any_of HT_.out (by kernel_rfl)) (fun _ _ _ h => h) (Or.inr ⟨by rfl,rfl⟩) ?_ ?_;rotate_left
     ·simp only [Act.put,U,V,Z,i64_w,i32_w];rfl
     refine pure_ (i:=5) (N:=some 35) (v:=undef) (a':=?_) #[Y,Y,Y,Y,Y,Y,J,J,J,J,J] rfl rfl (any_of HT_.out (by kernel_rfl)) (fun _ _ _ h => h) (Or.inr ⟨by rfl,rfl⟩) ?_ ?_;rotate_left
     ·simp only [Act.put,U,V,Z,i64_w,i32_w];rfl
     refine pure_ (i:=6) (N:=some 36) (v:=undef) (a':=?_) #[Y,Y,Y,Y,Y,Y,Y,J,J,J,J] rfl rfl (any_of HT_.out (by kernel_rfl)) (fun _ _ _ h => h) (Or.inr ⟨by rfl,rfl⟩) ?_ ?_;rotate_left
     ·simp only [Act.put,U,V,Z,i64_w,i32_w];rfl
     refine pure_ (i:=7) (N:=some 37) (v:=undef) (a':=?_) #[Y,Y,Y,Y,Y,Y,Y,Y,J,J,J] rfl rfl (any_of HT_.out (by kernel_rfl)) (fun _ _ _ h => h) (Or.inr ⟨by rfl,rfl⟩) ?_ ?_;rotate_left
     ·simp only [Act.put,U,V,Z,i64_w,i32_w];rfl
     refine pure_ (i:=8) (N:=some 38) (v:=undef) (a':=?_) #[Y,Y,Y,Y,Y,Y,Y,Y,Y,J,J] rfl rfl (any_of HT_.out (by kernel_rfl)) (fun _ _ _ h => h) (Or.inr ⟨by rfl,rfl⟩) ?_ ?_;rotate_left
     ·simp only [Act.put,U,V,Z,i64_w,i32_w];rfl
     refine pure_ (i:=9) (N:=some 39) (v:=undef) (a':=?_) #[Y,Y,Y,Y,Y,Y,Y,Y,Y,Y,J] rfl rfl (any_of HT_.out (by kernel_rfl)) (fun _ _ _ h => h) (Or.inr ⟨by rfl,rfl⟩) ?_ ?_;rotate_left
     ·simp only [Act.put,U,V,Z,i64_w,i32_w];rfl
     refine pure_ (i:=10) (N:=some 40) (v:=?_) (a':=?_) #[Y,Y,Y,Y,Y,Y,Y,Y,Y,Y,Y] rfl rfl (any_of HT_.out (by kernel_rfl)) (fun _ _ _ h => h) (Or.inl ⟨by rfl,?_⟩) ?_ ?_;rotate_left
     ·intro w';go_simp;with_reducible rfl
     rotate_left
     ·simp only [Act.put,U,V,Z,i64_w,i32_w];rfl
     refine done_ (done_of HT_.out (by kernel_rfl)) ?_
     try go_wp2
     go_meet
     case rel => exact ⟨_,(false),(by first | rfl | (simp; done) | (simp [*]; done)),H',⟨by have:=HK1.out; first | omega | exact Nat.le_refl _⟩,⟨by exact Kd.R_mono HO_4.out (fun _ hk => hk.2)⟩,⟨by exact Kd.R_mono HO781.out (fun _ hk => hk.2)⟩,⟨by exact p3.out⟩,⟨by exact p1.out⟩,⟨by repeat (first | (with_reducible first | exact HB.out | apply below_alloc | apply pw_below_drewN | apply below_drew1 | refine below_set ?_ q2.out | refine below_set ?_ q9.out) | exact HB.out)⟩⟩
    subst c18;have H1 : ((impl_Net_cost.f k1 a0_0 l0_1 t779).bind fun t783 => (impl_RingBest.j1 k1 x4_1 x5_1 p0 t779 l0_1 (l0_1.length : Int) p0 (decide ((wrap64 (((rd_T34 l0_1 p0).f2) + t783)) < x5_1)) a0_0 l0_1 ((rd_T34 l0_1 p0).f0) ((rd_T34 l0_1 p0).f1) ((rd_T34 l0_1 p0).f2) ((rd_T34 l0_1 p0).f3) ((rd_T34 l0_1 p0).f4))) = some (r1,r2):=by rw [if_pos rfl] at H; exact H
    clear H;have H:=H1;clear H1;replace H:=Option.bind_eq_some_iff.mp H;obtain ⟨t783,A190,H⟩:=H;replace H : (impl_RingBest.j1 k1 x4_1 x5_1 p0 t779 l0_1 (l0_1.length : Int) p0 (decide ((wrap64 (((rd_T34 l0_1 p0).f2) + t783)) < x5_1)) a0_0 l0_1 ((rd_T34 l0_1 p0).f0) ((rd_T34 l0_1 p0).f1) ((rd_T34 l0_1 p0).f2) ((rd_T34 l0_1 p0).f3) ((rd_T34 l0_1 p0).f4)) = some (r1,r2):=H;have A19:=zx A190;clear A190;have H':=zx H;clear H
    try go_wp2
    have n0_:=zx (Kd.R_drew HO_4.out);have n1_:=zx (Kd.R_drew HO781.out);have n2_:=zx (blk_drew p3.out);have n3_:=zx (blk_drew p1.out);have n4_:=zx (below_drew1 HB.out);clear HO_4;clear HO781;clear p3;clear p1;clear HB;have HO_4:=n0_;have HO781:=n1_;have p3:=n2_;have p1:=n3_;have HB:=n4_;clear n0_ n1_ n2_ n3_ n4_;obtain ⟨Ao21,co21,eo21⟩:=Kd.R_slice HO781.out
    (first | subst eo21 | (injection eo21 with f1_ f2_ f3_; have f4_:=f1_.symm; have f5_:=f3_.symm; clear f1_ f2_ f3_; subst f4_; subst f5_))
    refine start_ (n:=11) (S:=fun w' => w'.cell? ⟨p4,0,none⟩ = some (.int .i64 ((rd_T34 l0_1 p0).f0)) ∧ w'.cell? ⟨p4,1,none⟩ = some (.int .i64 ((rd_T34 l0_1 p0).f1)) ∧ w'.cell? ⟨p4,2,none⟩ = some (.int .i64 ((rd_T34 l0_1 p0).f2)) ∧ w'.cell? ⟨p4,3,none⟩ = some (.int .i64 ((rd_T34 l0_1 p0).f3)) ∧ w'.cell? ⟨p4,4,none⟩ = some (.int .i64 ((rd_T34 l0_1 p0).f4)) ∧ w'.cell? ⟨p5,0,none⟩ = some (.int .i64 a0_0) ∧ w'.cell? ⟨p5,1,none⟩ = some (.slice (some p8) l0_1.length c0_1)) (ds:=[]) #[J,J,J,J,J,J,J,J,J,J,J] (by kernel_rfl) rfl rfl ⟨(blk_cell p1.out 0).trans rfl,(blk_cell p1.out 1).trans rfl,(blk_cell p1.out 2).trans rfl,(blk_cell p1.out 3).trans rfl,(blk_cell p1.out 4).trans rfl,(blk_cell p3.out 0).trans rfl,(blk_cell p3.out 1).trans rfl⟩ (fun hHeld => ?_); refine with_tabW impl_RingBest.tab9 impl_RingBest.bits9 (fun HT_ HW_ => ?_);generalize w17.drew = w20 at HO_4 HO781 p3 p1 HB hHeld ⊢;refine pure_ (i:=0) (N:=some 30) (v:=?_) (a':=?_) #[Y,J,J,J,J,J,J,J,J,J,J] rfl rfl (any_of HT_.out (by kernel_rfl)) (fun _ _ _ h => h) (Or.inl ⟨by rfl,?_⟩) ?_ ?_;rotate_left
    ·intro w';go_simp;with_reducible rfl
    rotate_left
    ·simp only [Act.put,U,V,Z,i64_w,i32_w];rfl
    refine pure_ (i:=1) (N:=some 31) (v:=?_) (a':=?_) #[Y,Y,J,J,J,J,J,J,J,J,J] rfl rfl (any_of HT_.out (by kernel_rfl)) (fun _ _ _ h => h) (Or.inl ⟨by rfl,?_⟩) ?_ ?_;rotate_left
    ·intro w';go_simp;with_reducible rfl
    rotate_left
    ·simp only [Act.put,U,V,Z,i64_w,i32_w];rfl
    refine pure_ (i:=2) (N:=some 32) (v:=?_) (a':=?_) #[Y,Y,Y,J,J,J,J,J,J,J,J] rfl rfl (any_of HT_.out (by kernel_rfl)) (fun _ _ _ h => h) (Or.inl ⟨by rfl,?_⟩) ?_ ?_;rotate_left
    ·intro w';go_simp;with_reducible rfl
    rotate_left
    ·simp only [Act.put,U,V,Z,i64_w,i32_w];rfl
    refine pure_ (i:=5) (N:=some 35) (v:=?_) (a':=?_) #[Y,Y,Y,J,J,Y,J,J,J,J,J] rfl rfl (any_of HT_.out (by kernel_rfl)) (fun _ _ _ h => h) (Or.inl ⟨by rfl,?_⟩) ?_ ?_;rotate_left
    ·intro w';go_simp;with_reducible rfl
    rotate_left
    ·simp only [Act.put,U,V,Z,i64_w,i32_w];rfl
    refine pure_ (i:=8) (N:=some 38) (v:=?_) (a':=?_) #[Y,Y,Y,J,J,Y,J,J,Y,J,J] rfl rfl (any_of HT_.out (by kernel_rfl)) (fun _ _ _ h => h) (Or.inl ⟨by rfl,?_⟩) ?_ ?_;rotate_left
    ·intro w';go_simp;with_reducible rfl
    rotate_left
    ·simp only [Act.put,U,V,Z,i64_w,i32_w];rfl
    refine take_ (i:=3) (N:=some 33) (v:=?_) (a':=?_) #[Y,Y,Y,Y,J,Y,J,J,Y,J,J] rfl rfl (take_ofW HT_.out HW_.out (by kernel_rfl)) (fun _ _ _ h => h) (Or.inl ⟨by rfl,?_⟩) hHeld ?_ ?_;rotate_left
    ·rintro w' ⟨s0,s1,s2,s3,s4,s5,s6⟩;go_simp;with_reducible rfl
    rotate_left
    ·simp only [Act.put,U,V,Z,i64_w,i32_w];rfl
    refine take_ (i:=4) (N:=some 34) (v:=?_) (a':=?_) #[Y,Y,Y,Y,Y,Y,J,J,Y,J,J] rfl rfl (take_ofW HT_.out HW_.out (by kernel_rfl)) (fun _ _ _ h => h) (Or.inl ⟨by rfl,?_⟩) hHeld ?_ ?_;rotate_left
    ·rintro w' ⟨s0,s1,s2,s3,s4,s5,s6⟩;go_simp;with_reducible rfl
    rotate_left
    ·simp only [Act.put,U,V,Z,i64_w,i32_w];rfl
    refine one_ (i:=6) (N:=some 36) #[Y,Y,Y,Y,Y,Y,Y,J,Y,J,J] rfl rfl (one_of HT_.out (by kernel_rfl)) (by decide) (fun K hK => ?_);refine goes_ Try.func69 (by kernel_rfl) rfl #[.agg #[.int .i64 a0_0,.slice (some p8) l0_1.length c0_1],.slice Ao21 t779.length co21] (by rfl) rfl rfl (by (try simp only [List.map_toArray,List.map_cons,List.map_nil]); first | done | rfl | (simp only [List.length_drop,List.length_take]; rfl)) ?_;with_reducible refine (impl_Net_cost.calls k1 a0_0 _ _ l0_1 _ _ t779 t783 _ ?side1 ?side2 ?side3 ?side4 A19.out).mono ?_
    (case side1 => repeat (first | exact (Kd.C_below r0.out HB.out) | (with_reducible refine Kd.C_alloc ?_ _) | (with_reducible refine Kd.C_drewN ?_ _) | (with_reducible refine Kd.C_drew ?_)))
    (case side2 => exact r4.out)
    (case side3 => repeat (first | exact (Kd.R_reads' HO781.out).2.2 | (with_reducible refine Kd.C_alloc ?_ _) | (with_reducible refine Kd.C_drewN ?_ _) | (with_reducible refine Kd.C_drew ?_)))
    (case side4 => exact (Kd.R_reads' HO781.out).2.1)
    rintro e w22 ⟨rfl,hb⟩;refine ⟨_,rfl,?_⟩;have n0_:=zx (Kd.R_below HO_4.out hb);have n1_:=zx (Kd.R_below HO781.out hb);have n2_:=zx (blk_below (g:=p5) (o:=.cells #[.int .i64 a0_0,.slice (some p8) l0_1.length c0_1] 25 (0,0)) p3.out hb);have n3_:=zx (blk_below (g:=p4) (o:=.cells #[.int .i64 ((rd_T34 l0_1 p0).f0),.int .i64 ((rd_T34 l0_1 p0).f1),.int .i64 ((rd_T34 l0_1 p0).f2),.int .i64 ((rd_T34 l0_1 p0).f3),.int .i64 ((rd_T34 l0_1 p0).f4)] 34 (0,0)) p1.out hb);have n4_:=zx (below_step HB.out hb);clear HO_4;clear HO781;clear p3;clear p1;clear HB;have HO_4:=n0_;have HO781:=n1_;have p3:=n2_;have p1:=n3_;have HB:=n4_;clear n0_ n1_ n2_ n3_ n4_
    (try clear hb)
    (try clear hb2)
    (try clear hk)
    (try clear hi)
    refine hK.out _ _ ⟨(blk_cell p1.out 0).trans rfl,(blk_cell p1.out 1).trans rfl,(blk_cell p1.out 2).trans rfl,(blk_cell p1.out 3).trans rfl,(blk_cell p1.out 4).trans rfl,(blk_cell p3.out 0).trans rfl,(blk_cell p3.out 1).trans rfl⟩ (fun hHeld => ?_);clear hK K;refine norm_ (a':=?_) ?_ ?_;rotate_left
    ·show Act.put _ (some 36) _ = _
     simp only [Act.put,U,V,Z,i64_w,i32_w];rfl
    refine pure_ (i:=7) (N:=some 37) (v:=?_) (a':=?_) #[Y,Y,Y,Y,Y,Y,Y,Y,Y,J,J] rfl rfl (any_of HT_.out (by kernel_rfl)) (fun _ _ _ h => h) (Or.inl ⟨by rfl,?_⟩) ?_ ?_;rotate_left
    ·intro w';go_simp;with_reducible rfl
    rotate_left
    ·simp only [Act.put,U,V,Z,i64_w,i32_w];rfl
    refine pure_ (i:=9) (N:=some 39) (v:=?_) (a':=?_) #[Y,Y,Y,Y,Y,Y,Y,Y,Y,Y,J] rfl rfl (any_of HT_.out (by kernel_rfl)) (fun _ _ _ h => h) (Or.inl ⟨by rfl,?_⟩) ?_ ?_;rotate_left
    ·intro w';go_simp;with_reducible rfl
    rotate_left
    ·simp only [Act.put,U,V,Z,i64_w,i32_w];rfl
    refine pure_ (i:=10) (N:=some 40) (v:=?_) (a':=?_) #[Y,Y,Y,Y,Y,Y,Y,Y,Y,Y,Y] rfl rfl (any_of HT_.out (by kernel_rfl)) (fun _ _ _ h => h) (Or.inl ⟨by rfl,?_⟩) ?_ ?_;rotate_left
    ·intro w';go_simp;with_reducible rfl
    rotate_left
    ·simp only [Act.put,U,V,Z,i64_w,i32_w];rfl
    refine done_ (done_of HT_.out (by kernel_rfl)) ?_
    try go_wp2
    go_meet
    case rel => exact ⟨_,(decide ((wrap64 (((rd_T34 l0_1 p0).f2) + t783)) < x5_1)),(by first | rfl | (simp; done) | (simp [*]; done)),H',⟨by have:=HK1.out; first | omega | exact Nat.le_refl _⟩,⟨by exact Kd.R_mono HO_4.out (fun _ hk => hk.2)⟩,⟨by exact Kd.R_mono HO781.out (fun _ hk => hk.2)⟩,⟨by exact p3.out⟩,⟨by exact p1.out⟩,⟨by repeat (first | (with_reducible first | exact HB.out | apply below_alloc | apply pw_below_drewN | apply below_drew1 | refine below_set ?_ q2.out | refine below_set ?_ q9.out) | exact HB.out)⟩⟩
   case rest =>
    clear HC12
    try clear c1
    try clear p2
    try clear c3
    try clear c5
    try clear c6
    try clear p6
    try clear p7
    try clear q7
    try clear hx7
    try clear c8
    try clear c8b0
    try clear c9
    try clear c9b0
    try clear c10
    try clear c10b0
    try clear c14
    try clear c18
    try clear t2
    try clear t3
    try clear t4
    try clear t5
    try clear t6
    try clear u2
    try clear u3
    try clear r6
    try clear r7
    try clear s7
    try clear s8
    try clear t7
    try clear t8
    try clear t9
    try clear u0
    try clear u1
    try clear u5
    try clear u6
    try clear r8
    try clear r9
    try clear s9
    try clear t0
    try clear q3
    try clear q4
    try clear q5
    try clear q6
    try clear q8
    try clear p2
    try clear p777
    try clear q777
    obtain ⟨kq,r3,rfl,HA,HJ11,HO_4,HO_8,p3,p1,HB⟩:=hcut;cases kq with
    | zero => exact absurd HA.out (by simp [impl_RingBest.j1])
    | succ kj11 =>
     have H:=HA.out;clear HA;simp only [impl_RingBest.j1] at H
     by_cases c24 : r3 = true
     case neg =>
      replace c24:=Bool.eq_false_iff.mpr c24;subst c24;have H1 : (impl_RingBest.l0 kj11 x4_1 x5_1 l0_1 (l0_1.length : Int) (wrap64 (p0 + 1)) a0_0 l0_1) = some (r1,r2):=by rw [if_neg (show ¬ (false = true) by decide)] at H; exact H
      clear H;have H:=H1;clear H1;have H':=zx H;clear H
      go_wp2
      go_roundg kj11
      case measure => have:=HK1.out; have:=HJ11.out; omega
      case rel => exact ⟨(x4_1),(x5_1),(wrap64 (p0 + 1)),(by first | rfl | (simp; done) | (simp [*]; done)),(by first | rfl | (simp; done) | (simp [*]; done)),H',⟨by have:=HK1.out; have:=HJ11.out; omega⟩,⟨by exact Kd.R_mono HO_4.out (fun _ hk => trivial)⟩,⟨by exact p3.out⟩,⟨by repeat (first | (with_reducible first | exact HB.out | apply below_alloc | apply pw_below_drewN | apply below_drew1 | refine below_set ?_ q2.out | refine below_set ?_ q9.out) | exact HB.out)⟩⟩
     subst c24;have H1 : ((slices_Concat_int_int.f (([(([p0] : List Int)),t779] : List (List Int)))).bind fun t790 => ((impl_Net_cost.f kj11 a0_0 l0_1 t779).bind fun t793 => (impl_RingBest.l0 kj11 t790 (wrap64 (((rd_T34 l0_1 p0).f2) + t793)) l0_1 (l0_1.length : Int) (wrap64 (p0 + 1)) a0_0 l0_1))) = some (r1,r2):=by rw [if_pos rfl] at H; exact H
     clear H;have H:=H1;clear H1;obtain ⟨y784,hy784⟩ : ∃ y_ : List Int,y_ = (([p0] : List Int)):=⟨_,rfl⟩
     replace H : ((slices_Concat_int_int.f (([y784,t779] : List (List Int)))).bind fun t790 => ((impl_Net_cost.f kj11 a0_0 l0_1 t779).bind fun t793 => (impl_RingBest.l0 kj11 t790 (wrap64 (((rd_T34 l0_1 p0).f2) + t793)) l0_1 (l0_1.length : Int) (wrap64 (p0 + 1)) a0_0 l0_1))) = some (r1,r2):=by first | (rw [hy784]; with_reducible exact H) | (have H2_:=(Option.bind_some _ _).symm.trans H; rw [hy784]; with_reducible exact H2_) | (have H2_:=(Option.bind_some _ _).symm.trans H; with_reducible exact H2_) | with_reducible exact H | (rw [hy784]; exact H) | exact H
     have Ny784:=zx hy784;clear hy784;obtain ⟨y787,hy787⟩ : ∃ y_ : List (List Int),y_ = (([y784,t779] : List (List Int))):=⟨_,rfl⟩
     replace H : ((slices_Concat_int_int.f y787).bind fun t790 => ((impl_Net_cost.f kj11 a0_0 l0_1 t779).bind fun t793 => (impl_RingBest.l0 kj11 t790 (wrap64 (((rd_T34 l0_1 p0).f2) + t793)) l0_1 (l0_1.length : Int) (wrap64 (p0 + 1)) a0_0 l0_1))) = some (r1,r2):=by first | (rw [hy787]; with_reducible exact H) | (have H2_:=(Option.bind_some _ _).symm.trans H; rw [hy787]; with_reducible exact H2_) | (have H2_:=(Option.bind_some _ _).symm.trans H; with_reducible exact H2_) | with_reducible exact H | (rw [hy787]; exact H) | exact H
     have Ny787:=zx hy787;clear hy787;replace H:=Option.bind_eq_some_iff.mp H;obtain ⟨t790,A250,H⟩:=H;replace H : ((impl_Net_cost.f kj11 a0_0 l0_1 t779).bind fun t793 => (impl_RingBest.l0 kj11 t790 (wrap64 (((rd_T34 l0_1 p0).f2) + t793)) l0_1 (l0_1.length : Int) (wrap64 (p0 + 1)) a0_0 l0_1)) = some (r1,r2):=H;have A25:=zx A250;clear A250;replace H:=Option.bind_eq_some_iff.mp H;obtain ⟨t793,A260,H⟩:=H;replace H : (impl_RingBest.l0 kj11 t790 (wrap64 (((rd_T34 l0_1 p0).f2) + t793)) l0_1 (l0_1.length : Int) (wrap64 (p0 + 1)) a0_0 l0_1) = some (r1,r2):=H;have A26:=zx A260;clear A260;have H':=zx H;clear H
     try go_wp2
     have n0_:=zx (Kd.R_drew HO_4.out);have n1_:=zx (Kd.R_drew HO_8.out);have n2_:=zx (blk_drew p3.out);have n3_:=zx (blk_drew p1.out);have n4_:=zx (below_drew1 HB.out);clear HO_4;clear HO_8;clear p3;clear p1;clear HB;have HO_4:=n0_;have HO_8:=n1_;have p3:=n2_;have p1:=n3_;have HB:=n4_;clear n0_ n1_ n2_ n3_ n4_;refine start_ (n:=13) (S:=fun w' => w'.cell? ⟨p4,0,none⟩ = some (.int .i64 ((rd_T34 l0_1 p0).f0)) ∧ w'.cell? ⟨p4,1,none⟩ = some (.int .i64 ((rd_T34 l0_1 p0).f1)) ∧ w'.cell? ⟨p4,2,none⟩ = some (.int .i64 ((rd_T34 l0_1 p0).f2)) ∧ w'.cell? ⟨p4,3,none⟩ = some (.int .i64 ((rd_T34 l0_1 p0).f3)) ∧ w'.cell? ⟨p4,4,none⟩ = some (.int .i64 ((rd_T34 l0_1 p0).f4)) ∧ w'.cell? ⟨p5,0,none⟩ = some (.int .i64 a0_0) ∧ w'.cell? ⟨p5,1,none⟩ = some (.slice (some p8) l0_1.length c0_1)) (ds:=[]) #[J,J,J,J,J,J,J,J,J,J,J,J,J] (by kernel_rfl) rfl rfl ⟨(blk_cell p1.out 0).trans rfl,(blk_cell p1.out 1).trans rfl,(blk_cell p1.out 2).trans rfl,(blk_cell p1.out 3).trans rfl,(blk_cell p1.out 4).trans rfl,(blk_cell p3.out 0).trans rfl,(blk_cell p3.out 1).trans rfl⟩ (fun hHeld => ?_); refine with_tabW impl_RingBest.tab10 impl_RingBest.bits10 (fun HT_ HW_ => ?_);generalize wc.drew = w27 at HO_4 HO_8 p3 p1 HB hHeld ⊢;refine pure_ (i:=0) (N:=some 41) (v:=?_) (a':=?_) #[Y,J,J,J,J,J,J,J,J,J,J,J,J] rfl rfl (any_of HT_.out (by kernel_rfl)) (fun _ _ _ h => h) (Or.inl ⟨by rfl,?_⟩) ?_ ?_;rotate_left
     ·intro w';go_simp;with_reducible rfl
     rotate_left
     ·simp only [Act.put,U,V,Z,i64_w,i32_w];rfl
     refine pure_ (i:=2) (N:=some 43) (v:=?_) (a':=?_) #[Y,J,Y,J,J,J,J,J,J,J,J,J,J] rfl rfl (any_of HT_.out (by kernel_rfl)) (fun _ _ _ h => h) (Or.inl ⟨by rfl,?_⟩) ?_ ?_;rotate_left
     ·intro w';go_simp;with_reducible rfl
     rotate_left
     ·simp only [Act.put,U,V,Z,i64_w,i32_w];rfl
     refine pure_ (i:=5) (N:=some 46) (v:=?_) (a':=?_) #[Y,J,Y,J,J,Y,J,J,J,J,J,J,J] rfl rfl (any_of HT_.out (by kernel_rfl)) (fun _ _ _ h => h) (Or.inl ⟨by rfl,?_⟩) ?_ ?_;rotate_left
     ·intro w';go_simp;with_reducible rfl
     rotate_left
     ·simp only [Act.put,U,V,Z,i64_w,i32_w];rfl
     refine pure_ (i:=8) (N:=some 49) (v:=?_) (a':=?_) #[Y,J,Y,J,J,Y,J,J,Y,J,J,J,J] rfl rfl (any_of HT_.out (by kernel_rfl)) (fun _ _ _ h => h) (Or.inl ⟨by rfl,?_⟩) ?_ ?_;rotate_left
     ·intro w';go_simp;with_reducible rfl
     rotate_left
     ·simp only [Act.put,U,V,Z,i64_w,i32_w];rfl
     refine take_ (i:=6) (N:=some 47) (v:=?_) (a':=?_) #[Y,J,Y,J,J,Y,Y,J,Y,J,J,J,J] rfl rfl (take_ofW HT_.out HW_.out (by kernel_rfl)) (fun _ _ _ h => h) (Or.inl ⟨by rfl,?_⟩) hHeld ?_ ?_;rotate_left
     ·rintro w' ⟨s0,s1,s2,s3,s4,s5,s6⟩;go_simp;with_reducible rfl
     rotate_left
     ·simp only [Act.put,U,V,Z,i64_w,i32_w];rfl
     refine take_ (i:=7) (N:=some 48) (v:=?_) (a':=?_) #[Y,J,Y,J,J,Y,Y,Y,Y,J,J,J,J] rfl rfl (take_ofW HT_.out HW_.out (by kernel_rfl)) (fun _ _ _ h => h) (Or.inl ⟨by rfl,?_⟩) hHeld ?_ ?_;rotate_left
     ·rintro w' ⟨s0,s1,s2,s3,s4,s5,s6⟩;go_simp;with_reducible rfl
     rotate_left
     ·simp only [Act.put,U,V,Z,i64_w,i32_w];rfl
     refine one_ (i:=1) (N:=some 42) #[Y,Y,Y,J,J,Y,Y,Y,Y,J,J,J,J] rfl rfl (one_of HT_.out (by kernel_rfl)) (by decide) (fun K hK => ?_);refine Kd.R_lit_step (Kd.int .i64) _ 3 ?hg (N:=42) ?hd (xs:=([p0] : List Int)) (inner:=[.int .i64 p0]) (ok:=fun _ => True) (okp:=fun _ => True) ?hr ?hp (fun _ hk => hk) trivial (Below.refl _ _) (Nat.le_refl _) (by simp) ?_; (case hd => rfl); (case hg => rfl); (case hr => first | (go_simp; done) | (go_simp; rfl)); (case hp => exact (Reps.one (show Kd.M (Kd.int .i64) _ _ _ p0 [.int .i64 p0] from rfl) (Reps.none _ _)));intro v785 w28 ho29 hb hg_ hnew_;clear hg_ hnew_
     (first | rw [← Ny784.out] at ho29 | (simp only [Int.reduceToNat] at ho29; rw [← Ny784.out] at ho29))
     have n0_:=zx (Kd.R_elder' HO_4.out (Kd.R_base ho29) hb);have n1_:=zx (Kd.R_elder' HO_8.out (Kd.R_base ho29) hb);have n2_:=zx (Kd.R_lower (Kd.R_new' (Kd.R_new' ho29 (Kd.R_lt HO_4.out)) (Kd.R_lt HO_8.out)) (below_size HB.out));have n3_:=zx (blk_below (g:=p5) (o:=.cells #[.int .i64 a0_0,.slice (some p8) l0_1.length c0_1] 25 (0,0)) p3.out hb);have n4_:=zx (blk_below (g:=p4) (o:=.cells #[.int .i64 ((rd_T34 l0_1 p0).f0),.int .i64 ((rd_T34 l0_1 p0).f1),.int .i64 ((rd_T34 l0_1 p0).f2),.int .i64 ((rd_T34 l0_1 p0).f3),.int .i64 ((rd_T34 l0_1 p0).f4)] 34 (0,0)) p1.out hb);have n5_:=zx (below_step HB.out hb);clear HO_4;clear HO_8;clear p3;clear p1;clear HB;have HO_4:=n0_;have HO_8:=n1_;have HO786:=n2_;have p3:=n3_;have p1:=n4_;have HB:=n5_;clear n0_ n1_ n2_ n3_ n4_ n5_;clear hb ho29;obtain ⟨Ao30,co30,eo30⟩:=Kd.R_slice HO786.out
     (first | subst eo30 | (injection eo30 with f1_ f2_ f3_; have f4_:=f1_.symm; have f5_:=f3_.symm; clear f1_ f2_ f3_; subst f4_; subst f5_))
     obtain ⟨Ao31,co31,eo31⟩:=Kd.R_slice HO_8.out
     (first | subst eo31 | (injection eo31 with f1_ f2_ f3_; have f4_:=f1_.symm; have f5_:=f3_.symm; clear f1_ f2_ f3_; subst f4_; subst f5_))
     refine hK.out _ _ ⟨(blk_cell p1.out 0).trans rfl,(blk_cell p1.out 1).trans rfl,(blk_cell p1.out 2).trans rfl,(blk_cell p1.out 3).trans rfl,(blk_cell p1.out 4).trans rfl,(blk_cell p3.out 0).trans rfl,(blk_cell p3.out 1).trans rfl⟩ (fun hHeld => ?_);clear hK K;refine norm_ (a':=?_) ?_ ?_;rotate_left
     ·show Act.put _ (some 42) _ = _
      simp only [Act.put,U,V,Z,i64_w,i32_w];rfl
     refine one_ (i:=3) (N:=some 44) #[Y,Y,Y,Y,J,Y,Y,Y,Y,J,J,J,J] rfl rfl (one_of HT_.out (by kernel_rfl)) (by decide) (fun K hK => ?_);refine Kd.N_lit_step (Kd.slice 3 (Kd.int .i64)) _ 29 ?hg (N':=44) ?hd (xs:=([y784,t779] : List (List Int))) (inner:=[.slice Ao30 y784.length co30,.slice Ao31 t779.length co31]) (ok:=(fun k_ => some k_ ≠ (u4 : Value).ownBlock ∧ k_ ≠ p5 ∧ k_ ≠ p4)) (okp:=(fun k_ => some k_ ≠ (u4 : Value).ownBlock ∧ k_ ≠ p5 ∧ k_ ≠ p4)) ?hr ?hp (fun _ hk => hk) ((show ∀ k_,w28.heap.size ≤ k_ → (fun k_ => some k_ ≠ (u4 : Value).ownBlock ∧ k_ ≠ p5 ∧ k_ ≠ p4) k_ from fun k_ hk => ⟨Kd.fresh' (Kd.R_lt HO_4.out) k_ hk,Kd.freshB (g:=p5) (o:=.cells #[.int .i64 a0_0,.slice (some p8) l0_1.length c0_1] 25 (0,0)) p3.out k_ hk,Kd.freshB (g:=p4) (o:=.cells #[.int .i64 ((rd_T34 l0_1 p0).f0),.int .i64 ((rd_T34 l0_1 p0).f1),.int .i64 ((rd_T34 l0_1 p0).f2),.int .i64 ((rd_T34 l0_1 p0).f3),.int .i64 ((rd_T34 l0_1 p0).f4)] 34 (0,0)) p1.out k_ hk⟩) _ (Nat.le_refl _)) (Below.refl _ _) (Nat.le_refl _) (by simp) ?_; (case hd => rfl); (case hg => rfl); (case hr => first | (go_simp; done) | (go_simp; rfl)); (case hp => exact (Reps.one (show Kd.FK (Kd.slice 3 (Kd.int .i64)) _ _ y784 [.slice Ao30 y784.length co30] from (Kd.FK_slice_mk (Kd.R_reads' (Kd.R_mono (ok':=(fun k_ => some k_ ≠ (u4 : Value).ownBlock ∧ k_ ≠ p5 ∧ k_ ≠ p4)) (Kd.R_types (Kd.R_types (HO786.out) p3.out (by decide)) p1.out (by decide)) (fun k_ hk => ⟨hk.1.1.1.2,⟨hk.1.2,hk.2⟩⟩))).2.1 (Kd.R_F (Kd.R_mono (ok':=(fun k_ => some k_ ≠ (u4 : Value).ownBlock ∧ k_ ≠ p5 ∧ k_ ≠ p4)) (Kd.R_types (Kd.R_types (HO786.out) p3.out (by decide)) p1.out (by decide)) (fun k_ hk => ⟨hk.1.1.1.2,⟨hk.1.2,hk.2⟩⟩))))) (Reps.one (show Kd.FK (Kd.slice 3 (Kd.int .i64)) _ _ t779 [.slice Ao31 t779.length co31] from (Kd.FK_slice_mk (Kd.R_reads' (Kd.R_mono (ok':=(fun k_ => some k_ ≠ (u4 : Value).ownBlock ∧ k_ ≠ p5 ∧ k_ ≠ p4)) (Kd.R_types (Kd.R_types (HO_8.out) p3.out (by decide)) p1.out (by decide)) (fun k_ hk => ⟨hk.1.1.1,⟨hk.1.2,hk.2⟩⟩))).2.1 (Kd.R_F (Kd.R_mono (ok':=(fun k_ => some k_ ≠ (u4 : Value).ownBlock ∧ k_ ≠ p5 ∧ k_ ≠ p4)) (Kd.R_types (Kd.R_types (HO_8.out) p3.out (by decide)) p1.out (by decide)) (fun k_ hk => ⟨hk.1.1.1,⟨hk.1.2,hk.2⟩⟩))))) (Reps.none _ _))));intro v788 w32 ho33 hb hg_ hnew_;have HX_8:=zx (show Kd.C (Kd.int .i64) w32 Ao31 t779.length t779 ∧ t779.length ≤ co31 from ⟨Kd.C_below (Kd.R_reads' HO_8.out).2.2 hb,(Kd.R_reads' HO_8.out).2.1⟩);clear hg_ hnew_
     (first | rw [← Ny787.out] at ho33 | (simp only [Int.reduceToNat] at ho33; rw [← Ny787.out] at ho33))
     have n0_:=zx (Kd.R_below HO_4.out hb);have n1_:=zx (Kd.N_lower ho33 (below_size HB.out));have n2_:=zx (blk_below (g:=p5) (o:=.cells #[.int .i64 a0_0,.slice (some p8) l0_1.length c0_1] 25 (0,0)) p3.out hb);have n3_:=zx (blk_below (g:=p4) (o:=.cells #[.int .i64 ((rd_T34 l0_1 p0).f0),.int .i64 ((rd_T34 l0_1 p0).f1),.int .i64 ((rd_T34 l0_1 p0).f2),.int .i64 ((rd_T34 l0_1 p0).f3),.int .i64 ((rd_T34 l0_1 p0).f4)] 34 (0,0)) p1.out hb);have n4_:=zx (below_step HB.out hb);clear HO_4;clear p3;clear p1;clear HB;clear HO786;clear HO_8;have HO_4:=n0_;have HO789:=n1_;have p3:=n2_;have p1:=n3_;have HB:=n4_;clear n0_ n1_ n2_ n3_ n4_;clear hb ho33;obtain ⟨Ao34,co34,eo34⟩:=Kd.N_slice HO789.out
     (first | subst eo34 | (injection eo34 with f1_ f2_ f3_; have f4_:=f1_.symm; have f5_:=f3_.symm; clear f1_ f2_ f3_; subst f4_; subst f5_))
     refine hK.out _ _ ⟨(blk_cell p1.out 0).trans rfl,(blk_cell p1.out 1).trans rfl,(blk_cell p1.out 2).trans rfl,(blk_cell p1.out 3).trans rfl,(blk_cell p1.out 4).trans rfl,(blk_cell p3.out 0).trans rfl,(blk_cell p3.out 1).trans rfl⟩ (fun hHeld => ?_);clear hK K;refine norm_ (a':=?_) ?_ ?_;rotate_left
     ·show Act.put _ (some 44) _ = _
      simp only [Act.put,U,V,Z,i64_w,i32_w];rfl
     refine one_ (i:=4) (N:=some 45) #[Y,Y,Y,Y,Y,Y,Y,Y,Y,J,J,J,J] rfl rfl (one_of HT_.out (by kernel_rfl)) (by decide) (fun K hK => ?_);refine goes_ Try.func70 (by kernel_rfl) rfl #[.slice Ao34 y787.length co34] (by rfl) rfl rfl (by (try simp only [List.map_toArray,List.map_cons,List.map_nil]); first | done | rfl | (simp only [List.length_drop,List.length_take]; rfl)) ?_;with_reducible refine (slices_Concat_int_int.calls _ _ y787 t790 _ ?side1 ?side2 A25.out).mono ?_
     (case side1 => repeat (first | exact (Kd.N_reads' HO789.out).2.2 | (with_reducible refine Kd.C_alloc ?_ _) | (with_reducible refine Kd.C_drewN ?_ _) | (with_reducible refine Kd.C_drew ?_)))
     (case side2 => exact (Kd.N_reads' HO789.out).2.1)
     rintro e w35 ⟨v791,rfl,ho0,hb⟩;have HX_8:=zx (show Kd.C (Kd.int .i64) w35 Ao31 t779.length t779 ∧ t779.length ≤ co31 from ⟨Kd.C_below HX_8.out.1 hb,HX_8.out.2⟩);refine ⟨_,rfl,?_⟩;have n0_:=zx (Kd.R_elder' HO_4.out (Kd.R_base ho0) hb);have n1_:=zx (Kd.N_elder' HO789.out (Kd.R_base ho0) hb);have n2_:=zx (Kd.R_lower (Kd.R_new' ho0 (Kd.R_lt HO_4.out)) (below_size HB.out));have n3_:=zx (blk_below (g:=p5) (o:=.cells #[.int .i64 a0_0,.slice (some p8) l0_1.length c0_1] 25 (0,0)) p3.out hb);have n4_:=zx (blk_below (g:=p4) (o:=.cells #[.int .i64 ((rd_T34 l0_1 p0).f0),.int .i64 ((rd_T34 l0_1 p0).f1),.int .i64 ((rd_T34 l0_1 p0).f2),.int .i64 ((rd_T34 l0_1 p0).f3),.int .i64 ((rd_T34 l0_1 p0).f4)] 34 (0,0)) p1.out hb);have n5_:=zx (below_step HB.out hb);clear HO_4;clear HO789;clear p3;clear p1;clear HB;have HO_4:=n0_;have HO789:=n1_;have HO792:=n2_;have p3:=n3_;have p1:=n4_;have HB:=n5_;clear n0_ n1_ n2_ n3_ n4_ n5_
     (try clear hb)
     (try clear hb2)
     (try clear hk)
     (try clear hi)
     (try clear ho0)
     refine hK.out _ _ ⟨(blk_cell p1.out 0).trans rfl,(blk_cell p1.out 1).trans rfl,(blk_cell p1.out 2).trans rfl,(blk_cell p1.out 3).trans rfl,(blk_cell p1.out 4).trans rfl,(blk_cell p3.out 0).trans rfl,(blk_cell p3.out 1).trans rfl⟩ (fun hHeld => ?_);clear hK K;refine norm_ (a':=?_) ?_ ?_;rotate_left
     ·show Act.put _ (some 45) _ = _
      simp only [Act.put,U,V,Z,i64_w,i32_w];rfl
     refine one_ (i:=9) (N:=some 50) #[Y,Y,Y,Y,Y,Y,Y,Y,Y,Y,J,J,J] rfl rfl (one_of HT_.out (by kernel_rfl)) (by decide) (fun K hK => ?_);refine goes_ Try.func69 (by kernel_rfl) rfl #[.agg #[.int .i64 a0_0,.slice (some p8) l0_1.length c0_1],.slice Ao31 t779.length co31] (by rfl) rfl rfl (by (try simp only [List.map_toArray,List.map_cons,List.map_nil]); first | done | rfl | (simp only [List.length_drop,List.length_take]; rfl)) ?_;with_reducible refine (impl_Net_cost.calls kj11 a0_0 _ _ l0_1 _ _ t779 t793 _ ?side1 ?side2 ?side3 ?side4 A26.out).mono ?_
     (case side1 => repeat (first | exact (Kd.C_below r0.out HB.out) | (with_reducible refine Kd.C_alloc ?_ _) | (with_reducible refine Kd.C_drewN ?_ _) | (with_reducible refine Kd.C_drew ?_)))
     (case side2 => exact r4.out)
     (case side3 => repeat (first | exact HX_8.out.1 | (with_reducible refine Kd.C_alloc ?_ _) | (with_reducible refine Kd.C_drewN ?_ _) | (with_reducible refine Kd.C_drew ?_)))
     (case side4 => exact HX_8.out.2)
     rintro e w36 ⟨rfl,hb⟩;refine ⟨_,rfl,?_⟩;have n0_:=zx (Kd.R_below HO_4.out hb);have n1_:=zx (Kd.N_below HO789.out hb);have n2_:=zx (Kd.R_below HO792.out hb);have n3_:=zx (blk_below (g:=p5) (o:=.cells #[.int .i64 a0_0,.slice (some p8) l0_1.length c0_1] 25 (0,0)) p3.out hb);have n4_:=zx (blk_below (g:=p4) (o:=.cells #[.int .i64 ((rd_T34 l0_1 p0).f0),.int .i64 ((rd_T34 l0_1 p0).f1),.int .i64 ((rd_T34 l0_1 p0).f2),.int .i64 ((rd_T34 l0_1 p0).f3),.int .i64 ((rd_T34 l0_1 p0).f4)] 34 (0,0)) p1.out hb);have n5_:=zx (below_step HB.out hb);clear HO_4;clear HO789;clear HO792;clear p3;clear p1;clear HB;have HO_4:=n0_;have HO789:=n1_;have HO792:=n2_;have p3:=n3_;have p1:=n4_;have HB:=n5_;clear n0_ n1_ n2_ n3_ n4_ n5_
     (try clear hb)
     (try clear hb2)
     (try clear hk)
     (try clear hi)
     refine hK.out _ _ ⟨(blk_cell p1.out 0).trans rfl,(blk_cell p1.out 1).trans rfl,(blk_cell p1.out 2).trans rfl,(blk_cell p1.out 3).trans rfl,(blk_cell p1.out 4).trans rfl,(blk_cell p3.out 0).trans rfl,(blk_cell p3.out 1).trans rfl⟩ (fun hHeld => ?_);clear hK K;refine norm_ (a':=?_) ?_ ?_;rotate_left
     ·show Act.put _ (some 50) _ = _
      simp only [Act.put,U,V,Z,i64_w,i32_w];rfl
     refine pure_ (i:=10) (N:=some 51) (v:=?_) (a':=?_) #[Y,Y,Y,Y,Y,Y,Y,Y,Y,Y,Y,J,J] rfl rfl (any_of HT_.out (by kernel_rfl)) (fun _ _ _ h => h) (Or.inl ⟨by rfl,?_⟩) ?_ ?_;rotate_left
     ·intro w';go_simp;with_reducible rfl
     rotate_left
     ·simp only [Act.put,U,V,Z,i64_w,i32_w];rfl
     refine pure_ (i:=11) (N:=some 4) (v:=?_) (a':=?_) #[Y,Y,Y,Y,Y,Y,Y,Y,Y,Y,Y,Y,J] rfl rfl (any_of HT_.out (by kernel_rfl)) (fun _ _ _ h => h) (Or.inl ⟨by rfl,?_⟩) ?_ ?_;rotate_left
     ·intro w';go_simp;with_reducible rfl
     rotate_left
     ·simp only [Act.put,U,V,Z,i64_w,i32_w];rfl
     refine pure_ (i:=12) (N:=some 5) (v:=?_) (a':=?_) #[Y,Y,Y,Y,Y,Y,Y,Y,Y,Y,Y,Y,Y] rfl rfl (any_of HT_.out (by kernel_rfl)) (fun _ _ _ h => h) (Or.inl ⟨by rfl,?_⟩) ?_ ?_;rotate_left
     ·intro w';go_simp;with_reducible rfl
     rotate_left
     ·simp only [Act.put,U,V,Z,i64_w,i32_w];rfl
     refine done_ (done_of HT_.out (by kernel_rfl)) ?_
     try go_wp2
     go_roundg kj11
     case measure => have:=HK1.out; have:=HJ11.out; omega
     case rel => exact ⟨(t790),(wrap64 (((rd_T34 l0_1 p0).f2) + t793)),(wrap64 (p0 + 1)),(by first | rfl | (simp; done) | (simp [*]; done)),(by first | rfl | (simp; done) | (simp [*]; done)),H',⟨by have:=HK1.out; have:=HJ11.out; omega⟩,⟨by exact Kd.R_mono HO792.out (fun _ hk => trivial)⟩,⟨by exact p3.out⟩,⟨by repeat (first | (with_reducible first | exact HB.out | apply below_alloc | apply pw_below_drewN | apply below_drew1 | refine below_set ?_ q2.out | refine below_set ?_ q9.out) | exact HB.out)⟩⟩
def spec_l1In.f (a0 : Int) (a1 : Int) (a2 : Int) : Option (Bool):=if a0 ≥ a1 then (some (decide (a0 ≤ a2))) else (some false)
set_option maxHeartbeats 8000000 in
set_option maxRecDepth 100000 in
theorem spec_l1In.calls (a0 : Int) (a1 : Int) (a2 : Int) (r : Bool) (w : World) (h : spec_l1In.f a0 a1 a2 = some r) :
  Calls Try.prog 54 #[.int .i64 a0,.int .i64 a1,.int .i64 a2] w fun e w' => e = .returned (.bool r) ∧ Drawn0 w w':=by
 have H : (if a0 ≥ a1 then (some (decide (a0 ≤ a2))) else (some false)) = some r:=h;clear h
 by_cases c4 : a0 ≥ a1
 case pos =>
  rw [if_pos c4] at H;have c4b0 : decide (a1 ≤ a0) = true:=decide_eq_true c4;clear c4;obtain rfl:=Option.some.inj H
  go_enter Try.func54,Try.ntmps54
  go_wp2
  go_ret;exact ⟨by first | rfl | (simp; done) | (simp [*]; done),by repeat (first | exact Drawn0.refl _ | apply Drawn0.step)⟩
 rw [if_neg c4] at H;have c4b0 : decide (a1 ≤ a0) = false:=decide_eq_false c4;clear c4;obtain rfl:=Option.some.inj H
 go_enter Try.func54,Try.ntmps54
 go_wp2
 go_ret;exact ⟨by first | rfl | (simp; done) | (simp [*]; done),by repeat (first | exact Drawn0.refl _ | apply Drawn0.step)⟩
def spec_l1Ok.l0 : Nat → Int → Int → List (S34) → Option (Bool)
 | 0,_,_,_ => none
 | k + 1,x3,q6,q3 => if x3 < (q3.length : Int) then (if 0 ≤ x3 then ((spec_l1In.f ((rd_T34 q3 x3).f0) 0 (wrap64 (q6 - 1))).bind fun t266 => (if t266 = true then ((spec_l1In.f ((rd_T34 q3 x3).f1) 0 (wrap64 (q6 - 1))).bind fun t267 => (if t267 = true then (if ((rd_T34 q3 x3).f0) = ((rd_T34 q3 x3).f1) then (some false) else ((spec_l1In.f ((rd_T34 q3 x3).f2) 0 99).bind fun t268 => (if t268 = true then ((spec_l1In.f ((rd_T34 q3 x3).f3) 0 99).bind fun t269 => (if t269 = true then ((spec_l1In.f ((rd_T34 q3 x3).f4) 0 9).bind fun t270 => (if t270 = true then (spec_l1Ok.l0 k (wrap64 (x3 + 1)) q6 q3) else (some false))) else (some false))) else (some false)))) else (some false))) else (some false))) else (none)) else ((spec_l1In.f q6 1 8).bind fun t263 => (if t263 = true then (some (decide ((q3.length : Int) ≤ 16))) else (some false)))
def spec_l1Ok.f (k : Nat) (a0_0 : Int) (l0_1 : List (S34)) : Option (Bool):=spec_l1Ok.l0 k 0 a0_0 l0_1
set_option maxHeartbeats 8000000 in
set_option maxRecDepth 100000 in
theorem spec_l1Ok.calls (k : Nat) (a0_0 : Int) (A0_1 : Option Addr) (c0_1 : Nat) (l0_1 : List (S34)) (r : Bool) (w : World) (hr0_1 : Kd.C k34 w A0_1 l0_1.length l0_1) (hc0_1 : l0_1.length ≤ c0_1) (h : spec_l1Ok.f k a0_0 l0_1 = some r) :
  Calls Try.prog 53 #[.agg #[.int .i64 a0_0,.slice A0_1 l0_1.length c0_1]] w fun e w' => e = .returned (.bool r) ∧ Below w.heap.size w w':=by
 have hu25:=Try.underlying25;have hu34:=Try.underlying34;have q7:=zx hr0_1;have HC0_1:=zx hc0_1;clear hr0_1 hc0_1;have HB:=zx (Below.refl w.heap.size w);have H : (spec_l1Ok.l0 k 0 a0_0 l0_1) = some r:=h;clear h;have H':=zx H;clear H
 go_enter Try.func53,Try.ntmps53
 go_wp2_with (first | ((with_reducible refine gate_dst (N:=1) rfl ?_); (try (refine gate_guard (by rfl) ?_; dsimp only)); refine box_event ?hg (N:=1) ?hd (cs:=#[.int .i64 a0_0,.slice A0_1 l0_1.length c0_1]) (t:=25) ?hr ?_; (case hd => rfl); (case hg => rfl); (case hr => first | (go_simp; done) | (go_simp; rfl)); intro p3 hg w2 hbox hb; have n0_:=zx (below_step HB.out hb); have n1_:=zx (hbox); have n2_:=zx ((by rw [hg]; exact (below_size HB.out) : w.heap.size ≤ p3)); have n3_:=zx ((by rw [hg]; exact (below_size HB.out) : w.heap.size ≤ p3)); clear HB; have HB:=n0_; have p0:=n1_; have GW262:=n2_; have q5:=n3_; clear n0_ n1_ n2_ n3_; clear hb hbox hg))
 go_loopg [3] k (fun kq v3 w' => ∃ (x3_1 : Int),v3 = .int .i64 x3_1 ∧ Aside0 (spec_l1Ok.l0 kq x3_1 a0_0 l0_1 = some r) ∧ Aside0 (kq ≤ k) ∧ Aside0 (w'.heap[p3]? = some (.cells #[.int .i64 a0_0,(.slice A0_1 l0_1.length c0_1)] 25 (0,0))) ∧ Aside0 (Below w.heap.size w w'))
 case atStart => exact ⟨(0),(by first | rfl | (simp; done) | (simp [*]; done)),H',⟨Nat.le_refl _⟩,⟨by exact p0.out⟩,⟨by repeat (first | (with_reducible first | exact HB.out | apply below_alloc | apply pw_below_drewN | apply below_drew1 | refine below_set ?_ q5.out) | exact HB.out)⟩⟩
 case round =>
  clear H'
  try clear p2
  obtain ⟨x3_1,rfl,HA,HK1,p0,HB⟩:=hrel;cases gk with
  | zero => exact absurd HA.out (by simp [spec_l1Ok.l0])
  | succ k1 =>
   have H:=HA.out;clear HA;simp only [spec_l1Ok.l0] at H
   by_cases c3 : x3_1 < (l0_1.length : Int)
   case neg =>
    rw [if_neg c3] at H;have c3b0 : decide (x3_1 < (l0_1.length : Int)) = false:=decide_eq_false c3;clear c3;replace H:=Option.bind_eq_some_iff.mp H;obtain ⟨t263,A510,H⟩:=H;replace H : (if t263 = true then (some (decide ((l0_1.length : Int) ≤ 16))) else (some false)) = some r:=H;have A51:=zx A510;clear A510
    by_cases c52 : t263 = true
    case pos =>
     subst c52;have H1 : (some (decide ((l0_1.length : Int) ≤ 16))) = some r:=by rw [if_pos rfl] at H; exact H
     clear H;have H:=H1;clear H1;obtain rfl:=Option.some.inj H;have hcz53_0 : wr.cell? ⟨p3,0,none⟩ = some (.int .i64 a0_0):=(blk_cell p0.out 0).trans rfl;have hcz53_1 : wr.cell? ⟨p3,1,none⟩ = some (.slice A0_1 l0_1.length c0_1):=(blk_cell p0.out 1).trans rfl;have hfz53_0:=blk_frozen p0.out 0;have hfz53_1:=blk_frozen p0.out 1
     go_wp2_with (first | ((with_reducible refine gate_callee (f:=54) rfl ?_); refine goesL_ (some 60) rfl rfl Try.func54 (by kernel_rfl) rfl #[.int .i64 a0_0,.int .i64 1,.int .i64 8] rfl (by (try simp only [List.map_toArray,List.map_cons,List.map_nil]); first | done | rfl | (simp only [List.length_drop,List.length_take]; rfl)) ?_; (with_reducible refine (spec_l1In.calls a0_0 1 8 true _ A51.out).mono ?_); rintro e w' ⟨rfl,⟨nd,rfl⟩⟩; refine ⟨_,rfl,?_⟩))
     go_ret;exact ⟨by first | rfl | (simp [errW_none,errW_some] <;> rfl) | (simp [*,errW_none,errW_some] <;> rfl),by repeat (first | (with_reducible first | exact HB.out | apply below_alloc | apply pw_below_drewN | apply below_drew1 | refine below_set ?_ q5.out) | exact HB.out)⟩
    replace c52:=Bool.eq_false_iff.mpr c52;subst c52;have H1 : (some false) = some r:=by rw [if_neg (show ¬ (false = true) by decide)] at H; exact H
    clear H;have H:=H1;clear H1;obtain rfl:=Option.some.inj H;have hcz54_0 : wr.cell? ⟨p3,0,none⟩ = some (.int .i64 a0_0):=(blk_cell p0.out 0).trans rfl;have hcz54_1 : wr.cell? ⟨p3,1,none⟩ = some (.slice A0_1 l0_1.length c0_1):=(blk_cell p0.out 1).trans rfl;have hfz54_0:=blk_frozen p0.out 0;have hfz54_1:=blk_frozen p0.out 1
    go_wp2_with (first | ((with_reducible refine gate_callee (f:=54) rfl ?_); refine goesL_ (some 60) rfl rfl Try.func54 (by kernel_rfl) rfl #[.int .i64 a0_0,.int .i64 1,.int .i64 8] rfl (by (try simp only [List.map_toArray,List.map_cons,List.map_nil]); first | done | rfl | (simp only [List.length_drop,List.length_take]; rfl)) ?_; (with_reducible refine (spec_l1In.calls a0_0 1 8 false _ A51.out).mono ?_); rintro e w' ⟨rfl,⟨nd,rfl⟩⟩; refine ⟨_,rfl,?_⟩))
    go_ret;exact ⟨by first | rfl | (simp [errW_none,errW_some] <;> rfl) | (simp [*,errW_none,errW_some] <;> rfl),by repeat (first | (with_reducible first | exact HB.out | apply below_alloc | apply pw_below_drewN | apply below_drew1 | refine below_set ?_ q5.out) | exact HB.out)⟩
   rw [if_pos c3] at H;have c3b0 : decide (x3_1 < (l0_1.length : Int)) = true:=decide_eq_true c3;clear c3
   by_cases c4 : 0 ≤ x3_1
   case neg =>
    rw [if_neg c4] at H;exact absurd H (by simp)
   rw [if_pos c4] at H;have c4b0 : decide (0 ≤ x3_1) = true:=decide_eq_true c4;clear c4;replace H:=Option.bind_eq_some_iff.mp H;obtain ⟨t266,A50,H⟩:=H;replace H : (if t266 = true then ((spec_l1In.f ((rd_T34 l0_1 x3_1).f1) 0 (wrap64 (a0_0 - 1))).bind fun t267 => (if t267 = true then (if ((rd_T34 l0_1 x3_1).f0) = ((rd_T34 l0_1 x3_1).f1) then (some false) else ((spec_l1In.f ((rd_T34 l0_1 x3_1).f2) 0 99).bind fun t268 => (if t268 = true then ((spec_l1In.f ((rd_T34 l0_1 x3_1).f3) 0 99).bind fun t269 => (if t269 = true then ((spec_l1In.f ((rd_T34 l0_1 x3_1).f4) 0 9).bind fun t270 => (if t270 = true then (spec_l1Ok.l0 k1 (wrap64 (x3_1 + 1)) a0_0 l0_1) else (some false))) else (some false))) else (some false)))) else (some false))) else (some false)) = some r:=H;have A5:=zx A50;clear A50
   by_cases c6 : t266 = true
   case neg =>
    replace c6:=Bool.eq_false_iff.mpr c6;subst c6;have H1 : (some false) = some r:=by rw [if_neg (show ¬ (false = true) by decide)] at H; exact H
    clear H;have H:=H1;clear H1;obtain rfl:=Option.some.inj H;have hcz46_0 : wr.cell? ⟨p3,0,none⟩ = some (.int .i64 a0_0):=(blk_cell p0.out 0).trans rfl;have hcz46_1 : wr.cell? ⟨p3,1,none⟩ = some (.slice A0_1 l0_1.length c0_1):=(blk_cell p0.out 1).trans rfl;have hfz46_0:=blk_frozen p0.out 0;have hfz46_1:=blk_frozen p0.out 1;have p264 : 0 ≤ (x3_1 : Int):=of_decide_eq_true (by first | (with_reducible assumption) | assumption);have q264 : x3_1 < (l0_1.length : Int):=of_decide_eq_true (by first | (with_reducible assumption) | assumption);obtain ⟨q1,e264,p5,p6,p7,p8,p9⟩:=at_T34 q7.out x3_1 p264 q264;cases e264;replace p5:=(HB.out.cell (World.block_lt_of_cell? w _ p5)).trans p5;replace p6:=(HB.out.cell (World.block_lt_of_cell? w _ p6)).trans p6;replace p7:=(HB.out.cell (World.block_lt_of_cell? w _ p7)).trans p7;replace p8:=(HB.out.cell (World.block_lt_of_cell? w _ p8)).trans p8;replace p9:=(HB.out.cell (World.block_lt_of_cell? w _ p9)).trans p9;replace p264:=eq_true p264;replace q264:=eq_true q264
    go_wp2_with (first | ((with_reducible refine gate_dst (N:=4) rfl ?_); (try (refine gate_guard (by rfl) ?_; dsimp only)); refine box_event ?hg (N:=4) ?hd (cs:=#[.int .i64 0,.int .i64 0,.int .i64 0,.int .i64 0,.int .i64 0]) (t:=34) ?hr ?_; (case hd => rfl); (case hg => rfl); (case hr => first | (go_simp; done) | (go_simp; rfl)); intro p4 hg w47 hbox hb; have n0_:=zx (blk_below (g:=p3) (o:=.cells #[.int .i64 a0_0,.slice (some q1) l0_1.length c0_1] 25 (0,0)) p0.out hb); have n1_:=zx (below_step HB.out hb); have n2_:=zx (hbox); have n3_:=zx ((by rw [hg]; exact (below_size HB.out) : w.heap.size ≤ p4)); have n4_:=zx ((by rw [hg]; exact (below_size HB.out) : w.heap.size ≤ p4)); have n5_:=zx ((by rw [hg]; exact Nat.ne_of_lt (blk_lt (g:=p3) (o:=.cells #[.int .i64 a0_0,.slice (some q1) l0_1.length c0_1] 25 (0,0)) p0.out) : p3 ≠ p4)); have n6_:=zx ((by rw [hg]; exact Nat.ne_of_gt (blk_lt (g:=p3) (o:=.cells #[.int .i64 a0_0,.slice (some q1) l0_1.length c0_1] 25 (0,0)) p0.out) : p4 ≠ p3)); clear p0; clear HB; have p0:=n0_; have HB:=n1_; have p1:=n2_; have q8:=n3_; have q4:=n4_; have q0:=n5_; have q2:=n6_; clear n0_ n1_ n2_ n3_ n4_ n5_ n6_; clear hb hbox hg; have hnb48:=q2.out; have hnc48:=q0.out; have hcz49_0 : w47.cell? ⟨p4,0,none⟩ = some (.int .i64 0):=(blk_cell p1.out 0).trans rfl; have hcz49_1 : w47.cell? ⟨p4,1,none⟩ = some (.int .i64 0):=(blk_cell p1.out 1).trans rfl; have hcz49_2 : w47.cell? ⟨p4,2,none⟩ = some (.int .i64 0):=(blk_cell p1.out 2).trans rfl; have hcz49_3 : w47.cell? ⟨p4,3,none⟩ = some (.int .i64 0):=(blk_cell p1.out 3).trans rfl; have hcz49_4 : w47.cell? ⟨p4,4,none⟩ = some (.int .i64 0):=(blk_cell p1.out 4).trans rfl; have hfz49_0:=blk_frozen p1.out 0; have hfz49_1:=blk_frozen p1.out 1; have hfz49_2:=blk_frozen p1.out 2; have hfz49_3:=blk_frozen p1.out 3; have hfz49_4:=blk_frozen p1.out 4; have hcz50_0 : w47.cell? ⟨p3,0,none⟩ = some (.int .i64 a0_0):=(blk_cell p0.out 0).trans rfl; have hcz50_1 : w47.cell? ⟨p3,1,none⟩ = some (.slice (some q1) l0_1.length c0_1):=(blk_cell p0.out 1).trans rfl; have hfz50_0:=blk_frozen p0.out 0; have hfz50_1:=blk_frozen p0.out 1) | ((with_reducible refine gate_callee (f:=54) rfl ?_); refine goesL_ (some 22) rfl rfl Try.func54 (by kernel_rfl) rfl #[.int .i64 ((rd_T34 l0_1 x3_1).f0),.int .i64 0,.int .i64 (wrap64 (a0_0 - 1))] rfl (by (try simp only [List.map_toArray,List.map_cons,List.map_nil]); first | done | rfl | (simp only [List.length_drop,List.length_take]; rfl)) ?_; (with_reducible refine (spec_l1In.calls ((rd_T34 l0_1 x3_1).f0) 0 (wrap64 (a0_0 - 1)) false _ A5.out).mono ?_); rintro e w' ⟨rfl,⟨nd,rfl⟩⟩; refine ⟨_,rfl,?_⟩))
    go_ret;exact ⟨by first | rfl | (simp [errW_none,errW_some] <;> rfl) | (simp [*,errW_none,errW_some] <;> rfl),by repeat (first | (with_reducible first | exact HB.out | apply below_alloc | apply pw_below_drewN | apply below_drew1 | refine below_set ?_ q5.out | refine below_set ?_ q4.out) | exact HB.out)⟩
   subst c6;have H1 : ((spec_l1In.f ((rd_T34 l0_1 x3_1).f1) 0 (wrap64 (a0_0 - 1))).bind fun t267 => (if t267 = true then (if ((rd_T34 l0_1 x3_1).f0) = ((rd_T34 l0_1 x3_1).f1) then (some false) else ((spec_l1In.f ((rd_T34 l0_1 x3_1).f2) 0 99).bind fun t268 => (if t268 = true then ((spec_l1In.f ((rd_T34 l0_1 x3_1).f3) 0 99).bind fun t269 => (if t269 = true then ((spec_l1In.f ((rd_T34 l0_1 x3_1).f4) 0 9).bind fun t270 => (if t270 = true then (spec_l1Ok.l0 k1 (wrap64 (x3_1 + 1)) a0_0 l0_1) else (some false))) else (some false))) else (some false)))) else (some false))) = some r:=by rw [if_pos rfl] at H; exact H
   clear H;have H:=H1;clear H1;replace H:=Option.bind_eq_some_iff.mp H;obtain ⟨t267,A70,H⟩:=H;replace H : (if t267 = true then (if ((rd_T34 l0_1 x3_1).f0) = ((rd_T34 l0_1 x3_1).f1) then (some false) else ((spec_l1In.f ((rd_T34 l0_1 x3_1).f2) 0 99).bind fun t268 => (if t268 = true then ((spec_l1In.f ((rd_T34 l0_1 x3_1).f3) 0 99).bind fun t269 => (if t269 = true then ((spec_l1In.f ((rd_T34 l0_1 x3_1).f4) 0 9).bind fun t270 => (if t270 = true then (spec_l1Ok.l0 k1 (wrap64 (x3_1 + 1)) a0_0 l0_1) else (some false))) else (some false))) else (some false)))) else (some false)) = some r:=H;have A7:=zx A70;clear A70
   by_cases c8 : t267 = true
   case neg =>
    replace c8:=Bool.eq_false_iff.mpr c8;subst c8;have H1 : (some false) = some r:=by rw [if_neg (show ¬ (false = true) by decide)] at H; exact H
    clear H;have H:=H1;clear H1;obtain rfl:=Option.some.inj H;have hcz41_0 : wr.cell? ⟨p3,0,none⟩ = some (.int .i64 a0_0):=(blk_cell p0.out 0).trans rfl;have hcz41_1 : wr.cell? ⟨p3,1,none⟩ = some (.slice A0_1 l0_1.length c0_1):=(blk_cell p0.out 1).trans rfl;have hfz41_0:=blk_frozen p0.out 0;have hfz41_1:=blk_frozen p0.out 1;have p264 : 0 ≤ (x3_1 : Int):=of_decide_eq_true (by first | (with_reducible assumption) | assumption);have q264 : x3_1 < (l0_1.length : Int):=of_decide_eq_true (by first | (with_reducible assumption) | assumption);obtain ⟨q1,e264,p5,p6,p7,p8,p9⟩:=at_T34 q7.out x3_1 p264 q264;cases e264;replace p5:=(HB.out.cell (World.block_lt_of_cell? w _ p5)).trans p5;replace p6:=(HB.out.cell (World.block_lt_of_cell? w _ p6)).trans p6;replace p7:=(HB.out.cell (World.block_lt_of_cell? w _ p7)).trans p7;replace p8:=(HB.out.cell (World.block_lt_of_cell? w _ p8)).trans p8;replace p9:=(HB.out.cell (World.block_lt_of_cell? w _ p9)).trans p9;replace p264:=eq_true p264;replace q264:=eq_true q264
    go_wp2_with (first | ((with_reducible refine gate_dst (N:=4) rfl ?_); (try (refine gate_guard (by rfl) ?_; dsimp only)); refine box_event ?hg (N:=4) ?hd (cs:=#[.int .i64 0,.int .i64 0,.int .i64 0,.int .i64 0,.int .i64 0]) (t:=34) ?hr ?_; (case hd => rfl); (case hg => rfl); (case hr => first | (go_simp; done) | (go_simp; rfl)); intro p4 hg w42 hbox hb; have n0_:=zx (blk_below (g:=p3) (o:=.cells #[.int .i64 a0_0,.slice (some q1) l0_1.length c0_1] 25 (0,0)) p0.out hb); have n1_:=zx (below_step HB.out hb); have n2_:=zx (hbox); have n3_:=zx ((by rw [hg]; exact (below_size HB.out) : w.heap.size ≤ p4)); have n4_:=zx ((by rw [hg]; exact (below_size HB.out) : w.heap.size ≤ p4)); have n5_:=zx ((by rw [hg]; exact Nat.ne_of_lt (blk_lt (g:=p3) (o:=.cells #[.int .i64 a0_0,.slice (some q1) l0_1.length c0_1] 25 (0,0)) p0.out) : p3 ≠ p4)); have n6_:=zx ((by rw [hg]; exact Nat.ne_of_gt (blk_lt (g:=p3) (o:=.cells #[.int .i64 a0_0,.slice (some q1) l0_1.length c0_1] 25 (0,0)) p0.out) : p4 ≠ p3)); clear p0; clear HB; have p0:=n0_; have HB:=n1_; have p1:=n2_; have q8:=n3_; have q4:=n4_; have q0:=n5_; have q2:=n6_; clear n0_ n1_ n2_ n3_ n4_ n5_ n6_; clear hb hbox hg; have hnb43:=q2.out; have hnc43:=q0.out; have hcz44_0 : w42.cell? ⟨p4,0,none⟩ = some (.int .i64 0):=(blk_cell p1.out 0).trans rfl; have hcz44_1 : w42.cell? ⟨p4,1,none⟩ = some (.int .i64 0):=(blk_cell p1.out 1).trans rfl; have hcz44_2 : w42.cell? ⟨p4,2,none⟩ = some (.int .i64 0):=(blk_cell p1.out 2).trans rfl; have hcz44_3 : w42.cell? ⟨p4,3,none⟩ = some (.int .i64 0):=(blk_cell p1.out 3).trans rfl; have hcz44_4 : w42.cell? ⟨p4,4,none⟩ = some (.int .i64 0):=(blk_cell p1.out 4).trans rfl; have hfz44_0:=blk_frozen p1.out 0; have hfz44_1:=blk_frozen p1.out 1; have hfz44_2:=blk_frozen p1.out 2; have hfz44_3:=blk_frozen p1.out 3; have hfz44_4:=blk_frozen p1.out 4; have hcz45_0 : w42.cell? ⟨p3,0,none⟩ = some (.int .i64 a0_0):=(blk_cell p0.out 0).trans rfl; have hcz45_1 : w42.cell? ⟨p3,1,none⟩ = some (.slice (some q1) l0_1.length c0_1):=(blk_cell p0.out 1).trans rfl; have hfz45_0:=blk_frozen p0.out 0; have hfz45_1:=blk_frozen p0.out 1) | ((with_reducible refine gate_callee (f:=54) rfl ?_); refine goesL_ (some 22) rfl rfl Try.func54 (by kernel_rfl) rfl #[.int .i64 ((rd_T34 l0_1 x3_1).f0),.int .i64 0,.int .i64 (wrap64 (a0_0 - 1))] rfl (by (try simp only [List.map_toArray,List.map_cons,List.map_nil]); first | done | rfl | (simp only [List.length_drop,List.length_take]; rfl)) ?_; (with_reducible refine (spec_l1In.calls ((rd_T34 l0_1 x3_1).f0) 0 (wrap64 (a0_0 - 1)) true _ A5.out).mono ?_); rintro e w' ⟨rfl,⟨nd,rfl⟩⟩; refine ⟨_,rfl,?_⟩) | (go_at_call 54; (with_reducible refine (spec_l1In.calls ((rd_T34 l0_1 x3_1).f1) 0 (wrap64 (a0_0 - 1)) false _ A7.out).mono ?_); rintro e w' ⟨rfl,⟨nd,rfl⟩⟩))
    go_ret;exact ⟨by first | rfl | (simp [errW_none,errW_some] <;> rfl) | (simp [*,errW_none,errW_some] <;> rfl),by repeat (first | (with_reducible first | exact HB.out | apply below_alloc | apply pw_below_drewN | apply below_drew1 | refine below_set ?_ q5.out | refine below_set ?_ q4.out) | exact HB.out)⟩
   subst c8;have H1 : (if ((rd_T34 l0_1 x3_1).f0) = ((rd_T34 l0_1 x3_1).f1) then (some false) else ((spec_l1In.f ((rd_T34 l0_1 x3_1).f2) 0 99).bind fun t268 => (if t268 = true then ((spec_l1In.f ((rd_T34 l0_1 x3_1).f3) 0 99).bind fun t269 => (if t269 = true then ((spec_l1In.f ((rd_T34 l0_1 x3_1).f4) 0 9).bind fun t270 => (if t270 = true then (spec_l1Ok.l0 k1 (wrap64 (x3_1 + 1)) a0_0 l0_1) else (some false))) else (some false))) else (some false)))) = some r:=by rw [if_pos rfl] at H; exact H
   clear H;have H:=H1;clear H1
   by_cases c9 : ((rd_T34 l0_1 x3_1).f0) = ((rd_T34 l0_1 x3_1).f1)
   case pos =>
    rw [if_pos c9] at H;have c9b0 : (((rd_T34 l0_1 x3_1).f0) == ((rd_T34 l0_1 x3_1).f1)) = true:=beq_iff_eq.mpr c9;have c9b1 : (((rd_T34 l0_1 x3_1).f0) != ((rd_T34 l0_1 x3_1).f1)) = false:=bne_eq_false_iff_eq.mpr c9;clear c9;obtain rfl:=Option.some.inj H;have hcz10_0 : wr.cell? ⟨p3,0,none⟩ = some (.int .i64 a0_0):=(blk_cell p0.out 0).trans rfl;have hcz10_1 : wr.cell? ⟨p3,1,none⟩ = some (.slice A0_1 l0_1.length c0_1):=(blk_cell p0.out 1).trans rfl;have hfz10_0:=blk_frozen p0.out 0;have hfz10_1:=blk_frozen p0.out 1;have p264 : 0 ≤ (x3_1 : Int):=of_decide_eq_true (by first | (with_reducible assumption) | assumption);have q264 : x3_1 < (l0_1.length : Int):=of_decide_eq_true (by first | (with_reducible assumption) | assumption);obtain ⟨q1,e264,p5,p6,p7,p8,p9⟩:=at_T34 q7.out x3_1 p264 q264;cases e264;replace p5:=(HB.out.cell (World.block_lt_of_cell? w _ p5)).trans p5;replace p6:=(HB.out.cell (World.block_lt_of_cell? w _ p6)).trans p6;replace p7:=(HB.out.cell (World.block_lt_of_cell? w _ p7)).trans p7;replace p8:=(HB.out.cell (World.block_lt_of_cell? w _ p8)).trans p8;replace p9:=(HB.out.cell (World.block_lt_of_cell? w _ p9)).trans p9;replace p264:=eq_true p264;replace q264:=eq_true q264
    go_wp2_with (first | ((with_reducible refine gate_dst (N:=4) rfl ?_); (try (refine gate_guard (by rfl) ?_; dsimp only)); refine box_event ?hg (N:=4) ?hd (cs:=#[.int .i64 0,.int .i64 0,.int .i64 0,.int .i64 0,.int .i64 0]) (t:=34) ?hr ?_; (case hd => rfl); (case hg => rfl); (case hr => first | (go_simp; done) | (go_simp; rfl)); intro p4 hg w11 hbox hb; have n0_:=zx (blk_below (g:=p3) (o:=.cells #[.int .i64 a0_0,.slice (some q1) l0_1.length c0_1] 25 (0,0)) p0.out hb); have n1_:=zx (below_step HB.out hb); have n2_:=zx (hbox); have n3_:=zx ((by rw [hg]; exact (below_size HB.out) : w.heap.size ≤ p4)); have n4_:=zx ((by rw [hg]; exact (below_size HB.out) : w.heap.size ≤ p4)); have n5_:=zx ((by rw [hg]; exact Nat.ne_of_lt (blk_lt (g:=p3) (o:=.cells #[.int .i64 a0_0,.slice (some q1) l0_1.length c0_1] 25 (0,0)) p0.out) : p3 ≠ p4)); have n6_:=zx ((by rw [hg]; exact Nat.ne_of_gt (blk_lt (g:=p3) (o:=.cells #[.int .i64 a0_0,.slice (some q1) l0_1.length c0_1] 25 (0,0)) p0.out) : p4 ≠ p3)); clear p0; clear HB; have p0:=n0_; have HB:=n1_; have p1:=n2_; have q8:=n3_; have q4:=n4_; have q0:=n5_; have q2:=n6_; clear n0_ n1_ n2_ n3_ n4_ n5_ n6_; clear hb hbox hg; have hnb12:=q2.out; have hnc12:=q0.out; have hcz13_0 : w11.cell? ⟨p4,0,none⟩ = some (.int .i64 0):=(blk_cell p1.out 0).trans rfl; have hcz13_1 : w11.cell? ⟨p4,1,none⟩ = some (.int .i64 0):=(blk_cell p1.out 1).trans rfl; have hcz13_2 : w11.cell? ⟨p4,2,none⟩ = some (.int .i64 0):=(blk_cell p1.out 2).trans rfl; have hcz13_3 : w11.cell? ⟨p4,3,none⟩ = some (.int .i64 0):=(blk_cell p1.out 3).trans rfl; have hcz13_4 : w11.cell? ⟨p4,4,none⟩ = some (.int .i64 0):=(blk_cell p1.out 4).trans rfl; have hfz13_0:=blk_frozen p1.out 0; have hfz13_1:=blk_frozen p1.out 1; have hfz13_2:=blk_frozen p1.out 2; have hfz13_3:=blk_frozen p1.out 3; have hfz13_4:=blk_frozen p1.out 4; have hcz14_0 : w11.cell? ⟨p3,0,none⟩ = some (.int .i64 a0_0):=(blk_cell p0.out 0).trans rfl; have hcz14_1 : w11.cell? ⟨p3,1,none⟩ = some (.slice (some q1) l0_1.length c0_1):=(blk_cell p0.out 1).trans rfl; have hfz14_0:=blk_frozen p0.out 0; have hfz14_1:=blk_frozen p0.out 1) | ((with_reducible refine gate_callee (f:=54) rfl ?_); refine goesL_ (some 22) rfl rfl Try.func54 (by kernel_rfl) rfl #[.int .i64 ((rd_T34 l0_1 x3_1).f0),.int .i64 0,.int .i64 (wrap64 (a0_0 - 1))] rfl (by (try simp only [List.map_toArray,List.map_cons,List.map_nil]); first | done | rfl | (simp only [List.length_drop,List.length_take]; rfl)) ?_; (with_reducible refine (spec_l1In.calls ((rd_T34 l0_1 x3_1).f0) 0 (wrap64 (a0_0 - 1)) true _ A5.out).mono ?_); rintro e w' ⟨rfl,⟨nd,rfl⟩⟩; refine ⟨_,rfl,?_⟩) | (go_at_call 54; (with_reducible refine (spec_l1In.calls ((rd_T34 l0_1 x3_1).f1) 0 (wrap64 (a0_0 - 1)) true _ A7.out).mono ?_); rintro e w' ⟨rfl,⟨nd,rfl⟩⟩))
    go_ret;exact ⟨by first | rfl | (simp [errW_none,errW_some] <;> rfl) | (simp [*,errW_none,errW_some] <;> rfl),by repeat (first | (with_reducible first | exact HB.out | apply below_alloc | apply pw_below_drewN | apply below_drew1 | refine below_set ?_ q5.out | refine below_set ?_ q4.out) | exact HB.out)⟩
   rw [if_neg c9] at H;have c9b0 : (((rd_T34 l0_1 x3_1).f0) == ((rd_T34 l0_1 x3_1).f1)) = false:=beq_eq_false_iff_ne.mpr c9;have c9b1 : (((rd_T34 l0_1 x3_1).f0) != ((rd_T34 l0_1 x3_1).f1)) = true:=bne_iff_ne.mpr c9;replace H:=Option.bind_eq_some_iff.mp H;obtain ⟨t268,A150,H⟩:=H;replace H : (if t268 = true then ((spec_l1In.f ((rd_T34 l0_1 x3_1).f3) 0 99).bind fun t269 => (if t269 = true then ((spec_l1In.f ((rd_T34 l0_1 x3_1).f4) 0 9).bind fun t270 => (if t270 = true then (spec_l1Ok.l0 k1 (wrap64 (x3_1 + 1)) a0_0 l0_1) else (some false))) else (some false))) else (some false)) = some r:=H;have A15:=zx A150;clear A150
   by_cases c16 : t268 = true
   case neg =>
    replace c16:=Bool.eq_false_iff.mpr c16;subst c16;have H1 : (some false) = some r:=by rw [if_neg (show ¬ (false = true) by decide)] at H; exact H
    clear H;have H:=H1;clear H1;obtain rfl:=Option.some.inj H;have hcz36_0 : wr.cell? ⟨p3,0,none⟩ = some (.int .i64 a0_0):=(blk_cell p0.out 0).trans rfl;have hcz36_1 : wr.cell? ⟨p3,1,none⟩ = some (.slice A0_1 l0_1.length c0_1):=(blk_cell p0.out 1).trans rfl;have hfz36_0:=blk_frozen p0.out 0;have hfz36_1:=blk_frozen p0.out 1;have p264 : 0 ≤ (x3_1 : Int):=of_decide_eq_true (by first | (with_reducible assumption) | assumption);have q264 : x3_1 < (l0_1.length : Int):=of_decide_eq_true (by first | (with_reducible assumption) | assumption);obtain ⟨q1,e264,p5,p6,p7,p8,p9⟩:=at_T34 q7.out x3_1 p264 q264;cases e264;replace p5:=(HB.out.cell (World.block_lt_of_cell? w _ p5)).trans p5;replace p6:=(HB.out.cell (World.block_lt_of_cell? w _ p6)).trans p6;replace p7:=(HB.out.cell (World.block_lt_of_cell? w _ p7)).trans p7;replace p8:=(HB.out.cell (World.block_lt_of_cell? w _ p8)).trans p8;replace p9:=(HB.out.cell (World.block_lt_of_cell? w _ p9)).trans p9;replace p264:=eq_true p264;replace q264:=eq_true q264
    go_wp2_with (first | ((with_reducible refine gate_dst (N:=4) rfl ?_); (try (refine gate_guard (by rfl) ?_; dsimp only)); refine box_event ?hg (N:=4) ?hd (cs:=#[.int .i64 0,.int .i64 0,.int .i64 0,.int .i64 0,.int .i64 0]) (t:=34) ?hr ?_; (case hd => rfl); (case hg => rfl); (case hr => first | (go_simp; done) | (go_simp; rfl)); intro p4 hg w37 hbox hb; have n0_:=zx (blk_below (g:=p3) (o:=.cells #[.int .i64 a0_0,.slice (some q1) l0_1.length c0_1] 25 (0,0)) p0.out hb); have n1_:=zx (below_step HB.out hb); have n2_:=zx (hbox); have n3_:=zx ((by rw [hg]; exact (below_size HB.out) : w.heap.size ≤ p4)); have n4_:=zx ((by rw [hg]; exact (below_size HB.out) : w.heap.size ≤ p4)); have n5_:=zx ((by rw [hg]; exact Nat.ne_of_lt (blk_lt (g:=p3) (o:=.cells #[.int .i64 a0_0,.slice (some q1) l0_1.length c0_1] 25 (0,0)) p0.out) : p3 ≠ p4)); have n6_:=zx ((by rw [hg]; exact Nat.ne_of_gt (blk_lt (g:=p3) (o:=.cells #[.int .i64 a0_0,.slice (some q1) l0_1.length c0_1] 25 (0,0)) p0.out) : p4 ≠ p3)); clear p0; clear HB; have p0:=n0_; have HB:=n1_; have p1:=n2_; have q8:=n3_; have q4:=n4_; have q0:=n5_; have q2:=n6_; clear n0_ n1_ n2_ n3_ n4_ n5_ n6_; clear hb hbox hg; have hnb38:=q2.out; have hnc38:=q0.out; have hcz39_0 : w37.cell? ⟨p4,0,none⟩ = some (.int .i64 0):=(blk_cell p1.out 0).trans rfl; have hcz39_1 : w37.cell? ⟨p4,1,none⟩ = some (.int .i64 0):=(blk_cell p1.out 1).trans rfl; have hcz39_2 : w37.cell? ⟨p4,2,none⟩ = some (.int .i64 0):=(blk_cell p1.out 2).trans rfl; have hcz39_3 : w37.cell? ⟨p4,3,none⟩ = some (.int .i64 0):=(blk_cell p1.out 3).trans rfl; have hcz39_4 : w37.cell? ⟨p4,4,none⟩ = some (.int .i64 0):=(blk_cell p1.out 4).trans rfl; have hfz39_0:=blk_frozen p1.out 0; have hfz39_1:=blk_frozen p1.out 1; have hfz39_2:=blk_frozen p1.out 2; have hfz39_3:=blk_frozen p1.out 3; have hfz39_4:=blk_frozen p1.out 4; have hcz40_0 : w37.cell? ⟨p3,0,none⟩ = some (.int .i64 a0_0):=(blk_cell p0.out 0).trans rfl; have hcz40_1 : w37.cell? ⟨p3,1,none⟩ = some (.slice (some q1) l0_1.length c0_1):=(blk_cell p0.out 1).trans rfl; have hfz40_0:=blk_frozen p0.out 0; have hfz40_1:=blk_frozen p0.out 1) | ((with_reducible refine gate_callee (f:=54) rfl ?_); refine goesL_ (some 22) rfl rfl Try.func54 (by kernel_rfl) rfl #[.int .i64 ((rd_T34 l0_1 x3_1).f0),.int .i64 0,.int .i64 (wrap64 (a0_0 - 1))] rfl (by (try simp only [List.map_toArray,List.map_cons,List.map_nil]); first | done | rfl | (simp only [List.length_drop,List.length_take]; rfl)) ?_; (with_reducible refine (spec_l1In.calls ((rd_T34 l0_1 x3_1).f0) 0 (wrap64 (a0_0 - 1)) true _ A5.out).mono ?_); rintro e w' ⟨rfl,⟨nd,rfl⟩⟩; refine ⟨_,rfl,?_⟩) | (go_at_call 54; (with_reducible refine (spec_l1In.calls ((rd_T34 l0_1 x3_1).f1) 0 (wrap64 (a0_0 - 1)) true _ A7.out).mono ?_); rintro e w' ⟨rfl,⟨nd,rfl⟩⟩) | (go_at_call 54; (with_reducible refine (spec_l1In.calls ((rd_T34 l0_1 x3_1).f2) 0 99 false _ A15.out).mono ?_); rintro e w' ⟨rfl,⟨nd,rfl⟩⟩))
    go_ret;exact ⟨by first | rfl | (simp [errW_none,errW_some] <;> rfl) | (simp [*,errW_none,errW_some] <;> rfl),by repeat (first | (with_reducible first | exact HB.out | apply below_alloc | apply pw_below_drewN | apply below_drew1 | refine below_set ?_ q5.out | refine below_set ?_ q4.out) | exact HB.out)⟩
   subst c16;have H1 : ((spec_l1In.f ((rd_T34 l0_1 x3_1).f3) 0 99).bind fun t269 => (if t269 = true then ((spec_l1In.f ((rd_T34 l0_1 x3_1).f4) 0 9).bind fun t270 => (if t270 = true then (spec_l1Ok.l0 k1 (wrap64 (x3_1 + 1)) a0_0 l0_1) else (some false))) else (some false))) = some r:=by rw [if_pos rfl] at H; exact H
   clear H;have H:=H1;clear H1;replace H:=Option.bind_eq_some_iff.mp H;obtain ⟨t269,A170,H⟩:=H;replace H : (if t269 = true then ((spec_l1In.f ((rd_T34 l0_1 x3_1).f4) 0 9).bind fun t270 => (if t270 = true then (spec_l1Ok.l0 k1 (wrap64 (x3_1 + 1)) a0_0 l0_1) else (some false))) else (some false)) = some r:=H;have A17:=zx A170;clear A170
   by_cases c18 : t269 = true
   case neg =>
    replace c18:=Bool.eq_false_iff.mpr c18;subst c18;have H1 : (some false) = some r:=by rw [if_neg (show ¬ (false = true) by decide)] at H; exact H
    clear H;have H:=H1;clear H1;obtain rfl:=Option.some.inj H;have hcz31_0 : wr.cell? ⟨p3,0,none⟩ = some (.int .i64 a0_0):=(blk_cell p0.out 0).trans rfl;have hcz31_1 : wr.cell? ⟨p3,1,none⟩ = some (.slice A0_1 l0_1.length c0_1):=(blk_cell p0.out 1).trans rfl;have hfz31_0:=blk_frozen p0.out 0;have hfz31_1:=blk_frozen p0.out 1;have p264 : 0 ≤ (x3_1 : Int):=of_decide_eq_true (by first | (with_reducible assumption) | assumption);have q264 : x3_1 < (l0_1.length : Int):=of_decide_eq_true (by first | (with_reducible assumption) | assumption);obtain ⟨q1,e264,p5,p6,p7,p8,p9⟩:=at_T34 q7.out x3_1 p264 q264;cases e264;replace p5:=(HB.out.cell (World.block_lt_of_cell? w _ p5)).trans p5;replace p6:=(HB.out.cell (World.block_lt_of_cell? w _ p6)).trans p6;replace p7:=(HB.out.cell (World.block_lt_of_cell? w _ p7)).trans p7;replace p8:=(HB.out.cell (World.block_lt_of_cell? w _ p8)).trans p8;replace p9:=(HB.out.cell (World.block_lt_of_cell? w _ p9)).trans p9;replace p264:=eq_true p264;replace q264:=eq_true q264
    go_wp2_with (first | ((with_reducible refine gate_dst (N:=4) rfl ?_); (try (refine gate_guard (by rfl) ?_; dsimp only)); refine box_event ?hg (N:=4) ?hd (cs:=#[.int .i64 0,.int .i64 0,.int .i64 0,.int .i64 0,.int .i64 0]) (t:=34) ?hr ?_; (case hd => rfl); (case hg => rfl); (case hr => first | (go_simp; done) | (go_simp; rfl)); intro p4 hg w32 hbox hb; have n0_:=zx (blk_below (g:=p3) (o:=.cells #[.int .i64 a0_0,.slice (some q1) l0_1.length c0_1] 25 (0,0)) p0.out hb); have n1_:=zx (below_step HB.out hb); have n2_:=zx (hbox); have n3_:=zx ((by rw [hg]; exact (below_size HB.out) : w.heap.size ≤ p4)); have n4_:=zx ((by rw [hg]; exact (below_size HB.out) : w.heap.size ≤ p4)); have n5_:=zx ((by rw [hg]; exact Nat.ne_of_lt (blk_lt (g:=p3) (o:=.cells #[.int .i64 a0_0,.slice (some q1) l0_1.length c0_1] 25 (0,0)) p0.out) : p3 ≠ p4)); have n6_:=zx ((by rw [hg]; exact Nat.ne_of_gt (blk_lt (g:=p3) (o:=.cells #[.int .i64 a0_0,.slice (some q1) l0_1.length c0_1] 25 (0,0)) p0.out) : p4 ≠ p3)); clear p0; clear HB; have p0:=n0_; have HB:=n1_; have p1:=n2_; have q8:=n3_; have q4:=n4_; have q0:=n5_; have q2:=n6_; clear n0_ n1_ n2_ n3_ n4_ n5_ n6_; clear hb hbox hg; have hnb33:=q2.out; have hnc33:=q0.out; have hcz34_0 : w32.cell? ⟨p4,0,none⟩ = some (.int .i64 0):=(blk_cell p1.out 0).trans rfl; have hcz34_1 : w32.cell? ⟨p4,1,none⟩ = some (.int .i64 0):=(blk_cell p1.out 1).trans rfl; have hcz34_2 : w32.cell? ⟨p4,2,none⟩ = some (.int .i64 0):=(blk_cell p1.out 2).trans rfl; have hcz34_3 : w32.cell? ⟨p4,3,none⟩ = some (.int .i64 0):=(blk_cell p1.out 3).trans rfl; have hcz34_4 : w32.cell? ⟨p4,4,none⟩ = some (.int .i64 0):=(blk_cell p1.out 4).trans rfl; have hfz34_0:=blk_frozen p1.out 0; have hfz34_1:=blk_frozen p1.out 1; have hfz34_2:=blk_frozen p1.out 2; have hfz34_3:=blk_frozen p1.out 3; have hfz34_4:=blk_frozen p1.out 4; have hcz35_0 : w32.cell? ⟨p3,0,none⟩ = some (.int .i64 a0_0):=(blk_cell p0.out 0).trans rfl; have hcz35_1 : w32.cell? ⟨p3,1,none⟩ = some (.slice (some q1) l0_1.length c0_1):=(blk_cell p0.out 1).trans rfl; have hfz35_0:=blk_frozen p0.out 0; have hfz35_1:=blk_frozen p0.out 1) | ((with_reducible refine gate_callee (f:=54) rfl ?_); refine goesL_ (some 22) rfl rfl Try.func54 (by kernel_rfl) rfl #[.int .i64 ((rd_T34 l0_1 x3_1).f0),.int .i64 0,.int .i64 (wrap64 (a0_0 - 1))] rfl (by (try simp only [List.map_toArray,List.map_cons,List.map_nil]); first | done | rfl | (simp only [List.length_drop,List.length_take]; rfl)) ?_; (with_reducible refine (spec_l1In.calls ((rd_T34 l0_1 x3_1).f0) 0 (wrap64 (a0_0 - 1)) true _ A5.out).mono ?_); rintro e w' ⟨rfl,⟨nd,rfl⟩⟩; refine ⟨_,rfl,?_⟩) | (go_at_call 54; (with_reducible refine (spec_l1In.calls ((rd_T34 l0_1 x3_1).f1) 0 (wrap64 (a0_0 - 1)) true _ A7.out).mono ?_); rintro e w' ⟨rfl,⟨nd,rfl⟩⟩) | (go_at_call 54; (with_reducible refine (spec_l1In.calls ((rd_T34 l0_1 x3_1).f2) 0 99 true _ A15.out).mono ?_); rintro e w' ⟨rfl,⟨nd,rfl⟩⟩) | (go_at_call 54; (with_reducible refine (spec_l1In.calls ((rd_T34 l0_1 x3_1).f3) 0 99 false _ A17.out).mono ?_); rintro e w' ⟨rfl,⟨nd,rfl⟩⟩))
    go_ret;exact ⟨by first | rfl | (simp [errW_none,errW_some] <;> rfl) | (simp [*,errW_none,errW_some] <;> rfl),by repeat (first | (with_reducible first | exact HB.out | apply below_alloc | apply pw_below_drewN | apply below_drew1 | refine below_set ?_ q5.out | refine below_set ?_ q4.out) | exact HB.out)⟩
   subst c18;have H1 : ((spec_l1In.f ((rd_T34 l0_1 x3_1).f4) 0 9).bind fun t270 => (if t270 = true then (spec_l1Ok.l0 k1 (wrap64 (x3_1 + 1)) a0_0 l0_1) else (some false))) = some r:=by rw [if_pos rfl] at H; exact H
   clear H;have H:=H1;clear H1;replace H:=Option.bind_eq_some_iff.mp H;obtain ⟨t270,A190,H⟩:=H;replace H : (if t270 = true then (spec_l1Ok.l0 k1 (wrap64 (x3_1 + 1)) a0_0 l0_1) else (some false)) = some r:=H;have A19:=zx A190;clear A190
   by_cases c20 : t270 = true
   case neg =>
    replace c20:=Bool.eq_false_iff.mpr c20;subst c20;have H1 : (some false) = some r:=by rw [if_neg (show ¬ (false = true) by decide)] at H; exact H
    clear H;have H:=H1;clear H1;obtain rfl:=Option.some.inj H;have hcz26_0 : wr.cell? ⟨p3,0,none⟩ = some (.int .i64 a0_0):=(blk_cell p0.out 0).trans rfl;have hcz26_1 : wr.cell? ⟨p3,1,none⟩ = some (.slice A0_1 l0_1.length c0_1):=(blk_cell p0.out 1).trans rfl;have hfz26_0:=blk_frozen p0.out 0;have hfz26_1:=blk_frozen p0.out 1;have p264 : 0 ≤ (x3_1 : Int):=of_decide_eq_true (by first | (with_reducible assumption) | assumption);have q264 : x3_1 < (l0_1.length : Int):=of_decide_eq_true (by first | (with_reducible assumption) | assumption);obtain ⟨q1,e264,p5,p6,p7,p8,p9⟩:=at_T34 q7.out x3_1 p264 q264;cases e264;replace p5:=(HB.out.cell (World.block_lt_of_cell? w _ p5)).trans p5;replace p6:=(HB.out.cell (World.block_lt_of_cell? w _ p6)).trans p6;replace p7:=(HB.out.cell (World.block_lt_of_cell? w _ p7)).trans p7;replace p8:=(HB.out.cell (World.block_lt_of_cell? w _ p8)).trans p8;replace p9:=(HB.out.cell (World.block_lt_of_cell? w _ p9)).trans p9;replace p264:=eq_true p264;replace q264:=eq_true q264
    go_wp2_with (first | ((with_reducible refine gate_dst (N:=4) rfl ?_); (try (refine gate_guard (by rfl) ?_; dsimp only)); refine box_event ?hg (N:=4) ?hd (cs:=#[.int .i64 0,.int .i64 0,.int .i64 0,.int .i64 0,.int .i64 0]) (t:=34) ?hr ?_; (case hd => rfl); (case hg => rfl); (case hr => first | (go_simp; done) | (go_simp; rfl)); intro p4 hg w27 hbox hb; have n0_:=zx (blk_below (g:=p3) (o:=.cells #[.int .i64 a0_0,.slice (some q1) l0_1.length c0_1] 25 (0,0)) p0.out hb); have n1_:=zx (below_step HB.out hb); have n2_:=zx (hbox); have n3_:=zx ((by rw [hg]; exact (below_size HB.out) : w.heap.size ≤ p4)); have n4_:=zx ((by rw [hg]; exact (below_size HB.out) : w.heap.size ≤ p4)); have n5_:=zx ((by rw [hg]; exact Nat.ne_of_lt (blk_lt (g:=p3) (o:=.cells #[.int .i64 a0_0,.slice (some q1) l0_1.length c0_1] 25 (0,0)) p0.out) : p3 ≠ p4)); have n6_:=zx ((by rw [hg]; exact Nat.ne_of_gt (blk_lt (g:=p3) (o:=.cells #[.int .i64 a0_0,.slice (some q1) l0_1.length c0_1] 25 (0,0)) p0.out) : p4 ≠ p3)); clear p0; clear HB; have p0:=n0_; have HB:=n1_; have p1:=n2_; have q8:=n3_; have q4:=n4_; have q0:=n5_; have q2:=n6_; clear n0_ n1_ n2_ n3_ n4_ n5_ n6_; clear hb hbox hg; have hnb28:=q2.out; have hnc28:=q0.out; have hcz29_0 : w27.cell? ⟨p4,0,none⟩ = some (.int .i64 0):=(blk_cell p1.out 0).trans rfl; have hcz29_1 : w27.cell? ⟨p4,1,none⟩ = some (.int .i64 0):=(blk_cell p1.out 1).trans rfl; have hcz29_2 : w27.cell? ⟨p4,2,none⟩ = some (.int .i64 0):=(blk_cell p1.out 2).trans rfl; have hcz29_3 : w27.cell? ⟨p4,3,none⟩ = some (.int .i64 0):=(blk_cell p1.out 3).trans rfl; have hcz29_4 : w27.cell? ⟨p4,4,none⟩ = some (.int .i64 0):=(blk_cell p1.out 4).trans rfl; have hfz29_0:=blk_frozen p1.out 0; have hfz29_1:=blk_frozen p1.out 1; have hfz29_2:=blk_frozen p1.out 2; have hfz29_3:=blk_frozen p1.out 3; have hfz29_4:=blk_frozen p1.out 4; have hcz30_0 : w27.cell? ⟨p3,0,none⟩ = some (.int .i64 a0_0):=(blk_cell p0.out 0).trans rfl; have hcz30_1 : w27.cell? ⟨p3,1,none⟩ = some (.slice (some q1) l0_1.length c0_1):=(blk_cell p0.out 1).trans rfl; have hfz30_0:=blk_frozen p0.out 0; have hfz30_1:=blk_frozen p0.out 1) | ((with_reducible refine gate_callee (f:=54) rfl ?_); refine goesL_ (some 22) rfl rfl Try.func54 (by kernel_rfl) rfl #[.int .i64 ((rd_T34 l0_1 x3_1).f0),.int .i64 0,.int .i64 (wrap64 (a0_0 - 1))] rfl (by (try simp only [List.map_toArray,List.map_cons,List.map_nil]); first | done | rfl | (simp only [List.length_drop,List.length_take]; rfl)) ?_; (with_reducible refine (spec_l1In.calls ((rd_T34 l0_1 x3_1).f0) 0 (wrap64 (a0_0 - 1)) true _ A5.out).mono ?_); rintro e w' ⟨rfl,⟨nd,rfl⟩⟩; refine ⟨_,rfl,?_⟩) | (go_at_call 54; (with_reducible refine (spec_l1In.calls ((rd_T34 l0_1 x3_1).f1) 0 (wrap64 (a0_0 - 1)) true _ A7.out).mono ?_); rintro e w' ⟨rfl,⟨nd,rfl⟩⟩) | (go_at_call 54; (with_reducible refine (spec_l1In.calls ((rd_T34 l0_1 x3_1).f2) 0 99 true _ A15.out).mono ?_); rintro e w' ⟨rfl,⟨nd,rfl⟩⟩) | (go_at_call 54; (with_reducible refine (spec_l1In.calls ((rd_T34 l0_1 x3_1).f3) 0 99 true _ A17.out).mono ?_); rintro e w' ⟨rfl,⟨nd,rfl⟩⟩) | (go_at_call 54; (with_reducible refine (spec_l1In.calls ((rd_T34 l0_1 x3_1).f4) 0 9 false _ A19.out).mono ?_); rintro e w' ⟨rfl,⟨nd,rfl⟩⟩))
    go_ret;exact ⟨by first | rfl | (simp [errW_none,errW_some] <;> rfl) | (simp [*,errW_none,errW_some] <;> rfl),by repeat (first | (with_reducible first | exact HB.out | apply below_alloc | apply pw_below_drewN | apply below_drew1 | refine below_set ?_ q5.out | refine below_set ?_ q4.out) | exact HB.out)⟩
   subst c20;have H1 : (spec_l1Ok.l0 k1 (wrap64 (x3_1 + 1)) a0_0 l0_1) = some r:=by rw [if_pos rfl] at H; exact H
   clear H;have H:=H1;clear H1;have H':=zx H;clear H;have hcz21_0 : wr.cell? ⟨p3,0,none⟩ = some (.int .i64 a0_0):=(blk_cell p0.out 0).trans rfl;have hcz21_1 : wr.cell? ⟨p3,1,none⟩ = some (.slice A0_1 l0_1.length c0_1):=(blk_cell p0.out 1).trans rfl;have hfz21_0:=blk_frozen p0.out 0;have hfz21_1:=blk_frozen p0.out 1;have p264 : 0 ≤ (x3_1 : Int):=of_decide_eq_true (by first | (with_reducible assumption) | assumption);have q264 : x3_1 < (l0_1.length : Int):=of_decide_eq_true (by first | (with_reducible assumption) | assumption);obtain ⟨q1,e264,p5,p6,p7,p8,p9⟩:=at_T34 q7.out x3_1 p264 q264;cases e264;replace p5:=(HB.out.cell (World.block_lt_of_cell? w _ p5)).trans p5;replace p6:=(HB.out.cell (World.block_lt_of_cell? w _ p6)).trans p6;replace p7:=(HB.out.cell (World.block_lt_of_cell? w _ p7)).trans p7;replace p8:=(HB.out.cell (World.block_lt_of_cell? w _ p8)).trans p8;replace p9:=(HB.out.cell (World.block_lt_of_cell? w _ p9)).trans p9;replace p264:=eq_true p264;replace q264:=eq_true q264
   go_wp2_with (first | ((with_reducible refine gate_dst (N:=4) rfl ?_); (try (refine gate_guard (by rfl) ?_; dsimp only)); refine box_event ?hg (N:=4) ?hd (cs:=#[.int .i64 0,.int .i64 0,.int .i64 0,.int .i64 0,.int .i64 0]) (t:=34) ?hr ?_; (case hd => rfl); (case hg => rfl); (case hr => first | (go_simp; done) | (go_simp; rfl)); intro p4 hg w22 hbox hb; have n0_:=zx (blk_below (g:=p3) (o:=.cells #[.int .i64 a0_0,.slice (some q1) l0_1.length c0_1] 25 (0,0)) p0.out hb); have n1_:=zx (below_step HB.out hb); have n2_:=zx (hbox); have n3_:=zx ((by rw [hg]; exact (below_size HB.out) : w.heap.size ≤ p4)); have n4_:=zx ((by rw [hg]; exact (below_size HB.out) : w.heap.size ≤ p4)); have n5_:=zx ((by rw [hg]; exact Nat.ne_of_lt (blk_lt (g:=p3) (o:=.cells #[.int .i64 a0_0,.slice (some q1) l0_1.length c0_1] 25 (0,0)) p0.out) : p3 ≠ p4)); have n6_:=zx ((by rw [hg]; exact Nat.ne_of_gt (blk_lt (g:=p3) (o:=.cells #[.int .i64 a0_0,.slice (some q1) l0_1.length c0_1] 25 (0,0)) p0.out) : p4 ≠ p3)); clear p0; clear HB; have p0:=n0_; have HB:=n1_; have p1:=n2_; have q8:=n3_; have q4:=n4_; have q0:=n5_; have q2:=n6_; clear n0_ n1_ n2_ n3_ n4_ n5_ n6_; clear hb hbox hg; have hnb23:=q2.out; have hnc23:=q0.out; have hcz24_0 : w22.cell? ⟨p4,0,none⟩ = some (.int .i64 0):=(blk_cell p1.out 0).trans rfl; have hcz24_1 : w22.cell? ⟨p4,1,none⟩ = some (.int .i64 0):=(blk_cell p1.out 1).trans rfl; have hcz24_2 : w22.cell? ⟨p4,2,none⟩ = some (.int .i64 0):=(blk_cell p1.out 2).trans rfl; have hcz24_3 : w22.cell? ⟨p4,3,none⟩ = some (.int .i64 0):=(blk_cell p1.out 3).trans rfl; have hcz24_4 : w22.cell? ⟨p4,4,none⟩ = some (.int .i64 0):=(blk_cell p1.out 4).trans rfl; have hfz24_0:=blk_frozen p1.out 0; have hfz24_1:=blk_frozen p1.out 1; have hfz24_2:=blk_frozen p1.out 2; have hfz24_3:=blk_frozen p1.out 3; have hfz24_4:=blk_frozen p1.out 4; have hcz25_0 : w22.cell? ⟨p3,0,none⟩ = some (.int .i64 a0_0):=(blk_cell p0.out 0).trans rfl; have hcz25_1 : w22.cell? ⟨p3,1,none⟩ = some (.slice (some q1) l0_1.length c0_1):=(blk_cell p0.out 1).trans rfl; have hfz25_0:=blk_frozen p0.out 0; have hfz25_1:=blk_frozen p0.out 1) | ((with_reducible refine gate_callee (f:=54) rfl ?_); refine goesL_ (some 22) rfl rfl Try.func54 (by kernel_rfl) rfl #[.int .i64 ((rd_T34 l0_1 x3_1).f0),.int .i64 0,.int .i64 (wrap64 (a0_0 - 1))] rfl (by (try simp only [List.map_toArray,List.map_cons,List.map_nil]); first | done | rfl | (simp only [List.length_drop,List.length_take]; rfl)) ?_; (with_reducible refine (spec_l1In.calls ((rd_T34 l0_1 x3_1).f0) 0 (wrap64 (a0_0 - 1)) true _ A5.out).mono ?_); rintro e w' ⟨rfl,⟨nd,rfl⟩⟩; refine ⟨_,rfl,?_⟩) | (go_at_call 54; (with_reducible refine (spec_l1In.calls ((rd_T34 l0_1 x3_1).f1) 0 (wrap64 (a0_0 - 1)) true _ A7.out).mono ?_); rintro e w' ⟨rfl,⟨nd,rfl⟩⟩) | (go_at_call 54; (with_reducible refine (spec_l1In.calls ((rd_T34 l0_1 x3_1).f2) 0 99 true _ A15.out).mono ?_); rintro e w' ⟨rfl,⟨nd,rfl⟩⟩) | (go_at_call 54; (with_reducible refine (spec_l1In.calls ((rd_T34 l0_1 x3_1).f3) 0 99 true _ A17.out).mono ?_); rintro e w' ⟨rfl,⟨nd,rfl⟩⟩) | (go_at_call 54; (with_reducible refine (spec_l1In.calls ((rd_T34 l0_1 x3_1).f4) 0 9 true _ A19.out).mono ?_); rintro e w' ⟨rfl,⟨nd,rfl⟩⟩))
   go_roundg k1
   case measure => have:=HK1.out; omega
   case rel => exact ⟨(wrap64 (x3_1 + 1)),(by first | rfl | (simp; done) | (simp [*]; done)),H',⟨by have:=HK1.out; omega⟩,⟨by refine blk_far ?_ q0.out _; refine blk_far ?_ q0.out _; refine blk_far ?_ q0.out _; refine blk_far ?_ q0.out _; refine blk_far ?_ q0.out _; exact p0.out⟩,⟨by repeat (first | (with_reducible first | exact HB.out | apply below_alloc | apply pw_below_drewN | apply below_drew1 | refine below_set ?_ q5.out | refine below_set ?_ q4.out) | exact HB.out)⟩⟩
mutual
def spec_l3All.l0 : Nat → Int → List Int → Int → Int → List (S34) → Option (List Int)
 | 0,_,_,_,_,_ => none
 | k + 1,x1,x5,x6,q0,p8 => if x6 < q0 then (if 0 ≤ x6 then (if x6 < (x5.length : Int) then (spec_l3All.l0 k x1 (x5.set (x6 : Int).toNat 99999) (wrap64 (x6 + 1)) q0 p8) else (none)) else (none)) else (if 0 ≤ x1 then (if x1 < (x5.length : Int) then (spec_l3All.l1 k (x5.set (x1 : Int).toNat 0) 0 q0 p8) else (none)) else (none))
def spec_l3All.l1 : Nat → List Int → Int → Int → List (S34) → Option (List Int)
 | 0,_,_,_,_ => none
 | k + 1,x5,x7,q0,p8 => if x7 < q0 then (spec_l3All.l2 k x5 x7 0 q0 p8) else (some x5)
def spec_l3All.l2 : Nat → List Int → Int → Int → Int → List (S34) → Option (List Int)
 | 0,_,_,_,_,_ => none
 | k + 1,x5,x7,x8,q0,p8 => if x8 < (p8.length : Int) then (if 0 ≤ x8 then (if 0 ≤ ((rd_T34 p8 x8).f0) then (if ((rd_T34 p8 x8).f0) < (x5.length : Int) then (if (rd x5 ((rd_T34 p8 x8).f0)) < 99999 then (if 0 ≤ ((rd_T34 p8 x8).f1) then (if ((rd_T34 p8 x8).f1) < (x5.length : Int) then (if (wrap64 ((rd x5 ((rd_T34 p8 x8).f0)) + ((rd_T34 p8 x8).f2))) < (rd x5 ((rd_T34 p8 x8).f1)) then (spec_l3All.l2 k (x5.set (((rd_T34 p8 x8).f1) : Int).toNat (wrap64 ((rd x5 ((rd_T34 p8 x8).f0)) + ((rd_T34 p8 x8).f2)))) x7 (wrap64 (x8 + 1)) q0 p8) else (spec_l3All.l2 k x5 x7 (wrap64 (x8 + 1)) q0 p8)) else (none)) else (none)) else (spec_l3All.l2 k x5 x7 (wrap64 (x8 + 1)) q0 p8)) else (none)) else (none)) else (none)) else (spec_l3All.l1 k x5 (wrap64 (x7 + 1)) q0 p8)
end
def spec_l3All.f (k : Nat) (a0_0 : Int) (l0_1 : List (S34)) (a1 : Int) : Option (List Int):=if 0 ≤ a0_0 then (if (a0_0 : Int).toNat ≤ 35184372088832 then (spec_l3All.l0 k a1 (List.replicate (a0_0 : Int).toNat 0) 0 a0_0 l0_1) else (none)) else (none)
def spec_l3All.T14 : Bool × List (List Nat × List Nat):=(true,[([],[]),([],[]),([1],[1]),([0,2],[0,2]),([3],[3]),([4],[4]),([5],[5]),([6],[6]),([6],[6]),([8,6],[6,8]),([7,9,6],[6,7,9]),([10,6],[6,10]),([6],[6]),([12,6],[6,12]),([11,13,6],[6,11,13]),([6],[6]),([6],[6]),([16,6],[6,16]),([15,17,6],[6,15,17]),([18,6],[6,18]),([14,19,6],[6,14,19]),([6,20],[6,20])])
def spec_l3All.B14 : List Nat:=[0,0,2,7,15,31,63,127,127,383,1023,2047,127,4223,16383,127,127,65663,229503,491647,1048575,2097151]
theorem spec_l3All.tab14 : rtab .any (opsOf Try.f55 14) = spec_l3All.T14:=by kernel_rfl
theorem spec_l3All.bits14 : waitsOk spec_l3All.T14.2 spec_l3All.B14 = true:=by kernel_rfl
def spec_l3All.T15 : Bool × List (List Nat × List Nat):=(true,[([],[]),([],[]),([1],[1]),([],[]),([],[]),([4],[4]),([3,5],[3,5]),([6],[6]),([],[]),([8],[8]),([7,9],[7,9]),([0,2,0,1,2,3,4,5,6,7,8,9,10],[0,2]),([11,10,0,1,2,3,4,5,6,7,8,9,10],[10,11])])
def spec_l3All.B15 : List Nat:=[0,0,2,0,0,16,56,120,0,256,1016,2047,4095]
theorem spec_l3All.tab15 : rtab .any (opsOf Try.f55 15) = spec_l3All.T15:=by kernel_rfl
theorem spec_l3All.bits15 : waitsOk spec_l3All.T15.2 spec_l3All.B15 = true:=by kernel_rfl
set_option maxHeartbeats 8000000 in
set_option maxRecDepth 100000 in
theorem spec_l3All.calls (k : Nat) (a0_0 : Int) (A0_1 : Option Addr) (c0_1 : Nat) (l0_1 : List (S34)) (a1 : Int) (r : List Int) (w : World) (hr0_1 : Kd.C k34 w A0_1 l0_1.length l0_1) (hc0_1 : l0_1.length ≤ c0_1) (h : spec_l3All.f k a0_0 l0_1 a1 = some r) :
  Calls Try.prog 55 #[.agg #[.int .i64 a0_0,.slice A0_1 l0_1.length c0_1],.int .i64 a1] w fun e w' => ∃ v0_ : Value,e = .returned (v0_) ∧ Kd.R (Kd.int .i64) 3 w' w.heap.size (fun _ => True) v0_ r ∧ Below w.heap.size w w':=by
 have hu25:=Try.underlying25;have hu34:=Try.underlying34;have t5:=zx hr0_1;have HC0_1:=zx hc0_1;clear hr0_1 hc0_1;have HB:=zx (Below.refl w.heap.size w);have H : (if 0 ≤ a0_0 then (if (a0_0 : Int).toNat ≤ 35184372088832 then (spec_l3All.l0 k a1 (List.replicate (a0_0 : Int).toNat 0) 0 a0_0 l0_1) else (none)) else (none)) = some r:=h;clear h
 by_cases c3 : 0 ≤ a0_0
 case neg =>
  rw [if_neg c3] at H;exact absurd H (by simp)
 rw [if_pos c3] at H;have c3b0:=eq_true c3;have c3b1 : decide (0 ≤ a0_0) = true:=decide_eq_true c3;clear c3
 by_cases c4 : (a0_0 : Int).toNat ≤ 35184372088832
 case neg =>
  rw [if_neg c4] at H;exact absurd H (by simp)
 rw [if_pos c4] at H;have c4b0:=eq_true c4;have c4b1 : decide ((a0_0 : Int).toNat ≤ 35184372088832) = true:=decide_eq_true c4;clear c4;obtain ⟨y272,hy272⟩ : ∃ y_ : List Int,y_ = (List.replicate (a0_0 : Int).toNat 0):=⟨_,rfl⟩
 replace H : (spec_l3All.l0 k a1 y272 0 a0_0 l0_1) = some r:=by first | (rw [hy272]; with_reducible exact H) | (have H2_:=(Option.bind_some _ _).symm.trans H; rw [hy272]; with_reducible exact H2_) | (have H2_:=(Option.bind_some _ _).symm.trans H; with_reducible exact H2_) | with_reducible exact H | (rw [hy272]; exact H) | exact H
 have Ny272:=zx hy272;clear hy272;have H':=zx H;clear H
 go_enter Try.func55,Try.ntmps55
 go_wp2_with (first | ((with_reducible refine gate_dst (N:=2) rfl ?_); refine box_event ?hg (N:=2) ?hd (cs:=#[.int .i64 a0_0,.slice A0_1 l0_1.length c0_1]) (t:=25) ?hr ?_; (case hd => rfl); (case hg => rfl); (case hr => first | (go_simp; done) | (go_simp; rfl)); intro p7 hg w5 hbox hb; have n0_:=zx (below_step HB.out hb); have n1_:=zx (hbox); have n2_:=zx ((by rw [hg]; exact (below_size HB.out) : w.heap.size ≤ p7)); have n3_:=zx ((by rw [hg]; exact (below_size HB.out) : w.heap.size ≤ p7)); clear HB; have HB:=n0_; have p3:=n1_; have GW271:=n2_; have r1:=n3_; clear n0_ n1_ n2_ n3_; clear hb hbox hg; have r5 : w5.cell? ⟨p7,0,none⟩ = some (.int .i64 a0_0):=(blk_cell p3.out 0).trans rfl; have r6 : w5.cell? ⟨p7,1,none⟩ = some (.slice A0_1 l0_1.length c0_1):=(blk_cell p3.out 1).trans rfl; have r7:=blk_frozen p3.out 0; have r8:=blk_frozen p3.out 1) | ((with_reducible refine gate_dst (N:=12) rfl ?_); refine Kd.R_make (Kd.int .i64) _ 3 rfl (N:=12) rfl 29 _ _ rfl a0_0 (by first | rfl | (go_simp; done) | (go_simp; rfl)) (by first | rfl | (go_simp; done) | (go_simp; rfl)) Try.underlying29 (.int .i64 0) 8 info3 rfl (by decide) (by omega) 0 (ok:=fun _ => True) (okp:=fun _ => True) rfl (fun _ hk => hk) trivial (of_decide_eq_true (by first | (with_reducible assumption) | assumption)) (Nat.le_trans (Nat.mul_le_mul_right _ (of_decide_eq_true (by first | (with_reducible assumption) | assumption) : a0_0.toNat ≤ 35184372088832)) (by omega)) (Below.refl _ _) (Nat.le_refl _) ?_; intro v273 w7 ho8 hb hg_ hnew_; clear hg_ hnew_; (first | rw [← Ny272.out] at ho8 | (simp only [Int.reduceToNat] at ho8; rw [← Ny272.out] at ho8)); have n0_:=zx (Kd.R_lower ho8 (below_size HB.out)); have n1_:=zx (blk_below (g:=p7) (o:=.cells #[.int .i64 a0_0,.slice A0_1 l0_1.length c0_1] 25 (0,0)) p3.out hb); have n2_:=zx (below_step HB.out hb); clear p3; clear HB; have HO274:=n0_; have p3:=n1_; have HB:=n2_; clear n0_ n1_ n2_; clear hb ho8))
 go_loopg [6] k (fun kq v6 w' => ∃ (x5_1 : List Int) (x6_1 : Int),v6 = .int .i64 x6_1 ∧ Aside0 (spec_l3All.l0 kq a1 x5_1 x6_1 a0_0 l0_1 = some r) ∧ Aside0 (kq ≤ k) ∧ Aside0 (Kd.R (Kd.int .i64) 3 w' w.heap.size (fun _ => True) v273 x5_1) ∧ Aside0 (w'.heap[p7]? = some (.cells #[.int .i64 a0_0,(.slice A0_1 l0_1.length c0_1)] 25 (0,0))) ∧ Aside0 (Below w.heap.size w w'))
 case atStart => exact ⟨(y272),(0),(by first | rfl | (simp; done) | (simp [*]; done)),H',⟨Nat.le_refl _⟩,⟨by exact HO274.out⟩,⟨by exact p3.out⟩,⟨by repeat (first | (with_reducible first | exact HB.out | apply below_alloc | apply pw_below_drewN | apply below_drew1 | refine below_set ?_ r1.out) | exact HB.out)⟩⟩
 case round =>
  clear H'
  try clear p2
  try clear c3
  try clear c3b0
  try clear c3b1
  try clear c4
  try clear c4b0
  try clear c4b1
  try clear c5
  try clear r5
  try clear r6
  try clear r7
  try clear r8
  obtain ⟨x5_1,x6_1,rfl,HA,HK1,HO_5,p3,HB⟩:=hrel;cases gk with
  | zero => exact absurd HA.out (by simp [spec_l3All.l0])
  | succ k1 =>
   have H:=HA.out;clear HA;simp only [spec_l3All.l0] at H
   by_cases c9 : x6_1 < a0_0
   case pos =>
    rw [if_pos c9] at H;have c9b0 : decide (x6_1 < a0_0) = true:=decide_eq_true c9;clear c9
    by_cases c10 : 0 ≤ x6_1
    case neg =>
     rw [if_neg c10] at H;exact absurd H (by simp)
    rw [if_pos c10] at H;have c10b0 : decide (0 ≤ x6_1) = true:=decide_eq_true c10;clear c10
    by_cases c11 : x6_1 < (x5_1.length : Int)
    case neg =>
     rw [if_neg c11] at H;exact absurd H (by simp)
    rw [if_pos c11] at H;have c11b0 : decide (x6_1 < (x5_1.length : Int)) = true:=decide_eq_true c11;clear c11;obtain ⟨y275,hy275⟩ : ∃ y_ : List Int,y_ = (x5_1.set (x6_1 : Int).toNat 99999):=⟨_,rfl⟩
    replace H : (spec_l3All.l0 k1 a1 y275 (wrap64 (x6_1 + 1)) a0_0 l0_1) = some r:=by first | (rw [hy275]; with_reducible exact H) | (have H2_:=(Option.bind_some _ _).symm.trans H; rw [hy275]; with_reducible exact H2_) | (have H2_:=(Option.bind_some _ _).symm.trans H; with_reducible exact H2_) | with_reducible exact H | (rw [hy275]; exact H) | exact H
    have Ny275:=zx hy275;clear hy275;have H':=zx H;clear H;have r9 : wr.cell? ⟨p7,0,none⟩ = some (.int .i64 a0_0):=(blk_cell p3.out 0).trans rfl;have s8 : wr.cell? ⟨p7,1,none⟩ = some (.slice A0_1 l0_1.length c0_1):=(blk_cell p3.out 1).trans rfl;have s9:=blk_frozen p3.out 0;have t0:=blk_frozen p3.out 1;have p12 : 0 ≤ (x6_1 : Int):=of_decide_eq_true (by first | (with_reducible assumption) | assumption);have q12 : (x6_1 : Int) < ((x5_1.length : Int) : Int):=of_decide_eq_true (by first | (with_reducible assumption) | assumption);obtain ⟨go12,co12,eo12,gb12,gl12,cl12,HG12⟩:=Kd.R_form HO_5.out (by omega)
    (first | cases eo12 | (injection eo12 with ea_ en_ ec_; (first | subst ea_ | (injection ea_ with ea_; subst ea_)); subst ec_; clear en_))
    have GB12:=zx gb12;have GG12:=zx HG12;clear gb12 gl12 HG12;obtain ⟨t6,hf12_0⟩:=Kd.R_celln 0 HO_5.out (x6_1 : Int) p12 q12;replace p12:=eq_true p12;replace q12:=eq_true q12;have HP14:=Kd.R_putg HO_5.out (x6_1 : Int) 99999
    go_wp2_with (first | ((with_reducible refine gate_store (t:=3) (p:=21) rfl ?_); refine store_event (t:=3) (p:=21) (v:=?vo_w15) (w1:=(wr.setCell ⟨go12,(x6_1 : Int).toNat,none⟩ (.int .i64 99999))) ?hg ?ho ?hn ?hr ?_; (case ho => rfl); (case hg => rfl); (case hn => rfl); (case hr => first | (go_simp; done) | (go_simp; rfl)); intro w15 hw; have hg : wr.grownBy w15 (some go12):=(by rw [hw]; exact HP14.2); have hp_ : Kd.R (Kd.int .i64) 3 w15 w.heap.size (fun _ => True) (.slice (some ⟨go12,0,none⟩) x5_1.length co12) y275:=(by rw [hw,Ny275.out]; exact HP14.1); clear HP14; have n0_:=zx (hp_); have n1_:=zx (blk_grown (g:=p7) (o:=.cells #[.int .i64 a0_0,.slice A0_1 l0_1.length c0_1] 25 (0,0)) p3.out hg (Kd.R_ne HO_5.out p3.out (by decide))); have n2_:=zx ((by rw [hw]; exact below_set (HB.out) GB12.out : Below w.heap.size w w15)); clear HO_5; clear p3; clear HB; have HO_5:=n0_; have p3:=n1_; have HB:=n2_; clear n0_ n1_ n2_; clear hg hw hp_))
    go_roundg k1
    case measure => have:=HK1.out; omega
    case rel => exact ⟨(y275),(wrap64 (x6_1 + 1)),(by first | rfl | (simp; done) | (simp [*]; done)),H',⟨by have:=HK1.out; omega⟩,⟨by exact HO_5.out⟩,⟨by exact p3.out⟩,⟨by repeat (first | (with_reducible first | exact HB.out | apply below_alloc | apply pw_below_drewN | apply below_drew1 | refine below_set ?_ r1.out) | exact HB.out)⟩⟩
   rw [if_neg c9] at H;have c9b0 : decide (x6_1 < a0_0) = false:=decide_eq_false c9;clear c9
   by_cases c16 : 0 ≤ a1
   case neg =>
    rw [if_neg c16] at H;exact absurd H (by simp)
   rw [if_pos c16] at H;have c16b0 : decide (0 ≤ a1) = true:=decide_eq_true c16;clear c16
   by_cases c17 : a1 < (x5_1.length : Int)
   case neg =>
    rw [if_neg c17] at H;exact absurd H (by simp)
   rw [if_pos c17] at H;have c17b0 : decide (a1 < (x5_1.length : Int)) = true:=decide_eq_true c17;clear c17;obtain ⟨y276,hy276⟩ : ∃ y_ : List Int,y_ = (x5_1.set (a1 : Int).toNat 0):=⟨_,rfl⟩
   replace H : (spec_l3All.l1 k1 y276 0 a0_0 l0_1) = some r:=by first | (rw [hy276]; with_reducible exact H) | (have H2_:=(Option.bind_some _ _).symm.trans H; rw [hy276]; with_reducible exact H2_) | (have H2_:=(Option.bind_some _ _).symm.trans H; with_reducible exact H2_) | with_reducible exact H | (rw [hy276]; exact H) | exact H
   have Ny276:=zx hy276;clear hy276;have H':=zx H;clear H;have t1 : wr.cell? ⟨p7,0,none⟩ = some (.int .i64 a0_0):=(blk_cell p3.out 0).trans rfl;have t2 : wr.cell? ⟨p7,1,none⟩ = some (.slice A0_1 l0_1.length c0_1):=(blk_cell p3.out 1).trans rfl;have t3:=blk_frozen p3.out 0;have t4:=blk_frozen p3.out 1;have p18 : 0 ≤ (a1 : Int):=of_decide_eq_true (by first | (with_reducible assumption) | assumption);have q18 : (a1 : Int) < ((x5_1.length : Int) : Int):=of_decide_eq_true (by first | (with_reducible assumption) | assumption);obtain ⟨go18,co18,eo18,gb18,gl18,cl18,HG18⟩:=Kd.R_form HO_5.out (by omega)
   (first | cases eo18 | (injection eo18 with ea_ en_ ec_; (first | subst ea_ | (injection ea_ with ea_; subst ea_)); subst ec_; clear en_))
   have GB18:=zx gb18;have GG18:=zx HG18;clear gb18 gl18 HG18;obtain ⟨t7,hf18_0⟩:=Kd.R_celln 0 HO_5.out (a1 : Int) p18 q18;replace p18:=eq_true p18;replace q18:=eq_true q18;have HP20:=Kd.R_putg HO_5.out (a1 : Int) 0
   go_wp2_with (first | ((with_reducible refine gate_store (t:=3) (p:=24) rfl ?_); refine store_event (t:=3) (p:=24) (v:=?vo_w21) (w1:=(wr.setCell ⟨go18,(a1 : Int).toNat,none⟩ (.int .i64 0))) ?hg ?ho ?hn ?hr ?_; (case ho => rfl); (case hg => rfl); (case hn => rfl); (case hr => first | (go_simp; done) | (go_simp; rfl)); intro w21 hw; have hg : wr.grownBy w21 (some go18):=(by rw [hw]; exact HP20.2); have hp_ : Kd.R (Kd.int .i64) 3 w21 w.heap.size (fun _ => True) (.slice (some ⟨go18,0,none⟩) x5_1.length co18) y276:=(by rw [hw,Ny276.out]; exact HP20.1); clear HP20; have n0_:=zx (hp_); have n1_:=zx (blk_grown (g:=p7) (o:=.cells #[.int .i64 a0_0,.slice A0_1 l0_1.length c0_1] 25 (0,0)) p3.out hg (Kd.R_ne HO_5.out p3.out (by decide))); have n2_:=zx ((by rw [hw]; exact below_set (HB.out) GB18.out : Below w.heap.size w w21)); clear HO_5; clear p3; clear HB; have HO_5:=n0_; have p3:=n1_; have HB:=n2_; clear n0_ n1_ n2_; clear hg hw hp_))
   go_loopg [7] k1 (fun kq v7 w' => ∃ (x5_2 : List Int) (x7_2 : Int),v7 = .int .i64 x7_2 ∧ Aside0 (spec_l3All.l1 kq x5_2 x7_2 a0_0 l0_1 = some r) ∧ Aside0 (kq ≤ k1) ∧ Aside0 (Kd.R (Kd.int .i64) 3 w' w.heap.size (fun _ => True) (.slice (some ⟨go18,0,none⟩) x5_1.length co18) x5_2) ∧ Aside0 (w'.heap[p7]? = some (.cells #[.int .i64 a0_0,(.slice A0_1 l0_1.length c0_1)] 25 (0,0))) ∧ Aside0 (Below w.heap.size w w'))
   case atStart => exact ⟨(y276),(0),(by first | rfl | (simp; done) | (simp [*]; done)),H',⟨Nat.le_refl _⟩,⟨by exact HO_5.out⟩,⟨by exact p3.out⟩,⟨by repeat (first | (with_reducible first | exact HB.out | apply below_alloc | apply pw_below_drewN | apply below_drew1 | refine below_set ?_ r1.out) | exact HB.out)⟩⟩
   case round =>
    clear H'
    try clear c1
    try clear p1
    try clear q1
    try clear hx1
    try clear p2
    try clear c3
    try clear c3b0
    try clear c3b1
    try clear c4
    try clear c4b0
    try clear c4b1
    try clear c5
    try clear p6
    try clear c9
    try clear c9b0
    try clear c10
    try clear c10b0
    try clear c11
    try clear c11b0
    try clear p12
    try clear q12
    try clear hx12
    try clear hf12
    try clear c16
    try clear c16b0
    try clear c17
    try clear c17b0
    try clear p18
    try clear q18
    try clear hx18
    try clear hf18
    try clear r9
    try clear s8
    try clear t1
    try clear t2
    try clear r5
    try clear r6
    try clear s9
    try clear t0
    try clear t3
    try clear t4
    try clear r7
    try clear r8
    try clear t6
    try clear t7
    try clear p12
    try clear p18
    try clear p2
    try clear q12
    try clear q18
    obtain ⟨x5_2,x7_2,rfl,HA,HK2,HO_5,p3,HB⟩:=hrel;have hl5_2:=(Kd.R_reads' HO_5.out).1;rw [hl5_2] at HO_5
    (try simp only [hl5_2])
    (try simp only [hl5_2] at p3)
    cases gk with
    | zero => exact absurd HA.out (by simp [spec_l3All.l1])
    | succ k2 =>
     have H:=HA.out;clear HA;simp only [spec_l3All.l1] at H
     by_cases c22 : x7_2 < a0_0
     case neg =>
      rw [if_neg c22] at H;have c22b0 : decide (x7_2 < a0_0) = false:=decide_eq_false c22;clear c22;obtain rfl:=Option.some.inj H;have hcz54_0 : wr.cell? ⟨p7,0,none⟩ = some (.int .i64 a0_0):=(blk_cell p3.out 0).trans rfl;have hcz54_1 : wr.cell? ⟨p7,1,none⟩ = some (.slice A0_1 l0_1.length c0_1):=(blk_cell p3.out 1).trans rfl;have hfz54_0:=blk_frozen p3.out 0;have hfz54_1:=blk_frozen p3.out 1
      go_wp2
      go_ret;exact ⟨_,by first | rfl | (simp [errW_none,errW_some] <;> rfl) | (simp [*,errW_none,errW_some] <;> rfl),by exact HO_5.out,by repeat (first | (with_reducible first | exact HB.out | apply below_alloc | apply pw_below_drewN | apply below_drew1 | refine below_set ?_ r1.out) | exact HB.out)⟩
     rw [if_pos c22] at H;have c22b0 : decide (x7_2 < a0_0) = true:=decide_eq_true c22;clear c22;have H':=zx H;clear H;have u0 : wr.cell? ⟨p7,0,none⟩ = some (.int .i64 a0_0):=(blk_cell p3.out 0).trans rfl;have u1 : wr.cell? ⟨p7,1,none⟩ = some (.slice A0_1 l0_1.length c0_1):=(blk_cell p3.out 1).trans rfl;have u2:=blk_frozen p3.out 0;have u3:=blk_frozen p3.out 1
     go_wp2
     go_loopg [8] k2 (fun kq v8 w' => ∃ (x5_3 : List Int) (x8_3 : Int),v8 = .int .i64 x8_3 ∧ Aside0 (spec_l3All.l2 kq x5_3 x7_2 x8_3 a0_0 l0_1 = some r) ∧ Aside0 (kq ≤ k2) ∧ Aside0 (Kd.R (Kd.int .i64) 3 w' w.heap.size (fun _ => True) (.slice (some ⟨go18,0,none⟩) x5_2.length co18) x5_3) ∧ Aside0 (w'.heap[p7]? = some (.cells #[.int .i64 a0_0,(.slice A0_1 l0_1.length c0_1)] 25 (0,0))) ∧ Aside0 (Below w.heap.size w w'))
     case atStart => exact ⟨(x5_2),(0),(by first | rfl | (simp; done) | (simp [*]; done)),H',⟨Nat.le_refl _⟩,⟨by (try simp only [hl5_2]); exact HO_5.out⟩,⟨by (try simp only [hl5_2]); exact p3.out⟩,⟨by repeat (first | (with_reducible first | exact HB.out | apply below_alloc | apply pw_below_drewN | apply below_drew1 | refine below_set ?_ r1.out) | exact HB.out)⟩⟩
     case round =>
      clear H'
      try clear c1
      try clear p1
      try clear q1
      try clear hx1
      try clear c2
      try clear p2
      try clear c3
      try clear c3b0
      try clear c3b1
      try clear c4
      try clear c4b0
      try clear c4b1
      try clear c5
      try clear p6
      try clear c9
      try clear c9b0
      try clear c10
      try clear c10b0
      try clear c11
      try clear c11b0
      try clear p12
      try clear q12
      try clear hx12
      try clear hf12
      try clear c16
      try clear c16b0
      try clear c17
      try clear c17b0
      try clear p18
      try clear q18
      try clear hx18
      try clear hf18
      try clear c22
      try clear c22b0
      try clear r9
      try clear s8
      try clear t1
      try clear t2
      try clear u0
      try clear u1
      try clear r5
      try clear r6
      try clear s9
      try clear t0
      try clear t3
      try clear t4
      try clear u2
      try clear u3
      try clear r7
      try clear r8
      try clear t6
      try clear t7
      try clear p1
      try clear p12
      try clear p18
      try clear p2
      try clear p6
      try clear q1
      try clear q12
      try clear q18
      obtain ⟨x5_3,x8_3,rfl,HA,HK3,HO_5,p3,HB⟩:=hrel;have hl5_3:=(Kd.R_reads' HO_5.out).1;rw [hl5_3] at HO_5
      (try simp only [hl5_3])
      (try simp only [hl5_3] at p3)
      cases gk with
      | zero => exact absurd HA.out (by simp [spec_l3All.l2])
      | succ k3 =>
       have H:=HA.out;clear HA;simp only [spec_l3All.l2] at H
       by_cases c24 : x8_3 < (l0_1.length : Int)
       case neg =>
        rw [if_neg c24] at H;have c24b0 : decide (x8_3 < (l0_1.length : Int)) = false:=decide_eq_false c24;clear c24;have H':=zx H;clear H;have hcz53_0 : wr.cell? ⟨p7,0,none⟩ = some (.int .i64 a0_0):=(blk_cell p3.out 0).trans rfl;have hcz53_1 : wr.cell? ⟨p7,1,none⟩ = some (.slice A0_1 l0_1.length c0_1):=(blk_cell p3.out 1).trans rfl;have hfz53_0:=blk_frozen p3.out 0;have hfz53_1:=blk_frozen p3.out 1
        go_wp2
        (try simp only [← hl5_2,← hl5_3])
        go_roundg k3
        case measure => have:=HK1.out; have:=HK2.out; have:=HK3.out; omega
        case rel => exact ⟨(x5_3),(wrap64 (x7_2 + 1)),(by first | rfl | (simp; done) | (simp [*]; done)),H',⟨by have:=HK1.out; have:=HK2.out; have:=HK3.out; omega⟩,⟨by (try simp only [hl5_2]); (try simp only [hl5_3]); exact HO_5.out⟩,⟨by (try simp only [hl5_2]); (try simp only [hl5_3]); exact p3.out⟩,⟨by repeat (first | (with_reducible first | exact HB.out | apply below_alloc | apply pw_below_drewN | apply below_drew1 | refine below_set ?_ r1.out) | exact HB.out)⟩⟩
       rw [if_pos c24] at H;have c24b0 : decide (x8_3 < (l0_1.length : Int)) = true:=decide_eq_true c24;clear c24
       by_cases c25 : 0 ≤ x8_3
       case neg =>
        rw [if_neg c25] at H;exact absurd H (by simp)
       rw [if_pos c25] at H;have c25b0 : decide (0 ≤ x8_3) = true:=decide_eq_true c25;clear c25
       by_cases c26 : 0 ≤ ((rd_T34 l0_1 x8_3).f0)
       case neg =>
        rw [if_neg c26] at H;exact absurd H (by simp)
       rw [if_pos c26] at H;have c26b0 : decide (0 ≤ ((rd_T34 l0_1 x8_3).f0)) = true:=decide_eq_true c26;clear c26
       by_cases c27 : ((rd_T34 l0_1 x8_3).f0) < (x5_3.length : Int)
       case neg =>
        rw [if_neg c27] at H;exact absurd H (by simp)
       rw [if_pos c27] at H;have c27b0 : decide (((rd_T34 l0_1 x8_3).f0) < (x5_3.length : Int)) = true:=decide_eq_true c27;clear c27
       by_cases c28 : (rd x5_3 ((rd_T34 l0_1 x8_3).f0)) < 99999
       case neg =>
        rw [if_neg c28] at H;have c28b0 : decide ((rd x5_3 ((rd_T34 l0_1 x8_3).f0)) < 99999) = false:=decide_eq_false c28;clear c28;have H':=zx H;clear H;have hcz47_0 : wr.cell? ⟨p7,0,none⟩ = some (.int .i64 a0_0):=(blk_cell p3.out 0).trans rfl;have hcz47_1 : wr.cell? ⟨p7,1,none⟩ = some (.slice A0_1 l0_1.length c0_1):=(blk_cell p3.out 1).trans rfl;have hfz47_0:=blk_frozen p3.out 0;have hfz47_1:=blk_frozen p3.out 1;have p277 : 0 ≤ (x8_3 : Int):=of_decide_eq_true (by first | (with_reducible assumption) | assumption);have q277 : x8_3 < (l0_1.length : Int):=of_decide_eq_true (by first | (with_reducible assumption) | assumption);obtain ⟨q9,e277,q2,q3,q4,q5,q6⟩:=at_T34 t5.out x8_3 p277 q277;cases e277;replace q2:=(HB.out.cell (World.block_lt_of_cell? w _ q2)).trans q2;replace q3:=(HB.out.cell (World.block_lt_of_cell? w _ q3)).trans q3;replace q4:=(HB.out.cell (World.block_lt_of_cell? w _ q4)).trans q4;replace q5:=(HB.out.cell (World.block_lt_of_cell? w _ q5)).trans q5;replace q6:=(HB.out.cell (World.block_lt_of_cell? w _ q6)).trans q6;replace p277:=eq_true p277;replace q277:=eq_true q277
        try go_wp2_with (first | ((with_reducible refine gate_dst (N:=9) rfl ?_); refine box_event ?hg (N:=9) ?hd (cs:=#[.int .i64 0,.int .i64 0,.int .i64 0,.int .i64 0,.int .i64 0]) (t:=34) ?hr ?_; (case hd => rfl); (case hg => rfl); (case hr => first | (go_simp; done) | (go_simp; rfl)); intro p0 hg w48 hbox hb; have n0_:=zx (Kd.R_below HO_5.out hb); have n1_:=zx (blk_below (g:=p7) (o:=.cells #[.int .i64 a0_0,.slice (some q9) l0_1.length c0_1] 25 (0,0)) p3.out hb); have n2_:=zx (below_step HB.out hb); have n3_:=zx (hbox); have n4_:=zx ((by rw [hg]; exact (below_size HB.out) : w.heap.size ≤ p0)); have n5_:=zx ((by rw [hg]; exact (below_size HB.out) : w.heap.size ≤ p0)); have n6_:=zx ((by rw [hg]; exact Nat.ne_of_lt (blk_lt (g:=p7) (o:=.cells #[.int .i64 a0_0,.slice (some q9) l0_1.length c0_1] 25 (0,0)) p3.out) : p7 ≠ p0)); have n7_:=zx ((by rw [hg]; exact Nat.ne_of_gt (blk_lt (g:=p7) (o:=.cells #[.int .i64 a0_0,.slice (some q9) l0_1.length c0_1] 25 (0,0)) p3.out) : p0 ≠ p7)); clear HO_5; clear p3; clear HB; have HO_5:=n0_; have p3:=n1_; have HB:=n2_; have p4:=n3_; have GW278:=n4_; have r3:=n5_; have p5:=n6_; have r0:=n7_; clear n0_ n1_ n2_ n3_ n4_ n5_ n6_ n7_; clear hb hbox hg; have hnb49:=r0.out; have hnc49:=p5.out; have hcz50_0 : w48.cell? ⟨p0,0,none⟩ = some (.int .i64 0):=(blk_cell p4.out 0).trans rfl; have hcz50_1 : w48.cell? ⟨p0,1,none⟩ = some (.int .i64 0):=(blk_cell p4.out 1).trans rfl; have hcz50_2 : w48.cell? ⟨p0,2,none⟩ = some (.int .i64 0):=(blk_cell p4.out 2).trans rfl; have hcz50_3 : w48.cell? ⟨p0,3,none⟩ = some (.int .i64 0):=(blk_cell p4.out 3).trans rfl; have hcz50_4 : w48.cell? ⟨p0,4,none⟩ = some (.int .i64 0):=(blk_cell p4.out 4).trans rfl; have hfz50_0:=blk_frozen p4.out 0; have hfz50_1:=blk_frozen p4.out 1; have hfz50_2:=blk_frozen p4.out 2; have hfz50_3:=blk_frozen p4.out 3; have hfz50_4:=blk_frozen p4.out 4))
        have n0_ : Aside0 (Kd.R (Kd.int .i64) 3 (((((w48.setCell ⟨p0,0,none⟩ (.int .i64 ((rd_T34 l0_1 x8_3).f0))).setCell ⟨p0,1,none⟩ (.int .i64 ((rd_T34 l0_1 x8_3).f1))).setCell ⟨p0,2,none⟩ (.int .i64 ((rd_T34 l0_1 x8_3).f2))).setCell ⟨p0,3,none⟩ (.int .i64 ((rd_T34 l0_1 x8_3).f3))).setCell ⟨p0,4,none⟩ (.int .i64 ((rd_T34 l0_1 x8_3).f4))) w.heap.size (fun _ => True) (.slice (some ⟨go18,0,none⟩) x5_3.length co18) x5_3):=⟨by exact Kd.R_mono (Kd.R_far (p:=⟨p0,4,none⟩) (Kd.R_far (p:=⟨p0,3,none⟩) (Kd.R_far (p:=⟨p0,2,none⟩) (Kd.R_far (p:=⟨p0,1,none⟩) (Kd.R_far (p:=⟨p0,0,none⟩) (Kd.R_types HO_5.out p4.out (by decide)) (fun _ hk => hk.2) (.int .i64 ((rd_T34 l0_1 x8_3).f0))) (fun _ hk => hk.2) (.int .i64 ((rd_T34 l0_1 x8_3).f1))) (fun _ hk => hk.2) (.int .i64 ((rd_T34 l0_1 x8_3).f2))) (fun _ hk => hk.2) (.int .i64 ((rd_T34 l0_1 x8_3).f3))) (fun _ hk => hk.2) (.int .i64 ((rd_T34 l0_1 x8_3).f4))) (fun _ hk => trivial)⟩
        have n1_ : Aside0 ((((((w48.setCell ⟨p0,0,none⟩ (.int .i64 ((rd_T34 l0_1 x8_3).f0))).setCell ⟨p0,1,none⟩ (.int .i64 ((rd_T34 l0_1 x8_3).f1))).setCell ⟨p0,2,none⟩ (.int .i64 ((rd_T34 l0_1 x8_3).f2))).setCell ⟨p0,3,none⟩ (.int .i64 ((rd_T34 l0_1 x8_3).f3))).setCell ⟨p0,4,none⟩ (.int .i64 ((rd_T34 l0_1 x8_3).f4))).heap[p7]? = some (.cells #[.int .i64 a0_0,.slice (some q9) l0_1.length c0_1] 25 (0,0))):=⟨by refine blk_far ?_ p5.out _; refine blk_far ?_ p5.out _; refine blk_far ?_ p5.out _; refine blk_far ?_ p5.out _; refine blk_far ?_ p5.out _; exact p3.out⟩
        have n2_ : Aside0 ((((((w48.setCell ⟨p0,0,none⟩ (.int .i64 ((rd_T34 l0_1 x8_3).f0))).setCell ⟨p0,1,none⟩ (.int .i64 ((rd_T34 l0_1 x8_3).f1))).setCell ⟨p0,2,none⟩ (.int .i64 ((rd_T34 l0_1 x8_3).f2))).setCell ⟨p0,3,none⟩ (.int .i64 ((rd_T34 l0_1 x8_3).f3))).setCell ⟨p0,4,none⟩ (.int .i64 ((rd_T34 l0_1 x8_3).f4))).heap[p0]? = some (.cells #[.int .i64 ((rd_T34 l0_1 x8_3).f0),.int .i64 ((rd_T34 l0_1 x8_3).f1),.int .i64 ((rd_T34 l0_1 x8_3).f2),.int .i64 ((rd_T34 l0_1 x8_3).f3),.int .i64 ((rd_T34 l0_1 x8_3).f4)] 34 (0,0))):=⟨by refine blk_put (cs:=#[.int .i64 ((rd_T34 l0_1 x8_3).f0),.int .i64 ((rd_T34 l0_1 x8_3).f1),.int .i64 ((rd_T34 l0_1 x8_3).f2),.int .i64 ((rd_T34 l0_1 x8_3).f3),.int .i64 0]) ?_ 4 _ rfl; refine blk_put (cs:=#[.int .i64 ((rd_T34 l0_1 x8_3).f0),.int .i64 ((rd_T34 l0_1 x8_3).f1),.int .i64 ((rd_T34 l0_1 x8_3).f2),.int .i64 0,.int .i64 0]) ?_ 3 _ rfl; refine blk_put (cs:=#[.int .i64 ((rd_T34 l0_1 x8_3).f0),.int .i64 ((rd_T34 l0_1 x8_3).f1),.int .i64 0,.int .i64 0,.int .i64 0]) ?_ 2 _ rfl; refine blk_put (cs:=#[.int .i64 ((rd_T34 l0_1 x8_3).f0),.int .i64 0,.int .i64 0,.int .i64 0,.int .i64 0]) ?_ 1 _ rfl; refine blk_put (cs:=#[.int .i64 0,.int .i64 0,.int .i64 0,.int .i64 0,.int .i64 0]) ?_ 0 _ rfl; exact p4.out⟩
        have n3_ : Aside0 (Below w.heap.size w (((((w48.setCell ⟨p0,0,none⟩ (.int .i64 ((rd_T34 l0_1 x8_3).f0))).setCell ⟨p0,1,none⟩ (.int .i64 ((rd_T34 l0_1 x8_3).f1))).setCell ⟨p0,2,none⟩ (.int .i64 ((rd_T34 l0_1 x8_3).f2))).setCell ⟨p0,3,none⟩ (.int .i64 ((rd_T34 l0_1 x8_3).f3))).setCell ⟨p0,4,none⟩ (.int .i64 ((rd_T34 l0_1 x8_3).f4)))):=⟨by repeat (first | (with_reducible first | exact HB.out | apply below_alloc | apply pw_below_drewN | apply below_drew1 | refine below_set ?_ r1.out | refine below_set ?_ r3.out) | exact HB.out)⟩
        (try clear HO_5)
        (try clear p3)
        (try clear p4)
        (try clear HB)
        generalize (((((w48.setCell ⟨p0,0,none⟩ (.int .i64 ((rd_T34 l0_1 x8_3).f0))).setCell ⟨p0,1,none⟩ (.int .i64 ((rd_T34 l0_1 x8_3).f1))).setCell ⟨p0,2,none⟩ (.int .i64 ((rd_T34 l0_1 x8_3).f2))).setCell ⟨p0,3,none⟩ (.int .i64 ((rd_T34 l0_1 x8_3).f3))).setCell ⟨p0,4,none⟩ (.int .i64 ((rd_T34 l0_1 x8_3).f4))) = w51 at n0_ n1_ n2_ n3_ ⊢;have HO_5:=n0_;have p3:=n1_;have p4:=n2_;have HB:=n3_;clear n0_ n1_ n2_ n3_;have n0_:=zx (Kd.R_drew HO_5.out);have n1_:=zx (blk_drew p3.out);have n2_:=zx (blk_drew p4.out);have n3_:=zx (below_drew1 HB.out);clear HO_5;clear p3;clear p4;clear HB;have HO_5:=n0_;have p3:=n1_;have p4:=n2_;have HB:=n3_;clear n0_ n1_ n2_ n3_;have p279 : 0 ≤ (((rd_T34 l0_1 x8_3).f0) : Int):=of_decide_eq_true (by first | (with_reducible assumption) | assumption);have q279 : ((rd_T34 l0_1 x8_3).f0) < (x5_3.length : Int):=of_decide_eq_true (by first | (with_reducible assumption) | assumption);obtain ⟨r4,e279,p9⟩:=Kd.at_int (Kd.R_reads' HO_5.out).2.2 ((rd_T34 l0_1 x8_3).f0) p279 q279;obtain rfl : (⟨go18,0,none⟩ : Addr) = r4:=(by injection e279)
        (first | simp only [add_plain] at p9 | simp only [add_at] at p9 | simp only [Addr.add,Nat.zero_add] at p9 | skip)
        replace p279:=eq_true p279;replace q279:=eq_true q279;refine start_ (n:=22) (S:=fun w' => w'.cell? ⟨p0,0,none⟩ = some (.int .i64 ((rd_T34 l0_1 x8_3).f0)) ∧ w'.cell? ⟨p0,1,none⟩ = some (.int .i64 ((rd_T34 l0_1 x8_3).f1)) ∧ w'.cell? ⟨p0,2,none⟩ = some (.int .i64 ((rd_T34 l0_1 x8_3).f2)) ∧ w'.cell? ⟨p0,3,none⟩ = some (.int .i64 ((rd_T34 l0_1 x8_3).f3)) ∧ w'.cell? ⟨p0,4,none⟩ = some (.int .i64 ((rd_T34 l0_1 x8_3).f4)) ∧ w'.cell? ⟨go18,(((rd_T34 l0_1 x8_3).f0)).toNat,none⟩ = some (.int .i64 (rd x5_3 ((rd_T34 l0_1 x8_3).f0)))) (ds:=[]) #[J,J,J,J,J,J,J,J,J,J,J,J,J,J,J,J,J,J,J,J,J,J] (by kernel_rfl) rfl rfl ⟨(blk_cell p4.out 0).trans rfl,(blk_cell p4.out 1).trans rfl,(blk_cell p4.out 2).trans rfl,(blk_cell p4.out 3).trans rfl,(blk_cell p4.out 4).trans rfl,p9⟩ (fun hHeld => ?_); refine with_tabW spec_l3All.tab14 spec_l3All.bits14 (fun HT_ HW_ => ?_);generalize w51.drew = w52 at HO_5 p3 p4 HB p9 hHeld ⊢;refine pure_ (i:=0) (N:=some 43) (v:=?_) (a':=?_) #[Y,J,J,J,J,J,J,J,J,J,J,J,J,J,J,J,J,J,J,J,J,J] rfl rfl (any_of HT_.out (by kernel_rfl)) (fun _ _ _ h => h) (Or.inl ⟨by rfl,?_⟩) ?_ ?_;rotate_left
        ·intro w';go_simp;with_reducible rfl
        rotate_left
        ·simp only [Act.put,U,V,Z,i64_w,i32_w];rfl
        refine pure_ (i:=1) (N:=some 44) (v:=?_) (a':=?_) #[Y,Y,J,J,J,J,J,J,J,J,J,J,J,J,J,J,J,J,J,J,J,J] rfl rfl (any_of HT_.out (by kernel_rfl)) (fun _ _ _ h => h) (Or.inl ⟨by rfl,?_⟩) ?_ ?_;rotate_left
        ·intro w';go_simp;with_reducible rfl
        rotate_left
        ·simp only [Act.put,U,V,Z,i64_w,i32_w];rfl
        refine take_ (i:=2) (N:=some 45) (v:=?_) (a':=?_) #[Y,Y,Y,J,J,J,J,J,J,J,J,J,J,J,J,J,J,J,J,J,J,J] rfl rfl (take_ofW HT_.out HW_.out (by kernel_rfl)) (fun _ _ _ h => h) (Or.inl ⟨by rfl,?_⟩) hHeld ?_ ?_;rotate_left
        ·rintro w' ⟨s0,s1,s2,s3,s4,s5⟩;go_simp;with_reducible rfl
        rotate_left
        ·simp only [Act.put,U,V,Z,i64_w,i32_w];rfl
        refine pure_ (i:=3) (N:=some 46) (v:=?_) (a':=?_) #[Y,Y,Y,Y,J,J,J,J,J,J,J,J,J,J,J,J,J,J,J,J,J,J] rfl rfl (any_of HT_.out (by kernel_rfl)) (fun _ _ _ h => h) (Or.inl ⟨by rfl,?_⟩) ?_ ?_;rotate_left
        ·intro w';go_simp;with_reducible rfl
        rotate_left
        ·simp only [Act.put,U,V,Z,i64_w,i32_w];rfl
        refine take_ (i:=4) (N:=some 47) (v:=?_) (a':=?_) #[Y,Y,Y,Y,Y,J,J,J,J,J,J,J,J,J,J,J,J,J,J,J,J,J] rfl rfl (take_ofW HT_.out HW_.out (by kernel_rfl)) (fun _ _ _ h => h) (Or.inl ⟨by rfl,?_⟩) hHeld ?_ ?_;rotate_left
        ·rintro w' ⟨s0,s1,s2,s3,s4,s5⟩;go_simp;with_reducible rfl
        rotate_left
        ·simp only [Act.put,U,V,Z,i64_w,i32_w];rfl
        refine pure_ (i:=5) (N:=some 48) (v:=?_) (a':=?_) #[Y,Y,Y,Y,Y,Y,J,J,J,J,J,J,J,J,J,J,J,J,J,J,J,J] rfl rfl (any_of HT_.out (by kernel_rfl)) (fun _ _ _ h => h) (Or.inl ⟨by rfl,?_⟩) ?_ ?_;rotate_left
        ·intro w';go_simp;with_reducible rfl
        rotate_left
        ·simp only [Act.put,U,V,Z,i64_w,i32_w];rfl
        refine pure_ (i:=6) (N:=some 49) (v:=?_) (a':=?_) #[Y,Y,Y,Y,Y,Y,Y,J,J,J,J,J,J,J,J,J,J,J,J,J,J,J] rfl rfl (any_of HT_.out (by kernel_rfl)) (fun _ _ _ h => h) (Or.inl ⟨by rfl,?_⟩) ?_ ?_;rotate_left
        ·intro w';go_simp;with_reducible rfl
        rotate_left
        ·simp only [Act.put,U,V,Z,i64_w,i32_w];rfl
        refine pure_ (i:=7) (N:=some 50) (v:=undef) (a':=?_) #[Y,Y,Y,Y,Y,Y,Y,Y,J,J,J,J,J,J,J,J,J,J,J,J,J,J] rfl rfl (any_of HT_.out (by kernel_rfl)) (fun _ _ _ h => h) (Or.inr ⟨by rfl,rfl⟩) ?_ ?_;rotate_left
        ·simp only [Act.put,U,V,Z,i64_w,i32_w];rfl
        refine pure_ (i:=8) (N:=some 51) (v:=undef) (a':=?_) #[Y,Y,Y,Y,Y,Y,Y,Y,Y,J,J,J,J,J,J,J,J,J,J,J,J,J] rfl rfl (any_of HT_.out (by kernel_rfl)) (fun _ _ _ h => h) (Or.inr ⟨by rfl,rfl⟩) ?_ ?_;rotate_left
        ·simp only [Act.put,U,V,Z,i64_w,i32_w];rfl
        refine pure_ (i:=9) (N:=some 52) (v:=undef) (a':=?_) #[Y,Y,Y,Y,Y,Y,Y,Y,Y,Y,J,J,J,J,J,J,J,J,J,J,J,J] rfl rfl (any_of HT_.out (by kernel_rfl)) (fun _ _ _ h => h) (Or.inr ⟨by rfl,rfl⟩) ?_ ?_;rotate_left
        ·simp only [Act.put,U,V,Z,i64_w,i32_w];rfl
        refine pure_ (i:=10) (N:=some 53) (v:=undef) (a':=?_) #[Y,Y,Y,Y,Y,Y,Y,Y,Y,Y,Y,J,J,J,J,J,J,J,J,J,J,J] rfl rfl (any_of HT_.out (by kernel_rfl)) (fun _ _ _ h => h) (Or.inr ⟨by rfl,rfl⟩) ?_ ?_;rotate_left
        ·simp only [Act.put,U,V,Z,i64_w,i32_w];rfl
        refine pure_ (i:=11) (N:=some 54) (v:=undef) (a':=?_) #[Y,Y,Y,Y,Y,Y,Y,Y,Y,Y,Y,Y,J,J,J,J,J,J,J,J,J,J] rfl rfl (any_of HT_.out (by kernel_rfl)) (fun _ _ _ h => h) (Or.inr ⟨by rfl,rfl⟩) ?_ ?_;rotate_left
        ·simp only [Act.put,U,V,Z,i64_w,i32_w];rfl
        refine pure_ (i:=12) (N:=some 55) (v:=undef) (a':=?_) #[Y,Y,Y,Y,Y,Y,Y,Y,Y,Y,Y,Y,Y,J,J,J,J,J,J,J,J,J] rfl rfl (any_of HT_.out (by kernel_rfl)) (fun _ _ _ h => h) (Or.inr ⟨by rfl,rfl⟩) ?_ ?_;rotate_left
        ·simp only [Act.put,U,V,Z,i64_w,i32_w];rfl
        refine pure_ (i:=13) (N:=some 56) (v:=undef) (a':=?_) #[Y,Y,Y,Y,Y,Y,Y,Y,Y,Y,Y,Y,Y,Y,J,J,J,J,J,J,J,J] rfl rfl (any_of HT_.out (by kernel_rfl)) (fun _ _ _ h => h) (Or.inr ⟨by rfl,rfl⟩) ?_ ?_;rotate_left
        ·simp only [Act.put,U,V,Z,i64_w,i32_w];rfl
        refine pure_ (i:=14) (N:=some 57) (v:=undef) (a':=?_) #[Y,Y,Y,Y,Y,Y,Y,Y,Y,Y,Y,Y,Y,Y,Y,J,J,J,J,J,J,J] rfl rfl (any_of HT_.out (by kernel_rfl)) (fun _ _ _ h => h) (Or.inr ⟨by rfl,rfl⟩) ?_ ?_;rotate_left
        ·simp only [Act.put,U,V,Z,i64_w,i32_w];rfl
        refine pure_ (i:=15) (N:=some 58) (v:=undef) (a':=?_) #[Y,Y,Y,Y,Y,Y,Y,Y,Y,Y,Y,Y,Y,Y,Y,Y,J,J,J,J,J,J] rfl rfl (any_of HT_.out (by kernel_rfl)) (fun _ _ _ h => h) (Or.inr ⟨by rfl,rfl⟩) ?_ ?_;rotate_left
        ·simp only [Act.put,U,V,Z,i64_w,i32_w];rfl
        refine pure_ (i:=16) (N:=some 59) (v:=undef) (a':=?_) #[Y,Y,Y,Y,Y,Y,Y,Y,Y,Y,Y,Y,Y,Y,Y,Y,Y,J,J,J,J,J] rfl rfl (any_of HT_.out (by kernel_rfl)) (fun _ _ _ h => h) (Or.inr ⟨by rfl,rfl⟩) ?_ ?_;rotate_left
        ·simp only [Act.put,U,V,Z,i64_w,i32_w];rfl
        refine pure_ (i:=17) (N:=some 60) (v:=undef) (a':=?_) #[Y,Y,Y,Y,Y,Y,Y,Y,Y,Y,Y,Y,Y,Y,Y,Y,Y,Y,J,J,J,J] rfl rfl (any_of HT_.out (by kernel_rfl)) (fun _ _ _ h => h) (Or.inr ⟨by rfl,rfl⟩) ?_ ?_;rotate_left
        ·simp only [Act.put,U,V,Z,i64_w,i32_w];rfl
        refine pure_ (i:=18) (N:=some 61) (v:=undef) (a':=?_) #[Y,Y,Y,Y,Y,Y,Y,Y,Y,Y,Y,Y,Y,Y,Y,Y,Y,Y,Y,J,J,J] rfl rfl (any_of HT_.out (by kernel_rfl)) (fun _ _ _ h => h) (Or.inr ⟨by rfl,rfl⟩) ?_ ?_;rotate_left
        ·simp only [Act.put,U,V,Z,i64_w,i32_w];rfl
        refine pure_ (i:=19) (N:=some 62) (v:=undef) (a':=?_) #[Y,Y,Y,Y,Y,Y,Y,Y,Y,Y,Y,Y,Y,Y,Y,Y,Y,Y,Y,Y,J,J] rfl rfl (any_of HT_.out (by kernel_rfl)) (fun _ _ _ h => h) (Or.inr ⟨by rfl,rfl⟩) ?_ ?_;rotate_left
        ·simp only [Act.put,U,V,Z,i64_w,i32_w];rfl
        refine pure_ (i:=20) (N:=some 63) (v:=undef) (a':=?_) #[Y,Y,Y,Y,Y,Y,Y,Y,Y,Y,Y,Y,Y,Y,Y,Y,Y,Y,Y,Y,Y,J] rfl rfl (any_of HT_.out (by kernel_rfl)) (fun _ _ _ h => h) (Or.inr ⟨by rfl,rfl⟩) ?_ ?_;rotate_left
        ·simp only [Act.put,U,V,Z,i64_w,i32_w];rfl
        refine pure_ (i:=21) (N:=some 64) (v:=?_) (a':=?_) #[Y,Y,Y,Y,Y,Y,Y,Y,Y,Y,Y,Y,Y,Y,Y,Y,Y,Y,Y,Y,Y,Y] rfl rfl (any_of HT_.out (by kernel_rfl)) (fun _ _ _ h => h) (Or.inl ⟨by rfl,?_⟩) ?_ ?_;rotate_left
        ·intro w';go_simp;with_reducible rfl
        rotate_left
        ·simp only [Act.put,U,V,Z,i64_w,i32_w];rfl
        refine done_ (done_of HT_.out (by kernel_rfl)) ?_
        try go_wp2
        (try simp only [← hl5_3])
        go_roundg k3
        case measure => have:=HK1.out; have:=HK2.out; have:=HK3.out; omega
        case rel => exact ⟨(x5_3),(wrap64 (x8_3 + 1)),(by first | rfl | (simp; done) | (simp [*]; done)),H',⟨by have:=HK1.out; have:=HK2.out; have:=HK3.out; omega⟩,⟨by (try simp only [hl5_2]); (try simp only [hl5_3]); exact HO_5.out⟩,⟨by (try simp only [hl5_2]); (try simp only [hl5_3]); exact p3.out⟩,⟨by repeat (first | (with_reducible first | exact HB.out | apply below_alloc | apply pw_below_drewN | apply below_drew1 | refine below_set ?_ r1.out | refine below_set ?_ r3.out) | exact HB.out)⟩⟩
       rw [if_pos c28] at H;have c28b0 : decide ((rd x5_3 ((rd_T34 l0_1 x8_3).f0)) < 99999) = true:=decide_eq_true c28;clear c28
       by_cases c29 : 0 ≤ ((rd_T34 l0_1 x8_3).f1)
       case neg =>
        rw [if_neg c29] at H;exact absurd H (by simp)
       rw [if_pos c29] at H;have c29b0 : decide (0 ≤ ((rd_T34 l0_1 x8_3).f1)) = true:=decide_eq_true c29;clear c29
       by_cases c30 : ((rd_T34 l0_1 x8_3).f1) < (x5_3.length : Int)
       case neg =>
        rw [if_neg c30] at H;exact absurd H (by simp)
       rw [if_pos c30] at H;have c30b0 : decide (((rd_T34 l0_1 x8_3).f1) < (x5_3.length : Int)) = true:=decide_eq_true c30;clear c30
       by_cases c31 : (wrap64 ((rd x5_3 ((rd_T34 l0_1 x8_3).f0)) + ((rd_T34 l0_1 x8_3).f2))) < (rd x5_3 ((rd_T34 l0_1 x8_3).f1))
       case neg =>
        rw [if_neg c31] at H;have c31b0 : decide ((wrap64 ((rd x5_3 ((rd_T34 l0_1 x8_3).f0)) + ((rd_T34 l0_1 x8_3).f2))) < (rd x5_3 ((rd_T34 l0_1 x8_3).f1))) = false:=decide_eq_false c31;clear c31;have H':=zx H;clear H;have hcz41_0 : wr.cell? ⟨p7,0,none⟩ = some (.int .i64 a0_0):=(blk_cell p3.out 0).trans rfl;have hcz41_1 : wr.cell? ⟨p7,1,none⟩ = some (.slice A0_1 l0_1.length c0_1):=(blk_cell p3.out 1).trans rfl;have hfz41_0:=blk_frozen p3.out 0;have hfz41_1:=blk_frozen p3.out 1;have p277 : 0 ≤ (x8_3 : Int):=of_decide_eq_true (by first | (with_reducible assumption) | assumption);have q277 : x8_3 < (l0_1.length : Int):=of_decide_eq_true (by first | (with_reducible assumption) | assumption);obtain ⟨q9,e277,q2,q3,q4,q5,q6⟩:=at_T34 t5.out x8_3 p277 q277;cases e277;replace q2:=(HB.out.cell (World.block_lt_of_cell? w _ q2)).trans q2;replace q3:=(HB.out.cell (World.block_lt_of_cell? w _ q3)).trans q3;replace q4:=(HB.out.cell (World.block_lt_of_cell? w _ q4)).trans q4;replace q5:=(HB.out.cell (World.block_lt_of_cell? w _ q5)).trans q5;replace q6:=(HB.out.cell (World.block_lt_of_cell? w _ q6)).trans q6;replace p277:=eq_true p277;replace q277:=eq_true q277
        try go_wp2_with (first | ((with_reducible refine gate_dst (N:=9) rfl ?_); refine box_event ?hg (N:=9) ?hd (cs:=#[.int .i64 0,.int .i64 0,.int .i64 0,.int .i64 0,.int .i64 0]) (t:=34) ?hr ?_; (case hd => rfl); (case hg => rfl); (case hr => first | (go_simp; done) | (go_simp; rfl)); intro p0 hg w42 hbox hb; have n0_:=zx (Kd.R_below HO_5.out hb); have n1_:=zx (blk_below (g:=p7) (o:=.cells #[.int .i64 a0_0,.slice (some q9) l0_1.length c0_1] 25 (0,0)) p3.out hb); have n2_:=zx (below_step HB.out hb); have n3_:=zx (hbox); have n4_:=zx ((by rw [hg]; exact (below_size HB.out) : w.heap.size ≤ p0)); have n5_:=zx ((by rw [hg]; exact (below_size HB.out) : w.heap.size ≤ p0)); have n6_:=zx ((by rw [hg]; exact Nat.ne_of_lt (blk_lt (g:=p7) (o:=.cells #[.int .i64 a0_0,.slice (some q9) l0_1.length c0_1] 25 (0,0)) p3.out) : p7 ≠ p0)); have n7_:=zx ((by rw [hg]; exact Nat.ne_of_gt (blk_lt (g:=p7) (o:=.cells #[.int .i64 a0_0,.slice (some q9) l0_1.length c0_1] 25 (0,0)) p3.out) : p0 ≠ p7)); clear HO_5; clear p3; clear HB; have HO_5:=n0_; have p3:=n1_; have HB:=n2_; have p4:=n3_; have GW278:=n4_; have r3:=n5_; have p5:=n6_; have r0:=n7_; clear n0_ n1_ n2_ n3_ n4_ n5_ n6_ n7_; clear hb hbox hg; have hnb43:=r0.out; have hnc43:=p5.out; have hcz44_0 : w42.cell? ⟨p0,0,none⟩ = some (.int .i64 0):=(blk_cell p4.out 0).trans rfl; have hcz44_1 : w42.cell? ⟨p0,1,none⟩ = some (.int .i64 0):=(blk_cell p4.out 1).trans rfl; have hcz44_2 : w42.cell? ⟨p0,2,none⟩ = some (.int .i64 0):=(blk_cell p4.out 2).trans rfl; have hcz44_3 : w42.cell? ⟨p0,3,none⟩ = some (.int .i64 0):=(blk_cell p4.out 3).trans rfl; have hcz44_4 : w42.cell? ⟨p0,4,none⟩ = some (.int .i64 0):=(blk_cell p4.out 4).trans rfl; have hfz44_0:=blk_frozen p4.out 0; have hfz44_1:=blk_frozen p4.out 1; have hfz44_2:=blk_frozen p4.out 2; have hfz44_3:=blk_frozen p4.out 3; have hfz44_4:=blk_frozen p4.out 4))
        have n0_ : Aside0 (Kd.R (Kd.int .i64) 3 (((((w42.setCell ⟨p0,0,none⟩ (.int .i64 ((rd_T34 l0_1 x8_3).f0))).setCell ⟨p0,1,none⟩ (.int .i64 ((rd_T34 l0_1 x8_3).f1))).setCell ⟨p0,2,none⟩ (.int .i64 ((rd_T34 l0_1 x8_3).f2))).setCell ⟨p0,3,none⟩ (.int .i64 ((rd_T34 l0_1 x8_3).f3))).setCell ⟨p0,4,none⟩ (.int .i64 ((rd_T34 l0_1 x8_3).f4))) w.heap.size (fun _ => True) (.slice (some ⟨go18,0,none⟩) x5_3.length co18) x5_3):=⟨by exact Kd.R_mono (Kd.R_far (p:=⟨p0,4,none⟩) (Kd.R_far (p:=⟨p0,3,none⟩) (Kd.R_far (p:=⟨p0,2,none⟩) (Kd.R_far (p:=⟨p0,1,none⟩) (Kd.R_far (p:=⟨p0,0,none⟩) (Kd.R_types HO_5.out p4.out (by decide)) (fun _ hk => hk.2) (.int .i64 ((rd_T34 l0_1 x8_3).f0))) (fun _ hk => hk.2) (.int .i64 ((rd_T34 l0_1 x8_3).f1))) (fun _ hk => hk.2) (.int .i64 ((rd_T34 l0_1 x8_3).f2))) (fun _ hk => hk.2) (.int .i64 ((rd_T34 l0_1 x8_3).f3))) (fun _ hk => hk.2) (.int .i64 ((rd_T34 l0_1 x8_3).f4))) (fun _ hk => trivial)⟩
        have n1_ : Aside0 ((((((w42.setCell ⟨p0,0,none⟩ (.int .i64 ((rd_T34 l0_1 x8_3).f0))).setCell ⟨p0,1,none⟩ (.int .i64 ((rd_T34 l0_1 x8_3).f1))).setCell ⟨p0,2,none⟩ (.int .i64 ((rd_T34 l0_1 x8_3).f2))).setCell ⟨p0,3,none⟩ (.int .i64 ((rd_T34 l0_1 x8_3).f3))).setCell ⟨p0,4,none⟩ (.int .i64 ((rd_T34 l0_1 x8_3).f4))).heap[p7]? = some (.cells #[.int .i64 a0_0,.slice (some q9) l0_1.length c0_1] 25 (0,0))):=⟨by refine blk_far ?_ p5.out _; refine blk_far ?_ p5.out _; refine blk_far ?_ p5.out _; refine blk_far ?_ p5.out _; refine blk_far ?_ p5.out _; exact p3.out⟩
        have n2_ : Aside0 ((((((w42.setCell ⟨p0,0,none⟩ (.int .i64 ((rd_T34 l0_1 x8_3).f0))).setCell ⟨p0,1,none⟩ (.int .i64 ((rd_T34 l0_1 x8_3).f1))).setCell ⟨p0,2,none⟩ (.int .i64 ((rd_T34 l0_1 x8_3).f2))).setCell ⟨p0,3,none⟩ (.int .i64 ((rd_T34 l0_1 x8_3).f3))).setCell ⟨p0,4,none⟩ (.int .i64 ((rd_T34 l0_1 x8_3).f4))).heap[p0]? = some (.cells #[.int .i64 ((rd_T34 l0_1 x8_3).f0),.int .i64 ((rd_T34 l0_1 x8_3).f1),.int .i64 ((rd_T34 l0_1 x8_3).f2),.int .i64 ((rd_T34 l0_1 x8_3).f3),.int .i64 ((rd_T34 l0_1 x8_3).f4)] 34 (0,0))):=⟨by refine blk_put (cs:=#[.int .i64 ((rd_T34 l0_1 x8_3).f0),.int .i64 ((rd_T34 l0_1 x8_3).f1),.int .i64 ((rd_T34 l0_1 x8_3).f2),.int .i64 ((rd_T34 l0_1 x8_3).f3),.int .i64 0]) ?_ 4 _ rfl; refine blk_put (cs:=#[.int .i64 ((rd_T34 l0_1 x8_3).f0),.int .i64 ((rd_T34 l0_1 x8_3).f1),.int .i64 ((rd_T34 l0_1 x8_3).f2),.int .i64 0,.int .i64 0]) ?_ 3 _ rfl; refine blk_put (cs:=#[.int .i64 ((rd_T34 l0_1 x8_3).f0),.int .i64 ((rd_T34 l0_1 x8_3).f1),.int .i64 0,.int .i64 0,.int .i64 0]) ?_ 2 _ rfl; refine blk_put (cs:=#[.int .i64 ((rd_T34 l0_1 x8_3).f0),.int .i64 0,.int .i64 0,.int .i64 0,.int .i64 0]) ?_ 1 _ rfl; refine blk_put (cs:=#[.int .i64 0,.int .i64 0,.int .i64 0,.int .i64 0,.int .i64 0]) ?_ 0 _ rfl; exact p4.out⟩
        have n3_ : Aside0 (Below w.heap.size w (((((w42.setCell ⟨p0,0,none⟩ (.int .i64 ((rd_T34 l0_1 x8_3).f0))).setCell ⟨p0,1,none⟩ (.int .i64 ((rd_T34 l0_1 x8_3).f1))).setCell ⟨p0,2,none⟩ (.int .i64 ((rd_T34 l0_1 x8_3).f2))).setCell ⟨p0,3,none⟩ (.int .i64 ((rd_T34 l0_1 x8_3).f3))).setCell ⟨p0,4,none⟩ (.int .i64 ((rd_T34 l0_1 x8_3).f4)))):=⟨by repeat (first | (with_reducible first | exact HB.out | apply below_alloc | apply pw_below_drewN | apply below_drew1 | refine below_set ?_ r1.out | refine below_set ?_ r3.out) | exact HB.out)⟩
        (try clear HO_5)
        (try clear p3)
        (try clear p4)
        (try clear HB)
        generalize (((((w42.setCell ⟨p0,0,none⟩ (.int .i64 ((rd_T34 l0_1 x8_3).f0))).setCell ⟨p0,1,none⟩ (.int .i64 ((rd_T34 l0_1 x8_3).f1))).setCell ⟨p0,2,none⟩ (.int .i64 ((rd_T34 l0_1 x8_3).f2))).setCell ⟨p0,3,none⟩ (.int .i64 ((rd_T34 l0_1 x8_3).f3))).setCell ⟨p0,4,none⟩ (.int .i64 ((rd_T34 l0_1 x8_3).f4))) = w45 at n0_ n1_ n2_ n3_ ⊢;have HO_5:=n0_;have p3:=n1_;have p4:=n2_;have HB:=n3_;clear n0_ n1_ n2_ n3_;have n0_:=zx (Kd.R_drew HO_5.out);have n1_:=zx (blk_drew p3.out);have n2_:=zx (blk_drew p4.out);have n3_:=zx (below_drew1 HB.out);clear HO_5;clear p3;clear p4;clear HB;have HO_5:=n0_;have p3:=n1_;have p4:=n2_;have HB:=n3_;clear n0_ n1_ n2_ n3_;have p279 : 0 ≤ (((rd_T34 l0_1 x8_3).f0) : Int):=of_decide_eq_true (by first | (with_reducible assumption) | assumption);have q279 : ((rd_T34 l0_1 x8_3).f0) < (x5_3.length : Int):=of_decide_eq_true (by first | (with_reducible assumption) | assumption);obtain ⟨r4,e279,p9⟩:=Kd.at_int (Kd.R_reads' HO_5.out).2.2 ((rd_T34 l0_1 x8_3).f0) p279 q279;obtain rfl : (⟨go18,0,none⟩ : Addr) = r4:=(by injection e279)
        (first | simp only [add_plain] at p9 | simp only [add_at] at p9 | simp only [Addr.add,Nat.zero_add] at p9 | skip)
        replace p279:=eq_true p279;replace q279:=eq_true q279;have p280 : 0 ≤ (((rd_T34 l0_1 x8_3).f0) : Int):=of_decide_eq_true (by first | (with_reducible assumption) | assumption);have q280 : ((rd_T34 l0_1 x8_3).f0) < (x5_3.length : Int):=of_decide_eq_true (by first | (with_reducible assumption) | assumption);obtain ⟨t8,e280,q7⟩:=Kd.at_int (Kd.R_reads' HO_5.out).2.2 ((rd_T34 l0_1 x8_3).f0) p280 q280;obtain rfl : (⟨go18,0,none⟩ : Addr) = t8:=(by injection e280)
        (first | simp only [add_plain] at q7 | simp only [add_at] at q7 | simp only [Addr.add,Nat.zero_add] at q7 | skip)
        replace p280:=eq_true p280;replace q280:=eq_true q280;have p281 : 0 ≤ (((rd_T34 l0_1 x8_3).f1) : Int):=of_decide_eq_true (by first | (with_reducible assumption) | assumption);have q281 : ((rd_T34 l0_1 x8_3).f1) < (x5_3.length : Int):=of_decide_eq_true (by first | (with_reducible assumption) | assumption);obtain ⟨t9,e281,q8⟩:=Kd.at_int (Kd.R_reads' HO_5.out).2.2 ((rd_T34 l0_1 x8_3).f1) p281 q281;obtain rfl : (⟨go18,0,none⟩ : Addr) = t9:=(by injection e281)
        (first | simp only [add_plain] at q8 | simp only [add_at] at q8 | simp only [Addr.add,Nat.zero_add] at q8 | skip)
        replace p281:=eq_true p281;replace q281:=eq_true q281;refine start_ (n:=22) (S:=fun w' => w'.cell? ⟨p0,0,none⟩ = some (.int .i64 ((rd_T34 l0_1 x8_3).f0)) ∧ w'.cell? ⟨p0,1,none⟩ = some (.int .i64 ((rd_T34 l0_1 x8_3).f1)) ∧ w'.cell? ⟨p0,2,none⟩ = some (.int .i64 ((rd_T34 l0_1 x8_3).f2)) ∧ w'.cell? ⟨p0,3,none⟩ = some (.int .i64 ((rd_T34 l0_1 x8_3).f3)) ∧ w'.cell? ⟨p0,4,none⟩ = some (.int .i64 ((rd_T34 l0_1 x8_3).f4)) ∧ w'.cell? ⟨go18,(((rd_T34 l0_1 x8_3).f0)).toNat,none⟩ = some (.int .i64 (rd x5_3 ((rd_T34 l0_1 x8_3).f0))) ∧ w'.cell? ⟨go18,(((rd_T34 l0_1 x8_3).f0)).toNat,none⟩ = some (.int .i64 (rd x5_3 ((rd_T34 l0_1 x8_3).f0))) ∧ w'.cell? ⟨go18,(((rd_T34 l0_1 x8_3).f1)).toNat,none⟩ = some (.int .i64 (rd x5_3 ((rd_T34 l0_1 x8_3).f1)))) (ds:=[]) #[J,J,J,J,J,J,J,J,J,J,J,J,J,J,J,J,J,J,J,J,J,J] (by kernel_rfl) rfl rfl ⟨(blk_cell p4.out 0).trans rfl,(blk_cell p4.out 1).trans rfl,(blk_cell p4.out 2).trans rfl,(blk_cell p4.out 3).trans rfl,(blk_cell p4.out 4).trans rfl,p9,q7,q8⟩ (fun hHeld => ?_); refine with_tabW spec_l3All.tab14 spec_l3All.bits14 (fun HT_ HW_ => ?_);generalize w45.drew = w46 at HO_5 p3 p4 HB p9 q7 q8 hHeld ⊢;refine pure_ (i:=0) (N:=some 43) (v:=?_) (a':=?_) #[Y,J,J,J,J,J,J,J,J,J,J,J,J,J,J,J,J,J,J,J,J,J] rfl rfl (any_of HT_.out (by kernel_rfl)) (fun _ _ _ h => h) (Or.inl ⟨by rfl,?_⟩) ?_ ?_;rotate_left
        ·intro w';go_simp;with_reducible rfl
        rotate_left
        ·simp only [Act.put,U,V,Z,i64_w,i32_w];rfl
        refine pure_ (i:=1) (N:=some 44) (v:=?_) (a':=?_) #[Y,Y,J,J,J,J,J,J,J,J,J,J,J,J,J,J,J,J,J,J,J,J] rfl rfl (any_of HT_.out (by kernel_rfl)) (fun _ _ _ h => h) (Or.inl ⟨by rfl,?_⟩) ?_ ?_;rotate_left
        ·intro w';go_simp;with_reducible rfl
        rotate_left
        ·simp only [Act.put,U,V,Z,i64_w,i32_w];rfl
        refine take_ (i:=2) (N:=some 45) (v:=?_) (a':=?_) #[Y,Y,Y,J,J,J,J,J,J,J,J,J,J,J,J,J,J,J,J,J,J,J] rfl rfl (take_ofW HT_.out HW_.out (by kernel_rfl)) (fun _ _ _ h => h) (Or.inl ⟨by rfl,?_⟩) hHeld ?_ ?_;rotate_left
        ·rintro w' ⟨s0,s1,s2,s3,s4,s5,s6,s7⟩;go_simp;with_reducible rfl
        rotate_left
        ·simp only [Act.put,U,V,Z,i64_w,i32_w];rfl
        refine pure_ (i:=3) (N:=some 46) (v:=?_) (a':=?_) #[Y,Y,Y,Y,J,J,J,J,J,J,J,J,J,J,J,J,J,J,J,J,J,J] rfl rfl (any_of HT_.out (by kernel_rfl)) (fun _ _ _ h => h) (Or.inl ⟨by rfl,?_⟩) ?_ ?_;rotate_left
        ·intro w';go_simp;with_reducible rfl
        rotate_left
        ·simp only [Act.put,U,V,Z,i64_w,i32_w];rfl
        refine take_ (i:=4) (N:=some 47) (v:=?_) (a':=?_) #[Y,Y,Y,Y,Y,J,J,J,J,J,J,J,J,J,J,J,J,J,J,J,J,J] rfl rfl (take_ofW HT_.out HW_.out (by kernel_rfl)) (fun _ _ _ h => h) (Or.inl ⟨by rfl,?_⟩) hHeld ?_ ?_;rotate_left
        ·rintro w' ⟨s0,s1,s2,s3,s4,s5,s6,s7⟩;go_simp;with_reducible rfl
        rotate_left
        ·simp only [Act.put,U,V,Z,i64_w,i32_w];rfl
        refine pure_ (i:=5) (N:=some 48) (v:=?_) (a':=?_) #[Y,Y,Y,Y,Y,Y,J,J,J,J,J,J,J,J,J,J,J,J,J,J,J,J] rfl rfl (any_of HT_.out (by kernel_rfl)) (fun _ _ _ h => h) (Or.inl ⟨by rfl,?_⟩) ?_ ?_;rotate_left
        ·intro w';go_simp;with_reducible rfl
        rotate_left
        ·simp only [Act.put,U,V,Z,i64_w,i32_w];rfl
        refine pure_ (i:=6) (N:=some 49) (v:=?_) (a':=?_) #[Y,Y,Y,Y,Y,Y,Y,J,J,J,J,J,J,J,J,J,J,J,J,J,J,J] rfl rfl (any_of HT_.out (by kernel_rfl)) (fun _ _ _ h => h) (Or.inl ⟨by rfl,?_⟩) ?_ ?_;rotate_left
        ·intro w';go_simp;with_reducible rfl
        rotate_left
        ·simp only [Act.put,U,V,Z,i64_w,i32_w];rfl
        refine pure_ (i:=7) (N:=some 50) (v:=?_) (a':=?_) #[Y,Y,Y,Y,Y,Y,Y,Y,J,J,J,J,J,J,J,J,J,J,J,J,J,J] rfl rfl (any_of HT_.out (by kernel_rfl)) (fun _ _ _ h => h) (Or.inl ⟨by rfl,?_⟩) ?_ ?_;rotate_left
        ·intro w';go_simp;with_reducible rfl
        rotate_left
        ·simp only [Act.put,U,V,Z,i64_w,i32_w];rfl
        refine pure_ (i:=8) (N:=some 51) (v:=?_) (a':=?_) #[Y,Y,Y,Y,Y,Y,Y,Y,Y,J,J,J,J,J,J,J,J,J,J,J,J,J] rfl rfl (any_of HT_.out (by kernel_rfl)) (fun _ _ _ h => h) (Or.inl ⟨by rfl,?_⟩) ?_ ?_;rotate_left
        ·intro w';go_simp;with_reducible rfl
        rotate_left
        ·simp only [Act.put,U,V,Z,i64_w,i32_w];rfl
        refine pure_ (i:=12) (N:=some 55) (v:=?_) (a':=?_) #[Y,Y,Y,Y,Y,Y,Y,Y,Y,J,J,J,Y,J,J,J,J,J,J,J,J,J] rfl rfl (any_of HT_.out (by kernel_rfl)) (fun _ _ _ h => h) (Or.inl ⟨by rfl,?_⟩) ?_ ?_;rotate_left
        ·intro w';go_simp;with_reducible rfl
        rotate_left
        ·simp only [Act.put,U,V,Z,i64_w,i32_w];rfl
        refine pure_ (i:=15) (N:=some 58) (v:=?_) (a':=?_) #[Y,Y,Y,Y,Y,Y,Y,Y,Y,J,J,J,Y,J,J,Y,J,J,J,J,J,J] rfl rfl (any_of HT_.out (by kernel_rfl)) (fun _ _ _ h => h) (Or.inl ⟨by rfl,?_⟩) ?_ ?_;rotate_left
        ·intro w';go_simp;with_reducible rfl
        rotate_left
        ·simp only [Act.put,U,V,Z,i64_w,i32_w];rfl
        refine pure_ (i:=16) (N:=some 59) (v:=?_) (a':=?_) #[Y,Y,Y,Y,Y,Y,Y,Y,Y,J,J,J,Y,J,J,Y,Y,J,J,J,J,J] rfl rfl (any_of HT_.out (by kernel_rfl)) (fun _ _ _ h => h) (Or.inl ⟨by rfl,?_⟩) ?_ ?_;rotate_left
        ·intro w';go_simp;with_reducible rfl
        rotate_left
        ·simp only [Act.put,U,V,Z,i64_w,i32_w];rfl
        refine take_ (i:=9) (N:=some 52) (v:=?_) (a':=?_) #[Y,Y,Y,Y,Y,Y,Y,Y,Y,Y,J,J,Y,J,J,Y,Y,J,J,J,J,J] rfl rfl (take_ofW HT_.out HW_.out (by kernel_rfl)) (fun _ _ _ h => h) (Or.inl ⟨by rfl,?_⟩) hHeld ?_ ?_;rotate_left
        ·rintro w' ⟨s0,s1,s2,s3,s4,s5,s6,s7⟩;go_simp;with_reducible rfl
        rotate_left
        ·simp only [Act.put,U,V,Z,i64_w,i32_w];rfl
        refine pure_ (i:=10) (N:=some 53) (v:=?_) (a':=?_) #[Y,Y,Y,Y,Y,Y,Y,Y,Y,Y,Y,J,Y,J,J,Y,Y,J,J,J,J,J] rfl rfl (any_of HT_.out (by kernel_rfl)) (fun _ _ _ h => h) (Or.inl ⟨by rfl,?_⟩) ?_ ?_;rotate_left
        ·intro w';go_simp;with_reducible rfl
        rotate_left
        ·simp only [Act.put,U,V,Z,i64_w,i32_w];rfl
        refine take_ (i:=11) (N:=some 54) (v:=?_) (a':=?_) #[Y,Y,Y,Y,Y,Y,Y,Y,Y,Y,Y,Y,Y,J,J,Y,Y,J,J,J,J,J] rfl rfl (take_ofW HT_.out HW_.out (by kernel_rfl)) (fun _ _ _ h => h) (Or.inl ⟨by rfl,?_⟩) hHeld ?_ ?_;rotate_left
        ·rintro w' ⟨s0,s1,s2,s3,s4,s5,s6,s7⟩;go_simp;with_reducible rfl
        rotate_left
        ·simp only [Act.put,U,V,Z,i64_w,i32_w];rfl
        refine take_ (i:=13) (N:=some 56) (v:=?_) (a':=?_) #[Y,Y,Y,Y,Y,Y,Y,Y,Y,Y,Y,Y,Y,Y,J,Y,Y,J,J,J,J,J] rfl rfl (take_ofW HT_.out HW_.out (by kernel_rfl)) (fun _ _ _ h => h) (Or.inl ⟨by rfl,?_⟩) hHeld ?_ ?_;rotate_left
        ·rintro w' ⟨s0,s1,s2,s3,s4,s5,s6,s7⟩;go_simp;with_reducible rfl
        rotate_left
        ·simp only [Act.put,U,V,Z,i64_w,i32_w];rfl
        refine pure_ (i:=14) (N:=some 57) (v:=?_) (a':=?_) #[Y,Y,Y,Y,Y,Y,Y,Y,Y,Y,Y,Y,Y,Y,Y,Y,Y,J,J,J,J,J] rfl rfl (any_of HT_.out (by kernel_rfl)) (fun _ _ _ h => h) (Or.inl ⟨by rfl,?_⟩) ?_ ?_;rotate_left
        ·intro w';go_simp;with_reducible rfl
        rotate_left
        ·simp only [Act.put,U,V,Z,i64_w,i32_w];rfl
        refine take_ (i:=17) (N:=some 60) (v:=?_) (a':=?_) #[Y,Y,Y,Y,Y,Y,Y,Y,Y,Y,Y,Y,Y,Y,Y,Y,Y,Y,J,J,J,J] rfl rfl (take_ofW HT_.out HW_.out (by kernel_rfl)) (fun _ _ _ h => h) (Or.inl ⟨by rfl,?_⟩) hHeld ?_ ?_;rotate_left
        ·rintro w' ⟨s0,s1,s2,s3,s4,s5,s6,s7⟩;go_simp;with_reducible rfl
        rotate_left
        ·simp only [Act.put,U,V,Z,i64_w,i32_w];rfl
        refine pure_ (i:=18) (N:=some 61) (v:=?_) (a':=?_) #[Y,Y,Y,Y,Y,Y,Y,Y,Y,Y,Y,Y,Y,Y,Y,Y,Y,Y,Y,J,J,J] rfl rfl (any_of HT_.out (by kernel_rfl)) (fun _ _ _ h => h) (Or.inl ⟨by rfl,?_⟩) ?_ ?_;rotate_left
        ·intro w';go_simp;with_reducible rfl
        rotate_left
        ·simp only [Act.put,U,V,Z,i64_w,i32_w];rfl
        refine take_ (i:=19) (N:=some 62) (v:=?_) (a':=?_) #[Y,Y,Y,Y,Y,Y,Y,Y,Y,Y,Y,Y,Y,Y,Y,Y,Y,Y,Y,Y,J,J] rfl rfl (take_ofW HT_.out HW_.out (by kernel_rfl)) (fun _ _ _ h => h) (Or.inl ⟨by rfl,?_⟩) hHeld ?_ ?_;rotate_left
        ·rintro w' ⟨s0,s1,s2,s3,s4,s5,s6,s7⟩;go_simp;with_reducible rfl
        rotate_left
        ·simp only [Act.put,U,V,Z,i64_w,i32_w];rfl
        refine pure_ (i:=20) (N:=some 63) (v:=?_) (a':=?_) #[Y,Y,Y,Y,Y,Y,Y,Y,Y,Y,Y,Y,Y,Y,Y,Y,Y,Y,Y,Y,Y,J] rfl rfl (any_of HT_.out (by kernel_rfl)) (fun _ _ _ h => h) (Or.inl ⟨by rfl,?_⟩) ?_ ?_;rotate_left
        ·intro w';go_simp;with_reducible rfl
        rotate_left
        ·simp only [Act.put,U,V,Z,i64_w,i32_w];rfl
        refine pure_ (i:=21) (N:=some 64) (v:=?_) (a':=?_) #[Y,Y,Y,Y,Y,Y,Y,Y,Y,Y,Y,Y,Y,Y,Y,Y,Y,Y,Y,Y,Y,Y] rfl rfl (any_of HT_.out (by kernel_rfl)) (fun _ _ _ h => h) (Or.inl ⟨by rfl,?_⟩) ?_ ?_;rotate_left
        ·intro w';go_simp;with_reducible rfl
        rotate_left
        ·simp only [Act.put,U,V,Z,i64_w,i32_w];rfl
        refine done_ (done_of HT_.out (by kernel_rfl)) ?_
        try go_wp2
        (try simp only [← hl5_3])
        go_roundg k3
        case measure => have:=HK1.out; have:=HK2.out; have:=HK3.out; omega
        case rel => exact ⟨(x5_3),(wrap64 (x8_3 + 1)),(by first | rfl | (simp; done) | (simp [*]; done)),H',⟨by have:=HK1.out; have:=HK2.out; have:=HK3.out; omega⟩,⟨by (try simp only [hl5_2]); (try simp only [hl5_3]); exact HO_5.out⟩,⟨by (try simp only [hl5_2]); (try simp only [hl5_3]); exact p3.out⟩,⟨by repeat (first | (with_reducible first | exact HB.out | apply below_alloc | apply pw_below_drewN | apply below_drew1 | refine below_set ?_ r1.out | refine below_set ?_ r3.out) | exact HB.out)⟩⟩
       rw [if_pos c31] at H;have c31b0 : decide ((wrap64 ((rd x5_3 ((rd_T34 l0_1 x8_3).f0)) + ((rd_T34 l0_1 x8_3).f2))) < (rd x5_3 ((rd_T34 l0_1 x8_3).f1))) = true:=decide_eq_true c31;clear c31;obtain ⟨y283,hy283⟩ : ∃ y_ : List Int,y_ = (x5_3.set (((rd_T34 l0_1 x8_3).f1) : Int).toNat (wrap64 ((rd x5_3 ((rd_T34 l0_1 x8_3).f0)) + ((rd_T34 l0_1 x8_3).f2)))):=⟨_,rfl⟩
       replace H : (spec_l3All.l2 k3 y283 x7_2 (wrap64 (x8_3 + 1)) a0_0 l0_1) = some r:=by first | (rw [hy283]; with_reducible exact H) | (have H2_:=(Option.bind_some _ _).symm.trans H; rw [hy283]; with_reducible exact H2_) | (have H2_:=(Option.bind_some _ _).symm.trans H; with_reducible exact H2_) | with_reducible exact H | (rw [hy283]; exact H) | exact H
       have Ny283:=zx hy283;clear hy283;have H':=zx H;clear H;have hcz33_0 : wr.cell? ⟨p7,0,none⟩ = some (.int .i64 a0_0):=(blk_cell p3.out 0).trans rfl;have hcz33_1 : wr.cell? ⟨p7,1,none⟩ = some (.slice A0_1 l0_1.length c0_1):=(blk_cell p3.out 1).trans rfl;have hfz33_0:=blk_frozen p3.out 0;have hfz33_1:=blk_frozen p3.out 1;have p277 : 0 ≤ (x8_3 : Int):=of_decide_eq_true (by first | (with_reducible assumption) | assumption);have q277 : x8_3 < (l0_1.length : Int):=of_decide_eq_true (by first | (with_reducible assumption) | assumption);obtain ⟨q9,e277,q2,q3,q4,q5,q6⟩:=at_T34 t5.out x8_3 p277 q277;cases e277;replace q2:=(HB.out.cell (World.block_lt_of_cell? w _ q2)).trans q2;replace q3:=(HB.out.cell (World.block_lt_of_cell? w _ q3)).trans q3;replace q4:=(HB.out.cell (World.block_lt_of_cell? w _ q4)).trans q4;replace q5:=(HB.out.cell (World.block_lt_of_cell? w _ q5)).trans q5;replace q6:=(HB.out.cell (World.block_lt_of_cell? w _ q6)).trans q6;replace p277:=eq_true p277;replace q277:=eq_true q277
       try go_wp2_with (first | ((with_reducible refine gate_dst (N:=9) rfl ?_); refine box_event ?hg (N:=9) ?hd (cs:=#[.int .i64 0,.int .i64 0,.int .i64 0,.int .i64 0,.int .i64 0]) (t:=34) ?hr ?_; (case hd => rfl); (case hg => rfl); (case hr => first | (go_simp; done) | (go_simp; rfl)); intro p0 hg w34 hbox hb; have n0_:=zx (Kd.R_below HO_5.out hb); have n1_:=zx (blk_below (g:=p7) (o:=.cells #[.int .i64 a0_0,.slice (some q9) l0_1.length c0_1] 25 (0,0)) p3.out hb); have n2_:=zx (below_step HB.out hb); have n3_:=zx (hbox); have n4_:=zx ((by rw [hg]; exact (below_size HB.out) : w.heap.size ≤ p0)); have n5_:=zx ((by rw [hg]; exact (below_size HB.out) : w.heap.size ≤ p0)); have n6_:=zx ((by rw [hg]; exact Nat.ne_of_lt (blk_lt (g:=p7) (o:=.cells #[.int .i64 a0_0,.slice (some q9) l0_1.length c0_1] 25 (0,0)) p3.out) : p7 ≠ p0)); have n7_:=zx ((by rw [hg]; exact Nat.ne_of_gt (blk_lt (g:=p7) (o:=.cells #[.int .i64 a0_0,.slice (some q9) l0_1.length c0_1] 25 (0,0)) p3.out) : p0 ≠ p7)); clear HO_5; clear p3; clear HB; have HO_5:=n0_; have p3:=n1_; have HB:=n2_; have p4:=n3_; have GW278:=n4_; have r3:=n5_; have p5:=n6_; have r0:=n7_; clear n0_ n1_ n2_ n3_ n4_ n5_ n6_ n7_; clear hb hbox hg; have hnb35:=r0.out; have hnc35:=p5.out; have hcz36_0 : w34.cell? ⟨p0,0,none⟩ = some (.int .i64 0):=(blk_cell p4.out 0).trans rfl; have hcz36_1 : w34.cell? ⟨p0,1,none⟩ = some (.int .i64 0):=(blk_cell p4.out 1).trans rfl; have hcz36_2 : w34.cell? ⟨p0,2,none⟩ = some (.int .i64 0):=(blk_cell p4.out 2).trans rfl; have hcz36_3 : w34.cell? ⟨p0,3,none⟩ = some (.int .i64 0):=(blk_cell p4.out 3).trans rfl; have hcz36_4 : w34.cell? ⟨p0,4,none⟩ = some (.int .i64 0):=(blk_cell p4.out 4).trans rfl; have hfz36_0:=blk_frozen p4.out 0; have hfz36_1:=blk_frozen p4.out 1; have hfz36_2:=blk_frozen p4.out 2; have hfz36_3:=blk_frozen p4.out 3; have hfz36_4:=blk_frozen p4.out 4))
       have n0_ : Aside0 (Kd.R (Kd.int .i64) 3 (((((w34.setCell ⟨p0,0,none⟩ (.int .i64 ((rd_T34 l0_1 x8_3).f0))).setCell ⟨p0,1,none⟩ (.int .i64 ((rd_T34 l0_1 x8_3).f1))).setCell ⟨p0,2,none⟩ (.int .i64 ((rd_T34 l0_1 x8_3).f2))).setCell ⟨p0,3,none⟩ (.int .i64 ((rd_T34 l0_1 x8_3).f3))).setCell ⟨p0,4,none⟩ (.int .i64 ((rd_T34 l0_1 x8_3).f4))) w.heap.size (fun _ => True) (.slice (some ⟨go18,0,none⟩) x5_3.length co18) x5_3):=⟨by exact Kd.R_mono (Kd.R_far (p:=⟨p0,4,none⟩) (Kd.R_far (p:=⟨p0,3,none⟩) (Kd.R_far (p:=⟨p0,2,none⟩) (Kd.R_far (p:=⟨p0,1,none⟩) (Kd.R_far (p:=⟨p0,0,none⟩) (Kd.R_types HO_5.out p4.out (by decide)) (fun _ hk => hk.2) (.int .i64 ((rd_T34 l0_1 x8_3).f0))) (fun _ hk => hk.2) (.int .i64 ((rd_T34 l0_1 x8_3).f1))) (fun _ hk => hk.2) (.int .i64 ((rd_T34 l0_1 x8_3).f2))) (fun _ hk => hk.2) (.int .i64 ((rd_T34 l0_1 x8_3).f3))) (fun _ hk => hk.2) (.int .i64 ((rd_T34 l0_1 x8_3).f4))) (fun _ hk => trivial)⟩
       have n1_ : Aside0 ((((((w34.setCell ⟨p0,0,none⟩ (.int .i64 ((rd_T34 l0_1 x8_3).f0))).setCell ⟨p0,1,none⟩ (.int .i64 ((rd_T34 l0_1 x8_3).f1))).setCell ⟨p0,2,none⟩ (.int .i64 ((rd_T34 l0_1 x8_3).f2))).setCell ⟨p0,3,none⟩ (.int .i64 ((rd_T34 l0_1 x8_3).f3))).setCell ⟨p0,4,none⟩ (.int .i64 ((rd_T34 l0_1 x8_3).f4))).heap[p7]? = some (.cells #[.int .i64 a0_0,.slice (some q9) l0_1.length c0_1] 25 (0,0))):=⟨by refine blk_far ?_ p5.out _; refine blk_far ?_ p5.out _; refine blk_far ?_ p5.out _; refine blk_far ?_ p5.out _; refine blk_far ?_ p5.out _; exact p3.out⟩
       have n2_ : Aside0 ((((((w34.setCell ⟨p0,0,none⟩ (.int .i64 ((rd_T34 l0_1 x8_3).f0))).setCell ⟨p0,1,none⟩ (.int .i64 ((rd_T34 l0_1 x8_3).f1))).setCell ⟨p0,2,none⟩ (.int .i64 ((rd_T34 l0_1 x8_3).f2))).setCell ⟨p0,3,none⟩ (.int .i64 ((rd_T34 l0_1 x8_3).f3))).setCell ⟨p0,4,none⟩ (.int .i64 ((rd_T34 l0_1 x8_3).f4))).heap[p0]? = some (.cells #[.int .i64 ((rd_T34 l0_1 x8_3).f0),.int .i64 ((rd_T34 l0_1 x8_3).f1),.int .i64 ((rd_T34 l0_1 x8_3).f2),.int .i64 ((rd_T34 l0_1 x8_3).f3),.int .i64 ((rd_T34 l0_1 x8_3).f4)] 34 (0,0))):=⟨by refine blk_put (cs:=#[.int .i64 ((rd_T34 l0_1 x8_3).f0),.int .i64 ((rd_T34 l0_1 x8_3).f1),.int .i64 ((rd_T34 l0_1 x8_3).f2),.int .i64 ((rd_T34 l0_1 x8_3).f3),.int .i64 0]) ?_ 4 _ rfl; refine blk_put (cs:=#[.int .i64 ((rd_T34 l0_1 x8_3).f0),.int .i64 ((rd_T34 l0_1 x8_3).f1),.int .i64 ((rd_T34 l0_1 x8_3).f2),.int .i64 0,.int .i64 0]) ?_ 3 _ rfl; refine blk_put (cs:=#[.int .i64 ((rd_T34 l0_1 x8_3).f0),.int .i64 ((rd_T34 l0_1 x8_3).f1),.int .i64 0,.int .i64 0,.int .i64 0]) ?_ 2 _ rfl; refine blk_put (cs:=#[.int .i64 ((rd_T34 l0_1 x8_3).f0),.int .i64 0,.int .i64 0,.int .i64 0,.int .i64 0]) ?_ 1 _ rfl; refine blk_put (cs:=#[.int .i64 0,.int .i64 0,.int .i64 0,.int .i64 0,.int .i64 0]) ?_ 0 _ rfl; exact p4.out⟩
       have n3_ : Aside0 (Below w.heap.size w (((((w34.setCell ⟨p0,0,none⟩ (.int .i64 ((rd_T34 l0_1 x8_3).f0))).setCell ⟨p0,1,none⟩ (.int .i64 ((rd_T34 l0_1 x8_3).f1))).setCell ⟨p0,2,none⟩ (.int .i64 ((rd_T34 l0_1 x8_3).f2))).setCell ⟨p0,3,none⟩ (.int .i64 ((rd_T34 l0_1 x8_3).f3))).setCell ⟨p0,4,none⟩ (.int .i64 ((rd_T34 l0_1 x8_3).f4)))):=⟨by repeat (first | (with_reducible first | exact HB.out | apply below_alloc | apply pw_below_drewN | apply below_drew1 | refine below_set ?_ r1.out | refine below_set ?_ r3.out) | exact HB.out)⟩
       (try clear HO_5)
       (try clear p3)
       (try clear p4)
       (try clear HB)
       generalize (((((w34.setCell ⟨p0,0,none⟩ (.int .i64 ((rd_T34 l0_1 x8_3).f0))).setCell ⟨p0,1,none⟩ (.int .i64 ((rd_T34 l0_1 x8_3).f1))).setCell ⟨p0,2,none⟩ (.int .i64 ((rd_T34 l0_1 x8_3).f2))).setCell ⟨p0,3,none⟩ (.int .i64 ((rd_T34 l0_1 x8_3).f3))).setCell ⟨p0,4,none⟩ (.int .i64 ((rd_T34 l0_1 x8_3).f4))) = w37 at n0_ n1_ n2_ n3_ ⊢;have HO_5:=n0_;have p3:=n1_;have p4:=n2_;have HB:=n3_;clear n0_ n1_ n2_ n3_;have n0_:=zx (Kd.R_drew HO_5.out);have n1_:=zx (blk_drew p3.out);have n2_:=zx (blk_drew p4.out);have n3_:=zx (below_drew1 HB.out);clear HO_5;clear p3;clear p4;clear HB;have HO_5:=n0_;have p3:=n1_;have p4:=n2_;have HB:=n3_;clear n0_ n1_ n2_ n3_;have p279 : 0 ≤ (((rd_T34 l0_1 x8_3).f0) : Int):=of_decide_eq_true (by first | (with_reducible assumption) | assumption);have q279 : ((rd_T34 l0_1 x8_3).f0) < (x5_3.length : Int):=of_decide_eq_true (by first | (with_reducible assumption) | assumption);obtain ⟨r4,e279,p9⟩:=Kd.at_int (Kd.R_reads' HO_5.out).2.2 ((rd_T34 l0_1 x8_3).f0) p279 q279;obtain rfl : (⟨go18,0,none⟩ : Addr) = r4:=(by injection e279)
       (first | simp only [add_plain] at p9 | simp only [add_at] at p9 | simp only [Addr.add,Nat.zero_add] at p9 | skip)
       replace p279:=eq_true p279;replace q279:=eq_true q279;have p280 : 0 ≤ (((rd_T34 l0_1 x8_3).f0) : Int):=of_decide_eq_true (by first | (with_reducible assumption) | assumption);have q280 : ((rd_T34 l0_1 x8_3).f0) < (x5_3.length : Int):=of_decide_eq_true (by first | (with_reducible assumption) | assumption);obtain ⟨t8,e280,q7⟩:=Kd.at_int (Kd.R_reads' HO_5.out).2.2 ((rd_T34 l0_1 x8_3).f0) p280 q280;obtain rfl : (⟨go18,0,none⟩ : Addr) = t8:=(by injection e280)
       (first | simp only [add_plain] at q7 | simp only [add_at] at q7 | simp only [Addr.add,Nat.zero_add] at q7 | skip)
       replace p280:=eq_true p280;replace q280:=eq_true q280;have p281 : 0 ≤ (((rd_T34 l0_1 x8_3).f1) : Int):=of_decide_eq_true (by first | (with_reducible assumption) | assumption);have q281 : ((rd_T34 l0_1 x8_3).f1) < (x5_3.length : Int):=of_decide_eq_true (by first | (with_reducible assumption) | assumption);obtain ⟨t9,e281,q8⟩:=Kd.at_int (Kd.R_reads' HO_5.out).2.2 ((rd_T34 l0_1 x8_3).f1) p281 q281;obtain rfl : (⟨go18,0,none⟩ : Addr) = t9:=(by injection e281)
       (first | simp only [add_plain] at q8 | simp only [add_at] at q8 | simp only [Addr.add,Nat.zero_add] at q8 | skip)
       replace p281:=eq_true p281;replace q281:=eq_true q281;refine start_ (n:=22) (S:=fun w' => w'.cell? ⟨p0,0,none⟩ = some (.int .i64 ((rd_T34 l0_1 x8_3).f0)) ∧ w'.cell? ⟨p0,1,none⟩ = some (.int .i64 ((rd_T34 l0_1 x8_3).f1)) ∧ w'.cell? ⟨p0,2,none⟩ = some (.int .i64 ((rd_T34 l0_1 x8_3).f2)) ∧ w'.cell? ⟨p0,3,none⟩ = some (.int .i64 ((rd_T34 l0_1 x8_3).f3)) ∧ w'.cell? ⟨p0,4,none⟩ = some (.int .i64 ((rd_T34 l0_1 x8_3).f4)) ∧ w'.cell? ⟨go18,(((rd_T34 l0_1 x8_3).f0)).toNat,none⟩ = some (.int .i64 (rd x5_3 ((rd_T34 l0_1 x8_3).f0))) ∧ w'.cell? ⟨go18,(((rd_T34 l0_1 x8_3).f0)).toNat,none⟩ = some (.int .i64 (rd x5_3 ((rd_T34 l0_1 x8_3).f0))) ∧ w'.cell? ⟨go18,(((rd_T34 l0_1 x8_3).f1)).toNat,none⟩ = some (.int .i64 (rd x5_3 ((rd_T34 l0_1 x8_3).f1)))) (ds:=[]) #[J,J,J,J,J,J,J,J,J,J,J,J,J,J,J,J,J,J,J,J,J,J] (by kernel_rfl) rfl rfl ⟨(blk_cell p4.out 0).trans rfl,(blk_cell p4.out 1).trans rfl,(blk_cell p4.out 2).trans rfl,(blk_cell p4.out 3).trans rfl,(blk_cell p4.out 4).trans rfl,p9,q7,q8⟩ (fun hHeld => ?_); refine with_tabW spec_l3All.tab14 spec_l3All.bits14 (fun HT_ HW_ => ?_);generalize w37.drew = w38 at HO_5 p3 p4 HB p9 q7 q8 hHeld ⊢;refine pure_ (i:=0) (N:=some 43) (v:=?_) (a':=?_) #[Y,J,J,J,J,J,J,J,J,J,J,J,J,J,J,J,J,J,J,J,J,J] rfl rfl (any_of HT_.out (by kernel_rfl)) (fun _ _ _ h => h) (Or.inl ⟨by rfl,?_⟩) ?_ ?_;rotate_left
       ·intro w';go_simp;with_reducible rfl
       rotate_left
       ·simp only [Act.put,U,V,Z,i64_w,i32_w];rfl
       refine pure_ (i:=1) (N:=some 44) (v:=?_) (a':=?_) #[Y,Y,J,J,J,J,J,J,J,J,J,J,J,J,J,J,J,J,J,J,J,J] rfl rfl (any_of HT_.out (by kernel_rfl)) (fun _ _ _ h => h) (Or.inl ⟨by rfl,?_⟩) ?_ ?_;rotate_left
       ·intro w';go_simp;with_reducible rfl
       rotate_left
       ·simp only [Act.put,U,V,Z,i64_w,i32_w];rfl
       refine take_ (i:=2) (N:=some 45) (v:=?_) (a':=?_) #[Y,Y,Y,J,J,J,J,J,J,J,J,J,J,J,J,J,J,J,J,J,J,J] rfl rfl (take_ofW HT_.out HW_.out (by kernel_rfl)) (fun _ _ _ h => h) (Or.inl ⟨by rfl,?_⟩) hHeld ?_ ?_;rotate_left
       ·rintro w' ⟨s0,s1,s2,s3,s4,s5,s6,s7⟩;go_simp;with_reducible rfl
       rotate_left
       ·simp only [Act.put,U,V,Z,i64_w,i32_w];rfl
       refine pure_ (i:=3) (N:=some 46) (v:=?_) (a':=?_) #[Y,Y,Y,Y,J,J,J,J,J,J,J,J,J,J,J,J,J,J,J,J,J,J] rfl rfl (any_of HT_.out (by kernel_rfl)) (fun _ _ _ h => h) (Or.inl ⟨by rfl,?_⟩) ?_ ?_;rotate_left
       ·intro w';go_simp;with_reducible rfl
       rotate_left
       ·simp only [Act.put,U,V,Z,i64_w,i32_w];rfl
       refine take_ (i:=4) (N:=some 47) (v:=?_) (a':=?_) #[Y,Y,Y,Y,Y,J,J,J,J,J,J,J,J,J,J,J,J,J,J,J,J,J] rfl rfl (take_ofW HT_.out HW_.out (by kernel_rfl)) (fun _ _ _ h => h) (Or.inl ⟨by rfl,?_⟩) hHeld ?_ ?_;rotate_left
       ·rintro w' ⟨s0,s1,s2,s3,s4,s5,s6,s7⟩;go_simp;with_reducible rfl
       rotate_left
       ·simp only [Act.put,U,V,Z,i64_w,i32_w];rfl
       refine pure_ (i:=5) (N:=some 48) (v:=?_) (a':=?_) #[Y,Y,Y,Y,Y,Y,J,J,J,J,J,J,J,J,J,J,J,J,J,J,J,J] rfl rfl (any_of HT_.out (by kernel_rfl)) (fun _ _ _ h => h) (Or.inl ⟨by rfl,?_⟩) ?_ ?_;rotate_left
       ·intro w';go_simp;with_reducible rfl
       rotate_left
       ·simp only [Act.put,U,V,Z,i64_w,i32_w];rfl
       refine pure_ (i:=6) (N:=some 49) (v:=?_) (a':=?_) #[Y,Y,Y,Y,Y,Y,Y,J,J,J,J,J,J,J,J,J,J,J,J,J,J,J] rfl rfl (any_of HT_.out (by kernel_rfl)) (fun _ _ _ h => h) (Or.inl ⟨by rfl,?_⟩) ?_ ?_;rotate_left
       ·intro w';go_simp;with_reducible rfl
       rotate_left
       ·simp only [Act.put,U,V,Z,i64_w,i32_w];rfl
       refine pure_ (i:=7) (N:=some 50) (v:=?_) (a':=?_) #[Y,Y,Y,Y,Y,Y,Y,Y,J,J,J,J,J,J,J,J,J,J,J,J,J,J] rfl rfl (any_of HT_.out (by kernel_rfl)) (fun _ _ _ h => h) (Or.inl ⟨by rfl,?_⟩) ?_ ?_;rotate_left
       ·intro w';go_simp;with_reducible rfl
       rotate_left
       ·simp only [Act.put,U,V,Z,i64_w,i32_w];rfl
       refine pure_ (i:=8) (N:=some 51) (v:=?_) (a':=?_) #[Y,Y,Y,Y,Y,Y,Y,Y,Y,J,J,J,J,J,J,J,J,J,J,J,J,J] rfl rfl (any_of HT_.out (by kernel_rfl)) (fun _ _ _ h => h) (Or.inl ⟨by rfl,?_⟩) ?_ ?_;rotate_left
       ·intro w';go_simp;with_reducible rfl
       rotate_left
       ·simp only [Act.put,U,V,Z,i64_w,i32_w];rfl
       refine pure_ (i:=12) (N:=some 55) (v:=?_) (a':=?_) #[Y,Y,Y,Y,Y,Y,Y,Y,Y,J,J,J,Y,J,J,J,J,J,J,J,J,J] rfl rfl (any_of HT_.out (by kernel_rfl)) (fun _ _ _ h => h) (Or.inl ⟨by rfl,?_⟩) ?_ ?_;rotate_left
       ·intro w';go_simp;with_reducible rfl
       rotate_left
       ·simp only [Act.put,U,V,Z,i64_w,i32_w];rfl
       refine pure_ (i:=15) (N:=some 58) (v:=?_) (a':=?_) #[Y,Y,Y,Y,Y,Y,Y,Y,Y,J,J,J,Y,J,J,Y,J,J,J,J,J,J] rfl rfl (any_of HT_.out (by kernel_rfl)) (fun _ _ _ h => h) (Or.inl ⟨by rfl,?_⟩) ?_ ?_;rotate_left
       ·intro w';go_simp;with_reducible rfl
       rotate_left
       ·simp only [Act.put,U,V,Z,i64_w,i32_w];rfl
       refine pure_ (i:=16) (N:=some 59) (v:=?_) (a':=?_) #[Y,Y,Y,Y,Y,Y,Y,Y,Y,J,J,J,Y,J,J,Y,Y,J,J,J,J,J] rfl rfl (any_of HT_.out (by kernel_rfl)) (fun _ _ _ h => h) (Or.inl ⟨by rfl,?_⟩) ?_ ?_;rotate_left
       ·intro w';go_simp;with_reducible rfl
       rotate_left
       ·simp only [Act.put,U,V,Z,i64_w,i32_w];rfl
       refine take_ (i:=9) (N:=some 52) (v:=?_) (a':=?_) #[Y,Y,Y,Y,Y,Y,Y,Y,Y,Y,J,J,Y,J,J,Y,Y,J,J,J,J,J] rfl rfl (take_ofW HT_.out HW_.out (by kernel_rfl)) (fun _ _ _ h => h) (Or.inl ⟨by rfl,?_⟩) hHeld ?_ ?_;rotate_left
       ·rintro w' ⟨s0,s1,s2,s3,s4,s5,s6,s7⟩;go_simp;with_reducible rfl
       rotate_left
       ·simp only [Act.put,U,V,Z,i64_w,i32_w];rfl
       refine pure_ (i:=10) (N:=some 53) (v:=?_) (a':=?_) #[Y,Y,Y,Y,Y,Y,Y,Y,Y,Y,Y,J,Y,J,J,Y,Y,J,J,J,J,J] rfl rfl (any_of HT_.out (by kernel_rfl)) (fun _ _ _ h => h) (Or.inl ⟨by rfl,?_⟩) ?_ ?_;rotate_left
       ·intro w';go_simp;with_reducible rfl
       rotate_left
       ·simp only [Act.put,U,V,Z,i64_w,i32_w];rfl
       refine take_ (i:=11) (N:=some 54) (v:=?_) (a':=?_) #[Y,Y,Y,Y,Y,Y,Y,Y,Y,Y,Y,Y,Y,J,J,Y,Y,J,J,J,J,J] rfl rfl (take_ofW HT_.out HW_.out (by kernel_rfl)) (fun _ _ _ h => h) (Or.inl ⟨by rfl,?_⟩) hHeld ?_ ?_;rotate_left
       ·rintro w' ⟨s0,s1,s2,s3,s4,s5,s6,s7⟩;go_simp;with_reducible rfl
       rotate_left
       ·simp only [Act.put,U,V,Z,i64_w,i32_w];rfl
       refine take_ (i:=13) (N:=some 56) (v:=?_) (a':=?_) #[Y,Y,Y,Y,Y,Y,Y,Y,Y,Y,Y,Y,Y,Y,J,Y,Y,J,J,J,J,J] rfl rfl (take_ofW HT_.out HW_.out (by kernel_rfl)) (fun _ _ _ h => h) (Or.inl ⟨by rfl,?_⟩) hHeld ?_ ?_;rotate_left
       ·rintro w' ⟨s0,s1,s2,s3,s4,s5,s6,s7⟩;go_simp;with_reducible rfl
       rotate_left
       ·simp only [Act.put,U,V,Z,i64_w,i32_w];rfl
       refine pure_ (i:=14) (N:=some 57) (v:=?_) (a':=?_) #[Y,Y,Y,Y,Y,Y,Y,Y,Y,Y,Y,Y,Y,Y,Y,Y,Y,J,J,J,J,J] rfl rfl (any_of HT_.out (by kernel_rfl)) (fun _ _ _ h => h) (Or.inl ⟨by rfl,?_⟩) ?_ ?_;rotate_left
       ·intro w';go_simp;with_reducible rfl
       rotate_left
       ·simp only [Act.put,U,V,Z,i64_w,i32_w];rfl
       refine take_ (i:=17) (N:=some 60) (v:=?_) (a':=?_) #[Y,Y,Y,Y,Y,Y,Y,Y,Y,Y,Y,Y,Y,Y,Y,Y,Y,Y,J,J,J,J] rfl rfl (take_ofW HT_.out HW_.out (by kernel_rfl)) (fun _ _ _ h => h) (Or.inl ⟨by rfl,?_⟩) hHeld ?_ ?_;rotate_left
       ·rintro w' ⟨s0,s1,s2,s3,s4,s5,s6,s7⟩;go_simp;with_reducible rfl
       rotate_left
       ·simp only [Act.put,U,V,Z,i64_w,i32_w];rfl
       refine pure_ (i:=18) (N:=some 61) (v:=?_) (a':=?_) #[Y,Y,Y,Y,Y,Y,Y,Y,Y,Y,Y,Y,Y,Y,Y,Y,Y,Y,Y,J,J,J] rfl rfl (any_of HT_.out (by kernel_rfl)) (fun _ _ _ h => h) (Or.inl ⟨by rfl,?_⟩) ?_ ?_;rotate_left
       ·intro w';go_simp;with_reducible rfl
       rotate_left
       ·simp only [Act.put,U,V,Z,i64_w,i32_w];rfl
       refine take_ (i:=19) (N:=some 62) (v:=?_) (a':=?_) #[Y,Y,Y,Y,Y,Y,Y,Y,Y,Y,Y,Y,Y,Y,Y,Y,Y,Y,Y,Y,J,J] rfl rfl (take_ofW HT_.out HW_.out (by kernel_rfl)) (fun _ _ _ h => h) (Or.inl ⟨by rfl,?_⟩) hHeld ?_ ?_;rotate_left
       ·rintro w' ⟨s0,s1,s2,s3,s4,s5,s6,s7⟩;go_simp;with_reducible rfl
       rotate_left
       ·simp only [Act.put,U,V,Z,i64_w,i32_w];rfl
       refine pure_ (i:=20) (N:=some 63) (v:=?_) (a':=?_) #[Y,Y,Y,Y,Y,Y,Y,Y,Y,Y,Y,Y,Y,Y,Y,Y,Y,Y,Y,Y,Y,J] rfl rfl (any_of HT_.out (by kernel_rfl)) (fun _ _ _ h => h) (Or.inl ⟨by rfl,?_⟩) ?_ ?_;rotate_left
       ·intro w';go_simp;with_reducible rfl
       rotate_left
       ·simp only [Act.put,U,V,Z,i64_w,i32_w];rfl
       refine pure_ (i:=21) (N:=some 64) (v:=?_) (a':=?_) #[Y,Y,Y,Y,Y,Y,Y,Y,Y,Y,Y,Y,Y,Y,Y,Y,Y,Y,Y,Y,Y,Y] rfl rfl (any_of HT_.out (by kernel_rfl)) (fun _ _ _ h => h) (Or.inl ⟨by rfl,?_⟩) ?_ ?_;rotate_left
       ·intro w';go_simp;with_reducible rfl
       rotate_left
       ·simp only [Act.put,U,V,Z,i64_w,i32_w];rfl
       refine done_ (done_of HT_.out (by kernel_rfl)) ?_
       try go_wp2
       have n0_:=zx (Kd.R_drew HO_5.out);have n1_:=zx (blk_drew p3.out);have n2_:=zx (blk_drew p4.out);have n3_:=zx (below_drew1 HB.out);clear HO_5;clear p3;clear p4;clear HB;have HO_5:=n0_;have p3:=n1_;have p4:=n2_;have HB:=n3_;clear n0_ n1_ n2_ n3_;have p282 : 0 ≤ (((rd_T34 l0_1 x8_3).f0) : Int):=of_decide_eq_true (by first | (with_reducible assumption) | assumption);have q282 : ((rd_T34 l0_1 x8_3).f0) < (x5_3.length : Int):=of_decide_eq_true (by first | (with_reducible assumption) | assumption);obtain ⟨ad282,e282,r2⟩:=Kd.at_int (Kd.R_reads' HO_5.out).2.2 ((rd_T34 l0_1 x8_3).f0) p282 q282;obtain rfl : (⟨go18,0,none⟩ : Addr) = ad282:=(by injection e282)
       (first | simp only [add_plain] at r2 | simp only [add_at] at r2 | simp only [Addr.add,Nat.zero_add] at r2 | skip)
       replace p282:=eq_true p282;replace q282:=eq_true q282;have p32 : 0 ≤ (((rd_T34 l0_1 x8_3).f1) : Int):=of_decide_eq_true (by first | (with_reducible assumption) | assumption);have q32 : (((rd_T34 l0_1 x8_3).f1) : Int) < ((x5_3.length : Int) : Int):=of_decide_eq_true (by first | (with_reducible assumption) | assumption);obtain ⟨hx32_0,hf32_0⟩:=Kd.R_celln 0 HO_5.out (((rd_T34 l0_1 x8_3).f1) : Int) p32 q32;replace p32:=eq_true p32;replace q32:=eq_true q32;have HP40:=Kd.R_putn HO_5.out (((rd_T34 l0_1 x8_3).f1) : Int) (wrap64 ((rd x5_3 ((rd_T34 l0_1 x8_3).f0)) + ((rd_T34 l0_1 x8_3).f2)));rw [← Ny283.out] at HP40;have HQ40:=zx HP40;clear HP40;refine start_ (n:=13) (S:=fun w' => w'.cell? ⟨p0,0,none⟩ = some (.int .i64 ((rd_T34 l0_1 x8_3).f0)) ∧ w'.cell? ⟨p0,1,none⟩ = some (.int .i64 ((rd_T34 l0_1 x8_3).f1)) ∧ w'.cell? ⟨p0,2,none⟩ = some (.int .i64 ((rd_T34 l0_1 x8_3).f2)) ∧ w'.cell? ⟨p0,3,none⟩ = some (.int .i64 ((rd_T34 l0_1 x8_3).f3)) ∧ w'.cell? ⟨p0,4,none⟩ = some (.int .i64 ((rd_T34 l0_1 x8_3).f4)) ∧ w'.cell? ⟨go18,(((rd_T34 l0_1 x8_3).f0)).toNat,none⟩ = some (.int .i64 (rd x5_3 ((rd_T34 l0_1 x8_3).f0)))) (ds:=[12]) #[J,J,J,J,J,J,J,J,J,J,J,J,J] (by kernel_rfl) rfl rfl ⟨(blk_cell p4.out 0).trans rfl,(blk_cell p4.out 1).trans rfl,(blk_cell p4.out 2).trans rfl,(blk_cell p4.out 3).trans rfl,(blk_cell p4.out 4).trans rfl,r2⟩ (fun hHeld => ?_); refine with_tabW spec_l3All.tab15 spec_l3All.bits15 (fun HT_ HW_ => ?_);generalize w38.drew = w39 at HO_5 p3 p4 HB HQ40 hf32_0 r2 hx32_0 hHeld ⊢;refine pure_ (i:=0) (N:=some 65) (v:=?_) (a':=?_) #[Y,J,J,J,J,J,J,J,J,J,J,J,J] rfl rfl (any_of HT_.out (by kernel_rfl)) (fun _ _ _ h => h) (Or.inl ⟨by rfl,?_⟩) ?_ ?_;rotate_left
       ·intro w';go_simp;with_reducible rfl
       rotate_left
       ·simp only [Act.put,U,V,Z,i64_w,i32_w];rfl
       refine pure_ (i:=1) (N:=some 66) (v:=?_) (a':=?_) #[Y,Y,J,J,J,J,J,J,J,J,J,J,J] rfl rfl (any_of HT_.out (by kernel_rfl)) (fun _ _ _ h => h) (Or.inl ⟨by rfl,?_⟩) ?_ ?_;rotate_left
       ·intro w';go_simp;with_reducible rfl
       rotate_left
       ·simp only [Act.put,U,V,Z,i64_w,i32_w];rfl
       refine pure_ (i:=3) (N:=some 68) (v:=?_) (a':=?_) #[Y,Y,J,Y,J,J,J,J,J,J,J,J,J] rfl rfl (any_of HT_.out (by kernel_rfl)) (fun _ _ _ h => h) (Or.inl ⟨by rfl,?_⟩) ?_ ?_;rotate_left
       ·intro w';go_simp;with_reducible rfl
       rotate_left
       ·simp only [Act.put,U,V,Z,i64_w,i32_w];rfl
       refine pure_ (i:=4) (N:=some 69) (v:=?_) (a':=?_) #[Y,Y,J,Y,Y,J,J,J,J,J,J,J,J] rfl rfl (any_of HT_.out (by kernel_rfl)) (fun _ _ _ h => h) (Or.inl ⟨by rfl,?_⟩) ?_ ?_;rotate_left
       ·intro w';go_simp;with_reducible rfl
       rotate_left
       ·simp only [Act.put,U,V,Z,i64_w,i32_w];rfl
       refine pure_ (i:=8) (N:=some 73) (v:=?_) (a':=?_) #[Y,Y,J,Y,Y,J,J,J,Y,J,J,J,J] rfl rfl (any_of HT_.out (by kernel_rfl)) (fun _ _ _ h => h) (Or.inl ⟨by rfl,?_⟩) ?_ ?_;rotate_left
       ·intro w';go_simp;with_reducible rfl
       rotate_left
       ·simp only [Act.put,U,V,Z,i64_w,i32_w];rfl
       refine take_ (i:=2) (N:=some 67) (v:=?_) (a':=?_) #[Y,Y,Y,Y,Y,J,J,J,Y,J,J,J,J] rfl rfl (take_ofW HT_.out HW_.out (by kernel_rfl)) (fun _ _ _ h => h) (Or.inl ⟨by rfl,?_⟩) hHeld ?_ ?_;rotate_left
       ·rintro w' ⟨s0,s1,s2,s3,s4,s5⟩;go_simp;with_reducible rfl
       rotate_left
       ·simp only [Act.put,U,V,Z,i64_w,i32_w];rfl
       refine take_ (i:=5) (N:=some 70) (v:=?_) (a':=?_) #[Y,Y,Y,Y,Y,Y,J,J,Y,J,J,J,J] rfl rfl (take_ofW HT_.out HW_.out (by kernel_rfl)) (fun _ _ _ h => h) (Or.inl ⟨by rfl,?_⟩) hHeld ?_ ?_;rotate_left
       ·rintro w' ⟨s0,s1,s2,s3,s4,s5⟩;go_simp;with_reducible rfl
       rotate_left
       ·simp only [Act.put,U,V,Z,i64_w,i32_w];rfl
       refine pure_ (i:=6) (N:=some 71) (v:=?_) (a':=?_) #[Y,Y,Y,Y,Y,Y,Y,J,Y,J,J,J,J] rfl rfl (any_of HT_.out (by kernel_rfl)) (fun _ _ _ h => h) (Or.inl ⟨by rfl,?_⟩) ?_ ?_;rotate_left
       ·intro w';go_simp;with_reducible rfl
       rotate_left
       ·simp only [Act.put,U,V,Z,i64_w,i32_w];rfl
       refine take_ (i:=7) (N:=some 72) (v:=?_) (a':=?_) #[Y,Y,Y,Y,Y,Y,Y,Y,Y,J,J,J,J] rfl rfl (take_ofW HT_.out HW_.out (by kernel_rfl)) (fun _ _ _ h => h) (Or.inl ⟨by rfl,?_⟩) hHeld ?_ ?_;rotate_left
       ·rintro w' ⟨s0,s1,s2,s3,s4,s5⟩;go_simp;with_reducible rfl
       rotate_left
       ·simp only [Act.put,U,V,Z,i64_w,i32_w];rfl
       refine take_ (i:=9) (N:=some 74) (v:=?_) (a':=?_) #[Y,Y,Y,Y,Y,Y,Y,Y,Y,Y,J,J,J] rfl rfl (take_ofW HT_.out HW_.out (by kernel_rfl)) (fun _ _ _ h => h) (Or.inl ⟨by rfl,?_⟩) hHeld ?_ ?_;rotate_left
       ·rintro w' ⟨s0,s1,s2,s3,s4,s5⟩;go_simp;with_reducible rfl
       rotate_left
       ·simp only [Act.put,U,V,Z,i64_w,i32_w];rfl
       refine pure_ (i:=10) (N:=some 75) (v:=?_) (a':=?_) #[Y,Y,Y,Y,Y,Y,Y,Y,Y,Y,Y,J,J] rfl rfl (any_of HT_.out (by kernel_rfl)) (fun _ _ _ h => h) (Or.inl ⟨by rfl,?_⟩) ?_ ?_;rotate_left
       ·intro w';go_simp;with_reducible rfl
       rotate_left
       ·simp only [Act.put,U,V,Z,i64_w,i32_w];rfl
       refine pure_ (i:=11) (N:=some 76) (v:=?_) (a':=?_) #[Y,Y,Y,Y,Y,Y,Y,Y,Y,Y,Y,Y,J] rfl rfl (any_of HT_.out (by kernel_rfl)) (fun _ _ _ h => h) (Or.inl ⟨by rfl,?_⟩) ?_ ?_;rotate_left
       ·intro w';go_simp;with_reducible rfl
       rotate_left
       ·simp only [Act.put,U,V,Z,i64_w,i32_w];rfl
       refine last_ (i:=12) (N:=none) #[true,true,true,true,true,true,true,true,true,true,true,true,true] rfl rfl (one_of HT_.out (by kernel_rfl)) (by decide) (fun K hK => ?_);refine skip_ (w1:=?_) (by rfl) rfl ?_ ?_;rotate_left
       ·go_simp;rfl
       refine hK.out _ _ ?_;clear hK K;refine done_ (done_of HT_.out (by kernel_rfl)) ?_
       try go_wp2
       (try simp only [← hl5_3])
       go_roundg k3
       case measure => have:=HK1.out; have:=HK2.out; have:=HK3.out; omega
       case rel => exact ⟨(y283),(wrap64 (x8_3 + 1)),(by first | rfl | (simp; done) | (simp [*]; done)),H',⟨by have:=HK1.out; have:=HK2.out; have:=HK3.out; omega⟩,⟨by (try simp only [hl5_2]); (try simp only [hl5_3]); exact HQ40.out⟩,⟨by (try simp only [hl5_2]); (try simp only [hl5_3]); refine blk_far ?_ (by have h_:=Kd.R_ne HO_5.out p3.out (by decide); intro e_; exact h_ (by rw [e_]; rfl)) _; exact p3.out⟩,⟨by repeat (first | (with_reducible first | exact HB.out | apply below_alloc | apply pw_below_drewN | apply below_drew1 | refine below_set ?_ GB18.out | refine below_set ?_ r1.out | refine below_set ?_ r3.out) | exact HB.out)⟩⟩
def spec_l1Back.l0 : Nat → Int → Int → List (S34) → Int → List (S34) → Option (Int × (List (S34)))
 | 0,_,_,_,_,_ => none
 | k + 1,x4,s9,q7,s3,r4 => if x4 < (q7.length : Int) then (if 0 ≤ x4 then (if r4.length < 3518437208883 then (spec_l1Back.l0 k (wrap64 (x4 + 1)) s9 q7 s3 (r4 ++ [(⟨(rd_T34 q7 x4).f1,(rd_T34 q7 x4).f0,(rd_T34 q7 x4).f2,(rd_T34 q7 x4).f3,(rd_T34 q7 x4).f4⟩ : S34)])) else (none)) else (none)) else (some (s3,r4))
def spec_l1Back.f (k : Nat) (a0_0 : Int) (l0_1 : List (S34)) : Option (Int × (List (S34))):=spec_l1Back.l0 k 0 a0_0 l0_1 a0_0 ([] : List (S34))
set_option maxHeartbeats 8000000 in
set_option maxRecDepth 100000 in
theorem spec_l1Back.calls (k : Nat) (a0_0 : Int) (A0_1 : Option Addr) (c0_1 : Nat) (l0_1 : List (S34)) (r1 : Int) (r2 : List (S34)) (w : World) (hr0_1 : Kd.C k34 w A0_1 l0_1.length l0_1) (hc0_1 : l0_1.length ≤ c0_1) (h : spec_l1Back.f k a0_0 l0_1 = some (r1,r2)) :
  Calls Try.prog 95 #[.agg #[.int .i64 a0_0,.slice A0_1 l0_1.length c0_1]] w fun e w' => ∃ v1_ : Value,e = .returned (.agg #[.int .i64 r1,v1_]) ∧ Kd.R k34 34 w' w.heap.size (fun _ => True) v1_ r2 ∧ Below w.heap.size w w':=by
 have hu25:=Try.underlying25;have hu34:=Try.underlying34;have HR0_1:=zx hr0_1;have HC0_1:=zx hc0_1;clear hr0_1 hc0_1;have HB:=zx (Below.refl w.heap.size w);have H : (spec_l1Back.l0 k 0 a0_0 l0_1 a0_0 ([] : List (S34))) = some (r1,r2):=h;clear h;have H':=zx H;clear H
 go_enter Try.func95,Try.ntmps95
 go_wp2_with (first | ((with_reducible refine gate_dst (N:=1) rfl ?_); refine box_event ?hg (N:=1) ?hd (cs:=#[.int .i64 a0_0,.slice A0_1 l0_1.length c0_1]) (t:=25) ?hr ?_; (case hd => rfl); (case hg => rfl); (case hr => first | (go_simp; done) | (go_simp; rfl)); intro p4 hg w2 hbox hb; have n0_:=zx (below_step HB.out hb); have n1_:=zx (hbox); have n2_:=zx ((by rw [hg]; exact (below_size HB.out) : w.heap.size ≤ p4)); have n3_:=zx ((by rw [hg]; exact (below_size HB.out) : w.heap.size ≤ p4)); clear HB; have HB:=n0_; have p0:=n1_; have GW354:=n2_; have s0:=n3_; clear n0_ n1_ n2_ n3_; clear hb hbox hg) | ((with_reducible refine gate_dst (N:=2) rfl ?_); refine box_event ?hg (N:=2) ?hd (cs:=#[.int .i64 0,.slice none 0 0]) (t:=25) ?hr ?_; (case hd => rfl); (case hg => rfl); (case hr => first | (go_simp; done) | (go_simp; rfl)); intro p8 hg w3 hbox hb; have n0_:=zx (blk_below (g:=p4) (o:=.cells #[.int .i64 a0_0,.slice A0_1 l0_1.length c0_1] 25 (0,0)) p0.out hb); have n1_:=zx (below_step HB.out hb); have n2_:=zx (hbox); have n3_:=zx ((by rw [hg]; exact (below_size HB.out) : w.heap.size ≤ p8)); have n4_:=zx ((by rw [hg]; exact (below_size HB.out) : w.heap.size ≤ p8)); have n5_:=zx ((by rw [hg]; exact Nat.ne_of_lt (blk_lt (g:=p4) (o:=.cells #[.int .i64 a0_0,.slice A0_1 l0_1.length c0_1] 25 (0,0)) p0.out) : p4 ≠ p8)); have n6_:=zx ((by rw [hg]; exact Nat.ne_of_gt (blk_lt (g:=p4) (o:=.cells #[.int .i64 a0_0,.slice A0_1 l0_1.length c0_1] 25 (0,0)) p0.out) : p8 ≠ p4)); clear p0; clear HB; have p0:=n0_; have HB:=n1_; have p5:=n2_; have GW355:=n3_; have s1:=n4_; have q8:=n5_; have q9:=n6_; clear n0_ n1_ n2_ n3_ n4_ n5_ n6_; clear hb hbox hg; have hnb4:=q8.out; have hnc4:=q9.out; have hcz5_0 : w3.cell? ⟨p4,0,none⟩ = some (.int .i64 a0_0):=(blk_cell p0.out 0).trans rfl; have hcz5_1 : w3.cell? ⟨p4,1,none⟩ = some (.slice A0_1 l0_1.length c0_1):=(blk_cell p0.out 1).trans rfl; have hfz5_0:=blk_frozen p0.out 0; have hfz5_1:=blk_frozen p0.out 1) | ((with_reducible refine gate_dst (N:=3) rfl ?_); refine box_event ?hg (N:=3) ?hd (cs:=#[.int .i64 0,.slice none 0 0]) (t:=25) ?hr ?_; (case hd => rfl); (case hg => rfl); (case hr => first | (go_simp; done) | (go_simp; rfl)); intro p7 hg w6 hbox hb; have n0_:=zx (blk_below (g:=p4) (o:=.cells #[.int .i64 a0_0,.slice A0_1 l0_1.length c0_1] 25 (0,0)) p0.out hb); have n1_:=zx (blk_below (g:=p8) (o:=.cells #[.int .i64 0,.slice none 0 0] 25 (0,0)) p5.out hb); have n2_:=zx (below_step HB.out hb); have n3_:=zx (hbox); have n4_:=zx ((by rw [hg]; exact (below_size HB.out) : w.heap.size ≤ p7)); have n5_:=zx ((by rw [hg]; exact (below_size HB.out) : w.heap.size ≤ p7)); have n6_:=zx ((by rw [hg]; exact Nat.ne_of_lt (blk_lt (g:=p4) (o:=.cells #[.int .i64 a0_0,.slice A0_1 l0_1.length c0_1] 25 (0,0)) p0.out) : p4 ≠ p7)); have n7_:=zx ((by rw [hg]; exact Nat.ne_of_gt (blk_lt (g:=p4) (o:=.cells #[.int .i64 a0_0,.slice A0_1 l0_1.length c0_1] 25 (0,0)) p0.out) : p7 ≠ p4)); have n8_:=zx ((by rw [hg]; exact Nat.ne_of_lt (blk_lt (g:=p8) (o:=.cells #[.int .i64 0,.slice none 0 0] 25 (0,0)) p5.out) : p8 ≠ p7)); have n9_:=zx ((by rw [hg]; exact Nat.ne_of_gt (blk_lt (g:=p8) (o:=.cells #[.int .i64 0,.slice none 0 0] 25 (0,0)) p5.out) : p7 ≠ p8)); clear p0; clear p5; clear HB; have p0:=n0_; have p5:=n1_; have HB:=n2_; have p1:=n3_; have GW356:=n4_; have s2:=n5_; have q1:=n6_; have r0:=n7_; have q2:=n8_; have r3:=n9_; clear n0_ n1_ n2_ n3_ n4_ n5_ n6_ n7_ n8_ n9_; clear hb hbox hg; have hnb7:=r0.out; have hnc7:=q1.out; have hnb8:=r3.out; have hnc8:=q2.out; have hcz9_0 : w6.cell? ⟨p7,0,none⟩ = some (.int .i64 0):=(blk_cell p1.out 0).trans rfl; have hcz9_1 : w6.cell? ⟨p7,1,none⟩ = some (.slice none 0 0):=(blk_cell p1.out 1).trans rfl; have hfz9_0:=blk_frozen p1.out 0; have hfz9_1:=blk_frozen p1.out 1))
 go_loopg [4] k (fun kq v4 w' => ∃ (x4_1 : Int) (q0 : List (S34)) (p9 : Value),v4 = .int .i64 x4_1 ∧ Aside0 (spec_l1Back.l0 kq x4_1 a0_0 l0_1 a0_0 q0 = some (r1,r2)) ∧ Aside0 (kq ≤ k) ∧ Aside0 (Kd.R k34 34 w' w.heap.size (fun _ => True) p9 q0) ∧ Aside0 (w'.heap[p4]? = some (.cells #[.int .i64 a0_0,(.slice A0_1 l0_1.length c0_1)] 25 (0,0))) ∧ Aside0 (w'.heap[p8]? = some (.cells #[.int .i64 0,(.slice none 0 0)] 25 (0,0))) ∧ Aside0 (w'.heap[p7]? = some (.cells #[.int .i64 a0_0,p9] 25 (0,0))) ∧ Aside0 (Below w.heap.size w w'))
 case atStart => exact ⟨(0),(([] : List (S34))),(.slice none 0 0),(by first | rfl | (simp; done) | (simp [*]; done)),H',⟨Nat.le_refl _⟩,⟨by first | exact Kd.R_nil _ _ _ _ _ | exact Kd.N_nil _ _ _ _ _ | exact Kd.V_nil _ _ _ _ _ | exact Kd.Q_nil _ _ _ _ _ | exact Kd.S_nil _ _ _ _ _⟩,⟨by refine blk_far ?_ q1.out _; refine blk_far ?_ q1.out _; exact p0.out⟩,⟨by refine blk_far ?_ q2.out _; refine blk_far ?_ q2.out _; exact p5.out⟩,⟨by refine blk_put (cs:=#[.int .i64 a0_0,.slice none 0 0]) ?_ 1 _ rfl; refine blk_put (cs:=#[.int .i64 0,.slice none 0 0]) ?_ 0 _ rfl; exact p1.out⟩,⟨by repeat (first | (with_reducible first | exact HB.out | apply below_alloc | apply pw_below_drewN | apply below_drew1 | refine below_set ?_ s0.out | refine below_set ?_ s1.out | refine below_set ?_ s2.out) | exact HB.out)⟩⟩
 case round =>
  clear H'
  try clear p2
  try clear c4
  try clear c7
  try clear c8
  try clear c9
  try clear hcz5_0
  try clear hcz5_1
  try clear hcz9_0
  try clear hcz9_1
  try clear hfz5_0
  try clear hfz5_1
  try clear hfz9_0
  try clear hfz9_1
  obtain ⟨x4_1,q0,p9,rfl,HA,HK1,p3,p0,p5,p1,HB⟩:=hrel;cases gk with
  | zero => exact absurd HA.out (by simp [spec_l1Back.l0])
  | succ k1 =>
   have H:=HA.out;clear HA;simp only [spec_l1Back.l0] at H
   by_cases c10 : x4_1 < (l0_1.length : Int)
   case neg =>
    rw [if_neg c10] at H;have c10b0 : decide (x4_1 < (l0_1.length : Int)) = false:=decide_eq_false c10;clear c10;simp only [Option.some.injEq,Prod.mk.injEq] at H;obtain ⟨rfl,rfl⟩:=H;have hnb26:=q8.out;have hnc26:=q9.out;have hnb27:=q1.out;have hnc27:=r0.out;have hcz28_0 : wr.cell? ⟨p4,0,none⟩ = some (.int .i64 a0_0):=(blk_cell p0.out 0).trans rfl;have hcz28_1 : wr.cell? ⟨p4,1,none⟩ = some (.slice A0_1 l0_1.length c0_1):=(blk_cell p0.out 1).trans rfl;have hfz28_0:=blk_frozen p0.out 0;have hfz28_1:=blk_frozen p0.out 1;have hnb29:=r3.out;have hnc29:=q2.out;have hcz30_0 : wr.cell? ⟨p7,0,none⟩ = some (.int .i64 a0_0):=(blk_cell p1.out 0).trans rfl;have hcz30_1 : wr.cell? ⟨p7,1,none⟩ = some (p9):=(blk_cell p1.out 1).trans rfl;have hfz30_0:=blk_frozen p1.out 0;have hfz30_1:=blk_frozen p1.out 1;have hcz31_0 : wr.cell? ⟨p8,0,none⟩ = some (.int .i64 0):=(blk_cell p5.out 0).trans rfl;have hcz31_1 : wr.cell? ⟨p8,1,none⟩ = some (.slice none 0 0):=(blk_cell p5.out 1).trans rfl;have hfz31_0:=blk_frozen p5.out 0;have hfz31_1:=blk_frozen p5.out 1;obtain ⟨Ao32,co32,eo32⟩:=Kd.R_slice p3.out;subst eo32
    go_wp2
    refine bodyPost_ret (results_cell_row rfl _ _ p8 25 #[.int .i64 a0_0,.slice Ao32 q0.length co32] (0,0) _ rfl (by refine blk_put (cs:=#[.int .i64 a0_0,.slice none 0 0]) ?_ 1 _ rfl; refine blk_put (cs:=#[.int .i64 0,.slice none 0 0]) ?_ 0 _ rfl; exact p5.out) Try.underlying25 rfl (by kernel_rfl)) rfl ?_;exact ⟨_,by first | rfl | (simp [errW_none,errW_some] <;> rfl) | (simp [*,errW_none,errW_some] <;> rfl),by exact Kd.R_mono (Kd.R_far (p:=⟨p8,1,none⟩) (Kd.R_far (p:=⟨p8,0,none⟩) (Kd.R_types p3.out p5.out (by decide)) (fun _ hk => hk.2) (.int .i64 a0_0)) (fun _ hk => hk.2) (.slice Ao32 q0.length co32)) (fun _ hk => trivial),by repeat (first | (with_reducible first | exact HB.out | apply below_alloc | apply pw_below_drewN | apply below_drew1 | refine below_set ?_ s0.out | refine below_set ?_ s1.out | refine below_set ?_ s2.out) | exact HB.out)⟩
   rw [if_pos c10] at H;have c10b0 : decide (x4_1 < (l0_1.length : Int)) = true:=decide_eq_true c10;clear c10
   by_cases c11 : 0 ≤ x4_1
   case neg =>
    rw [if_neg c11] at H;exact absurd H (by simp)
   rw [if_pos c11] at H;have c11b0 : decide (0 ≤ x4_1) = true:=decide_eq_true c11;clear c11
   by_cases c12 : q0.length < 3518437208883
   case neg =>
    rw [if_neg c12] at H;exact absurd H (by simp)
   rw [if_pos c12] at H;have LMc12:=zx c12;clear c12;obtain ⟨y359,hy359⟩ : ∃ y_ : List (S34),y_ = (q0 ++ [(⟨(rd_T34 l0_1 x4_1).f1,(rd_T34 l0_1 x4_1).f0,(rd_T34 l0_1 x4_1).f2,(rd_T34 l0_1 x4_1).f3,(rd_T34 l0_1 x4_1).f4⟩ : S34)]):=⟨_,rfl⟩
   replace H : (spec_l1Back.l0 k1 (wrap64 (x4_1 + 1)) a0_0 l0_1 a0_0 y359) = some (r1,r2):=by first | (rw [hy359]; with_reducible exact H) | (have H2_:=(Option.bind_some _ _).symm.trans H; rw [hy359]; with_reducible exact H2_) | (have H2_:=(Option.bind_some _ _).symm.trans H; with_reducible exact H2_) | with_reducible exact H | (rw [hy359]; exact H) | exact H
   have Ny359:=zx hy359;clear hy359;have H':=zx H;clear H;have hnb13:=q8.out;have hnc13:=q9.out;have hnb14:=q1.out;have hnc14:=r0.out;have hcz15_0 : wr.cell? ⟨p4,0,none⟩ = some (.int .i64 a0_0):=(blk_cell p0.out 0).trans rfl;have hcz15_1 : wr.cell? ⟨p4,1,none⟩ = some (.slice A0_1 l0_1.length c0_1):=(blk_cell p0.out 1).trans rfl;have hfz15_0:=blk_frozen p0.out 0;have hfz15_1:=blk_frozen p0.out 1;have p357 : 0 ≤ (x4_1 : Int):=of_decide_eq_true (by first | (with_reducible assumption) | assumption);have q357 : x4_1 < (l0_1.length : Int):=of_decide_eq_true (by first | (with_reducible assumption) | assumption);obtain ⟨s4,e357,r5,r6,r7,r8,r9⟩:=at_T34 HR0_1.out x4_1 p357 q357;cases e357;replace r5:=(HB.out.cell (World.block_lt_of_cell? w _ r5)).trans r5;replace r6:=(HB.out.cell (World.block_lt_of_cell? w _ r6)).trans r6;replace r7:=(HB.out.cell (World.block_lt_of_cell? w _ r7)).trans r7;replace r8:=(HB.out.cell (World.block_lt_of_cell? w _ r8)).trans r8;replace r9:=(HB.out.cell (World.block_lt_of_cell? w _ r9)).trans r9;replace p357:=eq_true p357;replace q357:=eq_true q357
   go_wp2_with (first | ((with_reducible refine gate_dst (N:=5) rfl ?_); refine box_event ?hg (N:=5) ?hd (cs:=#[.int .i64 0,.int .i64 0,.int .i64 0,.int .i64 0,.int .i64 0]) (t:=34) ?hr ?_; (case hd => rfl); (case hg => rfl); (case hr => first | (go_simp; done) | (go_simp; rfl)); intro p6 hg w16 hbox hb; have n0_:=zx (Kd.R_below (Kd.R_elderB p3.out p6 (Nat.le_of_eq hg.symm)) hb); have n1_:=zx (blk_below (g:=p4) (o:=.cells #[.int .i64 a0_0,.slice (some s4) l0_1.length c0_1] 25 (0,0)) p0.out hb); have n2_:=zx (blk_below (g:=p8) (o:=.cells #[.int .i64 0,.slice none 0 0] 25 (0,0)) p5.out hb); have n3_:=zx (blk_below (g:=p7) (o:=.cells #[.int .i64 a0_0,p9] 25 (0,0)) p1.out hb); have n4_:=zx (below_step HB.out hb); have n5_:=zx (hbox); have n6_:=zx ((by rw [hg]; exact (below_size HB.out) : w.heap.size ≤ p6)); have n7_:=zx ((by rw [hg]; exact (below_size HB.out) : w.heap.size ≤ p6)); have n8_:=zx ((by rw [hg]; exact Nat.ne_of_lt (blk_lt (g:=p4) (o:=.cells #[.int .i64 a0_0,.slice (some s4) l0_1.length c0_1] 25 (0,0)) p0.out) : p4 ≠ p6)); have n9_:=zx ((by rw [hg]; exact Nat.ne_of_gt (blk_lt (g:=p4) (o:=.cells #[.int .i64 a0_0,.slice (some s4) l0_1.length c0_1] 25 (0,0)) p0.out) : p6 ≠ p4)); have n10_:=zx ((by rw [hg]; exact Nat.ne_of_lt (blk_lt (g:=p8) (o:=.cells #[.int .i64 0,.slice none 0 0] 25 (0,0)) p5.out) : p8 ≠ p6)); have n11_:=zx ((by rw [hg]; exact Nat.ne_of_gt (blk_lt (g:=p8) (o:=.cells #[.int .i64 0,.slice none 0 0] 25 (0,0)) p5.out) : p6 ≠ p8)); have n12_:=zx ((by rw [hg]; exact Nat.ne_of_lt (blk_lt (g:=p7) (o:=.cells #[.int .i64 a0_0,p9] 25 (0,0)) p1.out) : p7 ≠ p6)); have n13_:=zx ((by rw [hg]; exact Nat.ne_of_gt (blk_lt (g:=p7) (o:=.cells #[.int .i64 a0_0,p9] 25 (0,0)) p1.out) : p6 ≠ p7)); clear p3; clear p0; clear p5; clear p1; clear HB; have p3:=n0_; have p0:=n1_; have p5:=n2_; have p1:=n3_; have HB:=n4_; have q6:=n5_; have GW358:=n6_; have s8:=n7_; have q3:=n8_; have s5:=n9_; have q4:=n10_; have s6:=n11_; have q5:=n12_; have s7:=n13_; clear n0_ n1_ n2_ n3_ n4_ n5_ n6_ n7_ n8_ n9_ n10_ n11_ n12_ n13_; clear hb hbox hg; have hnb17:=s5.out; have hnc17:=q3.out; have hnb18:=s6.out; have hnc18:=q4.out; have hnb19:=s7.out; have hnc19:=q5.out; have hcz20_0 : w16.cell? ⟨p6,0,none⟩ = some (.int .i64 0):=(blk_cell q6.out 0).trans rfl; have hcz20_1 : w16.cell? ⟨p6,1,none⟩ = some (.int .i64 0):=(blk_cell q6.out 1).trans rfl; have hcz20_2 : w16.cell? ⟨p6,2,none⟩ = some (.int .i64 0):=(blk_cell q6.out 2).trans rfl; have hcz20_3 : w16.cell? ⟨p6,3,none⟩ = some (.int .i64 0):=(blk_cell q6.out 3).trans rfl; have hcz20_4 : w16.cell? ⟨p6,4,none⟩ = some (.int .i64 0):=(blk_cell q6.out 4).trans rfl; have hfz20_0:=blk_frozen q6.out 0; have hfz20_1:=blk_frozen q6.out 1; have hfz20_2:=blk_frozen q6.out 2; have hfz20_3:=blk_frozen q6.out 3; have hfz20_4:=blk_frozen q6.out 4; have hnb21:=r3.out; have hnc21:=q2.out; have hcz22_0 : w16.cell? ⟨p7,0,none⟩ = some (.int .i64 a0_0):=(blk_cell p1.out 0).trans rfl; have hcz22_1 : w16.cell? ⟨p7,1,none⟩ = some (p9):=(blk_cell p1.out 1).trans rfl; have hfz22_0:=blk_frozen p1.out 0; have hfz22_1:=blk_frozen p1.out 1) | ((with_reducible refine gate_builtin (b:=.append) (xs:=#[.tmp 22,.tmp 34]) rfl ?_); at_builtin; refine Kd.R_append k34 (w0:=w) w.heap.size rfl (.tmp 22) (.tmp 34) 23 34 (.agg #[(.int .i64 0),(.int .i64 0),(.int .i64 0),(.int .i64 0),(.int .i64 0)]) 40 rfl Try.underlying23 info34 rfl (by decide) (by omega) p9 q0 (⟨(rd_T34 l0_1 x4_1).f1,(rd_T34 l0_1 x4_1).f0,(rd_T34 l0_1 x4_1).f2,(rd_T34 l0_1 x4_1).f3,(rd_T34 l0_1 x4_1).f4⟩ : S34) [.int .i64 ((rd_T34 l0_1 x4_1).f1),.int .i64 ((rd_T34 l0_1 x4_1).f0),.int .i64 ((rd_T34 l0_1 x4_1).f2),.int .i64 ((rd_T34 l0_1 x4_1).f3),.int .i64 ((rd_T34 l0_1 x4_1).f4)] (fun k_ => k_ ≠ p6) (fun _ => False) rfl (by first | (go_simp; done) | (go_simp; rfl)) ?aP (fun _ hk => hk.elim) ?aF ?aO ?aB ?aS ?aL ?_; (case aP => exact k34_mkM _ _ _ (⟨(rd_T34 l0_1 x4_1).f1,(rd_T34 l0_1 x4_1).f0,(rd_T34 l0_1 x4_1).f2,(rd_T34 l0_1 x4_1).f3,(rd_T34 l0_1 x4_1).f4⟩ : S34)); (case aB => exact (by repeat (first | (with_reducible first | exact HB.out | apply below_alloc | apply pw_below_drewN | apply below_drew1 | refine below_set ?_ s0.out | refine below_set ?_ s1.out | refine below_set ?_ s2.out | refine below_set ?_ s8.out) | exact HB.out))); (case aF => exact (fun k_ hk => Kd.freshB (g:=p6) (o:=.cells #[.int .i64 ((rd_T34 l0_1 x4_1).f0),.int .i64 ((rd_T34 l0_1 x4_1).f1),.int .i64 ((rd_T34 l0_1 x4_1).f2),.int .i64 ((rd_T34 l0_1 x4_1).f3),.int .i64 ((rd_T34 l0_1 x4_1).f4)] 34 (0,0)) (by refine blk_put (cs:=#[.int .i64 ((rd_T34 l0_1 x4_1).f0),.int .i64 ((rd_T34 l0_1 x4_1).f1),.int .i64 ((rd_T34 l0_1 x4_1).f2),.int .i64 ((rd_T34 l0_1 x4_1).f3),.int .i64 0]) ?_ 4 _ rfl; refine blk_put (cs:=#[.int .i64 ((rd_T34 l0_1 x4_1).f0),.int .i64 ((rd_T34 l0_1 x4_1).f1),.int .i64 ((rd_T34 l0_1 x4_1).f2),.int .i64 0,.int .i64 0]) ?_ 3 _ rfl; refine blk_put (cs:=#[.int .i64 ((rd_T34 l0_1 x4_1).f0),.int .i64 ((rd_T34 l0_1 x4_1).f1),.int .i64 0,.int .i64 0,.int .i64 0]) ?_ 2 _ rfl; refine blk_put (cs:=#[.int .i64 ((rd_T34 l0_1 x4_1).f0),.int .i64 0,.int .i64 0,.int .i64 0,.int .i64 0]) ?_ 1 _ rfl; refine blk_put (cs:=#[.int .i64 0,.int .i64 0,.int .i64 0,.int .i64 0,.int .i64 0]) ?_ 0 _ rfl; exact q6.out) k_ hk)); (case aO => exact (Kd.R_mono (Kd.R_far (p:=⟨p6,4,none⟩) (Kd.R_far (p:=⟨p6,3,none⟩) (Kd.R_far (p:=⟨p6,2,none⟩) (Kd.R_far (p:=⟨p6,1,none⟩) (Kd.R_far (p:=⟨p6,0,none⟩) (Kd.R_mono p3.out (fun k_ hk => (⟨hk,hk.2⟩ : _ ∧ k_ ≠ p6))) (fun _ hk => hk.2) (.int .i64 ((rd_T34 l0_1 x4_1).f0))) (fun _ hk => hk.2) (.int .i64 ((rd_T34 l0_1 x4_1).f1))) (fun _ hk => hk.2) (.int .i64 ((rd_T34 l0_1 x4_1).f2))) (fun _ hk => hk.2) (.int .i64 ((rd_T34 l0_1 x4_1).f3))) (fun _ hk => hk.2) (.int .i64 ((rd_T34 l0_1 x4_1).f4))) (fun _ hk => hk.1.2))); (case aS => exact (below_size (by repeat (first | (with_reducible first | exact HB.out | apply below_alloc | apply pw_below_drewN | apply below_drew1 | refine below_set ?_ s0.out | refine below_set ?_ s1.out | refine below_set ?_ s2.out | refine below_set ?_ s8.out) | exact HB.out)))); (case aL => have:=LMc12.out; omega); intro v360 w23 ho hb hg hat; rw [← Ny359.out] at ho; have n0_:=zx (blk_grown (g:=p4) (o:=.cells #[.int .i64 a0_0,.slice (some s4) l0_1.length c0_1] 25 (0,0)) (by refine blk_far ?_ q3.out _; refine blk_far ?_ q3.out _; refine blk_far ?_ q3.out _; refine blk_far ?_ q3.out _; refine blk_far ?_ q3.out _; exact p0.out) hg (Kd.R_ne p3.out p0.out (by decide))); have n1_:=zx (blk_grown (g:=p8) (o:=.cells #[.int .i64 0,.slice none 0 0] 25 (0,0)) (by refine blk_far ?_ q4.out _; refine blk_far ?_ q4.out _; refine blk_far ?_ q4.out _; refine blk_far ?_ q4.out _; refine blk_far ?_ q4.out _; exact p5.out) hg (Kd.R_ne p3.out p5.out (by decide))); have n2_:=zx (blk_grown (g:=p7) (o:=.cells #[.int .i64 a0_0,p9] 25 (0,0)) (by refine blk_far ?_ q5.out _; refine blk_far ?_ q5.out _; refine blk_far ?_ q5.out _; refine blk_far ?_ q5.out _; refine blk_far ?_ q5.out _; exact p1.out) hg (Kd.R_ne p3.out p1.out (by decide))); have n3_:=zx (blk_grown (g:=p6) (o:=.cells #[.int .i64 ((rd_T34 l0_1 x4_1).f0),.int .i64 ((rd_T34 l0_1 x4_1).f1),.int .i64 ((rd_T34 l0_1 x4_1).f2),.int .i64 ((rd_T34 l0_1 x4_1).f3),.int .i64 ((rd_T34 l0_1 x4_1).f4)] 34 (0,0)) (by refine blk_put (cs:=#[.int .i64 ((rd_T34 l0_1 x4_1).f0),.int .i64 ((rd_T34 l0_1 x4_1).f1),.int .i64 ((rd_T34 l0_1 x4_1).f2),.int .i64 ((rd_T34 l0_1 x4_1).f3),.int .i64 0]) ?_ 4 _ rfl; refine blk_put (cs:=#[.int .i64 ((rd_T34 l0_1 x4_1).f0),.int .i64 ((rd_T34 l0_1 x4_1).f1),.int .i64 ((rd_T34 l0_1 x4_1).f2),.int .i64 0,.int .i64 0]) ?_ 3 _ rfl; refine blk_put (cs:=#[.int .i64 ((rd_T34 l0_1 x4_1).f0),.int .i64 ((rd_T34 l0_1 x4_1).f1),.int .i64 0,.int .i64 0,.int .i64 0]) ?_ 2 _ rfl; refine blk_put (cs:=#[.int .i64 ((rd_T34 l0_1 x4_1).f0),.int .i64 0,.int .i64 0,.int .i64 0,.int .i64 0]) ?_ 1 _ rfl; refine blk_put (cs:=#[.int .i64 0,.int .i64 0,.int .i64 0,.int .i64 0,.int .i64 0]) ?_ 0 _ rfl; exact q6.out) hg (Kd.R_away p3.out (fun _ hk => hk.2))); have n4_:=zx (hb); have n5_:=zx (ho); clear p0; clear p5; clear p1; clear q6; clear HB; clear p3; have p0:=n0_; have p5:=n1_; have p1:=n2_; have q6:=n3_; have HB:=n4_; have HO361:=n5_; clear n0_ n1_ n2_ n3_ n4_ n5_; clear ho hb hg hat; obtain ⟨Ao24,co24,eo24⟩:=Kd.R_slice HO361.out; subst eo24; have hcz25_0 : w23.cell? ⟨p7,0,none⟩ = some (.int .i64 a0_0):=(blk_cell p1.out 0).trans rfl; have hcz25_1 : w23.cell? ⟨p7,1,none⟩ = some (p9):=(blk_cell p1.out 1).trans rfl; have hfz25_0:=blk_frozen p1.out 0; have hfz25_1:=blk_frozen p1.out 1))
   go_roundg k1
   case measure => have:=HK1.out; omega
   case rel => exact ⟨(wrap64 (x4_1 + 1)),(y359),(.slice Ao24 y359.length co24),(by first | rfl | (simp; done) | (simp [*]; done)),H',⟨by have:=HK1.out; omega⟩,⟨by exact Kd.R_mono (Kd.R_far (p:=⟨p7,1,none⟩) (Kd.R_types HO361.out p1.out (by decide)) (fun _ hk => hk.2) (.slice Ao24 y359.length co24)) (fun _ hk => trivial)⟩,⟨by refine blk_far ?_ q1.out _; exact p0.out⟩,⟨by refine blk_far ?_ q2.out _; exact p5.out⟩,⟨by refine blk_put (cs:=#[.int .i64 a0_0,p9]) ?_ 1 _ rfl; exact p1.out⟩,⟨by repeat (first | (with_reducible first | exact HB.out | apply below_alloc | apply pw_below_drewN | apply below_drew1 | refine below_set ?_ s0.out | refine below_set ?_ s1.out | refine below_set ?_ s2.out | refine below_set ?_ s8.out) | exact HB.out)⟩⟩
end Go.Proofs.Ytljdcinpjnijcaa.Pr
end
