/- For the statement FnTreeReach of this seat: it is proved here, with no further conditions (part 7 of its texts: words, walks of the functions, the plain law, the row). -/
import Derived.ChangeArms
import Derived.ChangeSlices
import Derived.Deep.Slices
import Derived.WideShapes
import Derived.DataReads
import Derived.Test.YtlhmljngjdfbpaaKFnTreeReach5
section
namespace Go.Proofs.Ytlhmljngjdfbpaa.Pr
open Go.RowKit Go.Proofs.YtlhmljngjdfbpaaW.PrintWords Go.Proofs.YtlhmljngjdfbpaaW.PrintLast Go.Proofs.YtlhmljngjdfbpaaW.PrintMore
attribute [local go_sem] max2_int min2_int max_two min_two max_three min_three max_four min_four
set_option linter.unusedVariables false
set_option linter.unusedSimpArgs false
open List renaming setIfInBounds_toArray → U,set_cons_zero → V,set_cons_succ → Z
open Go.Proofs.YtlhmljngjdfbpaaW.PrintWords.Aside0 renaming mk → zx
def impl_ReachIn.l0 : Nat → Int → List Int → List Int → Int → Int → Option (List Int)
 | 0,_,_,_,_,_ => none
 | k + 1,x2,x7,x20,x21,x22 => if x22 < x21 then (if 0 ≤ x22 then (if x22 < (x20.length : Int) then ((impl_reached.f (rd x20 x22) x2).bind fun t1198 => (if t1198 = true then (if x7.length < 17592186044416 then (impl_ReachIn.l0 k x2 (x7 ++ [x22]) x20 x21 (wrap64 (x22 + 1))) else (none)) else (impl_ReachIn.l0 k x2 x7 x20 x21 (wrap64 (x22 + 1))))) else (none)) else (none)) else (if 0 ≤ (x7.length : Int) then (if (x7.length : Int) ≤ (x7.length : Int) then (some (x7.take ((x7.length : Int) : Int).toNat)) else (none)) else (none))
def impl_ReachIn.f (k : Nat) (a0_0 : Int) (l0_1 : List (S58)) (a1 : Int) (a2 : Int) : Option (List Int):=(impl_nodesIn.f a0_0 l0_1 (([a1] : List Int))).bind fun t1190 => (if t1190 = true then (if 0 ≤ a0_0 then (if (a0_0 : Int).toNat ≤ 35184372088832 then ((impl_Net_from.f k a0_0 l0_1 a1).bind fun t1194 => (impl_ReachIn.l0 k a2 (([] : List Int)) t1194 (t1194.length : Int) 0)) else (none)) else (none)) else (some ([] : List Int)))
set_option maxHeartbeats 8000000 in
set_option maxRecDepth 100000 in
theorem impl_ReachIn.calls (k : Nat) (a0_0 : Int) (A0_1 : Option Addr) (c0_1 : Nat) (l0_1 : List (S58)) (a1 : Int) (a2 : Int) (r : List Int) (w : World) (hr0_1 : Kd.C k58 w A0_1 l0_1.length l0_1) (hc0_1 : l0_1.length ≤ c0_1) (h : impl_ReachIn.f k a0_0 l0_1 a1 a2 = some r) :
  Calls Try.prog 57 #[.agg #[.int .i64 a0_0,.slice A0_1 l0_1.length c0_1],.int .i64 a1,.int .i64 a2] w fun e w' => ∃ v0_ : Value,e = .returned (v0_) ∧ Kd.R (Kd.int .i64) 3 w' w.heap.size (fun _ => True) v0_ r ∧ Below w.heap.size w w':=by
 have hu34:=Try.underlying34;have HR0_1:=zx hr0_1;have HC0_1:=zx hc0_1;clear hr0_1 hc0_1;have HB:=zx (Below.refl w.heap.size w);have H : ((impl_nodesIn.f a0_0 l0_1 (([a1] : List Int))).bind fun t1190 => (if t1190 = true then (if 0 ≤ a0_0 then (if (a0_0 : Int).toNat ≤ 35184372088832 then ((impl_Net_from.f k a0_0 l0_1 a1).bind fun t1194 => (impl_ReachIn.l0 k a2 (([] : List Int)) t1194 (t1194.length : Int) 0)) else (none)) else (none)) else (some ([] : List Int)))) = some r:=h;clear h;obtain ⟨y1187,hy1187⟩ : ∃ y_ : List Int,y_ = (([a1] : List Int)):=⟨_,rfl⟩
 replace H : ((impl_nodesIn.f a0_0 l0_1 y1187).bind fun t1190 => (if t1190 = true then (if 0 ≤ a0_0 then (if (a0_0 : Int).toNat ≤ 35184372088832 then ((impl_Net_from.f k a0_0 l0_1 a1).bind fun t1194 => (impl_ReachIn.l0 k a2 (([] : List Int)) t1194 (t1194.length : Int) 0)) else (none)) else (none)) else (some ([] : List Int)))) = some r:=by first | (rw [hy1187]; with_reducible exact H) | (have H2_:=(Option.bind_some _ _).symm.trans H; rw [hy1187]; with_reducible exact H2_) | (have H2_:=(Option.bind_some _ _).symm.trans H; with_reducible exact H2_) | with_reducible exact H | (rw [hy1187]; exact H) | exact H
 have Ny1187:=zx hy1187;clear hy1187;replace H:=Option.bind_eq_some_iff.mp H;obtain ⟨t1190,A40,H⟩:=H;replace H : (if t1190 = true then (if 0 ≤ a0_0 then (if (a0_0 : Int).toNat ≤ 35184372088832 then ((impl_Net_from.f k a0_0 l0_1 a1).bind fun t1194 => (impl_ReachIn.l0 k a2 (([] : List Int)) t1194 (t1194.length : Int) 0)) else (none)) else (none)) else (some ([] : List Int))) = some r:=H;have A4:=zx A40;clear A40
 by_cases c5 : t1190 = true
 case neg =>
  replace c5:=Bool.eq_false_iff.mpr c5;subst c5;have H1 : (some ([] : List Int)) = some r:=by rw [if_neg (show ¬ (false = true) by decide)] at H; exact H
  clear H;have H:=H1;clear H1;obtain rfl:=Option.some.inj H
  go_enter Try.func57,Try.ntmps57
  go_wp2_with (first | ((with_reducible refine gate_dst (N:=3) rfl ?_); refine box_event ?hg (N:=3) ?hd (cs:=#[.int .i64 a0_0,.slice A0_1 l0_1.length c0_1]) (t:=34) ?hr ?_; (case hd => rfl); (case hg => rfl); (case hr => first | (go_simp; done) | (go_simp; rfl)); intro gb1186 hg w32 hbox hb; have n0_:=zx (below_step (by repeat (first | (with_reducible first | exact HB.out | apply below_alloc | apply pw_below_drewN | apply below_drew1) | exact HB.out)) hb); have n1_:=zx (hbox); have n2_:=zx ((by rw [hg]; exact (below_size (by repeat (first | (with_reducible first | exact HB.out | apply below_alloc | apply pw_below_drewN | apply below_drew1) | exact HB.out))) : w.heap.size ≤ gb1186)); have n3_:=zx ((by rw [hg]; exact (below_size (by repeat (first | (with_reducible first | exact HB.out | apply below_alloc | apply pw_below_drewN | apply below_drew1) | exact HB.out))) : w.heap.size ≤ gb1186)); clear HB; have HB:=n0_; have BK1186:=n1_; have GW1186:=n2_; have GE1186:=n3_; clear n0_ n1_ n2_ n3_; clear hb hbox hg; have hcz33_0 : w32.cell? ⟨gb1186,0,none⟩ = some (.int .i64 a0_0):=(blk_cell BK1186.out 0).trans rfl; have hcz33_1 : w32.cell? ⟨gb1186,1,none⟩ = some (.slice A0_1 l0_1.length c0_1):=(blk_cell BK1186.out 1).trans rfl; have hfz33_0:=blk_frozen BK1186.out 0; have hfz33_1:=blk_frozen BK1186.out 1) | ((with_reducible refine gate_dst (N:=12) rfl ?_); refine Kd.R_lit (Kd.int .i64) _ 3 ?hg (N:=12) ?hd (xs:=([a1] : List Int)) (inner:=[.int .i64 a1]) (ok:=fun _ => True) (okp:=fun _ => True) ?hr ?hp (fun _ hk => hk) trivial (Below.refl _ _) (Nat.le_refl _) (by simp) ?_; (case hd => rfl); (case hg => rfl); (case hr => first | (go_simp; done) | (go_simp; rfl)); (case hp => exact (Reps.one (show Kd.M (Kd.int .i64) _ _ _ a1 [.int .i64 a1] from rfl) (Reps.none _ _))); intro v1188 w34 ho35 hb hg_ hnew_; clear hg_ hnew_; (first | rw [← Ny1187.out] at ho35 | (simp only [Int.reduceToNat] at ho35; rw [← Ny1187.out] at ho35)); have n0_:=zx (Kd.R_lower ho35 (below_size (by repeat (first | (with_reducible first | exact HB.out | apply below_alloc | apply pw_below_drewN | apply below_drew1 | refine below_set ?_ GE1186.out) | exact HB.out)))); have n1_:=zx (blk_below (g:=gb1186) (o:=.cells #[.int .i64 a0_0,.slice A0_1 l0_1.length c0_1] 34 (0,0)) (by (with_reducible repeat (first | refine blk_drewN ?_ _ | refine blk_drew ?_ | refine blk_alloc ?_ _)); exact BK1186.out) hb); have n2_:=zx (below_step (by repeat (first | (with_reducible first | exact HB.out | apply below_alloc | apply pw_below_drewN | apply below_drew1 | refine below_set ?_ GE1186.out) | exact HB.out)) hb); clear BK1186; clear HB; have HO1189:=n0_; have BK1186:=n1_; have HB:=n2_; clear n0_ n1_ n2_; clear hb ho35; obtain ⟨Ao36,co36,eo36⟩:=Kd.R_slice HO1189.out; subst eo36) | ((with_reducible refine gate_callee (f:=99) rfl ?_); refine goesL_ (some 13) rfl rfl Try.func99 (by kernel_rfl) rfl #[.agg #[.int .i64 a0_0,.slice A0_1 l0_1.length c0_1],.slice Ao36 y1187.length co36] rfl (by (try simp only [List.map_toArray,List.map_cons,List.map_nil]); first | done | rfl | (simp only [List.length_drop,List.length_take]; rfl)) ?_; (with_reducible refine (impl_nodesIn.calls a0_0 _ _ l0_1 _ _ y1187 false _ ?side1 ?side2 ?side3 ?side4 A4.out).mono ?_); (case side1 => repeat (first | exact (Kd.C_below HR0_1.out HB.out) | (with_reducible refine Kd.C_alloc ?_ _) | (with_reducible refine Kd.C_drewN ?_ _) | (with_reducible refine Kd.C_drew ?_))); (case side2 => exact HC0_1.out); (case side3 => repeat (first | exact (Kd.R_reads' HO1189.out).2.2 | (with_reducible refine Kd.C_alloc ?_ _) | (with_reducible refine Kd.C_drewN ?_ _) | (with_reducible refine Kd.C_drew ?_))); (case side4 => exact (Kd.R_reads' HO1189.out).2.1); rintro e w37 ⟨rfl,hb⟩; refine ⟨_,rfl,?_⟩; have n0_:=zx (Kd.R_below (by (with_reducible repeat (first | apply Kd.R_alloc | apply Kd.R_drewN | apply Kd.R_drew)); exact HO1189.out) hb); have n1_:=zx (blk_below (g:=gb1186) (o:=.cells #[.int .i64 a0_0,.slice A0_1 l0_1.length c0_1] 34 (0,0)) (by (with_reducible repeat (first | refine blk_drewN ?_ _ | refine blk_drew ?_ | refine blk_alloc ?_ _)); exact BK1186.out) hb); have n2_:=zx (below_step (by repeat (first | (with_reducible first | exact HB.out | apply below_alloc | apply pw_below_drewN | apply below_drew1 | refine below_set ?_ GE1186.out) | exact HB.out)) hb); clear HO1189; clear BK1186; clear HB; have HO1189:=n0_; have BK1186:=n1_; have HB:=n2_; clear n0_ n1_ n2_; (try clear hb); (try clear hb2); (try clear hk); (try clear hi)))
  go_ret;exact ⟨_,by first | rfl | (simp [errW_none,errW_some] <;> rfl) | (simp [*,errW_none,errW_some] <;> rfl),by first | exact Kd.R_nil _ _ _ _ _ | exact Kd.N_nil _ _ _ _ _ | exact Kd.V_nil _ _ _ _ _ | exact Kd.Q_nil _ _ _ _ _ | exact Kd.S_nil _ _ _ _ _,by repeat (first | (with_reducible first | exact HB.out | apply below_alloc | apply pw_below_drewN | apply below_drew1 | refine below_set ?_ GE1186.out) | exact HB.out)⟩
 subst c5;have H1 : (if 0 ≤ a0_0 then (if (a0_0 : Int).toNat ≤ 35184372088832 then ((impl_Net_from.f k a0_0 l0_1 a1).bind fun t1194 => (impl_ReachIn.l0 k a2 (([] : List Int)) t1194 (t1194.length : Int) 0)) else (none)) else (none)) = some r:=by rw [if_pos rfl] at H; exact H
 clear H;have H:=H1;clear H1
 by_cases c6 : 0 ≤ a0_0
 case neg =>
  rw [if_neg c6] at H;exact absurd H (by simp)
 rw [if_pos c6] at H;have c6b0:=eq_true c6;have c6b1 : decide (0 ≤ a0_0) = true:=decide_eq_true c6;clear c6
 by_cases c7 : (a0_0 : Int).toNat ≤ 35184372088832
 case neg =>
  rw [if_neg c7] at H;exact absurd H (by simp)
 rw [if_pos c7] at H;have c7b0:=eq_true c7;have c7b1 : decide ((a0_0 : Int).toNat ≤ 35184372088832) = true:=decide_eq_true c7;clear c7;obtain ⟨y1191,hy1191⟩ : ∃ y_ : List Int,y_ = (([] : List Int)):=⟨_,rfl⟩
 replace H : ((impl_Net_from.f k a0_0 l0_1 a1).bind fun t1194 => (impl_ReachIn.l0 k a2 y1191 t1194 (t1194.length : Int) 0)) = some r:=by first | (rw [hy1191]; with_reducible exact H) | (have H2_:=(Option.bind_some _ _).symm.trans H; rw [hy1191]; with_reducible exact H2_) | (have H2_:=(Option.bind_some _ _).symm.trans H; with_reducible exact H2_) | with_reducible exact H | (rw [hy1191]; exact H) | exact H
 have Ny1191:=zx hy1191;clear hy1191;replace H:=Option.bind_eq_some_iff.mp H;obtain ⟨t1194,A80,H⟩:=H;replace H : (impl_ReachIn.l0 k a2 y1191 t1194 (t1194.length : Int) 0) = some r:=H;have A8:=zx A80;clear A80;have H':=zx H;clear H
 go_enter Try.func57,Try.ntmps57
 go_wp2_with (first | ((with_reducible refine gate_dst (N:=3) rfl ?_); refine box_event ?hg (N:=3) ?hd (cs:=#[.int .i64 a0_0,.slice A0_1 l0_1.length c0_1]) (t:=34) ?hr ?_; (case hd => rfl); (case hg => rfl); (case hr => first | (go_simp; done) | (go_simp; rfl)); intro gb1186 hg w9 hbox hb; have n0_:=zx (below_step (by repeat (first | (with_reducible first | exact HB.out | apply below_alloc | apply pw_below_drewN | apply below_drew1) | exact HB.out)) hb); have n1_:=zx (hbox); have n2_:=zx ((by rw [hg]; exact (below_size (by repeat (first | (with_reducible first | exact HB.out | apply below_alloc | apply pw_below_drewN | apply below_drew1) | exact HB.out))) : w.heap.size ≤ gb1186)); have n3_:=zx ((by rw [hg]; exact (below_size (by repeat (first | (with_reducible first | exact HB.out | apply below_alloc | apply pw_below_drewN | apply below_drew1) | exact HB.out))) : w.heap.size ≤ gb1186)); clear HB; have HB:=n0_; have BK1186:=n1_; have GW1186:=n2_; have GE1186:=n3_; clear n0_ n1_ n2_ n3_; clear hb hbox hg; have hcz10_0 : w9.cell? ⟨gb1186,0,none⟩ = some (.int .i64 a0_0):=(blk_cell BK1186.out 0).trans rfl; have hcz10_1 : w9.cell? ⟨gb1186,1,none⟩ = some (.slice A0_1 l0_1.length c0_1):=(blk_cell BK1186.out 1).trans rfl; have hfz10_0:=blk_frozen BK1186.out 0; have hfz10_1:=blk_frozen BK1186.out 1) | ((with_reducible refine gate_dst (N:=12) rfl ?_); refine Kd.R_lit (Kd.int .i64) _ 3 ?hg (N:=12) ?hd (xs:=([a1] : List Int)) (inner:=[.int .i64 a1]) (ok:=fun _ => True) (okp:=fun _ => True) ?hr ?hp (fun _ hk => hk) trivial (Below.refl _ _) (Nat.le_refl _) (by simp) ?_; (case hd => rfl); (case hg => rfl); (case hr => first | (go_simp; done) | (go_simp; rfl)); (case hp => exact (Reps.one (show Kd.M (Kd.int .i64) _ _ _ a1 [.int .i64 a1] from rfl) (Reps.none _ _))); intro v1188 w11 ho12 hb hg_ hnew_; clear hg_ hnew_; (first | rw [← Ny1187.out] at ho12 | (simp only [Int.reduceToNat] at ho12; rw [← Ny1187.out] at ho12)); have n0_:=zx (Kd.R_lower ho12 (below_size (by repeat (first | (with_reducible first | exact HB.out | apply below_alloc | apply pw_below_drewN | apply below_drew1 | refine below_set ?_ GE1186.out) | exact HB.out)))); have n1_:=zx (blk_below (g:=gb1186) (o:=.cells #[.int .i64 a0_0,.slice A0_1 l0_1.length c0_1] 34 (0,0)) (by (with_reducible repeat (first | refine blk_drewN ?_ _ | refine blk_drew ?_ | refine blk_alloc ?_ _)); exact BK1186.out) hb); have n2_:=zx (below_step (by repeat (first | (with_reducible first | exact HB.out | apply below_alloc | apply pw_below_drewN | apply below_drew1 | refine below_set ?_ GE1186.out) | exact HB.out)) hb); clear BK1186; clear HB; have HO1189:=n0_; have BK1186:=n1_; have HB:=n2_; clear n0_ n1_ n2_; clear hb ho12; obtain ⟨Ao13,co13,eo13⟩:=Kd.R_slice HO1189.out; subst eo13) | ((with_reducible refine gate_callee (f:=99) rfl ?_); refine goesL_ (some 13) rfl rfl Try.func99 (by kernel_rfl) rfl #[.agg #[.int .i64 a0_0,.slice A0_1 l0_1.length c0_1],.slice Ao13 y1187.length co13] rfl (by (try simp only [List.map_toArray,List.map_cons,List.map_nil]); first | done | rfl | (simp only [List.length_drop,List.length_take]; rfl)) ?_; (with_reducible refine (impl_nodesIn.calls a0_0 _ _ l0_1 _ _ y1187 true _ ?side1 ?side2 ?side3 ?side4 A4.out).mono ?_); (case side1 => repeat (first | exact (Kd.C_below HR0_1.out HB.out) | (with_reducible refine Kd.C_alloc ?_ _) | (with_reducible refine Kd.C_drewN ?_ _) | (with_reducible refine Kd.C_drew ?_))); (case side2 => exact HC0_1.out); (case side3 => repeat (first | exact (Kd.R_reads' HO1189.out).2.2 | (with_reducible refine Kd.C_alloc ?_ _) | (with_reducible refine Kd.C_drewN ?_ _) | (with_reducible refine Kd.C_drew ?_))); (case side4 => exact (Kd.R_reads' HO1189.out).2.1); rintro e w14 ⟨rfl,hb⟩; refine ⟨_,rfl,?_⟩; have n0_:=zx (Kd.R_below (by (with_reducible repeat (first | apply Kd.R_alloc | apply Kd.R_drewN | apply Kd.R_drew)); exact HO1189.out) hb); have n1_:=zx (blk_below (g:=gb1186) (o:=.cells #[.int .i64 a0_0,.slice A0_1 l0_1.length c0_1] 34 (0,0)) (by (with_reducible repeat (first | refine blk_drewN ?_ _ | refine blk_drew ?_ | refine blk_alloc ?_ _)); exact BK1186.out) hb); have n2_:=zx (below_step (by repeat (first | (with_reducible first | exact HB.out | apply below_alloc | apply pw_below_drewN | apply below_drew1 | refine below_set ?_ GE1186.out) | exact HB.out)) hb); clear HO1189; clear BK1186; clear HB; have HO1189:=n0_; have BK1186:=n1_; have HB:=n2_; clear n0_ n1_ n2_; (try clear hb); (try clear hb2); (try clear hk); (try clear hi); have hcz15_0 : w14.cell? ⟨gb1186,0,none⟩ = some (.int .i64 a0_0):=(blk_cell BK1186.out 0).trans rfl; have hcz15_1 : w14.cell? ⟨gb1186,1,none⟩ = some (.slice A0_1 l0_1.length c0_1):=(blk_cell BK1186.out 1).trans rfl; have hfz15_0:=blk_frozen BK1186.out 0; have hfz15_1:=blk_frozen BK1186.out 1) | ((with_reducible refine gate_dst (N:=17) rfl ?_); refine Kd.R_make0 (Kd.int .i64) _ 3 rfl (N:=17) rfl 23 _ _ rfl a0_0 (by first | rfl | (go_simp; done) | (go_simp; rfl)) (by first | rfl | (go_simp; done) | (go_simp; rfl)) Try.underlying23 (.int .i64 0) 8 info3 rfl (by decide) (by omega) 0 (ok:=fun _ => True) (okp:=fun _ => True) rfl (fun _ hk => hk) trivial (of_decide_eq_true (by first | (with_reducible assumption) | assumption)) (Nat.le_trans (Nat.mul_le_mul_right _ (of_decide_eq_true (by first | (with_reducible assumption) | assumption) : a0_0.toNat ≤ 35184372088832)) (by omega)) (Below.refl _ _) (Nat.le_refl _) ?_; intro v1192 w16 ho17 hb hg_ hnew_; clear hg_ hnew_; (first | rw [← Ny1191.out] at ho17 | (simp only [Int.reduceToNat] at ho17; rw [← Ny1191.out] at ho17)); have n0_:=zx (Kd.R_elder' (by (with_reducible repeat (first | apply Kd.R_alloc | apply Kd.R_drewN | apply Kd.R_drew)); exact HO1189.out) (Kd.R_base ho17) hb); have n1_:=zx (Kd.R_lower (Kd.R_new' ho17 (Kd.R_lt (by (with_reducible repeat (first | apply Kd.R_alloc | apply Kd.R_drewN | apply Kd.R_drew)); exact HO1189.out))) (below_size (by repeat (first | (with_reducible first | exact HB.out | apply below_alloc | apply pw_below_drewN | apply below_drew1 | refine below_set ?_ GE1186.out) | exact HB.out)))); have n2_:=zx (blk_below (g:=gb1186) (o:=.cells #[.int .i64 a0_0,.slice A0_1 l0_1.length c0_1] 34 (0,0)) (by (with_reducible repeat (first | refine blk_drewN ?_ _ | refine blk_drew ?_ | refine blk_alloc ?_ _)); exact BK1186.out) hb); have n3_:=zx (below_step (by repeat (first | (with_reducible first | exact HB.out | apply below_alloc | apply pw_below_drewN | apply below_drew1 | refine below_set ?_ GE1186.out) | exact HB.out)) hb); clear HO1189; clear BK1186; clear HB; have HO1189:=n0_; have HO1193:=n1_; have BK1186:=n2_; have HB:=n3_; clear n0_ n1_ n2_ n3_; clear hb ho17; have hcz18_0 : w16.cell? ⟨gb1186,0,none⟩ = some (.int .i64 a0_0):=(blk_cell BK1186.out 0).trans rfl; have hcz18_1 : w16.cell? ⟨gb1186,1,none⟩ = some (.slice A0_1 l0_1.length c0_1):=(blk_cell BK1186.out 1).trans rfl; have hfz18_0:=blk_frozen BK1186.out 0; have hfz18_1:=blk_frozen BK1186.out 1) | ((with_reducible refine gate_callee (f:=111) rfl ?_); refine goesL_ (some 20) rfl rfl Try.func111 (by kernel_rfl) rfl #[.agg #[.int .i64 a0_0,.slice A0_1 l0_1.length c0_1],.int .i64 a1] rfl (by (try simp only [List.map_toArray,List.map_cons,List.map_nil]); first | done | rfl | (simp only [List.length_drop,List.length_take]; rfl)) ?_; (with_reducible refine (impl_Net_from.calls k a0_0 _ _ l0_1 a1 t1194 _ ?side1 ?side2 A8.out).mono ?_); (case side1 => repeat (first | exact (Kd.C_below HR0_1.out HB.out) | (with_reducible refine Kd.C_alloc ?_ _) | (with_reducible refine Kd.C_drewN ?_ _) | (with_reducible refine Kd.C_drew ?_))); (case side2 => exact HC0_1.out); rintro e w19 ⟨v1195,rfl,ho0,hb⟩; refine ⟨_,rfl,?_⟩; have n0_:=zx (Kd.R_elder' (by (with_reducible repeat (first | apply Kd.R_alloc | apply Kd.R_drewN | apply Kd.R_drew)); exact HO1189.out) (Kd.R_base ho0) hb); have n1_:=zx (Kd.R_elder' (by (with_reducible repeat (first | apply Kd.R_alloc | apply Kd.R_drewN | apply Kd.R_drew)); exact HO1193.out) (Kd.R_base ho0) hb); have n2_:=zx (Kd.R_lower (Kd.R_new' (Kd.R_new' ho0 (Kd.R_lt (by (with_reducible repeat (first | apply Kd.R_alloc | apply Kd.R_drewN | apply Kd.R_drew)); exact HO1189.out))) (Kd.R_lt (by (with_reducible repeat (first | apply Kd.R_alloc | apply Kd.R_drewN | apply Kd.R_drew)); exact HO1193.out))) (below_size (by repeat (first | (with_reducible first | exact HB.out | apply below_alloc | apply pw_below_drewN | apply below_drew1 | refine below_set ?_ GE1186.out) | exact HB.out)))); have n3_:=zx (blk_below (g:=gb1186) (o:=.cells #[.int .i64 a0_0,.slice A0_1 l0_1.length c0_1] 34 (0,0)) (by (with_reducible repeat (first | refine blk_drewN ?_ _ | refine blk_drew ?_ | refine blk_alloc ?_ _)); exact BK1186.out) hb); have n4_:=zx (below_step (by repeat (first | (with_reducible first | exact HB.out | apply below_alloc | apply pw_below_drewN | apply below_drew1 | refine below_set ?_ GE1186.out) | exact HB.out)) hb); clear HO1189; clear HO1193; clear BK1186; clear HB; have HO1189:=n0_; have HO1193:=n1_; have HO1196:=n2_; have BK1186:=n3_; have HB:=n4_; clear n0_ n1_ n2_ n3_ n4_; (try clear hb); (try clear hb2); (try clear hk); (try clear hi); (try clear ho0); obtain ⟨Ao20,co20,eo20⟩:=Kd.R_slice HO1196.out; subst eo20))
 go_loopg [7,22] k (fun kq v7 v22 w' => ∃ (x7_1 : List Int) (x22_1 : Int),v22 = .int .i64 x22_1 ∧ Aside0 (impl_ReachIn.l0 kq a2 x7_1 t1194 (t1194.length : Int) x22_1 = some r) ∧ Aside0 (kq ≤ k) ∧ Aside0 (Kd.R (Kd.int .i64) 3 w' w.heap.size (fun k_ => some k_ ≠ ((.slice Ao20 t1194.length co20) : Value).ownBlock) v7 x7_1) ∧ Aside0 (Kd.R (Kd.int .i64) 3 w' w.heap.size (fun k_ => some k_ ≠ (v7 : Value).ownBlock) (.slice Ao20 t1194.length co20) t1194) ∧ Aside0 (w'.heap[gb1186]? = some (.cells #[.int .i64 a0_0,(.slice A0_1 l0_1.length c0_1)] 34 (0,0))) ∧ Aside0 (Below w.heap.size w w'))
 case atStart => exact ⟨(y1191),(0),(by first | rfl | (simp; done) | (simp [*]; done)),H',⟨Nat.le_refl _⟩,⟨by (with_reducible repeat (first | apply Kd.R_alloc | apply Kd.R_drewN | apply Kd.R_drew)); exact Kd.R_mono HO1193.out (fun _ hk => hk.2)⟩,⟨by (with_reducible repeat (first | apply Kd.R_alloc | apply Kd.R_drewN | apply Kd.R_drew)); exact Kd.R_mono HO1196.out (fun _ hk => hk.2)⟩,⟨by (with_reducible repeat (first | refine blk_drewN ?_ _ | refine blk_drew ?_ | refine blk_alloc ?_ _)); exact BK1186.out⟩,⟨by repeat (first | (with_reducible first | exact HB.out | apply below_alloc | apply pw_below_drewN | apply below_drew1 | refine below_set ?_ GE1186.out) | exact HB.out)⟩⟩
 case round =>
  clear H'
  try clear c1
  try clear p2
  try clear c5
  try clear c6
  try clear c6b0
  try clear c6b1
  try clear c7
  try clear c7b0
  try clear c7b1
  try clear c9
  try clear c11
  try clear hcz10_0
  try clear hcz10_1
  try clear hcz15_0
  try clear hcz15_1
  try clear hcz18_0
  try clear hcz18_1
  try clear hfz10_0
  try clear hfz10_1
  try clear hfz15_0
  try clear hfz15_1
  try clear hfz18_0
  try clear hfz18_1
  obtain ⟨x7_1,x22_1,rfl,HA,HK1,HO_7,HO_20,BK1186,HB⟩:=hrel;cases gk with
  | zero => exact absurd HA.out (by simp [impl_ReachIn.l0])
  | succ k1 =>
   have H:=HA.out;clear HA;simp only [impl_ReachIn.l0] at H
   by_cases c21 : x22_1 < (t1194.length : Int)
   case neg =>
    rw [if_neg c21] at H;have c21b0 : decide (x22_1 < (t1194.length : Int)) = false:=decide_eq_false c21;clear c21
    by_cases c28 : 0 ≤ (x7_1.length : Int)
    case neg =>
     rw [if_neg c28] at H;exact absurd H (by simp)
    rw [if_pos c28] at H;have c28b0:=eq_true c28;have c28b1 : decide (0 ≤ (x7_1.length : Int)) = true:=decide_eq_true c28;clear c28
    by_cases c29 : (x7_1.length : Int) ≤ (x7_1.length : Int)
    case neg =>
     rw [if_neg c29] at H;exact absurd H (by simp)
    rw [if_pos c29] at H;have c29b0:=eq_true c29;have c29b1 : decide ((x7_1.length : Int) ≤ (x7_1.length : Int)) = true:=decide_eq_true c29;clear c29;obtain ⟨y1202,hy1202⟩ : ∃ y_ : List Int,y_ = (x7_1.take ((x7_1.length : Int) : Int).toNat):=⟨_,rfl⟩
    replace H : (some y1202) = some r:=by first | (rw [hy1202]; with_reducible exact H) | (have H2_:=(Option.bind_some _ _).symm.trans H; rw [hy1202]; with_reducible exact H2_) | (have H2_:=(Option.bind_some _ _).symm.trans H; with_reducible exact H2_) | with_reducible exact H | (rw [hy1202]; exact H) | exact H
    have Ny1202:=zx hy1202;clear hy1202;obtain rfl:=Option.some.inj H;obtain ⟨Ao30,co30,eo30⟩:=Kd.R_slice HO_7.out;subst eo30;have q31 : ((x7_1.length : Int) : Int) ≤ ((x7_1.length : Int) : Int):=of_decide_eq_true (by first | (with_reducible assumption) | assumption);obtain ⟨i031,hi031,_,hsz31,_⟩:=info_parts info3;have hcut31:=cut_cap (P:=Try.prog) 23 3 .i64 Try.underlying23 hi031 Ao30 x7_1.length co30 (x7_1.length : Int) (of_decide_eq_true (by first | (with_reducible assumption) | assumption)) q31 (Kd.R_reads' HO_7.out).2.1;have hr31:=Kd.R_cap (m:=((x7_1.length : Int) : Int).toNat) HO_7.out (by omega);have hy31 : y1202.length = ((x7_1.length : Int) : Int).toNat:=(by rw [Ny1202.out,List.length_take]; omega)
    rw [← Ny1202.out] at hr31;rw [← hy31] at hr31 hcut31;clear hy31 hi031 hsz31 HO_7;have HO1204:=zx hr31;clear hr31;replace q31:=eq_true q31
    go_wp2
    go_ret;exact ⟨_,by first | rfl | (simp [errW_none,errW_some] <;> rfl) | (simp [*,errW_none,errW_some] <;> rfl),by (with_reducible repeat (first | apply Kd.R_alloc | apply Kd.R_drewN | apply Kd.R_drew)); exact Kd.R_mono HO1204.out (fun _ hk => trivial),by repeat (first | (with_reducible first | exact HB.out | apply below_alloc | apply pw_below_drewN | apply below_drew1 | refine below_set ?_ GE1186.out) | exact HB.out)⟩
   rw [if_pos c21] at H;have c21b0 : decide (x22_1 < (t1194.length : Int)) = true:=decide_eq_true c21;clear c21
   by_cases c22 : 0 ≤ x22_1
   case neg =>
    rw [if_neg c22] at H;exact absurd H (by simp)
   rw [if_pos c22] at H;have c22b0 : decide (0 ≤ x22_1) = true:=decide_eq_true c22;clear c22
   by_cases c23 : x22_1 < (t1194.length : Int)
   case neg =>
    rw [if_neg c23] at H;exact absurd H (by simp)
   rw [if_pos c23] at H;have c23b0 : decide (x22_1 < (t1194.length : Int)) = true:=decide_eq_true c23;clear c23;replace H:=Option.bind_eq_some_iff.mp H;obtain ⟨t1198,A240,H⟩:=H;replace H : (if t1198 = true then (if x7_1.length < 17592186044416 then (impl_ReachIn.l0 k1 a2 (x7_1 ++ [x22_1]) t1194 (t1194.length : Int) (wrap64 (x22_1 + 1))) else (none)) else (impl_ReachIn.l0 k1 a2 x7_1 t1194 (t1194.length : Int) (wrap64 (x22_1 + 1)))) = some r:=H;have A24:=zx A240;clear A240
   by_cases c25 : t1198 = true
   case neg =>
    replace c25:=Bool.eq_false_iff.mpr c25;subst c25;have H1 : (impl_ReachIn.l0 k1 a2 x7_1 t1194 (t1194.length : Int) (wrap64 (x22_1 + 1))) = some r:=by rw [if_neg (show ¬ (false = true) by decide)] at H; exact H
    clear H;have H:=H1;clear H1;have H':=zx H;clear H;have p1197 : 0 ≤ (x22_1 : Int):=of_decide_eq_true (by first | (with_reducible assumption) | assumption);have q1197 : x22_1 < (t1194.length : Int):=of_decide_eq_true (by first | (with_reducible assumption) | assumption);obtain ⟨ad1197,e1197,hx1197_0⟩:=Kd.at_int (Kd.R_reads' HO_20.out).2.2 x22_1 p1197 q1197;cases e1197;replace p1197:=eq_true p1197;replace q1197:=eq_true q1197
    go_wp2_with (first | ((with_reducible refine gate_callee (f:=112) rfl ?_); refine goesL_ (some 29) rfl rfl Try.func112 (by kernel_rfl) rfl #[.int .i64 (rd t1194 x22_1),.int .i64 a2] rfl (by (try simp only [List.map_toArray,List.map_cons,List.map_nil]); first | done | rfl | (simp only [List.length_drop,List.length_take]; rfl)) ?_; (with_reducible refine (impl_reached.calls (rd t1194 x22_1) a2 false _ A24.out).mono ?_); rintro e w' ⟨rfl,⟨nd,rfl⟩⟩; refine ⟨_,rfl,?_⟩))
    go_roundg k1
    case measure => have:=HK1.out; omega
    case rel => exact ⟨(x7_1),(wrap64 (x22_1 + 1)),(by first | rfl | (simp; done) | (simp [*]; done)),H',⟨by have:=HK1.out; omega⟩,⟨by (with_reducible repeat (first | apply Kd.R_alloc | apply Kd.R_drewN | apply Kd.R_drew)); exact HO_7.out⟩,⟨by (with_reducible repeat (first | apply Kd.R_alloc | apply Kd.R_drewN | apply Kd.R_drew)); exact HO_20.out⟩,⟨by (with_reducible repeat (first | refine blk_drewN ?_ _ | refine blk_drew ?_ | refine blk_alloc ?_ _)); exact BK1186.out⟩,⟨by repeat (first | (with_reducible first | exact HB.out | apply below_alloc | apply pw_below_drewN | apply below_drew1 | refine below_set ?_ GE1186.out) | exact HB.out)⟩⟩
   subst c25;have H1 : (if x7_1.length < 17592186044416 then (impl_ReachIn.l0 k1 a2 (x7_1 ++ [x22_1]) t1194 (t1194.length : Int) (wrap64 (x22_1 + 1))) else (none)) = some r:=by rw [if_pos rfl] at H; exact H
   clear H;have H:=H1;clear H1
   by_cases c26 : x7_1.length < 17592186044416
   case neg =>
    rw [if_neg c26] at H;exact absurd H (by simp)
   rw [if_pos c26] at H;have LMc26:=zx c26;clear c26;obtain ⟨y1199,hy1199⟩ : ∃ y_ : List Int,y_ = (x7_1 ++ [x22_1]):=⟨_,rfl⟩
   replace H : (impl_ReachIn.l0 k1 a2 y1199 t1194 (t1194.length : Int) (wrap64 (x22_1 + 1))) = some r:=by first | (rw [hy1199]; with_reducible exact H) | (have H2_:=(Option.bind_some _ _).symm.trans H; rw [hy1199]; with_reducible exact H2_) | (have H2_:=(Option.bind_some _ _).symm.trans H; with_reducible exact H2_) | with_reducible exact H | (rw [hy1199]; exact H) | exact H
   have Ny1199:=zx hy1199;clear hy1199;have H':=zx H;clear H;have p1197 : 0 ≤ (x22_1 : Int):=of_decide_eq_true (by first | (with_reducible assumption) | assumption);have q1197 : x22_1 < (t1194.length : Int):=of_decide_eq_true (by first | (with_reducible assumption) | assumption);obtain ⟨ad1197,e1197,hx1197_0⟩:=Kd.at_int (Kd.R_reads' HO_20.out).2.2 x22_1 p1197 q1197;cases e1197;replace p1197:=eq_true p1197;replace q1197:=eq_true q1197
   go_wp2_with (first | ((with_reducible refine gate_callee (f:=112) rfl ?_); refine goesL_ (some 29) rfl rfl Try.func112 (by kernel_rfl) rfl #[.int .i64 (rd t1194 x22_1),.int .i64 a2] rfl (by (try simp only [List.map_toArray,List.map_cons,List.map_nil]); first | done | rfl | (simp only [List.length_drop,List.length_take]; rfl)) ?_; (with_reducible refine (impl_reached.calls (rd t1194 x22_1) a2 true _ A24.out).mono ?_); rintro e w' ⟨rfl,⟨nd,rfl⟩⟩; refine ⟨_,rfl,?_⟩) | ((with_reducible refine gate_builtin (b:=.append) (xs:=#[.tmp 30,.tmp 32]) rfl ?_); at_builtin; refine Kd.R_append (Kd.int .i64) (w0:=w) w.heap.size rfl (.tmp 30) (.tmp 32) 23 3 (.int .i64 0) 8 rfl Try.underlying23 info3 rfl (by decide) (by omega) u7 x7_1 x22_1 [.int .i64 x22_1] (fun k_ => some k_ ≠ (.slice (some ad1197) t1194.length co20 : Value).ownBlock) (fun _ => False) rfl rfl ?aP (fun _ hk => hk.elim) ?aF ?aO ?aB ?aS ?aL ?_; (case aP => exact rfl); (case aB => exact (by repeat (first | (with_reducible first | exact HB.out | apply below_alloc | apply pw_below_drewN | apply below_drew1 | refine below_set ?_ GE1186.out) | exact HB.out))); (case aF => exact (fun k_ hk => Kd.fresh' (Kd.R_lt (by (with_reducible repeat (first | apply Kd.R_alloc | apply Kd.R_drewN | apply Kd.R_drew)); exact HO_20.out)) k_ hk)); (case aO => exact (by (with_reducible repeat (first | apply Kd.R_alloc | apply Kd.R_drewN | apply Kd.R_drew)); exact HO_7.out)); (case aS => exact (below_size (by repeat (first | (with_reducible first | exact HB.out | apply below_alloc | apply pw_below_drewN | apply below_drew1 | refine below_set ?_ GE1186.out) | exact HB.out)))); (case aL => have:=LMc26.out; omega); intro v1200 w27 ho hb hg hat; rw [← Ny1199.out] at ho; have n0_:=zx (Kd.R_after (ok:=(fun _ => True)) (by (with_reducible repeat (first | apply Kd.R_alloc | apply Kd.R_drewN | apply Kd.R_drew)); exact Kd.R_mono HO_20.out (fun _ hk => ⟨trivial,hk⟩)) hg hat); have n1_:=zx (blk_grown (g:=gb1186) (o:=.cells #[.int .i64 a0_0,.slice A0_1 l0_1.length c0_1] 34 (0,0)) (by (with_reducible repeat (first | refine blk_drewN ?_ _ | refine blk_drew ?_ | refine blk_alloc ?_ _)); exact BK1186.out) hg (Kd.R_ne HO_7.out BK1186.out (by decide))); have n2_:=zx (hb); have n3_:=zx (ho); clear HO_20; clear BK1186; clear HB; clear HO_7; have HO_20:=n0_; have BK1186:=n1_; have HB:=n2_; have HO1201:=n3_; clear n0_ n1_ n2_ n3_; clear ho hb hg hat))
   go_roundg k1
   case measure => have:=HK1.out; omega
   case rel => exact ⟨(y1199),(wrap64 (x22_1 + 1)),(by first | rfl | (simp; done) | (simp [*]; done)),H',⟨by have:=HK1.out; omega⟩,⟨by (with_reducible repeat (first | apply Kd.R_alloc | apply Kd.R_drewN | apply Kd.R_drew)); exact HO1201.out⟩,⟨by (with_reducible repeat (first | apply Kd.R_alloc | apply Kd.R_drewN | apply Kd.R_drew)); exact Kd.R_mono HO_20.out (fun _ hk => hk.2)⟩,⟨by (with_reducible repeat (first | refine blk_drewN ?_ _ | refine blk_drew ?_ | refine blk_alloc ?_ _)); exact BK1186.out⟩,⟨by repeat (first | (with_reducible first | exact HB.out | apply below_alloc | apply pw_below_drewN | apply below_drew1 | refine below_set ?_ GE1186.out) | exact HB.out)⟩⟩
def impl_Net_table.l0 : Nat → List (List Int) → Int → Int → Int → List (S58) → Option ((List (List Int)))
 | 0,_,_,_,_,_ => none
 | k + 1,x3,x9,x10,x1206000,x1206001 => if x10 < x9 then ((impl_Net_from.f k x1206000 x1206001 x10).bind fun t1209 => (if x3.length < 5864062014805 then (impl_Net_table.l0 k (x3 ++ [t1209]) x9 (wrap64 (x10 + 1)) x1206000 x1206001) else (none))) else (some x3)
def impl_Net_table.f (k : Nat) (a0_0 : Int) (l0_1 : List (S58)) : Option ((List (List Int))):=if 0 ≤ a0_0 then (if (a0_0 : Int).toNat ≤ 11728124029610 then (impl_Net_table.l0 k (([] : List (List Int))) a0_0 0 a0_0 l0_1) else (none)) else (none)
set_option maxHeartbeats 8000000 in
set_option maxRecDepth 100000 in
theorem impl_Net_table.calls (k : Nat) (a0_0 : Int) (A0_1 : Option Addr) (c0_1 : Nat) (l0_1 : List (S58)) (r : List (List Int)) (w : World) (hr0_1 : Kd.C k58 w A0_1 l0_1.length l0_1) (hc0_1 : l0_1.length ≤ c0_1) (h : impl_Net_table.f k a0_0 l0_1 = some r) :
  Calls Try.prog 113 #[.agg #[.int .i64 a0_0,.slice A0_1 l0_1.length c0_1]] w fun e w' => ∃ v0_ : Value,e = .returned (v0_) ∧ Kd.S (Kd.slice 3 (Kd.int .i64)) 23 w' w.heap.size (fun _ => True) v0_ r ∧ Below w.heap.size w w':=by
 have hu34:=Try.underlying34;have HR0_1:=zx hr0_1;have HC0_1:=zx hc0_1;clear hr0_1 hc0_1;have HB:=zx (Below.refl w.heap.size w);have H : (if 0 ≤ a0_0 then (if (a0_0 : Int).toNat ≤ 11728124029610 then (impl_Net_table.l0 k (([] : List (List Int))) a0_0 0 a0_0 l0_1) else (none)) else (none)) = some r:=h;clear h
 by_cases c2 : 0 ≤ a0_0
 case neg =>
  rw [if_neg c2] at H;exact absurd H (by simp)
 rw [if_pos c2] at H;have c2b0:=eq_true c2;have c2b1 : decide (0 ≤ a0_0) = true:=decide_eq_true c2;clear c2
 by_cases c3 : (a0_0 : Int).toNat ≤ 11728124029610
 case neg =>
  rw [if_neg c3] at H;exact absurd H (by simp)
 rw [if_pos c3] at H;have c3b0:=eq_true c3;have c3b1 : decide ((a0_0 : Int).toNat ≤ 11728124029610) = true:=decide_eq_true c3;clear c3;obtain ⟨y1206,hy1206⟩ : ∃ y_ : List (List Int),y_ = (([] : List (List Int))):=⟨_,rfl⟩
 replace H : (impl_Net_table.l0 k y1206 a0_0 0 a0_0 l0_1) = some r:=by first | (rw [hy1206]; with_reducible exact H) | (have H2_:=(Option.bind_some _ _).symm.trans H; rw [hy1206]; with_reducible exact H2_) | (have H2_:=(Option.bind_some _ _).symm.trans H; with_reducible exact H2_) | with_reducible exact H | (rw [hy1206]; exact H) | exact H
 have Ny1206:=zx hy1206;clear hy1206;have H':=zx H;clear H
 go_enter Try.func113,Try.ntmps113
 go_wp2_with (first | ((with_reducible refine gate_dst (N:=1) rfl ?_); refine box_event ?hg (N:=1) ?hd (cs:=#[.int .i64 a0_0,.slice A0_1 l0_1.length c0_1]) (t:=34) ?hr ?_; (case hd => rfl); (case hg => rfl); (case hr => first | (go_simp; done) | (go_simp; rfl)); intro gb1205 hg w4 hbox hb; have n0_:=zx (below_step (by repeat (first | (with_reducible first | exact HB.out | apply below_alloc | apply pw_below_drewN | apply below_drew1) | exact HB.out)) hb); have n1_:=zx (hbox); have n2_:=zx ((by rw [hg]; exact (below_size (by repeat (first | (with_reducible first | exact HB.out | apply below_alloc | apply pw_below_drewN | apply below_drew1) | exact HB.out))) : w.heap.size ≤ gb1205)); have n3_:=zx ((by rw [hg]; exact (below_size (by repeat (first | (with_reducible first | exact HB.out | apply below_alloc | apply pw_below_drewN | apply below_drew1) | exact HB.out))) : w.heap.size ≤ gb1205)); clear HB; have HB:=n0_; have BK1205:=n1_; have GW1205:=n2_; have GE1205:=n3_; clear n0_ n1_ n2_ n3_; clear hb hbox hg; have hcz5_0 : w4.cell? ⟨gb1205,0,none⟩ = some (.int .i64 a0_0):=(blk_cell BK1205.out 0).trans rfl; have hcz5_1 : w4.cell? ⟨gb1205,1,none⟩ = some (.slice A0_1 l0_1.length c0_1):=(blk_cell BK1205.out 1).trans rfl; have hfz5_0:=blk_frozen BK1205.out 0; have hfz5_1:=blk_frozen BK1205.out 1) | ((with_reducible refine gate_dst (N:=7) rfl ?_); refine Kd.S_make0 (Kd.slice 3 (Kd.int .i64)) _ 23 rfl (N:=7) rfl 26 _ _ rfl a0_0 (by first | rfl | (go_simp; done) | (go_simp; rfl)) (by first | rfl | (go_simp; done) | (go_simp; rfl)) Try.underlying26 (.slice none 0 0) 24 info23 rfl (by decide) (by omega) [] (ok:=fun _ => True) (okp:=fun _ => True) ⟨_,rfl,Kd.R_nil _ _ _ _ _⟩ (fun _ hk => hk) trivial (of_decide_eq_true (by first | (with_reducible assumption) | assumption)) (Nat.le_trans (Nat.mul_le_mul_right _ (of_decide_eq_true (by first | (with_reducible assumption) | assumption) : a0_0.toNat ≤ 11728124029610)) (by omega)) (Below.refl _ _) (Nat.le_refl _) ?_; intro v1207 w6 ho7 hb hg_ hnew_; clear hg_ hnew_; (first | rw [← Ny1206.out] at ho7 | (simp only [Int.reduceToNat] at ho7; rw [← Ny1206.out] at ho7)); have n0_:=zx (Kd.S_lower ho7 (below_size (by repeat (first | (with_reducible first | exact HB.out | apply below_alloc | apply pw_below_drewN | apply below_drew1 | refine below_set ?_ GE1205.out) | exact HB.out)))); have n1_:=zx (blk_below (g:=gb1205) (o:=.cells #[.int .i64 a0_0,.slice A0_1 l0_1.length c0_1] 34 (0,0)) (by (with_reducible repeat (first | refine blk_drewN ?_ _ | refine blk_drew ?_ | refine blk_alloc ?_ _)); exact BK1205.out) hb); have n2_:=zx (below_step (by repeat (first | (with_reducible first | exact HB.out | apply below_alloc | apply pw_below_drewN | apply below_drew1 | refine below_set ?_ GE1205.out) | exact HB.out)) hb); clear BK1205; clear HB; have HO1208:=n0_; have BK1205:=n1_; have HB:=n2_; clear n0_ n1_ n2_; clear hb ho7; have hcz8_0 : w6.cell? ⟨gb1205,0,none⟩ = some (.int .i64 a0_0):=(blk_cell BK1205.out 0).trans rfl; have hcz8_1 : w6.cell? ⟨gb1205,1,none⟩ = some (.slice A0_1 l0_1.length c0_1):=(blk_cell BK1205.out 1).trans rfl; have hfz8_0:=blk_frozen BK1205.out 0; have hfz8_1:=blk_frozen BK1205.out 1))
 go_loopg [3,10] k (fun kq v3 v10 w' => ∃ (x3_1 : List (List Int)) (x10_1 : Int),v10 = .int .i64 x10_1 ∧ Aside0 (impl_Net_table.l0 kq x3_1 a0_0 x10_1 a0_0 l0_1 = some r) ∧ Aside0 (kq ≤ k) ∧ Aside0 (Kd.S (Kd.slice 3 (Kd.int .i64)) 23 w' w.heap.size (fun _ => True) v3 x3_1) ∧ Aside0 (w'.heap[gb1205]? = some (.cells #[.int .i64 a0_0,(.slice A0_1 l0_1.length c0_1)] 34 (0,0))) ∧ Aside0 (Below w.heap.size w w'))
 case atStart => exact ⟨(y1206),(0),(by first | rfl | (simp; done) | (simp [*]; done)),H',⟨Nat.le_refl _⟩,⟨by (with_reducible repeat (first | apply Kd.S_alloc | apply Kd.S_drewN | apply Kd.S_drew)); exact HO1208.out⟩,⟨by (with_reducible repeat (first | refine blk_drewN ?_ _ | refine blk_drew ?_ | refine blk_alloc ?_ _)); exact BK1205.out⟩,⟨by repeat (first | (with_reducible first | exact HB.out | apply below_alloc | apply pw_below_drewN | apply below_drew1 | refine below_set ?_ GE1205.out) | exact HB.out)⟩⟩
 case round =>
  clear H'
  try clear c1
  try clear c2
  try clear c2b0
  try clear c2b1
  try clear p2
  try clear c3
  try clear c3b0
  try clear c3b1
  try clear hcz5_0
  try clear hcz5_1
  try clear hcz8_0
  try clear hcz8_1
  try clear hfz5_0
  try clear hfz5_1
  try clear hfz8_0
  try clear hfz8_1
  obtain ⟨x3_1,x10_1,rfl,HA,HK1,HO_3,BK1205,HB⟩:=hrel;cases gk with
  | zero => exact absurd HA.out (by simp [impl_Net_table.l0])
  | succ k1 =>
   have H:=HA.out;clear HA;simp only [impl_Net_table.l0] at H
   by_cases c9 : x10_1 < a0_0
   case neg =>
    rw [if_neg c9] at H;have c9b0 : decide (x10_1 < a0_0) = false:=decide_eq_false c9;clear c9;obtain rfl:=Option.some.inj H
    go_wp2
    go_ret;exact ⟨_,by first | rfl | (simp [errW_none,errW_some] <;> rfl) | (simp [*,errW_none,errW_some] <;> rfl),by (with_reducible repeat (first | apply Kd.S_alloc | apply Kd.S_drewN | apply Kd.S_drew)); exact HO_3.out,by repeat (first | (with_reducible first | exact HB.out | apply below_alloc | apply pw_below_drewN | apply below_drew1 | refine below_set ?_ GE1205.out) | exact HB.out)⟩
   rw [if_pos c9] at H;have c9b0 : decide (x10_1 < a0_0) = true:=decide_eq_true c9;clear c9;replace H:=Option.bind_eq_some_iff.mp H;obtain ⟨t1209,A100,H⟩:=H;replace H : (if x3_1.length < 5864062014805 then (impl_Net_table.l0 k1 (x3_1 ++ [t1209]) a0_0 (wrap64 (x10_1 + 1)) a0_0 l0_1) else (none)) = some r:=H;have A10:=zx A100;clear A100
   by_cases c11 : x3_1.length < 5864062014805
   case neg =>
    rw [if_neg c11] at H;exact absurd H (by simp)
   rw [if_pos c11] at H;have LMc11:=zx c11;clear c11;obtain ⟨y1212,hy1212⟩ : ∃ y_ : List (List Int),y_ = (x3_1 ++ [t1209]):=⟨_,rfl⟩
   replace H : (impl_Net_table.l0 k1 y1212 a0_0 (wrap64 (x10_1 + 1)) a0_0 l0_1) = some r:=by first | (rw [hy1212]; with_reducible exact H) | (have H2_:=(Option.bind_some _ _).symm.trans H; rw [hy1212]; with_reducible exact H2_) | (have H2_:=(Option.bind_some _ _).symm.trans H; with_reducible exact H2_) | with_reducible exact H | (rw [hy1212]; exact H) | exact H
   have Ny1212:=zx hy1212;clear hy1212;have H':=zx H;clear H;have hcz12_0 : wr.cell? ⟨gb1205,0,none⟩ = some (.int .i64 a0_0):=(blk_cell BK1205.out 0).trans rfl;have hcz12_1 : wr.cell? ⟨gb1205,1,none⟩ = some (.slice A0_1 l0_1.length c0_1):=(blk_cell BK1205.out 1).trans rfl;have hfz12_0:=blk_frozen BK1205.out 0;have hfz12_1:=blk_frozen BK1205.out 1
   go_wp2_with (first | ((with_reducible refine gate_callee (f:=111) rfl ?_); refine goesL_ (some 16) rfl rfl Try.func111 (by kernel_rfl) rfl #[.agg #[.int .i64 a0_0,.slice A0_1 l0_1.length c0_1],.int .i64 x10_1] rfl (by (try simp only [List.map_toArray,List.map_cons,List.map_nil]); first | done | rfl | (simp only [List.length_drop,List.length_take]; rfl)) ?_; (with_reducible refine (impl_Net_from.calls k1 a0_0 _ _ l0_1 x10_1 t1209 _ ?side1 ?side2 A10.out).mono ?_); (case side1 => repeat (first | exact (Kd.C_below HR0_1.out HB.out) | (with_reducible refine Kd.C_alloc ?_ _) | (with_reducible refine Kd.C_drewN ?_ _) | (with_reducible refine Kd.C_drew ?_))); (case side2 => exact HC0_1.out); rintro e w13 ⟨v1210,rfl,ho0,hb⟩; refine ⟨_,rfl,?_⟩; have n0_:=zx (Kd.S_elder' (by (with_reducible repeat (first | apply Kd.S_alloc | apply Kd.S_drewN | apply Kd.S_drew)); exact HO_3.out) (Kd.R_base ho0) hb); have n1_:=zx (Kd.R_lower ho0 (below_size (by repeat (first | (with_reducible first | exact HB.out | apply below_alloc | apply pw_below_drewN | apply below_drew1 | refine below_set ?_ GE1205.out) | exact HB.out)))); have n2_:=zx (blk_below (g:=gb1205) (o:=.cells #[.int .i64 a0_0,.slice A0_1 l0_1.length c0_1] 34 (0,0)) (by (with_reducible repeat (first | refine blk_drewN ?_ _ | refine blk_drew ?_ | refine blk_alloc ?_ _)); exact BK1205.out) hb); have n3_:=zx (below_step (by repeat (first | (with_reducible first | exact HB.out | apply below_alloc | apply pw_below_drewN | apply below_drew1 | refine below_set ?_ GE1205.out) | exact HB.out)) hb); clear HO_3; clear BK1205; clear HB; have HO_3:=n0_; have HO1211:=n1_; have BK1205:=n2_; have HB:=n3_; clear n0_ n1_ n2_ n3_; (try clear hb); (try clear hb2); (try clear hk); (try clear hi); (try clear ho0); obtain ⟨Ao15,co15,eo15⟩:=Kd.R_slice HO1211.out; subst eo15) | ((with_reducible refine gate_builtin (b:=.append) (xs:=#[.tmp 13,.tmp 17]) rfl ?_); at_builtin; refine Kd.S_append (Kd.slice 3 (Kd.int .i64)) (w0:=w) w.heap.size rfl (.tmp 13) (.tmp 17) 26 23 (.slice none 0 0) 24 rfl Try.underlying26 info23 rfl (by decide) (by omega) u3 x3_1 t1209 [.slice Ao15 t1209.length co15] (fun _ => True) (fun k_ => some k_ = (.slice Ao15 t1209.length co15 : Value).ownBlock) rfl rfl ?aP (fun k_ hk_ => ((Kd.R_mono (ok':=fun k_ => ((fun _ => True)) k_ ∧ some k_ ≠ (u3 : Value).ownBlock) (Kd.R_apart' (HO1211.out) (Kd.S_typed HO_3.out) (by decide)) (fun k_ hk => ⟨trivial,hk.2⟩))).1 k_ hk_.symm) ?aF ?aO ?aB ?aS ?aL ?_; (case aP => exact Kd.M_row (Kd.R_mono (Kd.R_tight rfl (Kd.R_mono (ok':=fun k_ => ((fun _ => True)) k_ ∧ some k_ ≠ (u3 : Value).ownBlock) (Kd.R_apart' (HO1211.out) (Kd.S_typed HO_3.out) (by decide)) (fun k_ hk => ⟨trivial,hk.2⟩))) (fun _ h_ => h_))); (case aB => exact (by repeat (first | (with_reducible first | exact HB.out | apply below_alloc | apply pw_below_drewN | apply below_drew1 | refine below_set ?_ GE1205.out) | exact HB.out))); (case aF => exact (fun _ _ => trivial)); (case aO => exact (by (with_reducible repeat (first | apply Kd.S_alloc | apply Kd.S_drewN | apply Kd.S_drew)); exact Kd.S_mono HO_3.out (fun k_ hk => ⟨trivial,fun e_ => hk.2 e_⟩))); (case aS => exact (below_size (by repeat (first | (with_reducible first | exact HB.out | apply below_alloc | apply pw_below_drewN | apply below_drew1 | refine below_set ?_ GE1205.out) | exact HB.out)))); (case aL => have:=LMc11.out; omega); intro v1213 w14 ho hb hg hat; rw [← Ny1212.out] at ho; have n0_:=zx (blk_grown (g:=gb1205) (o:=.cells #[.int .i64 a0_0,.slice A0_1 l0_1.length c0_1] 34 (0,0)) (by (with_reducible repeat (first | refine blk_drewN ?_ _ | refine blk_drew ?_ | refine blk_alloc ?_ _)); exact BK1205.out) hg (Kd.S_ne HO_3.out BK1205.out (by decide))); have n1_:=zx (hb); have n2_:=zx (ho); clear BK1205; clear HB; clear HO_3; clear HO1211; have BK1205:=n0_; have HB:=n1_; have HO1214:=n2_; clear n0_ n1_ n2_; clear ho hb hg hat))
   go_roundg k1
   case measure => have:=HK1.out; omega
   case rel => exact ⟨(y1212),(wrap64 (x10_1 + 1)),(by first | rfl | (simp; done) | (simp [*]; done)),H',⟨by have:=HK1.out; omega⟩,⟨by (with_reducible repeat (first | apply Kd.S_alloc | apply Kd.S_drewN | apply Kd.S_drew)); exact HO1214.out⟩,⟨by (with_reducible repeat (first | refine blk_drewN ?_ _ | refine blk_drew ?_ | refine blk_alloc ?_ _)); exact BK1205.out⟩,⟨by repeat (first | (with_reducible first | exact HB.out | apply below_alloc | apply pw_below_drewN | apply below_drew1 | refine below_set ?_ GE1205.out) | exact HB.out)⟩⟩
mutual
def impl_ReachParts.l0 : Nat → List (List Int) → List Int → Int → Int → Option (List Int)
 | 0,_,_,_,_ => none
 | k + 1,x3,x4,x16,x17 => if x17 < x16 then (impl_ReachParts.l1 k x3 x4 x17 0 x16 x17) else (some x4)
def impl_ReachParts.l1 : Nat → List (List Int) → List Int → Int → Int → Int → Int → Option (List Int)
 | 0,_,_,_,_,_,_ => none
 | k + 1,x3,x4,x5,x6,x16,x17 => if 0 ≤ x6 then (if x6 < (x3.length : Int) then (if 0 ≤ x5 then (if x5 < ((rd_L2 x3 x6).length : Int) then (if (rd (rd_L2 x3 x6) x5) = 99999 then (impl_ReachParts.l1 k x3 x4 x5 (wrap64 (x6 + 1)) x16 x17) else (if x5 < (x3.length : Int) then (if x6 < ((rd_L2 x3 x5).length : Int) then (if (rd (rd_L2 x3 x5) x6) = 99999 then (impl_ReachParts.l1 k x3 x4 x5 (wrap64 (x6 + 1)) x16 x17) else (if x4.length < 17592186044416 then (impl_ReachParts.l0 k x3 (x4 ++ [x6]) x16 (wrap64 (x17 + 1))) else (none))) else (none)) else (none))) else (none)) else (none)) else (none)) else (none)
end
def impl_ReachParts.f (k : Nat) (a0_0 : Int) (l0_1 : List (S58)) : Option (List Int):=(impl_NetOk.f a0_0 l0_1).bind fun t1216 => (if t1216 = true then ((impl_Net_table.f k a0_0 l0_1).bind fun t1217 => (if 0 ≤ a0_0 then (if (a0_0 : Int).toNat ≤ 35184372088832 then (impl_ReachParts.l0 k t1217 (([] : List Int)) a0_0 0) else (none)) else (none))) else (some ([] : List Int)))
set_option maxHeartbeats 8000000 in
set_option maxRecDepth 100000 in
theorem impl_ReachParts.calls (k : Nat) (a0_0 : Int) (A0_1 : Option Addr) (c0_1 : Nat) (l0_1 : List (S58)) (r : List Int) (w : World) (hr0_1 : Kd.C k58 w A0_1 l0_1.length l0_1) (hc0_1 : l0_1.length ≤ c0_1) (h : impl_ReachParts.f k a0_0 l0_1 = some r) :
  Calls Try.prog 58 #[.agg #[.int .i64 a0_0,.slice A0_1 l0_1.length c0_1]] w fun e w' => ∃ v0_ : Value,e = .returned (v0_) ∧ Kd.R (Kd.int .i64) 3 w' w.heap.size (fun _ => True) v0_ r ∧ Below w.heap.size w w':=by
 have hu34:=Try.underlying34;have HR0_1:=zx hr0_1;have HC0_1:=zx hc0_1;clear hr0_1 hc0_1;have HB:=zx (Below.refl w.heap.size w);have H : ((impl_NetOk.f a0_0 l0_1).bind fun t1216 => (if t1216 = true then ((impl_Net_table.f k a0_0 l0_1).bind fun t1217 => (if 0 ≤ a0_0 then (if (a0_0 : Int).toNat ≤ 35184372088832 then (impl_ReachParts.l0 k t1217 (([] : List Int)) a0_0 0) else (none)) else (none))) else (some ([] : List Int)))) = some r:=h;clear h;replace H:=Option.bind_eq_some_iff.mp H;obtain ⟨t1216,A20,H⟩:=H;replace H : (if t1216 = true then ((impl_Net_table.f k a0_0 l0_1).bind fun t1217 => (if 0 ≤ a0_0 then (if (a0_0 : Int).toNat ≤ 35184372088832 then (impl_ReachParts.l0 k t1217 (([] : List Int)) a0_0 0) else (none)) else (none))) else (some ([] : List Int))) = some r:=H;have A2:=zx A20;clear A20
 by_cases c3 : t1216 = true
 case neg =>
  replace c3:=Bool.eq_false_iff.mpr c3;subst c3;have H1 : (some ([] : List Int)) = some r:=by rw [if_neg (show ¬ (false = true) by decide)] at H; exact H
  clear H;have H:=H1;clear H1;obtain rfl:=Option.some.inj H
  go_enter Try.func58,Try.ntmps58
  go_wp2_with (first | ((with_reducible refine gate_dst (N:=1) rfl ?_); refine box_event ?hg (N:=1) ?hd (cs:=#[.int .i64 a0_0,.slice A0_1 l0_1.length c0_1]) (t:=34) ?hr ?_; (case hd => rfl); (case hg => rfl); (case hr => first | (go_simp; done) | (go_simp; rfl)); intro gb1215 hg w30 hbox hb; have n0_:=zx (below_step (by repeat (first | (with_reducible first | exact HB.out | apply below_alloc | apply pw_below_drewN | apply below_drew1) | exact HB.out)) hb); have n1_:=zx (hbox); have n2_:=zx ((by rw [hg]; exact (below_size (by repeat (first | (with_reducible first | exact HB.out | apply below_alloc | apply pw_below_drewN | apply below_drew1) | exact HB.out))) : w.heap.size ≤ gb1215)); have n3_:=zx ((by rw [hg]; exact (below_size (by repeat (first | (with_reducible first | exact HB.out | apply below_alloc | apply pw_below_drewN | apply below_drew1) | exact HB.out))) : w.heap.size ≤ gb1215)); clear HB; have HB:=n0_; have BK1215:=n1_; have GW1215:=n2_; have GE1215:=n3_; clear n0_ n1_ n2_ n3_; clear hb hbox hg; have hcz31_0 : w30.cell? ⟨gb1215,0,none⟩ = some (.int .i64 a0_0):=(blk_cell BK1215.out 0).trans rfl; have hcz31_1 : w30.cell? ⟨gb1215,1,none⟩ = some (.slice A0_1 l0_1.length c0_1):=(blk_cell BK1215.out 1).trans rfl; have hfz31_0:=blk_frozen BK1215.out 0; have hfz31_1:=blk_frozen BK1215.out 1) | ((with_reducible refine gate_callee (f:=51) rfl ?_); refine goesL_ (some 8) rfl rfl Try.func51 (by kernel_rfl) rfl #[.agg #[.int .i64 a0_0,.slice A0_1 l0_1.length c0_1]] rfl (by (try simp only [List.map_toArray,List.map_cons,List.map_nil]); first | done | rfl | (simp only [List.length_drop,List.length_take]; rfl)) ?_; (with_reducible refine (impl_NetOk.calls a0_0 _ _ l0_1 false _ ?side1 ?side2 A2.out).mono ?_); (case side1 => repeat (first | exact (Kd.C_below HR0_1.out HB.out) | (with_reducible refine Kd.C_alloc ?_ _) | (with_reducible refine Kd.C_drewN ?_ _) | (with_reducible refine Kd.C_drew ?_))); (case side2 => exact HC0_1.out); rintro e w32 ⟨rfl,hb⟩; refine ⟨_,rfl,?_⟩; have n0_:=zx (blk_below (g:=gb1215) (o:=.cells #[.int .i64 a0_0,.slice A0_1 l0_1.length c0_1] 34 (0,0)) (by (with_reducible repeat (first | refine blk_drewN ?_ _ | refine blk_drew ?_ | refine blk_alloc ?_ _)); exact BK1215.out) hb); have n1_:=zx (below_step (by repeat (first | (with_reducible first | exact HB.out | apply below_alloc | apply pw_below_drewN | apply below_drew1 | refine below_set ?_ GE1215.out) | exact HB.out)) hb); clear BK1215; clear HB; have BK1215:=n0_; have HB:=n1_; clear n0_ n1_; (try clear hb); (try clear hb2); (try clear hk); (try clear hi)))
  go_ret;exact ⟨_,by first | rfl | (simp [errW_none,errW_some] <;> rfl) | (simp [*,errW_none,errW_some] <;> rfl),by first | exact Kd.R_nil _ _ _ _ _ | exact Kd.N_nil _ _ _ _ _ | exact Kd.V_nil _ _ _ _ _ | exact Kd.Q_nil _ _ _ _ _ | exact Kd.S_nil _ _ _ _ _,by repeat (first | (with_reducible first | exact HB.out | apply below_alloc | apply pw_below_drewN | apply below_drew1 | refine below_set ?_ GE1215.out) | exact HB.out)⟩
 subst c3;have H1 : ((impl_Net_table.f k a0_0 l0_1).bind fun t1217 => (if 0 ≤ a0_0 then (if (a0_0 : Int).toNat ≤ 35184372088832 then (impl_ReachParts.l0 k t1217 (([] : List Int)) a0_0 0) else (none)) else (none))) = some r:=by rw [if_pos rfl] at H; exact H
 clear H;have H:=H1;clear H1;replace H:=Option.bind_eq_some_iff.mp H;obtain ⟨t1217,A40,H⟩:=H;replace H : (if 0 ≤ a0_0 then (if (a0_0 : Int).toNat ≤ 35184372088832 then (impl_ReachParts.l0 k t1217 (([] : List Int)) a0_0 0) else (none)) else (none)) = some r:=H;have A4:=zx A40;clear A40
 by_cases c5 : 0 ≤ a0_0
 case neg =>
  rw [if_neg c5] at H;exact absurd H (by simp)
 rw [if_pos c5] at H;have c5b0:=eq_true c5;have c5b1 : decide (0 ≤ a0_0) = true:=decide_eq_true c5;clear c5
 by_cases c6 : (a0_0 : Int).toNat ≤ 35184372088832
 case neg =>
  rw [if_neg c6] at H;exact absurd H (by simp)
 rw [if_pos c6] at H;have c6b0:=eq_true c6;have c6b1 : decide ((a0_0 : Int).toNat ≤ 35184372088832) = true:=decide_eq_true c6;clear c6;obtain ⟨y1220,hy1220⟩ : ∃ y_ : List Int,y_ = (([] : List Int)):=⟨_,rfl⟩
 replace H : (impl_ReachParts.l0 k t1217 y1220 a0_0 0) = some r:=by first | (rw [hy1220]; with_reducible exact H) | (have H2_:=(Option.bind_some _ _).symm.trans H; rw [hy1220]; with_reducible exact H2_) | (have H2_:=(Option.bind_some _ _).symm.trans H; with_reducible exact H2_) | with_reducible exact H | (rw [hy1220]; exact H) | exact H
 have Ny1220:=zx hy1220;clear hy1220;have H':=zx H;clear H
 go_enter Try.func58,Try.ntmps58
 go_wp2_with (first | ((with_reducible refine gate_dst (N:=1) rfl ?_); refine box_event ?hg (N:=1) ?hd (cs:=#[.int .i64 a0_0,.slice A0_1 l0_1.length c0_1]) (t:=34) ?hr ?_; (case hd => rfl); (case hg => rfl); (case hr => first | (go_simp; done) | (go_simp; rfl)); intro gb1215 hg w7 hbox hb; have n0_:=zx (below_step (by repeat (first | (with_reducible first | exact HB.out | apply below_alloc | apply pw_below_drewN | apply below_drew1) | exact HB.out)) hb); have n1_:=zx (hbox); have n2_:=zx ((by rw [hg]; exact (below_size (by repeat (first | (with_reducible first | exact HB.out | apply below_alloc | apply pw_below_drewN | apply below_drew1) | exact HB.out))) : w.heap.size ≤ gb1215)); have n3_:=zx ((by rw [hg]; exact (below_size (by repeat (first | (with_reducible first | exact HB.out | apply below_alloc | apply pw_below_drewN | apply below_drew1) | exact HB.out))) : w.heap.size ≤ gb1215)); clear HB; have HB:=n0_; have BK1215:=n1_; have GW1215:=n2_; have GE1215:=n3_; clear n0_ n1_ n2_ n3_; clear hb hbox hg; have hcz8_0 : w7.cell? ⟨gb1215,0,none⟩ = some (.int .i64 a0_0):=(blk_cell BK1215.out 0).trans rfl; have hcz8_1 : w7.cell? ⟨gb1215,1,none⟩ = some (.slice A0_1 l0_1.length c0_1):=(blk_cell BK1215.out 1).trans rfl; have hfz8_0:=blk_frozen BK1215.out 0; have hfz8_1:=blk_frozen BK1215.out 1) | ((with_reducible refine gate_callee (f:=51) rfl ?_); refine goesL_ (some 8) rfl rfl Try.func51 (by kernel_rfl) rfl #[.agg #[.int .i64 a0_0,.slice A0_1 l0_1.length c0_1]] rfl (by (try simp only [List.map_toArray,List.map_cons,List.map_nil]); first | done | rfl | (simp only [List.length_drop,List.length_take]; rfl)) ?_; (with_reducible refine (impl_NetOk.calls a0_0 _ _ l0_1 true _ ?side1 ?side2 A2.out).mono ?_); (case side1 => repeat (first | exact (Kd.C_below HR0_1.out HB.out) | (with_reducible refine Kd.C_alloc ?_ _) | (with_reducible refine Kd.C_drewN ?_ _) | (with_reducible refine Kd.C_drew ?_))); (case side2 => exact HC0_1.out); rintro e w9 ⟨rfl,hb⟩; refine ⟨_,rfl,?_⟩; have n0_:=zx (blk_below (g:=gb1215) (o:=.cells #[.int .i64 a0_0,.slice A0_1 l0_1.length c0_1] 34 (0,0)) (by (with_reducible repeat (first | refine blk_drewN ?_ _ | refine blk_drew ?_ | refine blk_alloc ?_ _)); exact BK1215.out) hb); have n1_:=zx (below_step (by repeat (first | (with_reducible first | exact HB.out | apply below_alloc | apply pw_below_drewN | apply below_drew1 | refine below_set ?_ GE1215.out) | exact HB.out)) hb); clear BK1215; clear HB; have BK1215:=n0_; have HB:=n1_; clear n0_ n1_; (try clear hb); (try clear hb2); (try clear hk); (try clear hi); have hcz10_0 : w9.cell? ⟨gb1215,0,none⟩ = some (.int .i64 a0_0):=(blk_cell BK1215.out 0).trans rfl; have hcz10_1 : w9.cell? ⟨gb1215,1,none⟩ = some (.slice A0_1 l0_1.length c0_1):=(blk_cell BK1215.out 1).trans rfl; have hfz10_0:=blk_frozen BK1215.out 0; have hfz10_1:=blk_frozen BK1215.out 1) | ((with_reducible refine gate_callee (f:=113) rfl ?_); refine goesL_ (some 11) rfl rfl Try.func113 (by kernel_rfl) rfl #[.agg #[.int .i64 a0_0,.slice A0_1 l0_1.length c0_1]] rfl (by (try simp only [List.map_toArray,List.map_cons,List.map_nil]); first | done | rfl | (simp only [List.length_drop,List.length_take]; rfl)) ?_; (with_reducible refine (impl_Net_table.calls k a0_0 _ _ l0_1 t1217 _ ?side1 ?side2 A4.out).mono ?_); (case side1 => repeat (first | exact (Kd.C_below HR0_1.out HB.out) | (with_reducible refine Kd.C_alloc ?_ _) | (with_reducible refine Kd.C_drewN ?_ _) | (with_reducible refine Kd.C_drew ?_))); (case side2 => exact HC0_1.out); rintro e w11 ⟨v1218,rfl,ho0,hb⟩; refine ⟨_,rfl,?_⟩; have n0_:=zx (Kd.S_lower ho0 (below_size (by repeat (first | (with_reducible first | exact HB.out | apply below_alloc | apply pw_below_drewN | apply below_drew1 | refine below_set ?_ GE1215.out) | exact HB.out)))); have n1_:=zx (blk_below (g:=gb1215) (o:=.cells #[.int .i64 a0_0,.slice A0_1 l0_1.length c0_1] 34 (0,0)) (by (with_reducible repeat (first | refine blk_drewN ?_ _ | refine blk_drew ?_ | refine blk_alloc ?_ _)); exact BK1215.out) hb); have n2_:=zx (below_step (by repeat (first | (with_reducible first | exact HB.out | apply below_alloc | apply pw_below_drewN | apply below_drew1 | refine below_set ?_ GE1215.out) | exact HB.out)) hb); clear BK1215; clear HB; have HO1219:=n0_; have BK1215:=n1_; have HB:=n2_; clear n0_ n1_ n2_; (try clear hb); (try clear hb2); (try clear hk); (try clear hi); (try clear ho0); have hcz12_0 : w11.cell? ⟨gb1215,0,none⟩ = some (.int .i64 a0_0):=(blk_cell BK1215.out 0).trans rfl; have hcz12_1 : w11.cell? ⟨gb1215,1,none⟩ = some (.slice A0_1 l0_1.length c0_1):=(blk_cell BK1215.out 1).trans rfl; have hfz12_0:=blk_frozen BK1215.out 0; have hfz12_1:=blk_frozen BK1215.out 1) | ((with_reducible refine gate_dst (N:=14) rfl ?_); refine Kd.R_make0 (Kd.int .i64) _ 3 rfl (N:=14) rfl 23 _ _ rfl a0_0 (by first | rfl | (go_simp; done) | (go_simp; rfl)) (by first | rfl | (go_simp; done) | (go_simp; rfl)) Try.underlying23 (.int .i64 0) 8 info3 rfl (by decide) (by omega) 0 (ok:=fun _ => True) (okp:=fun _ => True) rfl (fun _ hk => hk) trivial (of_decide_eq_true (by first | (with_reducible assumption) | assumption)) (Nat.le_trans (Nat.mul_le_mul_right _ (of_decide_eq_true (by first | (with_reducible assumption) | assumption) : a0_0.toNat ≤ 35184372088832)) (by omega)) (Below.refl _ _) (Nat.le_refl _) ?_; intro v1221 w13 ho14 hb hg_ hnew_; clear hg_ hnew_; (first | rw [← Ny1220.out] at ho14 | (simp only [Int.reduceToNat] at ho14; rw [← Ny1220.out] at ho14)); have n0_:=zx (Kd.S_elder' (by (with_reducible repeat (first | apply Kd.S_alloc | apply Kd.S_drewN | apply Kd.S_drew)); exact HO1219.out) (Kd.R_base ho14) hb); have n1_:=zx (Kd.R_lower ho14 (below_size (by repeat (first | (with_reducible first | exact HB.out | apply below_alloc | apply pw_below_drewN | apply below_drew1 | refine below_set ?_ GE1215.out) | exact HB.out)))); have n2_:=zx (blk_below (g:=gb1215) (o:=.cells #[.int .i64 a0_0,.slice A0_1 l0_1.length c0_1] 34 (0,0)) (by (with_reducible repeat (first | refine blk_drewN ?_ _ | refine blk_drew ?_ | refine blk_alloc ?_ _)); exact BK1215.out) hb); have n3_:=zx (below_step (by repeat (first | (with_reducible first | exact HB.out | apply below_alloc | apply pw_below_drewN | apply below_drew1 | refine below_set ?_ GE1215.out) | exact HB.out)) hb); clear HO1219; clear BK1215; clear HB; have HO1219:=n0_; have HO1222:=n1_; have BK1215:=n2_; have HB:=n3_; clear n0_ n1_ n2_ n3_; clear hb ho14; have hcz15_0 : w13.cell? ⟨gb1215,0,none⟩ = some (.int .i64 a0_0):=(blk_cell BK1215.out 0).trans rfl; have hcz15_1 : w13.cell? ⟨gb1215,1,none⟩ = some (.slice A0_1 l0_1.length c0_1):=(blk_cell BK1215.out 1).trans rfl; have hfz15_0:=blk_frozen BK1215.out 0; have hfz15_1:=blk_frozen BK1215.out 1))
 go_loopg [4,17] k (fun kq v4 v17 w' => ∃ (x4_1 : List Int) (x17_1 : Int),v17 = .int .i64 x17_1 ∧ Aside0 (impl_ReachParts.l0 kq t1217 x4_1 a0_0 x17_1 = some r) ∧ Aside0 (kq ≤ k) ∧ Aside0 (Kd.S (Kd.slice 3 (Kd.int .i64)) 23 w' w.heap.size (fun k_ => some k_ ≠ (v4 : Value).ownBlock) v1218 t1217) ∧ Aside0 (Kd.R (Kd.int .i64) 3 w' w.heap.size (fun _ => True) v4 x4_1) ∧ Aside0 (w'.heap[gb1215]? = some (.cells #[.int .i64 a0_0,(.slice A0_1 l0_1.length c0_1)] 34 (0,0))) ∧ Aside0 (Below w.heap.size w w'))
 case atStart => exact ⟨(y1220),(0),(by first | rfl | (simp; done) | (simp [*]; done)),H',⟨Nat.le_refl _⟩,⟨by (with_reducible repeat (first | apply Kd.S_alloc | apply Kd.S_drewN | apply Kd.S_drew)); exact Kd.S_mono HO1219.out (fun _ hk => hk.2)⟩,⟨by (with_reducible repeat (first | apply Kd.R_alloc | apply Kd.R_drewN | apply Kd.R_drew)); exact HO1222.out⟩,⟨by (with_reducible repeat (first | refine blk_drewN ?_ _ | refine blk_drew ?_ | refine blk_alloc ?_ _)); exact BK1215.out⟩,⟨by repeat (first | (with_reducible first | exact HB.out | apply below_alloc | apply pw_below_drewN | apply below_drew1 | refine below_set ?_ GE1215.out) | exact HB.out)⟩⟩
 case round =>
  clear H'
  try clear c1
  try clear p2
  try clear c3
  try clear c5
  try clear c5b0
  try clear c5b1
  try clear c6
  try clear c6b0
  try clear c6b1
  try clear c11
  try clear hcz10_0
  try clear hcz10_1
  try clear hcz12_0
  try clear hcz12_1
  try clear hcz15_0
  try clear hcz15_1
  try clear hcz8_0
  try clear hcz8_1
  try clear hfz10_0
  try clear hfz10_1
  try clear hfz12_0
  try clear hfz12_1
  try clear hfz15_0
  try clear hfz15_1
  try clear hfz8_0
  try clear hfz8_1
  obtain ⟨x4_1,x17_1,rfl,HA,HK1,HO_3,HO_4,BK1215,HB⟩:=hrel;cases gk with
  | zero => exact absurd HA.out (by simp [impl_ReachParts.l0])
  | succ k1 =>
   have H:=HA.out;clear HA;simp only [impl_ReachParts.l0] at H
   by_cases c16 : x17_1 < a0_0
   case neg =>
    rw [if_neg c16] at H;have c16b0 : decide (x17_1 < a0_0) = false:=decide_eq_false c16;clear c16;obtain rfl:=Option.some.inj H
    go_wp2
    go_ret;exact ⟨_,by first | rfl | (simp [errW_none,errW_some] <;> rfl) | (simp [*,errW_none,errW_some] <;> rfl),by (with_reducible repeat (first | apply Kd.R_alloc | apply Kd.R_drewN | apply Kd.R_drew)); exact HO_4.out,by repeat (first | (with_reducible first | exact HB.out | apply below_alloc | apply pw_below_drewN | apply below_drew1 | refine below_set ?_ GE1215.out) | exact HB.out)⟩
   rw [if_pos c16] at H;have c16b0 : decide (x17_1 < a0_0) = true:=decide_eq_true c16;clear c16;have H':=zx H;clear H
   go_wp2
   go_loopg [6] k1 (fun kq v6 w' => ∃ (x6_2 : Int),v6 = .int .i64 x6_2 ∧ Aside0 (impl_ReachParts.l1 kq t1217 x4_1 x17_1 x6_2 a0_0 x17_1 = some r) ∧ Aside0 (kq ≤ k1) ∧ Aside0 (Kd.S (Kd.slice 3 (Kd.int .i64)) 23 w' w.heap.size (fun k_ => some k_ ≠ (u4 : Value).ownBlock) v1218 t1217) ∧ Aside0 (Kd.R (Kd.int .i64) 3 w' w.heap.size (fun _ => True) u4 x4_1) ∧ Aside0 (w'.heap[gb1215]? = some (.cells #[.int .i64 a0_0,(.slice A0_1 l0_1.length c0_1)] 34 (0,0))) ∧ Aside0 (Below w.heap.size w w'))
   case atStart => exact ⟨(0),(by first | rfl | (simp; done) | (simp [*]; done)),H',⟨Nat.le_refl _⟩,⟨by (with_reducible repeat (first | apply Kd.S_alloc | apply Kd.S_drewN | apply Kd.S_drew)); exact HO_3.out⟩,⟨by (with_reducible repeat (first | apply Kd.R_alloc | apply Kd.R_drewN | apply Kd.R_drew)); exact HO_4.out⟩,⟨by (with_reducible repeat (first | refine blk_drewN ?_ _ | refine blk_drew ?_ | refine blk_alloc ?_ _)); exact BK1215.out⟩,⟨by repeat (first | (with_reducible first | exact HB.out | apply below_alloc | apply pw_below_drewN | apply below_drew1 | refine below_set ?_ GE1215.out) | exact HB.out)⟩⟩
   case round =>
    clear H'
    try clear c1
    try clear p2
    try clear c3
    try clear c5
    try clear c5b0
    try clear c5b1
    try clear c6
    try clear c6b0
    try clear c6b1
    try clear c11
    try clear c16
    try clear c16b0
    try clear hcz10_0
    try clear hcz10_1
    try clear hcz12_0
    try clear hcz12_1
    try clear hcz15_0
    try clear hcz15_1
    try clear hcz8_0
    try clear hcz8_1
    try clear hfz10_0
    try clear hfz10_1
    try clear hfz12_0
    try clear hfz12_1
    try clear hfz15_0
    try clear hfz15_1
    try clear hfz8_0
    try clear hfz8_1
    try clear p2
    obtain ⟨x6_2,rfl,HA,HK2,HO_3,HO_4,BK1215,HB⟩:=hrel;cases gk with
    | zero => exact absurd HA.out (by simp [impl_ReachParts.l1])
    | succ k2 =>
     have H:=HA.out;clear HA;simp only [impl_ReachParts.l1] at H
     by_cases c17 : 0 ≤ x6_2
     case neg =>
      rw [if_neg c17] at H;exact absurd H (by simp)
     rw [if_pos c17] at H;have c17b0 : decide (0 ≤ x6_2) = true:=decide_eq_true c17;clear c17
     by_cases c18 : x6_2 < (t1217.length : Int)
     case neg =>
      rw [if_neg c18] at H;exact absurd H (by simp)
     rw [if_pos c18] at H;have c18b0 : decide (x6_2 < (t1217.length : Int)) = true:=decide_eq_true c18;clear c18
     by_cases c19 : 0 ≤ x17_1
     case neg =>
      rw [if_neg c19] at H;exact absurd H (by simp)
     rw [if_pos c19] at H;have c19b0 : decide (0 ≤ x17_1) = true:=decide_eq_true c19;clear c19
     by_cases c20 : x17_1 < ((rd_L2 t1217 x6_2).length : Int)
     case neg =>
      rw [if_neg c20] at H;exact absurd H (by simp)
     rw [if_pos c20] at H;have c20b0 : decide (x17_1 < ((rd_L2 t1217 x6_2).length : Int)) = true:=decide_eq_true c20;clear c20
     by_cases c21 : (rd (rd_L2 t1217 x6_2) x17_1) = 99999
     case pos =>
      rw [if_pos c21] at H;have c21b0 : ((rd (rd_L2 t1217 x6_2) x17_1) == 99999) = true:=beq_iff_eq.mpr c21;have c21b1 : ((rd (rd_L2 t1217 x6_2) x17_1) != 99999) = false:=bne_eq_false_iff_eq.mpr c21;clear c21;have H':=zx H;clear H;obtain ⟨Ao22,co22,eo22⟩:=Kd.S_slice HO_3.out;subst eo22;have p1223 : 0 ≤ (x6_2 : Int):=of_decide_eq_true (by first | (with_reducible assumption) | assumption);have q1223 : x6_2 < (t1217.length : Int):=of_decide_eq_true (by first | (with_reducible assumption) | assumption);obtain ⟨ad1223,A1223_0,c1223_0,e1223,hx1223_0,hl1223_0,hi1223_0⟩:=at_L2 (Kd.S_reads' HO_3.out).2.2 x6_2 p1223 q1223;cases e1223;obtain ⟨ce1223,hce1223,hMe1223,hcc1223⟩:=Kd.S_get HO_3.out [] x6_2 p1223 (by first | exact q1223 | exact of_decide_eq_true (by first | (with_reducible assumption) | assumption) | (have e_:=(Kd.S_reads' HO_3.out).1; omega));obtain ⟨ve1223_0,rfl,ge1223_0⟩:=hMe1223;have hv1223_0:=hcc1223 0 _ rfl;rw [Nat.add_zero,show ((Kd.slice 3 (Kd.int .i64))).sz = 1 from rfl,Nat.mul_one] at hv1223_0;replace hv1223_0:=Option.some.inj (hv1223_0.symm.trans hx1223_0);rw [hv1223_0] at ge1223_0;have HL1223_0:=zx (show Kd.R (Kd.int .i64) 3 _ _ _ _ (rd_L2 t1217 x6_2) from ge1223_0);clear hv1223_0 ge1223_0;clear hcc1223 hce1223;have HR1223_0:=zx hi1223_0;have HC1223_0:=zx hl1223_0;clear hi1223_0 hl1223_0;replace p1223:=eq_true p1223;replace q1223:=eq_true q1223;have p1224 : 0 ≤ (x17_1 : Int):=of_decide_eq_true (by first | (with_reducible assumption) | assumption);have q1224 : x17_1 < ((rd_L2 t1217 x6_2).length : Int):=of_decide_eq_true (by first | (with_reducible assumption) | assumption);obtain ⟨ad1224,e1224,hx1224_0⟩:=Kd.at_int (by repeat (first | (with_reducible exact HR1223_0.out) | (with_reducible refine Kd.C_alloc ?_ _) | (with_reducible refine Kd.C_drewN ?_ _) | (with_reducible refine Kd.C_drew ?_) | exact HR1223_0.out)) x17_1 p1224 q1224;cases e1224;replace p1224:=eq_true p1224;replace q1224:=eq_true q1224
      go_wp2
      go_roundg k2
      case measure => have:=HK1.out; have:=HK2.out; omega
      case rel => exact ⟨(wrap64 (x6_2 + 1)),(by first | rfl | (simp; done) | (simp [*]; done)),H',⟨by have:=HK1.out; have:=HK2.out; omega⟩,⟨by (with_reducible repeat (first | apply Kd.S_alloc | apply Kd.S_drewN | apply Kd.S_drew)); exact HO_3.out⟩,⟨by (with_reducible repeat (first | apply Kd.R_alloc | apply Kd.R_drewN | apply Kd.R_drew)); exact HO_4.out⟩,⟨by (with_reducible repeat (first | refine blk_drewN ?_ _ | refine blk_drew ?_ | refine blk_alloc ?_ _)); exact BK1215.out⟩,⟨by repeat (first | (with_reducible first | exact HB.out | apply below_alloc | apply pw_below_drewN | apply below_drew1 | refine below_set ?_ GE1215.out) | exact HB.out)⟩⟩
     rw [if_neg c21] at H;have c21b0 : ((rd (rd_L2 t1217 x6_2) x17_1) == 99999) = false:=beq_eq_false_iff_ne.mpr c21;have c21b1 : ((rd (rd_L2 t1217 x6_2) x17_1) != 99999) = true:=bne_iff_ne.mpr c21
     by_cases c23 : x17_1 < (t1217.length : Int)
     case neg =>
      rw [if_neg c23] at H;exact absurd H (by simp)
     rw [if_pos c23] at H;have c23b0 : decide (x17_1 < (t1217.length : Int)) = true:=decide_eq_true c23;clear c23
     by_cases c24 : x6_2 < ((rd_L2 t1217 x17_1).length : Int)
     case neg =>
      rw [if_neg c24] at H;exact absurd H (by simp)
     rw [if_pos c24] at H;have c24b0 : decide (x6_2 < ((rd_L2 t1217 x17_1).length : Int)) = true:=decide_eq_true c24;clear c24
     by_cases c25 : (rd (rd_L2 t1217 x17_1) x6_2) = 99999
     case pos =>
      rw [if_pos c25] at H;have c25b0 : ((rd (rd_L2 t1217 x17_1) x6_2) == 99999) = true:=beq_iff_eq.mpr c25;have c25b1 : ((rd (rd_L2 t1217 x17_1) x6_2) != 99999) = false:=bne_eq_false_iff_eq.mpr c25;clear c25;have H':=zx H;clear H;obtain ⟨Ao26,co26,eo26⟩:=Kd.S_slice HO_3.out;subst eo26;have p1223 : 0 ≤ (x6_2 : Int):=of_decide_eq_true (by first | (with_reducible assumption) | assumption);have q1223 : x6_2 < (t1217.length : Int):=of_decide_eq_true (by first | (with_reducible assumption) | assumption);obtain ⟨ad1223,A1223_0,c1223_0,e1223,hx1223_0,hl1223_0,hi1223_0⟩:=at_L2 (Kd.S_reads' HO_3.out).2.2 x6_2 p1223 q1223;cases e1223;obtain ⟨ce1223,hce1223,hMe1223,hcc1223⟩:=Kd.S_get HO_3.out [] x6_2 p1223 (by first | exact q1223 | exact of_decide_eq_true (by first | (with_reducible assumption) | assumption) | (have e_:=(Kd.S_reads' HO_3.out).1; omega));obtain ⟨ve1223_0,rfl,ge1223_0⟩:=hMe1223;have hv1223_0:=hcc1223 0 _ rfl;rw [Nat.add_zero,show ((Kd.slice 3 (Kd.int .i64))).sz = 1 from rfl,Nat.mul_one] at hv1223_0;replace hv1223_0:=Option.some.inj (hv1223_0.symm.trans hx1223_0);rw [hv1223_0] at ge1223_0;have HL1223_0:=zx (show Kd.R (Kd.int .i64) 3 _ _ _ _ (rd_L2 t1217 x6_2) from ge1223_0);clear hv1223_0 ge1223_0;clear hcc1223 hce1223;have HR1223_0:=zx hi1223_0;have HC1223_0:=zx hl1223_0;clear hi1223_0 hl1223_0;replace p1223:=eq_true p1223;replace q1223:=eq_true q1223;have p1224 : 0 ≤ (x17_1 : Int):=of_decide_eq_true (by first | (with_reducible assumption) | assumption);have q1224 : x17_1 < ((rd_L2 t1217 x6_2).length : Int):=of_decide_eq_true (by first | (with_reducible assumption) | assumption);obtain ⟨ad1224,e1224,hx1224_0⟩:=Kd.at_int (by repeat (first | (with_reducible exact HR1223_0.out) | (with_reducible refine Kd.C_alloc ?_ _) | (with_reducible refine Kd.C_drewN ?_ _) | (with_reducible refine Kd.C_drew ?_) | exact HR1223_0.out)) x17_1 p1224 q1224;cases e1224;replace p1224:=eq_true p1224;replace q1224:=eq_true q1224;have p1225 : 0 ≤ (x17_1 : Int):=of_decide_eq_true (by first | (with_reducible assumption) | assumption);have q1225 : x17_1 < (t1217.length : Int):=of_decide_eq_true (by first | (with_reducible assumption) | assumption);obtain ⟨ad1225,A1225_0,c1225_0,e1225,hx1225_0,hl1225_0,hi1225_0⟩:=at_L2 (Kd.S_reads' HO_3.out).2.2 x17_1 p1225 q1225;obtain rfl : ad1223 = ad1225:=(by injection e1225)
      obtain ⟨ce1225,hce1225,hMe1225,hcc1225⟩:=Kd.S_get HO_3.out [] x17_1 p1225 (by first | exact q1225 | exact of_decide_eq_true (by first | (with_reducible assumption) | assumption) | (have e_:=(Kd.S_reads' HO_3.out).1; omega));obtain ⟨ve1225_0,rfl,ge1225_0⟩:=hMe1225;have hv1225_0:=hcc1225 0 _ rfl;rw [Nat.add_zero,show ((Kd.slice 3 (Kd.int .i64))).sz = 1 from rfl,Nat.mul_one] at hv1225_0;replace hv1225_0:=Option.some.inj (hv1225_0.symm.trans hx1225_0);rw [hv1225_0] at ge1225_0;have HL1225_0:=zx (show Kd.R (Kd.int .i64) 3 _ _ _ _ (rd_L2 t1217 x17_1) from ge1225_0);clear hv1225_0 ge1225_0;clear hcc1225 hce1225;have HR1225_0:=zx hi1225_0;have HC1225_0:=zx hl1225_0;clear hi1225_0 hl1225_0;replace p1225:=eq_true p1225;replace q1225:=eq_true q1225;have p1226 : 0 ≤ (x6_2 : Int):=of_decide_eq_true (by first | (with_reducible assumption) | assumption);have q1226 : x6_2 < ((rd_L2 t1217 x17_1).length : Int):=of_decide_eq_true (by first | (with_reducible assumption) | assumption);obtain ⟨ad1226,e1226,hx1226_0⟩:=Kd.at_int (by repeat (first | (with_reducible exact HR1225_0.out) | (with_reducible refine Kd.C_alloc ?_ _) | (with_reducible refine Kd.C_drewN ?_ _) | (with_reducible refine Kd.C_drew ?_) | exact HR1225_0.out)) x6_2 p1226 q1226;cases e1226;replace p1226:=eq_true p1226;replace q1226:=eq_true q1226
      go_wp2
      go_roundg k2
      case measure => have:=HK1.out; have:=HK2.out; omega
      case rel => exact ⟨(wrap64 (x6_2 + 1)),(by first | rfl | (simp; done) | (simp [*]; done)),H',⟨by have:=HK1.out; have:=HK2.out; omega⟩,⟨by (with_reducible repeat (first | apply Kd.S_alloc | apply Kd.S_drewN | apply Kd.S_drew)); exact HO_3.out⟩,⟨by (with_reducible repeat (first | apply Kd.R_alloc | apply Kd.R_drewN | apply Kd.R_drew)); exact HO_4.out⟩,⟨by (with_reducible repeat (first | refine blk_drewN ?_ _ | refine blk_drew ?_ | refine blk_alloc ?_ _)); exact BK1215.out⟩,⟨by repeat (first | (with_reducible first | exact HB.out | apply below_alloc | apply pw_below_drewN | apply below_drew1 | refine below_set ?_ GE1215.out) | exact HB.out)⟩⟩
     rw [if_neg c25] at H;have c25b0 : ((rd (rd_L2 t1217 x17_1) x6_2) == 99999) = false:=beq_eq_false_iff_ne.mpr c25;have c25b1 : ((rd (rd_L2 t1217 x17_1) x6_2) != 99999) = true:=bne_iff_ne.mpr c25
     by_cases c27 : x4_1.length < 17592186044416
     case neg =>
      rw [if_neg c27] at H;exact absurd H (by simp)
     rw [if_pos c27] at H;have LMc27:=zx c27;clear c27;obtain ⟨y1227,hy1227⟩ : ∃ y_ : List Int,y_ = (x4_1 ++ [x6_2]):=⟨_,rfl⟩
     replace H : (impl_ReachParts.l0 k2 t1217 y1227 a0_0 (wrap64 (x17_1 + 1))) = some r:=by first | (rw [hy1227]; with_reducible exact H) | (have H2_:=(Option.bind_some _ _).symm.trans H; rw [hy1227]; with_reducible exact H2_) | (have H2_:=(Option.bind_some _ _).symm.trans H; with_reducible exact H2_) | with_reducible exact H | (rw [hy1227]; exact H) | exact H
     have Ny1227:=zx hy1227;clear hy1227;have H':=zx H;clear H;obtain ⟨Ao28,co28,eo28⟩:=Kd.S_slice HO_3.out;subst eo28;have p1223 : 0 ≤ (x6_2 : Int):=of_decide_eq_true (by first | (with_reducible assumption) | assumption);have q1223 : x6_2 < (t1217.length : Int):=of_decide_eq_true (by first | (with_reducible assumption) | assumption);obtain ⟨ad1223,A1223_0,c1223_0,e1223,hx1223_0,hl1223_0,hi1223_0⟩:=at_L2 (Kd.S_reads' HO_3.out).2.2 x6_2 p1223 q1223;cases e1223;obtain ⟨ce1223,hce1223,hMe1223,hcc1223⟩:=Kd.S_get HO_3.out [] x6_2 p1223 (by first | exact q1223 | exact of_decide_eq_true (by first | (with_reducible assumption) | assumption) | (have e_:=(Kd.S_reads' HO_3.out).1; omega));obtain ⟨ve1223_0,rfl,ge1223_0⟩:=hMe1223;have hv1223_0:=hcc1223 0 _ rfl;rw [Nat.add_zero,show ((Kd.slice 3 (Kd.int .i64))).sz = 1 from rfl,Nat.mul_one] at hv1223_0;replace hv1223_0:=Option.some.inj (hv1223_0.symm.trans hx1223_0);rw [hv1223_0] at ge1223_0;have HL1223_0:=zx (show Kd.R (Kd.int .i64) 3 _ _ _ _ (rd_L2 t1217 x6_2) from ge1223_0);clear hv1223_0 ge1223_0;clear hcc1223 hce1223;have HR1223_0:=zx hi1223_0;have HC1223_0:=zx hl1223_0;clear hi1223_0 hl1223_0;replace p1223:=eq_true p1223;replace q1223:=eq_true q1223;have p1224 : 0 ≤ (x17_1 : Int):=of_decide_eq_true (by first | (with_reducible assumption) | assumption);have q1224 : x17_1 < ((rd_L2 t1217 x6_2).length : Int):=of_decide_eq_true (by first | (with_reducible assumption) | assumption);obtain ⟨ad1224,e1224,hx1224_0⟩:=Kd.at_int (by repeat (first | (with_reducible exact HR1223_0.out) | (with_reducible refine Kd.C_alloc ?_ _) | (with_reducible refine Kd.C_drewN ?_ _) | (with_reducible refine Kd.C_drew ?_) | exact HR1223_0.out)) x17_1 p1224 q1224;cases e1224;replace p1224:=eq_true p1224;replace q1224:=eq_true q1224;have p1225 : 0 ≤ (x17_1 : Int):=of_decide_eq_true (by first | (with_reducible assumption) | assumption);have q1225 : x17_1 < (t1217.length : Int):=of_decide_eq_true (by first | (with_reducible assumption) | assumption);obtain ⟨ad1225,A1225_0,c1225_0,e1225,hx1225_0,hl1225_0,hi1225_0⟩:=at_L2 (Kd.S_reads' HO_3.out).2.2 x17_1 p1225 q1225;obtain rfl : ad1223 = ad1225:=(by injection e1225)
     obtain ⟨ce1225,hce1225,hMe1225,hcc1225⟩:=Kd.S_get HO_3.out [] x17_1 p1225 (by first | exact q1225 | exact of_decide_eq_true (by first | (with_reducible assumption) | assumption) | (have e_:=(Kd.S_reads' HO_3.out).1; omega));obtain ⟨ve1225_0,rfl,ge1225_0⟩:=hMe1225;have hv1225_0:=hcc1225 0 _ rfl;rw [Nat.add_zero,show ((Kd.slice 3 (Kd.int .i64))).sz = 1 from rfl,Nat.mul_one] at hv1225_0;replace hv1225_0:=Option.some.inj (hv1225_0.symm.trans hx1225_0);rw [hv1225_0] at ge1225_0;have HL1225_0:=zx (show Kd.R (Kd.int .i64) 3 _ _ _ _ (rd_L2 t1217 x17_1) from ge1225_0);clear hv1225_0 ge1225_0;clear hcc1225 hce1225;have HR1225_0:=zx hi1225_0;have HC1225_0:=zx hl1225_0;clear hi1225_0 hl1225_0;replace p1225:=eq_true p1225;replace q1225:=eq_true q1225;have p1226 : 0 ≤ (x6_2 : Int):=of_decide_eq_true (by first | (with_reducible assumption) | assumption);have q1226 : x6_2 < ((rd_L2 t1217 x17_1).length : Int):=of_decide_eq_true (by first | (with_reducible assumption) | assumption);obtain ⟨ad1226,e1226,hx1226_0⟩:=Kd.at_int (by repeat (first | (with_reducible exact HR1225_0.out) | (with_reducible refine Kd.C_alloc ?_ _) | (with_reducible refine Kd.C_drewN ?_ _) | (with_reducible refine Kd.C_drew ?_) | exact HR1225_0.out)) x6_2 p1226 q1226;cases e1226;replace p1226:=eq_true p1226;replace q1226:=eq_true q1226
     go_wp2_with (first | ((with_reducible refine gate_builtin (b:=.append) (xs:=#[.tmp 40,.tmp 42]) rfl ?_); at_builtin; refine Kd.R_append (Kd.int .i64) (w0:=w) w.heap.size rfl (.tmp 40) (.tmp 42) 23 3 (.int .i64 0) 8 rfl Try.underlying23 info3 rfl (by decide) (by omega) u4 x4_1 x6_2 [.int .i64 x6_2] (fun _ => True) (fun _ => False) rfl rfl ?aP (fun _ hk => hk.elim) ?aF ?aO ?aB ?aS ?aL ?_; (case aP => exact rfl); (case aB => exact (by repeat (first | (with_reducible first | exact HB.out | apply below_alloc | apply pw_below_drewN | apply below_drew1 | refine below_set ?_ GE1215.out) | exact HB.out))); (case aF => exact (fun _ _ => trivial)); (case aO => exact (by (with_reducible repeat (first | apply Kd.R_alloc | apply Kd.R_drewN | apply Kd.R_drew)); exact HO_4.out)); (case aS => exact (below_size (by repeat (first | (with_reducible first | exact HB.out | apply below_alloc | apply pw_below_drewN | apply below_drew1 | refine below_set ?_ GE1215.out) | exact HB.out)))); (case aL => have:=LMc27.out; omega); intro v1228 w29 ho hb hg hat; rw [← Ny1227.out] at ho; have n0_:=zx (Kd.S_after (ok:=(fun _ => True)) (by (with_reducible repeat (first | apply Kd.S_alloc | apply Kd.S_drewN | apply Kd.S_drew)); exact Kd.S_mono HO_3.out (fun _ hk => ⟨trivial,hk⟩)) hg hat); have n1_:=zx (blk_grown (g:=gb1215) (o:=.cells #[.int .i64 a0_0,.slice A0_1 l0_1.length c0_1] 34 (0,0)) (by (with_reducible repeat (first | refine blk_drewN ?_ _ | refine blk_drew ?_ | refine blk_alloc ?_ _)); exact BK1215.out) hg (Kd.R_ne HO_4.out BK1215.out (by decide))); have n2_:=zx (Kd.R_after (ok:=(fun k_ => some k_ ≠ (.slice (some ad1223) t1217.length co28 : Value).ownBlock)) (by (with_reducible repeat (first | apply Kd.R_alloc | apply Kd.R_drewN | apply Kd.R_drew)); exact Kd.R_mono HL1223_0.out (fun _ hk => ⟨hk.2,hk.1⟩)) hg hat); have n3_:=zx (Kd.R_after (ok:=(fun k_ => some k_ ≠ (.slice (some ad1223) t1217.length co28 : Value).ownBlock)) (by (with_reducible repeat (first | apply Kd.R_alloc | apply Kd.R_drewN | apply Kd.R_drew)); exact Kd.R_mono HL1225_0.out (fun _ hk => ⟨hk.2,hk.1⟩)) hg hat); have n4_:=zx (hb); have n5_:=zx (ho); clear HO_3; clear BK1215; clear HL1223_0; clear HL1225_0; clear HB; clear HO_4; have HO_3:=n0_; have BK1215:=n1_; have HL1223_0:=n2_; have HL1225_0:=n3_; have HB:=n4_; have HO1229:=n5_; clear n0_ n1_ n2_ n3_ n4_ n5_; clear ho hb hg hat))
     go_roundg k2
     case measure => have:=HK1.out; have:=HK2.out; omega
     case rel => exact ⟨(y1227),(wrap64 (x17_1 + 1)),(by first | rfl | (simp; done) | (simp [*]; done)),H',⟨by have:=HK1.out; have:=HK2.out; omega⟩,⟨by (with_reducible repeat (first | apply Kd.S_alloc | apply Kd.S_drewN | apply Kd.S_drew)); exact Kd.S_mono HO_3.out (fun _ hk => hk.2)⟩,⟨by (with_reducible repeat (first | apply Kd.R_alloc | apply Kd.R_drewN | apply Kd.R_drew)); exact HO1229.out⟩,⟨by (with_reducible repeat (first | refine blk_drewN ?_ _ | refine blk_drew ?_ | refine blk_alloc ?_ _)); exact BK1215.out⟩,⟨by repeat (first | (with_reducible first | exact HB.out | apply below_alloc | apply pw_below_drewN | apply below_drew1 | refine below_set ?_ GE1215.out) | exact HB.out)⟩⟩
mutual
def laws_FnTreeReach.j0 : Nat → Int → List Int → Bool → Int → List (S58) → Option (Bool)
 | 0,_,_,_,_,_ => none
 | k + 1,x4,x5,x42,x1236000,x1236001 => if x42 = true then ((spec_NetOut.f k x1236000 x1236001 x4).bind fun t1244 => ((laws_wkInts.f k x5 t1244).bind fun t1247 => (some t1247))) else ((impl_TreeBest.f k x1236000 x1236001).bind fun t1248 => ((impl_TreeParts.f k x1236000 x1236001 t1248).bind fun t1251 => ((impl_ReachIn.f k x1236000 x1236001 x4 99999).bind fun t1254 => (laws_FnTreeReach.l0 k x4 t1251 t1254 0 x1236000 x1236001))))
def laws_FnTreeReach.l0 : Nat → Int → List Int → List Int → Int → Int → List (S58) → Option (Bool)
 | 0,_,_,_,_,_,_ => none
 | k + 1,x4,x6,x7,x8,x1236000,x1236001 => if x8 < (x7.length : Int) then (if 0 ≤ x8 then (if 0 ≤ (rd x7 x8) then (if (rd x7 x8) < (x6.length : Int) then (if 0 ≤ x4 then (if x4 < (x6.length : Int) then (if (rd x6 (rd x7 x8)) = (rd x6 x4) then (laws_FnTreeReach.l0 k x4 x6 x7 (wrap64 (x8 + 1)) x1236000 x1236001) else (some false)) else (none)) else (none)) else (none)) else (none)) else (none)) else ((impl_ReachParts.f k x1236000 x1236001).bind fun t1260 => (laws_FnTreeReach.l1 k x4 x6 t1260 0 x1236000 x1236001))
def laws_FnTreeReach.l1 : Nat → Int → List Int → List Int → Int → Int → List (S58) → Option (Bool)
 | 0,_,_,_,_,_,_ => none
 | k + 1,x4,x6,x9,x10,x1236000,x1236001 => if x10 < x1236000 then (if 0 ≤ x10 then (if x10 < (x9.length : Int) then (if 0 ≤ x4 then (if x4 < (x9.length : Int) then (if (rd x9 x10) = (rd x9 x4) then (if x10 < (x6.length : Int) then (if x4 < (x6.length : Int) then (if (rd x6 x10) = (rd x6 x4) then (laws_FnTreeReach.l1 k x4 x6 x9 (wrap64 (x10 + 1)) x1236000 x1236001) else (some false)) else (none)) else (none)) else (laws_FnTreeReach.l1 k x4 x6 x9 (wrap64 (x10 + 1)) x1236000 x1236001)) else (none)) else (none)) else (none)) else (none)) else (some true)
end
def laws_FnTreeReach.f (k : Nat) (l0 : List Int) : Option (Bool):=if (l0.length : Int) > 1048576 then (some true) else ((spec_DrawNetOut.f k l0).bind fun bt1230 => ((impl_NetOut.f k bt1230.1 bt1230.2.1 bt1230.2.2).bind fun t1236 => ((spec_NetOut.f k bt1230.1 bt1230.2.1 bt1230.2.2).bind fun t1239 => ((laws_wkInts.f k t1236 t1239).bind fun t1242 => (if t1242 = true then ((impl_NetOk.f bt1230.1 bt1230.2.1).bind fun t1243 => (if t1243 = true then (if bt1230.2.2 < 0 then (laws_FnTreeReach.j0 k bt1230.2.2 t1236 true bt1230.1 bt1230.2.1) else (laws_FnTreeReach.j0 k bt1230.2.2 t1236 (decide (bt1230.2.2 ≥ bt1230.1)) bt1230.1 bt1230.2.1)) else (laws_FnTreeReach.j0 k bt1230.2.2 t1236 true bt1230.1 bt1230.2.1))) else (laws_FnTreeReach.j0 k bt1230.2.2 t1236 true bt1230.1 bt1230.2.1))))))
def laws_FnTreeReach.T12 : Bool × List (List Nat × List Nat):=(true,[([],[]),([],[]),([],[]),([1,2],[1,2]),([3],[3]),([0,4],[0,4]),([5],[5]),([],[]),([],[]),([7,8],[7,8]),([9],[9]),([6,10],[6,10])])
def laws_FnTreeReach.B12 : List Nat:=[0,0,0,6,14,31,63,0,0,384,896,2047]
theorem laws_FnTreeReach.tab12 : rtab .any (opsOf Try.f12 12) = laws_FnTreeReach.T12:=by kernel_rfl
theorem laws_FnTreeReach.bits12 : waitsOk laws_FnTreeReach.T12.2 laws_FnTreeReach.B12 = true:=by kernel_rfl
def laws_FnTreeReach.T18 : Bool × List (List Nat × List Nat):=(true,[([],[]),([],[]),([0,1],[0,1]),([2],[2]),([],[]),([],[]),([4,5],[4,5]),([6],[6]),([3,7],[3,7]),([8],[8]),([9],[9]),([9],[9]),([10,11,9],[9,10,11]),([12,9],[9,12]),([9],[9]),([9],[9]),([14,15,9],[9,14,15]),([16,9],[9,16]),([13,17,9],[9,13,17]),([9,18],[9,18])])
def laws_FnTreeReach.B18 : List Nat:=[0,0,3,7,0,0,48,112,255,511,1023,1023,4095,8191,1023,1023,50175,115711,262143,524287]
theorem laws_FnTreeReach.tab18 : rtab .any (opsOf Try.f12 18) = laws_FnTreeReach.T18:=by kernel_rfl
theorem laws_FnTreeReach.bits18 : waitsOk laws_FnTreeReach.T18.2 laws_FnTreeReach.B18 = true:=by kernel_rfl
set_option maxHeartbeats 8000000 in
set_option maxRecDepth 100000 in
theorem laws_FnTreeReach.calls (k : Nat) (A0 : Option Addr) (c0 : Nat) (l0 : List Int) (r : Bool) (w : World) (hr0 : Kd.C (Kd.int .u8) w A0 l0.length l0) (hc0 : l0.length ≤ c0) (h : laws_FnTreeReach.f k l0 = some r) :
  Calls Try.prog 12 #[.slice A0 l0.length c0] w fun e w' => e = .returned (.bool r) ∧ Below w.heap.size w w':=by
 have hu34:=Try.underlying34;have HR0:=zx hr0;have HC0:=zx hc0;clear hr0 hc0;have HB:=zx (Below.refl w.heap.size w);have H : (if (l0.length : Int) > 1048576 then (some true) else ((spec_DrawNetOut.f k l0).bind fun bt1230 => ((impl_NetOut.f k bt1230.1 bt1230.2.1 bt1230.2.2).bind fun t1236 => ((spec_NetOut.f k bt1230.1 bt1230.2.1 bt1230.2.2).bind fun t1239 => ((laws_wkInts.f k t1236 t1239).bind fun t1242 => (if t1242 = true then ((impl_NetOk.f bt1230.1 bt1230.2.1).bind fun t1243 => (if t1243 = true then (if bt1230.2.2 < 0 then (laws_FnTreeReach.j0 k bt1230.2.2 t1236 true bt1230.1 bt1230.2.1) else (laws_FnTreeReach.j0 k bt1230.2.2 t1236 (decide (bt1230.2.2 ≥ bt1230.1)) bt1230.1 bt1230.2.1)) else (laws_FnTreeReach.j0 k bt1230.2.2 t1236 true bt1230.1 bt1230.2.1))) else (laws_FnTreeReach.j0 k bt1230.2.2 t1236 true bt1230.1 bt1230.2.1))))))) = some r:=h;clear h
 by_cases c2 : (l0.length : Int) > 1048576
 case pos =>
  rw [if_pos c2] at H;have c2b0 : decide (1048576 < (l0.length : Int)) = true:=decide_eq_true c2;have c2b1 : decide (1048576 < l0.length) = true:=decide_eq_true (by omega);clear c2;obtain rfl:=Option.some.inj H
  go_enter Try.func12,Try.ntmps12
  go_wp2
  go_ret;exact ⟨by first | rfl | (simp [errW_none,errW_some] <;> rfl) | (simp [*,errW_none,errW_some] <;> rfl),by repeat (first | (with_reducible first | exact HB.out | apply below_alloc | apply pw_below_drewN | apply below_drew1) | exact HB.out)⟩
 rw [if_neg c2] at H;have c2b0 : decide (1048576 < (l0.length : Int)) = false:=decide_eq_false c2;have c2b1 : decide (1048576 < l0.length) = false:=decide_eq_false (by omega);clear c2;replace H:=Option.bind_eq_some_iff.mp H;obtain ⟨⟨t1230,t1231,t1234⟩,A30,H⟩:=H;replace H : ((impl_NetOut.f k t1230 t1231 t1234).bind fun t1236 => ((spec_NetOut.f k t1230 t1231 t1234).bind fun t1239 => ((laws_wkInts.f k t1236 t1239).bind fun t1242 => (if t1242 = true then ((impl_NetOk.f t1230 t1231).bind fun t1243 => (if t1243 = true then (if t1234 < 0 then (laws_FnTreeReach.j0 k t1234 t1236 true t1230 t1231) else (laws_FnTreeReach.j0 k t1234 t1236 (decide (t1234 ≥ t1230)) t1230 t1231)) else (laws_FnTreeReach.j0 k t1234 t1236 true t1230 t1231))) else (laws_FnTreeReach.j0 k t1234 t1236 true t1230 t1231))))) = some r:=H;have A3:=zx A30;clear A30;replace H:=Option.bind_eq_some_iff.mp H;obtain ⟨t1236,A40,H⟩:=H;replace H : ((spec_NetOut.f k t1230 t1231 t1234).bind fun t1239 => ((laws_wkInts.f k t1236 t1239).bind fun t1242 => (if t1242 = true then ((impl_NetOk.f t1230 t1231).bind fun t1243 => (if t1243 = true then (if t1234 < 0 then (laws_FnTreeReach.j0 k t1234 t1236 true t1230 t1231) else (laws_FnTreeReach.j0 k t1234 t1236 (decide (t1234 ≥ t1230)) t1230 t1231)) else (laws_FnTreeReach.j0 k t1234 t1236 true t1230 t1231))) else (laws_FnTreeReach.j0 k t1234 t1236 true t1230 t1231)))) = some r:=H;have A4:=zx A40;clear A40;have HC5:=zx H;clear H
 go_enter Try.func12,Try.ntmps12
 go_upto_region 5 with (first | ((with_reducible refine gate_callee (f:=54) rfl ?_); refine goesL_ (some 16) rfl rfl Try.func54 (by kernel_rfl) rfl #[.slice A0 l0.length c0] rfl (by (try simp only [List.map_toArray,List.map_cons,List.map_nil]); first | done | rfl | (simp only [List.length_drop,List.length_take]; rfl)) ?_; (with_reducible refine (spec_DrawNetOut.calls k _ _ l0 t1230 t1231 t1234 _ ?side1 ?side2 A3.out).mono ?_); (case side1 => repeat (first | exact HR0.out | (with_reducible refine Kd.C_alloc ?_ _) | (with_reducible refine Kd.C_drewN ?_ _) | (with_reducible refine Kd.C_drew ?_))); (case side2 => exact HC0.out); rintro e w6 ⟨v1232,rfl,ho0,hb⟩; refine ⟨_,rfl,?_⟩; have n0_:=zx (Kd.R_lower ho0 (below_size (by repeat (first | (with_reducible first | exact HB.out | apply below_alloc | apply pw_below_drewN | apply below_drew1) | exact HB.out)))); have n1_:=zx (below_step (by repeat (first | (with_reducible first | exact HB.out | apply below_alloc | apply pw_below_drewN | apply below_drew1) | exact HB.out)) hb); clear HB; have HO1233:=n0_; have HB:=n1_; clear n0_ n1_; (try clear hb); (try clear hb2); (try clear hk); (try clear hi); (try clear ho0)) | ((with_reducible refine gate_dst (N:=3) rfl ?_); refine box_event ?hg (N:=3) ?hd (cs:=#[.int .i64 0,.slice none 0 0]) (t:=34) ?hr ?_; (case hd => rfl); (case hg => rfl); (case hr => first | (go_simp; done) | (go_simp; rfl)); intro gb1235 hg w7 hbox hb; have n0_:=zx (Kd.R_below (by (with_reducible repeat (first | apply Kd.R_alloc | apply Kd.R_drewN | apply Kd.R_drew)); exact HO1233.out) hb); have n1_:=zx (below_step (by repeat (first | (with_reducible first | exact HB.out | apply below_alloc | apply pw_below_drewN | apply below_drew1) | exact HB.out)) hb); have n2_:=zx (hbox); have n3_:=zx ((by rw [hg]; exact (below_size (by repeat (first | (with_reducible first | exact HB.out | apply below_alloc | apply pw_below_drewN | apply below_drew1) | exact HB.out))) : w.heap.size ≤ gb1235)); have n4_:=zx ((by rw [hg]; exact (below_size (by repeat (first | (with_reducible first | exact HB.out | apply below_alloc | apply pw_below_drewN | apply below_drew1) | exact HB.out))) : w.heap.size ≤ gb1235)); clear HO1233; clear HB; have HO1233:=n0_; have HB:=n1_; have BK1235:=n2_; have GW1235:=n3_; have GE1235:=n4_; clear n0_ n1_ n2_ n3_ n4_; clear hb hbox hg; have hcz8_0 : w7.cell? ⟨gb1235,0,none⟩ = some (.int .i64 0):=(blk_cell BK1235.out 0).trans rfl; have hcz8_1 : w7.cell? ⟨gb1235,1,none⟩ = some (.slice none 0 0):=(blk_cell BK1235.out 1).trans rfl; have hfz8_0:=blk_frozen BK1235.out 0; have hfz8_1:=blk_frozen BK1235.out 1; obtain ⟨Ao9,co9,eo9⟩:=Kd.R_slice HO1233.out; subst eo9) | ((with_reducible refine gate_callee (f:=55) rfl ?_); refine goesL_ (some 21) rfl rfl Try.func55 (by kernel_rfl) rfl #[.agg #[.int .i64 t1230,.slice Ao9 t1231.length co9],.int .i64 t1234] rfl (by (try simp only [List.map_toArray,List.map_cons,List.map_nil]); first | done | rfl | (simp only [List.length_drop,List.length_take]; rfl)) ?_; (with_reducible refine (impl_NetOut.calls k t1230 _ _ t1231 t1234 t1236 _ ?side1 ?side2 A4.out).mono ?_); (case side1 => refine (Kd.R_reads' (e:=58) (base:=w.heap.size) (ok:=fun k_ => True) (n:=t1231.length) (c:=co9) ?_).2.2; exact (by (with_reducible repeat (first | apply Kd.R_alloc | apply Kd.R_drewN | apply Kd.R_drew)); exact (Kd.R_mono (Kd.R_far (p:=⟨gb1235,1,none⟩) (Kd.R_far (p:=⟨gb1235,0,none⟩) (Kd.R_types HO1233.out BK1235.out (by decide)) (fun _ hk => hk.2) (.int .i64 t1230)) (fun _ hk => hk.2) (.slice Ao9 t1231.length co9)) (fun _ h_ => h_.1)))); (case side2 => exact (Kd.R_reads' HO1233.out).2.1); rintro e w10 ⟨v1237,rfl,ho0,hb⟩; refine ⟨_,rfl,?_⟩; have n0_:=zx (Kd.R_below (by (with_reducible repeat (first | apply Kd.R_alloc | apply Kd.R_drewN | apply Kd.R_drew)); exact (Kd.R_mono (Kd.R_far (p:=⟨gb1235,1,none⟩) (Kd.R_far (p:=⟨gb1235,0,none⟩) (Kd.R_types HO1233.out BK1235.out (by decide)) (fun _ hk => hk.2) (.int .i64 t1230)) (fun _ hk => hk.2) (.slice Ao9 t1231.length co9)) (fun _ h_ => h_.1))) hb); have n1_:=zx (Kd.R_lower ho0 (below_size (by repeat (first | (with_reducible first | exact HB.out | apply below_alloc | apply pw_below_drewN | apply below_drew1 | refine below_set ?_ GE1235.out) | exact HB.out)))); have n2_:=zx (blk_below (g:=gb1235) (o:=.cells #[.int .i64 t1230,.slice Ao9 t1231.length co9] 34 (0,0)) (by (with_reducible repeat (first | refine blk_drewN ?_ _ | refine blk_drew ?_ | refine blk_alloc ?_ _)); refine blk_put (cs:=#[.int .i64 t1230,.slice none 0 0]) ?_ 1 _ rfl; (with_reducible repeat (first | refine blk_drewN ?_ _ | refine blk_drew ?_ | refine blk_alloc ?_ _)); refine blk_put (cs:=#[.int .i64 0,.slice none 0 0]) ?_ 0 _ rfl; (with_reducible repeat (first | refine blk_drewN ?_ _ | refine blk_drew ?_ | refine blk_alloc ?_ _)); exact BK1235.out) hb); have n3_:=zx (below_step (by repeat (first | (with_reducible first | exact HB.out | apply below_alloc | apply pw_below_drewN | apply below_drew1 | refine below_set ?_ GE1235.out) | exact HB.out)) hb); clear HO1233; clear BK1235; clear HB; have HO1233:=n0_; have HO1238:=n1_; have BK1235:=n2_; have HB:=n3_; clear n0_ n1_ n2_ n3_; (try clear hb); (try clear hb2); (try clear hk); (try clear hi); (try clear ho0)))
 (try simp only [Act.put,U,V,Z])
 go_cut [42] (fun v42 wc => ∃ (kq : Nat) (x42_4 : Bool),v42 = .bool x42_4 ∧ Aside0 (laws_FnTreeReach.j0 kq t1234 t1236 x42_4 t1230 t1231 = some r) ∧ Aside0 (kq ≤ k) ∧ Aside0 (Kd.R (Kd.int .i64) 3 wc w.heap.size (fun _ => True) v1237 t1236) ∧ Aside0 (Kd.R k58 58 wc w.heap.size (fun _ => True) (.slice Ao9 t1231.length co9) t1231) ∧ Aside0 (wc.heap[gb1235]? = some (.cells #[.int .i64 t1230,(.slice Ao9 t1231.length co9)] 34 (0,0))) ∧ Aside0 (Below w.heap.size w wc))
 case first =>
  have H:=HC5.out;clear HC5;replace H:=Option.bind_eq_some_iff.mp H;obtain ⟨t1239,A110,H⟩:=H;replace H : ((laws_wkInts.f k t1236 t1239).bind fun t1242 => (if t1242 = true then ((impl_NetOk.f t1230 t1231).bind fun t1243 => (if t1243 = true then (if t1234 < 0 then (laws_FnTreeReach.j0 k t1234 t1236 true t1230 t1231) else (laws_FnTreeReach.j0 k t1234 t1236 (decide (t1234 ≥ t1230)) t1230 t1231)) else (laws_FnTreeReach.j0 k t1234 t1236 true t1230 t1231))) else (laws_FnTreeReach.j0 k t1234 t1236 true t1230 t1231))) = some r:=H;have A11:=zx A110;clear A110;replace H:=Option.bind_eq_some_iff.mp H;obtain ⟨t1242,A120,H⟩:=H;replace H : (if t1242 = true then ((impl_NetOk.f t1230 t1231).bind fun t1243 => (if t1243 = true then (if t1234 < 0 then (laws_FnTreeReach.j0 k t1234 t1236 true t1230 t1231) else (laws_FnTreeReach.j0 k t1234 t1236 (decide (t1234 ≥ t1230)) t1230 t1231)) else (laws_FnTreeReach.j0 k t1234 t1236 true t1230 t1231))) else (laws_FnTreeReach.j0 k t1234 t1236 true t1230 t1231)) = some r:=H;have A12:=zx A120;clear A120
  by_cases c13 : t1242 = true
  case neg =>
   replace c13:=Bool.eq_false_iff.mpr c13;subst c13;have H1 : (laws_FnTreeReach.j0 k t1234 t1236 true t1230 t1231) = some r:=by rw [if_neg (show ¬ (false = true) by decide)] at H; exact H
   clear H;have H:=H1;clear H1;have H':=zx H;clear H;have hcz36_0 : w10.cell? ⟨gb1235,0,none⟩ = some (.int .i64 t1230):=(blk_cell BK1235.out 0).trans rfl;have hcz36_1 : w10.cell? ⟨gb1235,1,none⟩ = some (.slice Ao9 t1231.length co9):=(blk_cell BK1235.out 1).trans rfl;have hfz36_0:=blk_frozen BK1235.out 0;have hfz36_1:=blk_frozen BK1235.out 1
   go_wp2_with (first | ((with_reducible refine gate_callee (f:=56) rfl ?_); refine goesL_ (some 25) rfl rfl Try.func56 (by kernel_rfl) rfl #[.agg #[.int .i64 t1230,.slice Ao9 t1231.length co9],.int .i64 t1234] rfl (by (try simp only [List.map_toArray,List.map_cons,List.map_nil]); first | done | rfl | (simp only [List.length_drop,List.length_take]; rfl)) ?_; (with_reducible refine (spec_NetOut.calls k t1230 _ _ t1231 t1234 t1239 _ ?side1 ?side2 A11.out).mono ?_); (case side1 => repeat (first | exact (Kd.R_reads' HO1233.out).2.2 | (with_reducible refine Kd.C_alloc ?_ _) | (with_reducible refine Kd.C_drewN ?_ _) | (with_reducible refine Kd.C_drew ?_))); (case side2 => exact (Kd.R_reads' HO1233.out).2.1); rintro e w37 ⟨v1240,rfl,ho0,hb⟩; refine ⟨_,rfl,?_⟩; have n0_:=zx (Kd.R_below (by (with_reducible repeat (first | apply Kd.R_alloc | apply Kd.R_drewN | apply Kd.R_drew)); exact HO1233.out) hb); have n1_:=zx (Kd.R_elder' (by (with_reducible repeat (first | apply Kd.R_alloc | apply Kd.R_drewN | apply Kd.R_drew)); exact HO1238.out) (Kd.R_base ho0) hb); have n2_:=zx (Kd.R_lower (Kd.R_new' ho0 (Kd.R_lt (by (with_reducible repeat (first | apply Kd.R_alloc | apply Kd.R_drewN | apply Kd.R_drew)); exact HO1238.out))) (below_size (by repeat (first | (with_reducible first | exact HB.out | apply below_alloc | apply pw_below_drewN | apply below_drew1 | refine below_set ?_ GE1235.out) | exact HB.out)))); have n3_:=zx (blk_below (g:=gb1235) (o:=.cells #[.int .i64 t1230,.slice Ao9 t1231.length co9] 34 (0,0)) (by (with_reducible repeat (first | refine blk_drewN ?_ _ | refine blk_drew ?_ | refine blk_alloc ?_ _)); exact BK1235.out) hb); have n4_:=zx (below_step (by repeat (first | (with_reducible first | exact HB.out | apply below_alloc | apply pw_below_drewN | apply below_drew1 | refine below_set ?_ GE1235.out) | exact HB.out)) hb); clear HO1233; clear HO1238; clear BK1235; clear HB; have HO1233:=n0_; have HO1238:=n1_; have HO1241:=n2_; have BK1235:=n3_; have HB:=n4_; clear n0_ n1_ n2_ n3_ n4_; (try clear hb); (try clear hb2); (try clear hk); (try clear hi); (try clear ho0); obtain ⟨Ao38,co38,eo38⟩:=Kd.R_slice HO1238.out; subst eo38; obtain ⟨Ao39,co39,eo39⟩:=Kd.R_slice HO1241.out; subst eo39) | ((with_reducible refine gate_callee (f:=39) rfl ?_); refine goesL_ (some 26) rfl rfl Try.func39 (by kernel_rfl) rfl #[.slice Ao38 t1236.length co38,.slice Ao39 t1239.length co39] rfl (by (try simp only [List.map_toArray,List.map_cons,List.map_nil]); first | done | rfl | (simp only [List.length_drop,List.length_take]; rfl)) ?_; (with_reducible refine (laws_wkInts.calls k _ _ t1236 _ _ t1239 false _ ?side1 ?side2 ?side3 ?side4 A12.out).mono ?_); (case side1 => repeat (first | exact (Kd.R_reads' HO1238.out).2.2 | (with_reducible refine Kd.C_alloc ?_ _) | (with_reducible refine Kd.C_drewN ?_ _) | (with_reducible refine Kd.C_drew ?_))); (case side2 => exact (Kd.R_reads' HO1238.out).2.1); (case side3 => repeat (first | exact (Kd.R_reads' HO1241.out).2.2 | (with_reducible refine Kd.C_alloc ?_ _) | (with_reducible refine Kd.C_drewN ?_ _) | (with_reducible refine Kd.C_drew ?_))); (case side4 => exact (Kd.R_reads' HO1241.out).2.1); rintro e w' ⟨rfl,⟨nd,rfl⟩⟩; refine ⟨_,rfl,?_⟩))
   go_meet
   case rel => exact ⟨_,(true),(by first | rfl | (simp; done) | (simp [*]; done)),H',⟨by first | omega | exact Nat.le_refl _⟩,⟨by (with_reducible repeat (first | apply Kd.R_alloc | apply Kd.R_drewN | apply Kd.R_drew)); exact Kd.R_mono HO1238.out (fun _ hk => trivial)⟩,⟨by (with_reducible repeat (first | apply Kd.R_alloc | apply Kd.R_drewN | apply Kd.R_drew)); exact HO1233.out⟩,⟨by (with_reducible repeat (first | refine blk_drewN ?_ _ | refine blk_drew ?_ | refine blk_alloc ?_ _)); exact BK1235.out⟩,⟨by repeat (first | (with_reducible first | exact HB.out | apply below_alloc | apply pw_below_drewN | apply below_drew1 | refine below_set ?_ GE1235.out) | exact HB.out)⟩⟩
  subst c13;have H1 : ((impl_NetOk.f t1230 t1231).bind fun t1243 => (if t1243 = true then (if t1234 < 0 then (laws_FnTreeReach.j0 k t1234 t1236 true t1230 t1231) else (laws_FnTreeReach.j0 k t1234 t1236 (decide (t1234 ≥ t1230)) t1230 t1231)) else (laws_FnTreeReach.j0 k t1234 t1236 true t1230 t1231))) = some r:=by rw [if_pos rfl] at H; exact H
  clear H;have H:=H1;clear H1;replace H:=Option.bind_eq_some_iff.mp H;obtain ⟨t1243,A140,H⟩:=H;replace H : (if t1243 = true then (if t1234 < 0 then (laws_FnTreeReach.j0 k t1234 t1236 true t1230 t1231) else (laws_FnTreeReach.j0 k t1234 t1236 (decide (t1234 ≥ t1230)) t1230 t1231)) else (laws_FnTreeReach.j0 k t1234 t1236 true t1230 t1231)) = some r:=H;have A14:=zx A140;clear A140
  by_cases c15 : t1243 = true
  case neg =>
   replace c15:=Bool.eq_false_iff.mpr c15;subst c15;have H1 : (laws_FnTreeReach.j0 k t1234 t1236 true t1230 t1231) = some r:=by rw [if_neg (show ¬ (false = true) by decide)] at H; exact H
   clear H;have H:=H1;clear H1;have H':=zx H;clear H;have hcz30_0 : w10.cell? ⟨gb1235,0,none⟩ = some (.int .i64 t1230):=(blk_cell BK1235.out 0).trans rfl;have hcz30_1 : w10.cell? ⟨gb1235,1,none⟩ = some (.slice Ao9 t1231.length co9):=(blk_cell BK1235.out 1).trans rfl;have hfz30_0:=blk_frozen BK1235.out 0;have hfz30_1:=blk_frozen BK1235.out 1
   go_wp2_with (first | ((with_reducible refine gate_callee (f:=56) rfl ?_); refine goesL_ (some 25) rfl rfl Try.func56 (by kernel_rfl) rfl #[.agg #[.int .i64 t1230,.slice Ao9 t1231.length co9],.int .i64 t1234] rfl (by (try simp only [List.map_toArray,List.map_cons,List.map_nil]); first | done | rfl | (simp only [List.length_drop,List.length_take]; rfl)) ?_; (with_reducible refine (spec_NetOut.calls k t1230 _ _ t1231 t1234 t1239 _ ?side1 ?side2 A11.out).mono ?_); (case side1 => repeat (first | exact (Kd.R_reads' HO1233.out).2.2 | (with_reducible refine Kd.C_alloc ?_ _) | (with_reducible refine Kd.C_drewN ?_ _) | (with_reducible refine Kd.C_drew ?_))); (case side2 => exact (Kd.R_reads' HO1233.out).2.1); rintro e w31 ⟨v1240,rfl,ho0,hb⟩; refine ⟨_,rfl,?_⟩; have n0_:=zx (Kd.R_below (by (with_reducible repeat (first | apply Kd.R_alloc | apply Kd.R_drewN | apply Kd.R_drew)); exact HO1233.out) hb); have n1_:=zx (Kd.R_elder' (by (with_reducible repeat (first | apply Kd.R_alloc | apply Kd.R_drewN | apply Kd.R_drew)); exact HO1238.out) (Kd.R_base ho0) hb); have n2_:=zx (Kd.R_lower (Kd.R_new' ho0 (Kd.R_lt (by (with_reducible repeat (first | apply Kd.R_alloc | apply Kd.R_drewN | apply Kd.R_drew)); exact HO1238.out))) (below_size (by repeat (first | (with_reducible first | exact HB.out | apply below_alloc | apply pw_below_drewN | apply below_drew1 | refine below_set ?_ GE1235.out) | exact HB.out)))); have n3_:=zx (blk_below (g:=gb1235) (o:=.cells #[.int .i64 t1230,.slice Ao9 t1231.length co9] 34 (0,0)) (by (with_reducible repeat (first | refine blk_drewN ?_ _ | refine blk_drew ?_ | refine blk_alloc ?_ _)); exact BK1235.out) hb); have n4_:=zx (below_step (by repeat (first | (with_reducible first | exact HB.out | apply below_alloc | apply pw_below_drewN | apply below_drew1 | refine below_set ?_ GE1235.out) | exact HB.out)) hb); clear HO1233; clear HO1238; clear BK1235; clear HB; have HO1233:=n0_; have HO1238:=n1_; have HO1241:=n2_; have BK1235:=n3_; have HB:=n4_; clear n0_ n1_ n2_ n3_ n4_; (try clear hb); (try clear hb2); (try clear hk); (try clear hi); (try clear ho0); obtain ⟨Ao32,co32,eo32⟩:=Kd.R_slice HO1238.out; subst eo32; obtain ⟨Ao33,co33,eo33⟩:=Kd.R_slice HO1241.out; subst eo33) | ((with_reducible refine gate_callee (f:=39) rfl ?_); refine goesL_ (some 26) rfl rfl Try.func39 (by kernel_rfl) rfl #[.slice Ao32 t1236.length co32,.slice Ao33 t1239.length co33] rfl (by (try simp only [List.map_toArray,List.map_cons,List.map_nil]); first | done | rfl | (simp only [List.length_drop,List.length_take]; rfl)) ?_; (with_reducible refine (laws_wkInts.calls k _ _ t1236 _ _ t1239 true _ ?side1 ?side2 ?side3 ?side4 A12.out).mono ?_); (case side1 => repeat (first | exact (Kd.R_reads' HO1238.out).2.2 | (with_reducible refine Kd.C_alloc ?_ _) | (with_reducible refine Kd.C_drewN ?_ _) | (with_reducible refine Kd.C_drew ?_))); (case side2 => exact (Kd.R_reads' HO1238.out).2.1); (case side3 => repeat (first | exact (Kd.R_reads' HO1241.out).2.2 | (with_reducible refine Kd.C_alloc ?_ _) | (with_reducible refine Kd.C_drewN ?_ _) | (with_reducible refine Kd.C_drew ?_))); (case side4 => exact (Kd.R_reads' HO1241.out).2.1); rintro e w' ⟨rfl,⟨nd,rfl⟩⟩; refine ⟨_,rfl,?_⟩; have hcz34_0 : w31.cell? ⟨gb1235,0,none⟩ = some (.int .i64 t1230):=(blk_cell BK1235.out 0).trans rfl; have hcz34_1 : w31.cell? ⟨gb1235,1,none⟩ = some (.slice Ao9 t1231.length co9):=(blk_cell BK1235.out 1).trans rfl; have hfz34_0:=blk_frozen BK1235.out 0; have hfz34_1:=blk_frozen BK1235.out 1) | (go_at_call 51; (with_reducible refine (impl_NetOk.calls t1230 _ _ t1231 false _ ?side1 ?side2 A14.out).mono ?_); (case side1 => repeat (first | exact (Kd.R_reads' HO1233.out).2.2 | (with_reducible refine Kd.C_alloc ?_ _) | (with_reducible refine Kd.C_drewN ?_ _) | (with_reducible refine Kd.C_drew ?_))); (case side2 => exact (Kd.R_reads' HO1233.out).2.1); rintro e w35 ⟨rfl,hb⟩; have n0_:=zx (Kd.R_below (by (with_reducible repeat (first | apply Kd.R_alloc | apply Kd.R_drewN | apply Kd.R_drew)); exact HO1233.out) hb); have n1_:=zx (Kd.R_below (by (with_reducible repeat (first | apply Kd.R_alloc | apply Kd.R_drewN | apply Kd.R_drew)); exact HO1238.out) hb); have n2_:=zx (Kd.R_below (by (with_reducible repeat (first | apply Kd.R_alloc | apply Kd.R_drewN | apply Kd.R_drew)); exact HO1241.out) hb); have n3_:=zx (blk_below (g:=gb1235) (o:=.cells #[.int .i64 t1230,.slice Ao9 t1231.length co9] 34 (0,0)) (by (with_reducible repeat (first | refine blk_drewN ?_ _ | refine blk_drew ?_ | refine blk_alloc ?_ _)); exact BK1235.out) hb); have n4_:=zx (below_step (by repeat (first | (with_reducible first | exact HB.out | apply below_alloc | apply pw_below_drewN | apply below_drew1 | refine below_set ?_ GE1235.out) | exact HB.out)) hb); clear HO1233; clear HO1238; clear HO1241; clear BK1235; clear HB; have HO1233:=n0_; have HO1238:=n1_; have HO1241:=n2_; have BK1235:=n3_; have HB:=n4_; clear n0_ n1_ n2_ n3_ n4_; (try clear hb); (try clear hb2); (try clear hk); (try clear hi)))
   go_meet
   case rel => exact ⟨_,(true),(by first | rfl | (simp; done) | (simp [*]; done)),H',⟨by first | omega | exact Nat.le_refl _⟩,⟨by (with_reducible repeat (first | apply Kd.R_alloc | apply Kd.R_drewN | apply Kd.R_drew)); exact Kd.R_mono HO1238.out (fun _ hk => trivial)⟩,⟨by (with_reducible repeat (first | apply Kd.R_alloc | apply Kd.R_drewN | apply Kd.R_drew)); exact HO1233.out⟩,⟨by (with_reducible repeat (first | refine blk_drewN ?_ _ | refine blk_drew ?_ | refine blk_alloc ?_ _)); exact BK1235.out⟩,⟨by repeat (first | (with_reducible first | exact HB.out | apply below_alloc | apply pw_below_drewN | apply below_drew1 | refine below_set ?_ GE1235.out) | exact HB.out)⟩⟩
  subst c15;have H1 : (if t1234 < 0 then (laws_FnTreeReach.j0 k t1234 t1236 true t1230 t1231) else (laws_FnTreeReach.j0 k t1234 t1236 (decide (t1234 ≥ t1230)) t1230 t1231)) = some r:=by rw [if_pos rfl] at H; exact H
  clear H;have H:=H1;clear H1
  by_cases c16 : t1234 < 0
  case pos =>
   rw [if_pos c16] at H;have c16b0 : decide (t1234 < 0) = true:=decide_eq_true c16;clear c16
   (first | rw [c16b0] | (simp only [i64_w,i32_w]; rw [c16b0]) | skip)
   have H':=zx H;clear H;have hcz17_0 : w10.cell? ⟨gb1235,0,none⟩ = some (.int .i64 t1230):=(blk_cell BK1235.out 0).trans rfl;have hcz17_1 : w10.cell? ⟨gb1235,1,none⟩ = some (.slice Ao9 t1231.length co9):=(blk_cell BK1235.out 1).trans rfl;have hfz17_0:=blk_frozen BK1235.out 0;have hfz17_1:=blk_frozen BK1235.out 1
   go_wp2_with (first | ((with_reducible refine gate_callee (f:=56) rfl ?_); refine goesL_ (some 25) rfl rfl Try.func56 (by kernel_rfl) rfl #[.agg #[.int .i64 t1230,.slice Ao9 t1231.length co9],.int .i64 t1234] rfl (by (try simp only [List.map_toArray,List.map_cons,List.map_nil]); first | done | rfl | (simp only [List.length_drop,List.length_take]; rfl)) ?_; (with_reducible refine (spec_NetOut.calls k t1230 _ _ t1231 t1234 t1239 _ ?side1 ?side2 A11.out).mono ?_); (case side1 => repeat (first | exact (Kd.R_reads' HO1233.out).2.2 | (with_reducible refine Kd.C_alloc ?_ _) | (with_reducible refine Kd.C_drewN ?_ _) | (with_reducible refine Kd.C_drew ?_))); (case side2 => exact (Kd.R_reads' HO1233.out).2.1); rintro e w18 ⟨v1240,rfl,ho0,hb⟩; refine ⟨_,rfl,?_⟩; have n0_:=zx (Kd.R_below (by (with_reducible repeat (first | apply Kd.R_alloc | apply Kd.R_drewN | apply Kd.R_drew)); exact HO1233.out) hb); have n1_:=zx (Kd.R_elder' (by (with_reducible repeat (first | apply Kd.R_alloc | apply Kd.R_drewN | apply Kd.R_drew)); exact HO1238.out) (Kd.R_base ho0) hb); have n2_:=zx (Kd.R_lower (Kd.R_new' ho0 (Kd.R_lt (by (with_reducible repeat (first | apply Kd.R_alloc | apply Kd.R_drewN | apply Kd.R_drew)); exact HO1238.out))) (below_size (by repeat (first | (with_reducible first | exact HB.out | apply below_alloc | apply pw_below_drewN | apply below_drew1 | refine below_set ?_ GE1235.out) | exact HB.out)))); have n3_:=zx (blk_below (g:=gb1235) (o:=.cells #[.int .i64 t1230,.slice Ao9 t1231.length co9] 34 (0,0)) (by (with_reducible repeat (first | refine blk_drewN ?_ _ | refine blk_drew ?_ | refine blk_alloc ?_ _)); exact BK1235.out) hb); have n4_:=zx (below_step (by repeat (first | (with_reducible first | exact HB.out | apply below_alloc | apply pw_below_drewN | apply below_drew1 | refine below_set ?_ GE1235.out) | exact HB.out)) hb); clear HO1233; clear HO1238; clear BK1235; clear HB; have HO1233:=n0_; have HO1238:=n1_; have HO1241:=n2_; have BK1235:=n3_; have HB:=n4_; clear n0_ n1_ n2_ n3_ n4_; (try clear hb); (try clear hb2); (try clear hk); (try clear hi); (try clear ho0); obtain ⟨Ao19,co19,eo19⟩:=Kd.R_slice HO1238.out; subst eo19; obtain ⟨Ao20,co20,eo20⟩:=Kd.R_slice HO1241.out; subst eo20) | ((with_reducible refine gate_callee (f:=39) rfl ?_); refine goesL_ (some 26) rfl rfl Try.func39 (by kernel_rfl) rfl #[.slice Ao19 t1236.length co19,.slice Ao20 t1239.length co20] rfl (by (try simp only [List.map_toArray,List.map_cons,List.map_nil]); first | done | rfl | (simp only [List.length_drop,List.length_take]; rfl)) ?_; (with_reducible refine (laws_wkInts.calls k _ _ t1236 _ _ t1239 true _ ?side1 ?side2 ?side3 ?side4 A12.out).mono ?_); (case side1 => repeat (first | exact (Kd.R_reads' HO1238.out).2.2 | (with_reducible refine Kd.C_alloc ?_ _) | (with_reducible refine Kd.C_drewN ?_ _) | (with_reducible refine Kd.C_drew ?_))); (case side2 => exact (Kd.R_reads' HO1238.out).2.1); (case side3 => repeat (first | exact (Kd.R_reads' HO1241.out).2.2 | (with_reducible refine Kd.C_alloc ?_ _) | (with_reducible refine Kd.C_drewN ?_ _) | (with_reducible refine Kd.C_drew ?_))); (case side4 => exact (Kd.R_reads' HO1241.out).2.1); rintro e w' ⟨rfl,⟨nd,rfl⟩⟩; refine ⟨_,rfl,?_⟩; have hcz21_0 : w18.cell? ⟨gb1235,0,none⟩ = some (.int .i64 t1230):=(blk_cell BK1235.out 0).trans rfl; have hcz21_1 : w18.cell? ⟨gb1235,1,none⟩ = some (.slice Ao9 t1231.length co9):=(blk_cell BK1235.out 1).trans rfl; have hfz21_0:=blk_frozen BK1235.out 0; have hfz21_1:=blk_frozen BK1235.out 1) | (go_at_call 51; (with_reducible refine (impl_NetOk.calls t1230 _ _ t1231 true _ ?side1 ?side2 A14.out).mono ?_); (case side1 => repeat (first | exact (Kd.R_reads' HO1233.out).2.2 | (with_reducible refine Kd.C_alloc ?_ _) | (with_reducible refine Kd.C_drewN ?_ _) | (with_reducible refine Kd.C_drew ?_))); (case side2 => exact (Kd.R_reads' HO1233.out).2.1); rintro e w22 ⟨rfl,hb⟩; have n0_:=zx (Kd.R_below (by (with_reducible repeat (first | apply Kd.R_alloc | apply Kd.R_drewN | apply Kd.R_drew)); exact HO1233.out) hb); have n1_:=zx (Kd.R_below (by (with_reducible repeat (first | apply Kd.R_alloc | apply Kd.R_drewN | apply Kd.R_drew)); exact HO1238.out) hb); have n2_:=zx (Kd.R_below (by (with_reducible repeat (first | apply Kd.R_alloc | apply Kd.R_drewN | apply Kd.R_drew)); exact HO1241.out) hb); have n3_:=zx (blk_below (g:=gb1235) (o:=.cells #[.int .i64 t1230,.slice Ao9 t1231.length co9] 34 (0,0)) (by (with_reducible repeat (first | refine blk_drewN ?_ _ | refine blk_drew ?_ | refine blk_alloc ?_ _)); exact BK1235.out) hb); have n4_:=zx (below_step (by repeat (first | (with_reducible first | exact HB.out | apply below_alloc | apply pw_below_drewN | apply below_drew1 | refine below_set ?_ GE1235.out) | exact HB.out)) hb); clear HO1233; clear HO1238; clear HO1241; clear BK1235; clear HB; have HO1233:=n0_; have HO1238:=n1_; have HO1241:=n2_; have BK1235:=n3_; have HB:=n4_; clear n0_ n1_ n2_ n3_ n4_; (try clear hb); (try clear hb2); (try clear hk); (try clear hi)))
   go_meet
   case rel => exact ⟨_,(true),(by first | rfl | (simp; done) | (simp [*]; done)),H',⟨by first | omega | exact Nat.le_refl _⟩,⟨by (with_reducible repeat (first | apply Kd.R_alloc | apply Kd.R_drewN | apply Kd.R_drew)); exact Kd.R_mono HO1238.out (fun _ hk => trivial)⟩,⟨by (with_reducible repeat (first | apply Kd.R_alloc | apply Kd.R_drewN | apply Kd.R_drew)); exact HO1233.out⟩,⟨by (with_reducible repeat (first | refine blk_drewN ?_ _ | refine blk_drew ?_ | refine blk_alloc ?_ _)); exact BK1235.out⟩,⟨by repeat (first | (with_reducible first | exact HB.out | apply below_alloc | apply pw_below_drewN | apply below_drew1 | refine below_set ?_ GE1235.out) | exact HB.out)⟩⟩
  rw [if_neg c16] at H;have c16b0 : decide (t1234 < 0) = false:=decide_eq_false c16;clear c16
  (first | rw [c16b0] | (simp only [i64_w,i32_w]; rw [c16b0]) | skip)
  have H':=zx H;clear H;have hcz23_0 : w10.cell? ⟨gb1235,0,none⟩ = some (.int .i64 t1230):=(blk_cell BK1235.out 0).trans rfl;have hcz23_1 : w10.cell? ⟨gb1235,1,none⟩ = some (.slice Ao9 t1231.length co9):=(blk_cell BK1235.out 1).trans rfl;have hfz23_0:=blk_frozen BK1235.out 0;have hfz23_1:=blk_frozen BK1235.out 1
  go_wp2_with (first | ((with_reducible refine gate_callee (f:=56) rfl ?_); refine goesL_ (some 25) rfl rfl Try.func56 (by kernel_rfl) rfl #[.agg #[.int .i64 t1230,.slice Ao9 t1231.length co9],.int .i64 t1234] rfl (by (try simp only [List.map_toArray,List.map_cons,List.map_nil]); first | done | rfl | (simp only [List.length_drop,List.length_take]; rfl)) ?_; (with_reducible refine (spec_NetOut.calls k t1230 _ _ t1231 t1234 t1239 _ ?side1 ?side2 A11.out).mono ?_); (case side1 => repeat (first | exact (Kd.R_reads' HO1233.out).2.2 | (with_reducible refine Kd.C_alloc ?_ _) | (with_reducible refine Kd.C_drewN ?_ _) | (with_reducible refine Kd.C_drew ?_))); (case side2 => exact (Kd.R_reads' HO1233.out).2.1); rintro e w24 ⟨v1240,rfl,ho0,hb⟩; refine ⟨_,rfl,?_⟩; have n0_:=zx (Kd.R_below (by (with_reducible repeat (first | apply Kd.R_alloc | apply Kd.R_drewN | apply Kd.R_drew)); exact HO1233.out) hb); have n1_:=zx (Kd.R_elder' (by (with_reducible repeat (first | apply Kd.R_alloc | apply Kd.R_drewN | apply Kd.R_drew)); exact HO1238.out) (Kd.R_base ho0) hb); have n2_:=zx (Kd.R_lower (Kd.R_new' ho0 (Kd.R_lt (by (with_reducible repeat (first | apply Kd.R_alloc | apply Kd.R_drewN | apply Kd.R_drew)); exact HO1238.out))) (below_size (by repeat (first | (with_reducible first | exact HB.out | apply below_alloc | apply pw_below_drewN | apply below_drew1 | refine below_set ?_ GE1235.out) | exact HB.out)))); have n3_:=zx (blk_below (g:=gb1235) (o:=.cells #[.int .i64 t1230,.slice Ao9 t1231.length co9] 34 (0,0)) (by (with_reducible repeat (first | refine blk_drewN ?_ _ | refine blk_drew ?_ | refine blk_alloc ?_ _)); exact BK1235.out) hb); have n4_:=zx (below_step (by repeat (first | (with_reducible first | exact HB.out | apply below_alloc | apply pw_below_drewN | apply below_drew1 | refine below_set ?_ GE1235.out) | exact HB.out)) hb); clear HO1233; clear HO1238; clear BK1235; clear HB; have HO1233:=n0_; have HO1238:=n1_; have HO1241:=n2_; have BK1235:=n3_; have HB:=n4_; clear n0_ n1_ n2_ n3_ n4_; (try clear hb); (try clear hb2); (try clear hk); (try clear hi); (try clear ho0); obtain ⟨Ao25,co25,eo25⟩:=Kd.R_slice HO1238.out; subst eo25; obtain ⟨Ao26,co26,eo26⟩:=Kd.R_slice HO1241.out; subst eo26) | ((with_reducible refine gate_callee (f:=39) rfl ?_); refine goesL_ (some 26) rfl rfl Try.func39 (by kernel_rfl) rfl #[.slice Ao25 t1236.length co25,.slice Ao26 t1239.length co26] rfl (by (try simp only [List.map_toArray,List.map_cons,List.map_nil]); first | done | rfl | (simp only [List.length_drop,List.length_take]; rfl)) ?_; (with_reducible refine (laws_wkInts.calls k _ _ t1236 _ _ t1239 true _ ?side1 ?side2 ?side3 ?side4 A12.out).mono ?_); (case side1 => repeat (first | exact (Kd.R_reads' HO1238.out).2.2 | (with_reducible refine Kd.C_alloc ?_ _) | (with_reducible refine Kd.C_drewN ?_ _) | (with_reducible refine Kd.C_drew ?_))); (case side2 => exact (Kd.R_reads' HO1238.out).2.1); (case side3 => repeat (first | exact (Kd.R_reads' HO1241.out).2.2 | (with_reducible refine Kd.C_alloc ?_ _) | (with_reducible refine Kd.C_drewN ?_ _) | (with_reducible refine Kd.C_drew ?_))); (case side4 => exact (Kd.R_reads' HO1241.out).2.1); rintro e w' ⟨rfl,⟨nd,rfl⟩⟩; refine ⟨_,rfl,?_⟩; have hcz27_0 : w24.cell? ⟨gb1235,0,none⟩ = some (.int .i64 t1230):=(blk_cell BK1235.out 0).trans rfl; have hcz27_1 : w24.cell? ⟨gb1235,1,none⟩ = some (.slice Ao9 t1231.length co9):=(blk_cell BK1235.out 1).trans rfl; have hfz27_0:=blk_frozen BK1235.out 0; have hfz27_1:=blk_frozen BK1235.out 1) | (go_at_call 51; (with_reducible refine (impl_NetOk.calls t1230 _ _ t1231 true _ ?side1 ?side2 A14.out).mono ?_); (case side1 => repeat (first | exact (Kd.R_reads' HO1233.out).2.2 | (with_reducible refine Kd.C_alloc ?_ _) | (with_reducible refine Kd.C_drewN ?_ _) | (with_reducible refine Kd.C_drew ?_))); (case side2 => exact (Kd.R_reads' HO1233.out).2.1); rintro e w28 ⟨rfl,hb⟩; have n0_:=zx (Kd.R_below (by (with_reducible repeat (first | apply Kd.R_alloc | apply Kd.R_drewN | apply Kd.R_drew)); exact HO1233.out) hb); have n1_:=zx (Kd.R_below (by (with_reducible repeat (first | apply Kd.R_alloc | apply Kd.R_drewN | apply Kd.R_drew)); exact HO1238.out) hb); have n2_:=zx (Kd.R_below (by (with_reducible repeat (first | apply Kd.R_alloc | apply Kd.R_drewN | apply Kd.R_drew)); exact HO1241.out) hb); have n3_:=zx (blk_below (g:=gb1235) (o:=.cells #[.int .i64 t1230,.slice Ao9 t1231.length co9] 34 (0,0)) (by (with_reducible repeat (first | refine blk_drewN ?_ _ | refine blk_drew ?_ | refine blk_alloc ?_ _)); exact BK1235.out) hb); have n4_:=zx (below_step (by repeat (first | (with_reducible first | exact HB.out | apply below_alloc | apply pw_below_drewN | apply below_drew1 | refine below_set ?_ GE1235.out) | exact HB.out)) hb); clear HO1233; clear HO1238; clear HO1241; clear BK1235; clear HB; have HO1233:=n0_; have HO1238:=n1_; have HO1241:=n2_; have BK1235:=n3_; have HB:=n4_; clear n0_ n1_ n2_ n3_ n4_; (try clear hb); (try clear hb2); (try clear hk); (try clear hi); have hcz29_0 : w28.cell? ⟨gb1235,0,none⟩ = some (.int .i64 t1230):=(blk_cell BK1235.out 0).trans rfl; have hcz29_1 : w28.cell? ⟨gb1235,1,none⟩ = some (.slice Ao9 t1231.length co9):=(blk_cell BK1235.out 1).trans rfl; have hfz29_0:=blk_frozen BK1235.out 0; have hfz29_1:=blk_frozen BK1235.out 1))
  go_meet
  case rel => exact ⟨_,(decide (t1234 ≥ t1230)),(by first | rfl | (simp; done) | (simp [*]; done)),H',⟨by first | omega | exact Nat.le_refl _⟩,⟨by (with_reducible repeat (first | apply Kd.R_alloc | apply Kd.R_drewN | apply Kd.R_drew)); exact Kd.R_mono HO1238.out (fun _ hk => trivial)⟩,⟨by (with_reducible repeat (first | apply Kd.R_alloc | apply Kd.R_drewN | apply Kd.R_drew)); exact HO1233.out⟩,⟨by (with_reducible repeat (first | refine blk_drewN ?_ _ | refine blk_drew ?_ | refine blk_alloc ?_ _)); exact BK1235.out⟩,⟨by repeat (first | (with_reducible first | exact HB.out | apply below_alloc | apply pw_below_drewN | apply below_drew1 | refine below_set ?_ GE1235.out) | exact HB.out)⟩⟩
 case rest =>
  clear HC5
  try clear c1
  try clear c2
  try clear c2b0
  try clear c2b1
  try clear p2
  try clear c3
  try clear c5
  try clear c12
  try clear c13
  try clear c15
  try clear c16
  try clear c16b0
  try clear c39
  try clear hcz17_0
  try clear hcz17_1
  try clear hcz21_0
  try clear hcz21_1
  try clear hcz23_0
  try clear hcz23_1
  try clear hcz27_0
  try clear hcz27_1
  try clear hcz29_0
  try clear hcz29_1
  try clear hcz30_0
  try clear hcz30_1
  try clear hcz34_0
  try clear hcz34_1
  try clear hcz36_0
  try clear hcz36_1
  try clear hcz8_0
  try clear hcz8_1
  try clear hfz17_0
  try clear hfz17_1
  try clear hfz21_0
  try clear hfz21_1
  try clear hfz23_0
  try clear hfz23_1
  try clear hfz27_0
  try clear hfz27_1
  try clear hfz29_0
  try clear hfz29_1
  try clear hfz30_0
  try clear hfz30_1
  try clear hfz34_0
  try clear hfz34_1
  try clear hfz36_0
  try clear hfz36_1
  try clear hfz8_0
  try clear hfz8_1
  obtain ⟨kq,x42_4,rfl,HA,HJ4,HO_5,HO_1236001,BK1235,HB⟩:=hcut;cases kq with
  | zero => exact absurd HA.out (by simp [laws_FnTreeReach.j0])
  | succ kj4 =>
   have H:=HA.out;clear HA;simp only [laws_FnTreeReach.j0] at H
   by_cases c40 : x42_4 = true
   case pos =>
    subst c40;have H1 : ((spec_NetOut.f kj4 t1230 t1231 t1234).bind fun t1244 => ((laws_wkInts.f kj4 t1236 t1244).bind fun t1247 => (some t1247))) = some r:=by rw [if_pos rfl] at H; exact H
    clear H;have H:=H1;clear H1;replace H:=Option.bind_eq_some_iff.mp H;obtain ⟨t1244,A410,H⟩:=H;replace H : ((laws_wkInts.f kj4 t1236 t1244).bind fun t1247 => (some t1247)) = some r:=H;have A41:=zx A410;clear A410;replace H:=Option.bind_eq_some_iff.mp H;obtain ⟨t1247,A420,H⟩:=H;replace H : (some t1247) = some r:=H;have A42:=zx A420;clear A420;obtain rfl:=Option.some.inj H;have hcz43_0 : wc.cell? ⟨gb1235,0,none⟩ = some (.int .i64 t1230):=(blk_cell BK1235.out 0).trans rfl;have hcz43_1 : wc.cell? ⟨gb1235,1,none⟩ = some (.slice Ao9 t1231.length co9):=(blk_cell BK1235.out 1).trans rfl;have hfz43_0:=blk_frozen BK1235.out 0;have hfz43_1:=blk_frozen BK1235.out 1
    go_wp2_with (first | ((with_reducible refine gate_callee (f:=56) rfl ?_); refine goesL_ (some 46) rfl rfl Try.func56 (by kernel_rfl) rfl #[.agg #[.int .i64 t1230,.slice Ao9 t1231.length co9],.int .i64 t1234] rfl (by (try simp only [List.map_toArray,List.map_cons,List.map_nil]); first | done | rfl | (simp only [List.length_drop,List.length_take]; rfl)) ?_; (with_reducible refine (spec_NetOut.calls kj4 t1230 _ _ t1231 t1234 t1244 _ ?side1 ?side2 A41.out).mono ?_); (case side1 => repeat (first | exact (Kd.R_reads' HO_1236001.out).2.2 | (with_reducible refine Kd.C_alloc ?_ _) | (with_reducible refine Kd.C_drewN ?_ _) | (with_reducible refine Kd.C_drew ?_))); (case side2 => exact (Kd.R_reads' HO_1236001.out).2.1); rintro e w44 ⟨v1245,rfl,ho0,hb⟩; refine ⟨_,rfl,?_⟩; have n0_:=zx (Kd.R_elder' (by (with_reducible repeat (first | apply Kd.R_alloc | apply Kd.R_drewN | apply Kd.R_drew)); exact HO_5.out) (Kd.R_base ho0) hb); have n1_:=zx (Kd.R_below (by (with_reducible repeat (first | apply Kd.R_alloc | apply Kd.R_drewN | apply Kd.R_drew)); exact HO_1236001.out) hb); have n2_:=zx (Kd.R_lower (Kd.R_new' ho0 (Kd.R_lt (by (with_reducible repeat (first | apply Kd.R_alloc | apply Kd.R_drewN | apply Kd.R_drew)); exact HO_5.out))) (below_size (by repeat (first | (with_reducible first | exact HB.out | apply below_alloc | apply pw_below_drewN | apply below_drew1 | refine below_set ?_ GE1235.out) | exact HB.out)))); have n3_:=zx (blk_below (g:=gb1235) (o:=.cells #[.int .i64 t1230,.slice Ao9 t1231.length co9] 34 (0,0)) (by (with_reducible repeat (first | refine blk_drewN ?_ _ | refine blk_drew ?_ | refine blk_alloc ?_ _)); exact BK1235.out) hb); have n4_:=zx (below_step (by repeat (first | (with_reducible first | exact HB.out | apply below_alloc | apply pw_below_drewN | apply below_drew1 | refine below_set ?_ GE1235.out) | exact HB.out)) hb); clear HO_5; clear HO_1236001; clear BK1235; clear HB; have HO_5:=n0_; have HO_1236001:=n1_; have HO1246:=n2_; have BK1235:=n3_; have HB:=n4_; clear n0_ n1_ n2_ n3_ n4_; (try clear hb); (try clear hb2); (try clear hk); (try clear hi); (try clear ho0); obtain ⟨Ao45,co45,eo45⟩:=Kd.R_slice HO_5.out; subst eo45; obtain ⟨Ao46,co46,eo46⟩:=Kd.R_slice HO1246.out; subst eo46) | ((with_reducible refine gate_callee (f:=39) rfl ?_); refine goesL_ (some 47) rfl rfl Try.func39 (by kernel_rfl) rfl #[.slice Ao45 t1236.length co45,.slice Ao46 t1244.length co46] rfl (by (try simp only [List.map_toArray,List.map_cons,List.map_nil]); first | done | rfl | (simp only [List.length_drop,List.length_take]; rfl)) ?_; (with_reducible refine (laws_wkInts.calls kj4 _ _ t1236 _ _ t1244 t1247 _ ?side1 ?side2 ?side3 ?side4 A42.out).mono ?_); (case side1 => repeat (first | exact (Kd.R_reads' HO_5.out).2.2 | (with_reducible refine Kd.C_alloc ?_ _) | (with_reducible refine Kd.C_drewN ?_ _) | (with_reducible refine Kd.C_drew ?_))); (case side2 => exact (Kd.R_reads' HO_5.out).2.1); (case side3 => repeat (first | exact (Kd.R_reads' HO1246.out).2.2 | (with_reducible refine Kd.C_alloc ?_ _) | (with_reducible refine Kd.C_drewN ?_ _) | (with_reducible refine Kd.C_drew ?_))); (case side4 => exact (Kd.R_reads' HO1246.out).2.1); rintro e w' ⟨rfl,⟨nd,rfl⟩⟩; refine ⟨_,rfl,?_⟩))
    go_ret;exact ⟨by first | rfl | (simp [errW_none,errW_some] <;> rfl) | (simp [*,errW_none,errW_some] <;> rfl),by repeat (first | (with_reducible first | exact HB.out | apply below_alloc | apply pw_below_drewN | apply below_drew1 | refine below_set ?_ GE1235.out) | exact HB.out)⟩
   replace c40:=Bool.eq_false_iff.mpr c40;subst c40;have H1 : ((impl_TreeBest.f kj4 t1230 t1231).bind fun t1248 => ((impl_TreeParts.f kj4 t1230 t1231 t1248).bind fun t1251 => ((impl_ReachIn.f kj4 t1230 t1231 t1234 99999).bind fun t1254 => (laws_FnTreeReach.l0 kj4 t1234 t1251 t1254 0 t1230 t1231)))) = some r:=by rw [if_neg (show ¬ (false = true) by decide)] at H; exact H
   clear H;have H:=H1;clear H1;replace H:=Option.bind_eq_some_iff.mp H;obtain ⟨t1248,A470,H⟩:=H;replace H : ((impl_TreeParts.f kj4 t1230 t1231 t1248).bind fun t1251 => ((impl_ReachIn.f kj4 t1230 t1231 t1234 99999).bind fun t1254 => (laws_FnTreeReach.l0 kj4 t1234 t1251 t1254 0 t1230 t1231))) = some r:=H;have A47:=zx A470;clear A470;replace H:=Option.bind_eq_some_iff.mp H;obtain ⟨t1251,A480,H⟩:=H;replace H : ((impl_ReachIn.f kj4 t1230 t1231 t1234 99999).bind fun t1254 => (laws_FnTreeReach.l0 kj4 t1234 t1251 t1254 0 t1230 t1231)) = some r:=H;have A48:=zx A480;clear A480;replace H:=Option.bind_eq_some_iff.mp H;obtain ⟨t1254,A490,H⟩:=H;replace H : (laws_FnTreeReach.l0 kj4 t1234 t1251 t1254 0 t1230 t1231) = some r:=H;have A49:=zx A490;clear A490;have H':=zx H;clear H
   try go_wp2
   have n0_:=zx (Kd.R_drew HO_5.out);have n1_:=zx (Kd.R_drew HO_1236001.out);have n2_:=zx (blk_drew BK1235.out);have n3_:=zx (below_drew1 HB.out);clear HO_5;clear HO_1236001;clear BK1235;clear HB;have HO_5:=n0_;have HO_1236001:=n1_;have BK1235:=n2_;have HB:=n3_;clear n0_ n1_ n2_ n3_;refine start_ (n:=5) (S:=fun w' => w'.cell? ⟨gb1235,0,none⟩ = some (.int .i64 t1230) ∧ w'.cell? ⟨gb1235,1,none⟩ = some (.slice Ao9 t1231.length co9)) (ds:=[]) #[false,false,false,false,false] (by kernel_rfl) rfl rfl ⟨(blk_cell BK1235.out 0).trans rfl,(blk_cell BK1235.out 1).trans rfl⟩ (fun hHeld => ?_);generalize wc.drew = w50 at HO_5 HO_1236001 BK1235 HB hHeld ⊢;refine take_ (i:=0) (N:=some 48) (v:=?_) (a':=?_) #[true,false,false,false,false] rfl rfl (by kernel_rfl) (fun _ _ _ h => h) (Or.inl ⟨by rfl,?_⟩) hHeld ?_ ?_;rotate_left
   ·rintro w' ⟨s0,s1⟩;go_simp;with_reducible rfl
   rotate_left
   ·simp only [Act.put,U,V,Z,i64_w,i32_w];rfl
   refine take_ (i:=1) (N:=some 49) (v:=?_) (a':=?_) #[true,true,false,false,false] rfl rfl (by kernel_rfl) (fun _ _ _ h => h) (Or.inl ⟨by rfl,?_⟩) hHeld ?_ ?_;rotate_left
   ·rintro w' ⟨s0,s1⟩;go_simp;with_reducible rfl
   rotate_left
   ·simp only [Act.put,U,V,Z,i64_w,i32_w];rfl
   refine one_ (i:=2) (N:=some 50) #[true,true,true,false,false] rfl rfl (by kernel_rfl) (by decide) (fun K hK => ?_);refine goes_ Try.func49 (by kernel_rfl) rfl #[.agg #[.int .i64 t1230,.slice Ao9 t1231.length co9]] (by rfl) rfl rfl (by (try simp only [List.map_toArray,List.map_cons,List.map_nil]); first | done | rfl | (simp only [List.length_drop,List.length_take]; rfl)) ?_;with_reducible refine (impl_TreeBest.calls kj4 t1230 _ _ t1231 t1248 _ ?side1 ?side2 A47.out).mono ?_
   (case side1 => repeat (first | exact (Kd.R_reads' HO_1236001.out).2.2 | (with_reducible refine Kd.C_alloc ?_ _) | (with_reducible refine Kd.C_drewN ?_ _) | (with_reducible refine Kd.C_drew ?_)))
   (case side2 => exact (Kd.R_reads' HO_1236001.out).2.1)
   rintro e w51 ⟨v1249,rfl,ho0,hb⟩;refine ⟨_,rfl,?_⟩;have n0_:=zx (Kd.R_elder' (by (with_reducible repeat (first | apply Kd.R_alloc | apply Kd.R_drewN | apply Kd.R_drew)); exact HO_5.out) (Kd.R_base ho0) hb);have n1_:=zx (Kd.R_below (by (with_reducible repeat (first | apply Kd.R_alloc | apply Kd.R_drewN | apply Kd.R_drew)); exact HO_1236001.out) hb);have n2_:=zx (Kd.R_lower (Kd.R_new' ho0 (Kd.R_lt (by (with_reducible repeat (first | apply Kd.R_alloc | apply Kd.R_drewN | apply Kd.R_drew)); exact HO_5.out))) (below_size (by repeat (first | (with_reducible first | exact HB.out | apply below_alloc | apply pw_below_drewN | apply below_drew1 | refine below_set ?_ GE1235.out) | exact HB.out))));have n3_:=zx (blk_below (g:=gb1235) (o:=.cells #[.int .i64 t1230,.slice Ao9 t1231.length co9] 34 (0,0)) (by (with_reducible repeat (first | refine blk_drewN ?_ _ | refine blk_drew ?_ | refine blk_alloc ?_ _)); exact BK1235.out) hb);have n4_:=zx (below_step (by repeat (first | (with_reducible first | exact HB.out | apply below_alloc | apply pw_below_drewN | apply below_drew1 | refine below_set ?_ GE1235.out) | exact HB.out)) hb);clear HO_5;clear HO_1236001;clear BK1235;clear HB;have HO_5:=n0_;have HO_1236001:=n1_;have HO1250:=n2_;have BK1235:=n3_;have HB:=n4_;clear n0_ n1_ n2_ n3_ n4_
   (try clear hb)
   (try clear hb2)
   (try clear hk)
   (try clear hi)
   (try clear ho0)
   obtain ⟨Ao52,co52,eo52⟩:=Kd.R_slice HO1250.out
   (first | subst eo52 | (injection eo52 with f1_ f2_ f3_; have f4_:=f1_.symm; have f5_:=f3_.symm; clear f1_ f2_ f3_; subst f4_; subst f5_))
   refine hK.out _ _ ⟨(blk_cell BK1235.out 0).trans rfl,(blk_cell BK1235.out 1).trans rfl⟩ (fun hHeld => ?_);clear hK K;refine norm_ (a':=?_) ?_ ?_;rotate_left
   ·show Act.put _ (some 50) _ = _
    simp only [Act.put,U,V,Z,i64_w,i32_w];rfl
   refine one_ (i:=3) (N:=some 51) #[true,true,true,true,false] rfl rfl (by kernel_rfl) (by decide) (fun K hK => ?_);refine goes_ Try.func52 (by kernel_rfl) rfl #[.agg #[.int .i64 t1230,.slice Ao9 t1231.length co9],.slice Ao52 t1248.length co52] (by rfl) rfl rfl (by (try simp only [List.map_toArray,List.map_cons,List.map_nil]); first | done | rfl | (simp only [List.length_drop,List.length_take]; rfl)) ?_;with_reducible refine (impl_TreeParts.calls kj4 t1230 _ _ t1231 _ _ t1248 t1251 _ ?side1 ?side2 ?side3 ?side4 A48.out).mono ?_
   (case side1 => repeat (first | exact (Kd.R_reads' HO_1236001.out).2.2 | (with_reducible refine Kd.C_alloc ?_ _) | (with_reducible refine Kd.C_drewN ?_ _) | (with_reducible refine Kd.C_drew ?_)))
   (case side2 => exact (Kd.R_reads' HO_1236001.out).2.1)
   (case side3 => repeat (first | exact (Kd.R_reads' HO1250.out).2.2 | (with_reducible refine Kd.C_alloc ?_ _) | (with_reducible refine Kd.C_drewN ?_ _) | (with_reducible refine Kd.C_drew ?_)))
   (case side4 => exact (Kd.R_reads' HO1250.out).2.1)
   rintro e w53 ⟨v1252,rfl,ho0,hb⟩;refine ⟨_,rfl,?_⟩;have n0_:=zx (Kd.R_elder' (by (with_reducible repeat (first | apply Kd.R_alloc | apply Kd.R_drewN | apply Kd.R_drew)); exact HO_5.out) (Kd.R_base ho0) hb);have n1_:=zx (Kd.R_below (by (with_reducible repeat (first | apply Kd.R_alloc | apply Kd.R_drewN | apply Kd.R_drew)); exact HO_1236001.out) hb);have n2_:=zx (Kd.R_elder' (by (with_reducible repeat (first | apply Kd.R_alloc | apply Kd.R_drewN | apply Kd.R_drew)); exact HO1250.out) (Kd.R_base ho0) hb);have n3_:=zx (Kd.R_lower (Kd.R_new' (Kd.R_new' ho0 (Kd.R_lt (by (with_reducible repeat (first | apply Kd.R_alloc | apply Kd.R_drewN | apply Kd.R_drew)); exact HO_5.out))) (Kd.R_lt (by (with_reducible repeat (first | apply Kd.R_alloc | apply Kd.R_drewN | apply Kd.R_drew)); exact HO1250.out))) (below_size (by repeat (first | (with_reducible first | exact HB.out | apply below_alloc | apply pw_below_drewN | apply below_drew1 | refine below_set ?_ GE1235.out) | exact HB.out))));have n4_:=zx (blk_below (g:=gb1235) (o:=.cells #[.int .i64 t1230,.slice Ao9 t1231.length co9] 34 (0,0)) (by (with_reducible repeat (first | refine blk_drewN ?_ _ | refine blk_drew ?_ | refine blk_alloc ?_ _)); exact BK1235.out) hb);have n5_:=zx (below_step (by repeat (first | (with_reducible first | exact HB.out | apply below_alloc | apply pw_below_drewN | apply below_drew1 | refine below_set ?_ GE1235.out) | exact HB.out)) hb);clear HO_5;clear HO_1236001;clear HO1250;clear BK1235;clear HB;have HO_5:=n0_;have HO_1236001:=n1_;have HO1250:=n2_;have HO1253:=n3_;have BK1235:=n4_;have HB:=n5_;clear n0_ n1_ n2_ n3_ n4_ n5_
   (try clear hb)
   (try clear hb2)
   (try clear hk)
   (try clear hi)
   (try clear ho0)
   refine hK.out _ _ ⟨(blk_cell BK1235.out 0).trans rfl,(blk_cell BK1235.out 1).trans rfl⟩ (fun hHeld => ?_);clear hK K;refine norm_ (a':=?_) ?_ ?_;rotate_left
   ·show Act.put _ (some 51) _ = _
    simp only [Act.put,U,V,Z,i64_w,i32_w];rfl
   refine pure_ (i:=4) (N:=some 6) (v:=?_) (a':=?_) #[true,true,true,true,true] rfl rfl (by kernel_rfl) (fun _ _ _ h => h) (Or.inl ⟨by rfl,?_⟩) ?_ ?_;rotate_left
   ·intro w';go_simp;with_reducible rfl
   rotate_left
   ·simp only [Act.put,U,V,Z,i64_w,i32_w];rfl
   refine done_ (by kernel_rfl) ?_;have hcz54_0 : w53.cell? ⟨gb1235,0,none⟩ = some (.int .i64 t1230):=(blk_cell BK1235.out 0).trans rfl;have hcz54_1 : w53.cell? ⟨gb1235,1,none⟩ = some (.slice Ao9 t1231.length co9):=(blk_cell BK1235.out 1).trans rfl;have hfz54_0:=blk_frozen BK1235.out 0;have hfz54_1:=blk_frozen BK1235.out 1
   try go_wp2_with (first | ((with_reducible refine gate_callee (f:=57) rfl ?_); refine goesL_ (some 54) rfl rfl Try.func57 (by kernel_rfl) rfl #[.agg #[.int .i64 t1230,.slice Ao9 t1231.length co9],.int .i64 t1234,.int .i64 99999] rfl (by (try simp only [List.map_toArray,List.map_cons,List.map_nil]); first | done | rfl | (simp only [List.length_drop,List.length_take]; rfl)) ?_; (with_reducible refine (impl_ReachIn.calls kj4 t1230 _ _ t1231 t1234 99999 t1254 _ ?side1 ?side2 A49.out).mono ?_); (case side1 => repeat (first | exact (Kd.R_reads' HO_1236001.out).2.2 | (with_reducible refine Kd.C_alloc ?_ _) | (with_reducible refine Kd.C_drewN ?_ _) | (with_reducible refine Kd.C_drew ?_))); (case side2 => exact (Kd.R_reads' HO_1236001.out).2.1); rintro e w55 ⟨v1255,rfl,ho0,hb⟩; refine ⟨_,rfl,?_⟩; have n0_:=zx (Kd.R_elder' (by (with_reducible repeat (first | apply Kd.R_alloc | apply Kd.R_drewN | apply Kd.R_drew)); exact HO_5.out) (Kd.R_base ho0) hb); have n1_:=zx (Kd.R_below (by (with_reducible repeat (first | apply Kd.R_alloc | apply Kd.R_drewN | apply Kd.R_drew)); exact HO_1236001.out) hb); have n2_:=zx (Kd.R_elder' (by (with_reducible repeat (first | apply Kd.R_alloc | apply Kd.R_drewN | apply Kd.R_drew)); exact HO1250.out) (Kd.R_base ho0) hb); have n3_:=zx (Kd.R_elder' (by (with_reducible repeat (first | apply Kd.R_alloc | apply Kd.R_drewN | apply Kd.R_drew)); exact HO1253.out) (Kd.R_base ho0) hb); have n4_:=zx (Kd.R_lower (Kd.R_new' (Kd.R_new' (Kd.R_new' ho0 (Kd.R_lt (by (with_reducible repeat (first | apply Kd.R_alloc | apply Kd.R_drewN | apply Kd.R_drew)); exact HO_5.out))) (Kd.R_lt (by (with_reducible repeat (first | apply Kd.R_alloc | apply Kd.R_drewN | apply Kd.R_drew)); exact HO1250.out))) (Kd.R_lt (by (with_reducible repeat (first | apply Kd.R_alloc | apply Kd.R_drewN | apply Kd.R_drew)); exact HO1253.out))) (below_size (by repeat (first | (with_reducible first | exact HB.out | apply below_alloc | apply pw_below_drewN | apply below_drew1 | refine below_set ?_ GE1235.out) | exact HB.out)))); have n5_:=zx (blk_below (g:=gb1235) (o:=.cells #[.int .i64 t1230,.slice Ao9 t1231.length co9] 34 (0,0)) (by (with_reducible repeat (first | refine blk_drewN ?_ _ | refine blk_drew ?_ | refine blk_alloc ?_ _)); exact BK1235.out) hb); have n6_:=zx (below_step (by repeat (first | (with_reducible first | exact HB.out | apply below_alloc | apply pw_below_drewN | apply below_drew1 | refine below_set ?_ GE1235.out) | exact HB.out)) hb); clear HO_5; clear HO_1236001; clear HO1250; clear HO1253; clear BK1235; clear HB; have HO_5:=n0_; have HO_1236001:=n1_; have HO1250:=n2_; have HO1253:=n3_; have HO1256:=n4_; have BK1235:=n5_; have HB:=n6_; clear n0_ n1_ n2_ n3_ n4_ n5_ n6_; (try clear hb); (try clear hb2); (try clear hk); (try clear hi); (try clear ho0)))
   go_loopg [8] kj4 (fun kq v8 w' => ∃ (x8_2 : Int),v8 = .int .i64 x8_2 ∧ Aside0 (laws_FnTreeReach.l0 kq t1234 t1251 t1254 x8_2 t1230 t1231 = some r) ∧ Aside0 (kq ≤ kj4) ∧ Aside0 (Kd.R (Kd.int .i64) 3 w' w.heap.size (fun k_ => some k_ ≠ (v1255 : Value).ownBlock) v1252 t1251) ∧ Aside0 (Kd.R (Kd.int .i64) 3 w' w.heap.size (fun k_ => some k_ ≠ (v1252 : Value).ownBlock) v1255 t1254) ∧ Aside0 (Kd.R k58 58 w' w.heap.size (fun _ => True) (.slice Ao9 t1231.length co9) t1231) ∧ Aside0 (w'.heap[gb1235]? = some (.cells #[.int .i64 t1230,(.slice Ao9 t1231.length co9)] 34 (0,0))) ∧ Aside0 (Below w.heap.size w w'))
   case atStart => exact ⟨(0),(by first | rfl | (simp; done) | (simp [*]; done)),H',⟨Nat.le_refl _⟩,⟨by (with_reducible repeat (first | apply Kd.R_alloc | apply Kd.R_drewN | apply Kd.R_drew)); exact Kd.R_mono HO1253.out (fun _ hk => hk.2)⟩,⟨by (with_reducible repeat (first | apply Kd.R_alloc | apply Kd.R_drewN | apply Kd.R_drew)); exact Kd.R_mono HO1256.out (fun _ hk => hk.2)⟩,⟨by (with_reducible repeat (first | apply Kd.R_alloc | apply Kd.R_drewN | apply Kd.R_drew)); exact HO_1236001.out⟩,⟨by (with_reducible repeat (first | refine blk_drewN ?_ _ | refine blk_drew ?_ | refine blk_alloc ?_ _)); exact BK1235.out⟩,⟨by repeat (first | (with_reducible first | exact HB.out | apply below_alloc | apply pw_below_drewN | apply below_drew1 | refine below_set ?_ GE1235.out) | exact HB.out)⟩⟩
   case round =>
    clear H'
    try clear c1
    try clear c2
    try clear c2b0
    try clear c2b1
    try clear p2
    try clear c3
    try clear c4
    try clear c5
    try clear c12
    try clear c13
    try clear c15
    try clear c16
    try clear c16b0
    try clear c39
    try clear c40
    try clear c49
    try clear c52
    try clear c54
    try clear c55
    try clear hcz17_0
    try clear hcz17_1
    try clear hcz21_0
    try clear hcz21_1
    try clear hcz23_0
    try clear hcz23_1
    try clear hcz27_0
    try clear hcz27_1
    try clear hcz29_0
    try clear hcz29_1
    try clear hcz30_0
    try clear hcz30_1
    try clear hcz34_0
    try clear hcz34_1
    try clear hcz36_0
    try clear hcz36_1
    try clear hcz43_0
    try clear hcz43_1
    try clear hcz54_0
    try clear hcz54_1
    try clear hcz8_0
    try clear hcz8_1
    try clear hfz17_0
    try clear hfz17_1
    try clear hfz21_0
    try clear hfz21_1
    try clear hfz23_0
    try clear hfz23_1
    try clear hfz27_0
    try clear hfz27_1
    try clear hfz29_0
    try clear hfz29_1
    try clear hfz30_0
    try clear hfz30_1
    try clear hfz34_0
    try clear hfz34_1
    try clear hfz36_0
    try clear hfz36_1
    try clear hfz43_0
    try clear hfz43_1
    try clear hfz54_0
    try clear hfz54_1
    try clear hfz8_0
    try clear hfz8_1
    try clear p2
    obtain ⟨x8_2,rfl,HA,HK2,HO_6,HO_7,HO_1236001,BK1235,HB⟩:=hrel;cases gk with
    | zero => exact absurd HA.out (by simp [laws_FnTreeReach.l0])
    | succ k2 =>
     have H:=HA.out;clear HA;simp only [laws_FnTreeReach.l0] at H
     by_cases c56 : x8_2 < (t1254.length : Int)
     case pos =>
      rw [if_pos c56] at H;have c56b0 : decide (x8_2 < (t1254.length : Int)) = true:=decide_eq_true c56;clear c56
      by_cases c57 : 0 ≤ x8_2
      case neg =>
       rw [if_neg c57] at H;exact absurd H (by simp)
      rw [if_pos c57] at H;have c57b0 : decide (0 ≤ x8_2) = true:=decide_eq_true c57;clear c57
      by_cases c58 : 0 ≤ (rd t1254 x8_2)
      case neg =>
       rw [if_neg c58] at H;exact absurd H (by simp)
      rw [if_pos c58] at H;have c58b0 : decide (0 ≤ (rd t1254 x8_2)) = true:=decide_eq_true c58;clear c58
      by_cases c59 : (rd t1254 x8_2) < (t1251.length : Int)
      case neg =>
       rw [if_neg c59] at H;exact absurd H (by simp)
      rw [if_pos c59] at H;have c59b0 : decide ((rd t1254 x8_2) < (t1251.length : Int)) = true:=decide_eq_true c59;clear c59
      by_cases c60 : 0 ≤ t1234
      case neg =>
       rw [if_neg c60] at H;exact absurd H (by simp)
      rw [if_pos c60] at H;have c60b0 : decide (0 ≤ t1234) = true:=decide_eq_true c60;clear c60
      by_cases c61 : t1234 < (t1251.length : Int)
      case neg =>
       rw [if_neg c61] at H;exact absurd H (by simp)
      rw [if_pos c61] at H;have c61b0 : decide (t1234 < (t1251.length : Int)) = true:=decide_eq_true c61;clear c61
      by_cases c62 : (rd t1251 (rd t1254 x8_2)) = (rd t1251 t1234)
      case neg =>
       rw [if_neg c62] at H;have c62b0 : ((rd t1251 (rd t1254 x8_2)) == (rd t1251 t1234)) = false:=beq_eq_false_iff_ne.mpr c62;have c62b1 : ((rd t1251 (rd t1254 x8_2)) != (rd t1251 t1234)) = true:=bne_iff_ne.mpr c62;obtain rfl:=Option.some.inj H;obtain ⟨Ao66,co66,eo66⟩:=Kd.R_slice HO_7.out;subst eo66
       try go_wp2
       have n0_:=zx (Kd.R_drew HO_6.out);have n1_:=zx (Kd.R_drew HO_7.out);have n2_:=zx (Kd.R_drew HO_1236001.out);have n3_:=zx (blk_drew BK1235.out);have n4_:=zx (below_drew1 HB.out);clear HO_6;clear HO_7;clear HO_1236001;clear BK1235;clear HB;have HO_6:=n0_;have HO_7:=n1_;have HO_1236001:=n2_;have BK1235:=n3_;have HB:=n4_;clear n0_ n1_ n2_ n3_ n4_;have p1257 : 0 ≤ (x8_2 : Int):=of_decide_eq_true (by first | (with_reducible assumption) | assumption);have q1257 : x8_2 < (t1254.length : Int):=of_decide_eq_true (by first | (with_reducible assumption) | assumption);obtain ⟨ad1257,e1257,hx1257_0⟩:=Kd.at_int (Kd.R_reads' HO_7.out).2.2 x8_2 p1257 q1257;cases e1257;replace p1257:=eq_true p1257;replace q1257:=eq_true q1257;obtain ⟨Ao68,co68,eo68⟩:=Kd.R_slice HO_6.out
       (first | subst eo68 | (injection eo68 with f1_ f2_ f3_; have f4_:=f1_.symm; have f5_:=f3_.symm; clear f1_ f2_ f3_; subst f4_; subst f5_))
       have p1258 : 0 ≤ ((rd t1254 x8_2) : Int):=of_decide_eq_true (by first | (with_reducible assumption) | assumption);have q1258 : (rd t1254 x8_2) < (t1251.length : Int):=of_decide_eq_true (by first | (with_reducible assumption) | assumption);obtain ⟨ad1258,e1258,hx1258_0⟩:=Kd.at_int (Kd.R_reads' HO_6.out).2.2 (rd t1254 x8_2) p1258 q1258;cases e1258;replace p1258:=eq_true p1258;replace q1258:=eq_true q1258;have p1259 : 0 ≤ (t1234 : Int):=of_decide_eq_true (by first | (with_reducible assumption) | assumption);have q1259 : t1234 < (t1251.length : Int):=of_decide_eq_true (by first | (with_reducible assumption) | assumption);obtain ⟨ad1259,e1259,hx1259_0⟩:=Kd.at_int (Kd.R_reads' HO_6.out).2.2 t1234 p1259 q1259;obtain rfl : ad1258 = ad1259:=(by injection e1259)
       replace p1259:=eq_true p1259;replace q1259:=eq_true q1259;refine start_ (n:=12) (S:=fun w' => w'.cell? (ad1257.add (x8_2).toNat) = some (.int .i64 (rd t1254 x8_2)) ∧ w'.cell? (ad1258.add ((rd t1254 x8_2)).toNat) = some (.int .i64 (rd t1251 (rd t1254 x8_2))) ∧ w'.cell? (ad1258.add (t1234).toNat) = some (.int .i64 (rd t1251 t1234))) (ds:=[]) #[false,false,false,false,false,false,false,false,false,false,false,false] (by kernel_rfl) rfl rfl ⟨hx1257_0,hx1258_0,hx1259_0⟩ (fun hHeld => ?_); refine with_tabW laws_FnTreeReach.tab12 laws_FnTreeReach.bits12 (fun HT_ HW_ => ?_);generalize wr.drew = w67 at HO_6 HO_7 HO_1236001 BK1235 HB hx1257_0 hx1258_0 hx1259_0 hHeld ⊢;refine pure_ (i:=0) (N:=some 61) (v:=?_) (a':=?_) #[true,false,false,false,false,false,false,false,false,false,false,false] rfl rfl (any_of HT_.out (by kernel_rfl)) (fun _ _ _ h => h) (Or.inl ⟨by rfl,?_⟩) ?_ ?_;rotate_left
       ·intro w';go_simp;with_reducible rfl
       rotate_left
       ·simp only [Act.put,U,V,Z,i64_w,i32_w];rfl
       refine pure_ (i:=1) (N:=some 62) (v:=?_) (a':=?_) #[true,true,false,false,false,false,false,false,false,false,false,false] rfl rfl (any_of HT_.out (by kernel_rfl)) (fun _ _ _ h => h) (Or.inl ⟨by rfl,?_⟩) ?_ ?_;rotate_left
       ·intro w';go_simp;with_reducible rfl
       rotate_left
       ·simp only [Act.put,U,V,Z,i64_w,i32_w];rfl
       refine pure_ (i:=2) (N:=some 63) (v:=?_) (a':=?_) #[true,true,true,false,false,false,false,false,false,false,false,false] rfl rfl (any_of HT_.out (by kernel_rfl)) (fun _ _ _ h => h) (Or.inl ⟨by rfl,?_⟩) ?_ ?_;rotate_left
       ·intro w';go_simp;with_reducible rfl
       rotate_left
       ·simp only [Act.put,U,V,Z,i64_w,i32_w];rfl
       refine pure_ (i:=3) (N:=some 64) (v:=?_) (a':=?_) #[true,true,true,true,false,false,false,false,false,false,false,false] rfl rfl (any_of HT_.out (by kernel_rfl)) (fun _ _ _ h => h) (Or.inl ⟨by rfl,?_⟩) ?_ ?_;rotate_left
       ·intro w';go_simp;with_reducible rfl
       rotate_left
       ·simp only [Act.put,U,V,Z,i64_w,i32_w];rfl
       refine pure_ (i:=7) (N:=some 68) (v:=?_) (a':=?_) #[true,true,true,true,false,false,false,true,false,false,false,false] rfl rfl (any_of HT_.out (by kernel_rfl)) (fun _ _ _ h => h) (Or.inl ⟨by rfl,?_⟩) ?_ ?_;rotate_left
       ·intro w';go_simp;with_reducible rfl
       rotate_left
       ·simp only [Act.put,U,V,Z,i64_w,i32_w];rfl
       refine pure_ (i:=8) (N:=some 69) (v:=?_) (a':=?_) #[true,true,true,true,false,false,false,true,true,false,false,false] rfl rfl (any_of HT_.out (by kernel_rfl)) (fun _ _ _ h => h) (Or.inl ⟨by rfl,?_⟩) ?_ ?_;rotate_left
       ·intro w';go_simp;with_reducible rfl
       rotate_left
       ·simp only [Act.put,U,V,Z,i64_w,i32_w];rfl
       refine pure_ (i:=9) (N:=some 70) (v:=?_) (a':=?_) #[true,true,true,true,false,false,false,true,true,true,false,false] rfl rfl (any_of HT_.out (by kernel_rfl)) (fun _ _ _ h => h) (Or.inl ⟨by rfl,?_⟩) ?_ ?_;rotate_left
       ·intro w';go_simp;with_reducible rfl
       rotate_left
       ·simp only [Act.put,U,V,Z,i64_w,i32_w];rfl
       refine take_ (i:=4) (N:=some 65) (v:=?_) (a':=?_) #[true,true,true,true,true,false,false,true,true,true,false,false] rfl rfl (take_ofW HT_.out HW_.out (by kernel_rfl)) (fun _ _ _ h => h) (Or.inl ⟨by rfl,?_⟩) hHeld ?_ ?_;rotate_left
       ·rintro w' ⟨s0,s1,s2⟩;go_simp;with_reducible rfl
       rotate_left
       ·simp only [Act.put,U,V,Z,i64_w,i32_w];rfl
       refine pure_ (i:=5) (N:=some 66) (v:=?_) (a':=?_) #[true,true,true,true,true,true,false,true,true,true,false,false] rfl rfl (any_of HT_.out (by kernel_rfl)) (fun _ _ _ h => h) (Or.inl ⟨by rfl,?_⟩) ?_ ?_;rotate_left
       ·intro w';go_simp;with_reducible rfl
       rotate_left
       ·simp only [Act.put,U,V,Z,i64_w,i32_w];rfl
       refine take_ (i:=6) (N:=some 67) (v:=?_) (a':=?_) #[true,true,true,true,true,true,true,true,true,true,false,false] rfl rfl (take_ofW HT_.out HW_.out (by kernel_rfl)) (fun _ _ _ h => h) (Or.inl ⟨by rfl,?_⟩) hHeld ?_ ?_;rotate_left
       ·rintro w' ⟨s0,s1,s2⟩;go_simp;with_reducible rfl
       rotate_left
       ·simp only [Act.put,U,V,Z,i64_w,i32_w];rfl
       refine take_ (i:=10) (N:=some 71) (v:=?_) (a':=?_) #[true,true,true,true,true,true,true,true,true,true,true,false] rfl rfl (take_ofW HT_.out HW_.out (by kernel_rfl)) (fun _ _ _ h => h) (Or.inl ⟨by rfl,?_⟩) hHeld ?_ ?_;rotate_left
       ·rintro w' ⟨s0,s1,s2⟩;go_simp;with_reducible rfl
       rotate_left
       ·simp only [Act.put,U,V,Z,i64_w,i32_w];rfl
       refine pure_ (i:=11) (N:=some 72) (v:=?_) (a':=?_) #[true,true,true,true,true,true,true,true,true,true,true,true] rfl rfl (any_of HT_.out (by kernel_rfl)) (fun _ _ _ h => h) (Or.inl ⟨by rfl,?_⟩) ?_ ?_;rotate_left
       ·intro w';go_simp;with_reducible rfl
       rotate_left
       ·simp only [Act.put,U,V,Z,i64_w,i32_w];rfl
       refine done_ (done_of HT_.out (by kernel_rfl)) ?_
       try go_wp2
       go_ret;exact ⟨by first | rfl | (simp [errW_none,errW_some] <;> rfl) | (simp [*,errW_none,errW_some] <;> rfl),by repeat (first | (with_reducible first | exact HB.out | apply below_alloc | apply pw_below_drewN | apply below_drew1 | refine below_set ?_ GE1235.out) | exact HB.out)⟩
      rw [if_pos c62] at H;have c62b0 : ((rd t1251 (rd t1254 x8_2)) == (rd t1251 t1234)) = true:=beq_iff_eq.mpr c62;have c62b1 : ((rd t1251 (rd t1254 x8_2)) != (rd t1251 t1234)) = false:=bne_eq_false_iff_eq.mpr c62;clear c62;have H':=zx H;clear H;obtain ⟨Ao63,co63,eo63⟩:=Kd.R_slice HO_7.out;subst eo63
      try go_wp2
      have n0_:=zx (Kd.R_drew HO_6.out);have n1_:=zx (Kd.R_drew HO_7.out);have n2_:=zx (Kd.R_drew HO_1236001.out);have n3_:=zx (blk_drew BK1235.out);have n4_:=zx (below_drew1 HB.out);clear HO_6;clear HO_7;clear HO_1236001;clear BK1235;clear HB;have HO_6:=n0_;have HO_7:=n1_;have HO_1236001:=n2_;have BK1235:=n3_;have HB:=n4_;clear n0_ n1_ n2_ n3_ n4_;have p1257 : 0 ≤ (x8_2 : Int):=of_decide_eq_true (by first | (with_reducible assumption) | assumption);have q1257 : x8_2 < (t1254.length : Int):=of_decide_eq_true (by first | (with_reducible assumption) | assumption);obtain ⟨ad1257,e1257,hx1257_0⟩:=Kd.at_int (Kd.R_reads' HO_7.out).2.2 x8_2 p1257 q1257;cases e1257;replace p1257:=eq_true p1257;replace q1257:=eq_true q1257;obtain ⟨Ao65,co65,eo65⟩:=Kd.R_slice HO_6.out
      (first | subst eo65 | (injection eo65 with f1_ f2_ f3_; have f4_:=f1_.symm; have f5_:=f3_.symm; clear f1_ f2_ f3_; subst f4_; subst f5_))
      have p1258 : 0 ≤ ((rd t1254 x8_2) : Int):=of_decide_eq_true (by first | (with_reducible assumption) | assumption);have q1258 : (rd t1254 x8_2) < (t1251.length : Int):=of_decide_eq_true (by first | (with_reducible assumption) | assumption);obtain ⟨ad1258,e1258,hx1258_0⟩:=Kd.at_int (Kd.R_reads' HO_6.out).2.2 (rd t1254 x8_2) p1258 q1258;cases e1258;replace p1258:=eq_true p1258;replace q1258:=eq_true q1258;have p1259 : 0 ≤ (t1234 : Int):=of_decide_eq_true (by first | (with_reducible assumption) | assumption);have q1259 : t1234 < (t1251.length : Int):=of_decide_eq_true (by first | (with_reducible assumption) | assumption);obtain ⟨ad1259,e1259,hx1259_0⟩:=Kd.at_int (Kd.R_reads' HO_6.out).2.2 t1234 p1259 q1259;obtain rfl : ad1258 = ad1259:=(by injection e1259)
      replace p1259:=eq_true p1259;replace q1259:=eq_true q1259;refine start_ (n:=12) (S:=fun w' => w'.cell? (ad1257.add (x8_2).toNat) = some (.int .i64 (rd t1254 x8_2)) ∧ w'.cell? (ad1258.add ((rd t1254 x8_2)).toNat) = some (.int .i64 (rd t1251 (rd t1254 x8_2))) ∧ w'.cell? (ad1258.add (t1234).toNat) = some (.int .i64 (rd t1251 t1234))) (ds:=[]) #[false,false,false,false,false,false,false,false,false,false,false,false] (by kernel_rfl) rfl rfl ⟨hx1257_0,hx1258_0,hx1259_0⟩ (fun hHeld => ?_); refine with_tabW laws_FnTreeReach.tab12 laws_FnTreeReach.bits12 (fun HT_ HW_ => ?_);generalize wr.drew = w64 at HO_6 HO_7 HO_1236001 BK1235 HB hx1257_0 hx1258_0 hx1259_0 hHeld ⊢;refine pure_ (i:=0) (N:=some 61) (v:=?_) (a':=?_) #[true,false,false,false,false,false,false,false,false,false,false,false] rfl rfl (any_of HT_.out (by kernel_rfl)) (fun _ _ _ h => h) (Or.inl ⟨by rfl,?_⟩) ?_ ?_;rotate_left
      ·intro w';go_simp;with_reducible rfl
      rotate_left
      ·simp only [Act.put,U,V,Z,i64_w,i32_w];rfl
      refine pure_ (i:=1) (N:=some 62) (v:=?_) (a':=?_) #[true,true,false,false,false,false,false,false,false,false,false,false] rfl rfl (any_of HT_.out (by kernel_rfl)) (fun _ _ _ h => h) (Or.inl ⟨by rfl,?_⟩) ?_ ?_;rotate_left
      ·intro w';go_simp;with_reducible rfl
      rotate_left
      ·simp only [Act.put,U,V,Z,i64_w,i32_w];rfl
      refine pure_ (i:=2) (N:=some 63) (v:=?_) (a':=?_) #[true,true,true,false,false,false,false,false,false,false,false,false] rfl rfl (any_of HT_.out (by kernel_rfl)) (fun _ _ _ h => h) (Or.inl ⟨by rfl,?_⟩) ?_ ?_;rotate_left
      ·intro w';go_simp;with_reducible rfl
      rotate_left
      ·simp only [Act.put,U,V,Z,i64_w,i32_w];rfl
      refine pure_ (i:=3) (N:=some 64) (v:=?_) (a':=?_) #[true,true,true,true,false,false,false,false,false,false,false,false] rfl rfl (any_of HT_.out (by kernel_rfl)) (fun _ _ _ h => h) (Or.inl ⟨by rfl,?_⟩) ?_ ?_;rotate_left
      ·intro w';go_simp;with_reducible rfl
      rotate_left
      ·simp only [Act.put,U,V,Z,i64_w,i32_w];rfl
      refine pure_ (i:=7) (N:=some 68) (v:=?_) (a':=?_) #[true,true,true,true,false,false,false,true,false,false,false,false] rfl rfl (any_of HT_.out (by kernel_rfl)) (fun _ _ _ h => h) (Or.inl ⟨by rfl,?_⟩) ?_ ?_;rotate_left
      ·intro w';go_simp;with_reducible rfl
      rotate_left
      ·simp only [Act.put,U,V,Z,i64_w,i32_w];rfl
      refine pure_ (i:=8) (N:=some 69) (v:=?_) (a':=?_) #[true,true,true,true,false,false,false,true,true,false,false,false] rfl rfl (any_of HT_.out (by kernel_rfl)) (fun _ _ _ h => h) (Or.inl ⟨by rfl,?_⟩) ?_ ?_;rotate_left
      ·intro w';go_simp;with_reducible rfl
      rotate_left
      ·simp only [Act.put,U,V,Z,i64_w,i32_w];rfl
      refine pure_ (i:=9) (N:=some 70) (v:=?_) (a':=?_) #[true,true,true,true,false,false,false,true,true,true,false,false] rfl rfl (any_of HT_.out (by kernel_rfl)) (fun _ _ _ h => h) (Or.inl ⟨by rfl,?_⟩) ?_ ?_;rotate_left
      ·intro w';go_simp;with_reducible rfl
      rotate_left
      ·simp only [Act.put,U,V,Z,i64_w,i32_w];rfl
      refine take_ (i:=4) (N:=some 65) (v:=?_) (a':=?_) #[true,true,true,true,true,false,false,true,true,true,false,false] rfl rfl (take_ofW HT_.out HW_.out (by kernel_rfl)) (fun _ _ _ h => h) (Or.inl ⟨by rfl,?_⟩) hHeld ?_ ?_;rotate_left
      ·rintro w' ⟨s0,s1,s2⟩;go_simp;with_reducible rfl
      rotate_left
      ·simp only [Act.put,U,V,Z,i64_w,i32_w];rfl
      refine pure_ (i:=5) (N:=some 66) (v:=?_) (a':=?_) #[true,true,true,true,true,true,false,true,true,true,false,false] rfl rfl (any_of HT_.out (by kernel_rfl)) (fun _ _ _ h => h) (Or.inl ⟨by rfl,?_⟩) ?_ ?_;rotate_left
      ·intro w';go_simp;with_reducible rfl
      rotate_left
      ·simp only [Act.put,U,V,Z,i64_w,i32_w];rfl
      refine take_ (i:=6) (N:=some 67) (v:=?_) (a':=?_) #[true,true,true,true,true,true,true,true,true,true,false,false] rfl rfl (take_ofW HT_.out HW_.out (by kernel_rfl)) (fun _ _ _ h => h) (Or.inl ⟨by rfl,?_⟩) hHeld ?_ ?_;rotate_left
      ·rintro w' ⟨s0,s1,s2⟩;go_simp;with_reducible rfl
      rotate_left
      ·simp only [Act.put,U,V,Z,i64_w,i32_w];rfl
      refine take_ (i:=10) (N:=some 71) (v:=?_) (a':=?_) #[true,true,true,true,true,true,true,true,true,true,true,false] rfl rfl (take_ofW HT_.out HW_.out (by kernel_rfl)) (fun _ _ _ h => h) (Or.inl ⟨by rfl,?_⟩) hHeld ?_ ?_;rotate_left
      ·rintro w' ⟨s0,s1,s2⟩;go_simp;with_reducible rfl
      rotate_left
      ·simp only [Act.put,U,V,Z,i64_w,i32_w];rfl
      refine pure_ (i:=11) (N:=some 72) (v:=?_) (a':=?_) #[true,true,true,true,true,true,true,true,true,true,true,true] rfl rfl (any_of HT_.out (by kernel_rfl)) (fun _ _ _ h => h) (Or.inl ⟨by rfl,?_⟩) ?_ ?_;rotate_left
      ·intro w';go_simp;with_reducible rfl
      rotate_left
      ·simp only [Act.put,U,V,Z,i64_w,i32_w];rfl
      refine done_ (done_of HT_.out (by kernel_rfl)) ?_
      try go_wp2
      go_roundg k2
      case measure => have:=HJ4.out; have:=HK2.out; omega
      case rel => exact ⟨(wrap64 (x8_2 + 1)),(by first | rfl | (simp; done) | (simp [*]; done)),H',⟨by have:=HJ4.out; have:=HK2.out; omega⟩,⟨by (with_reducible repeat (first | apply Kd.R_alloc | apply Kd.R_drewN | apply Kd.R_drew)); exact HO_6.out⟩,⟨by (with_reducible repeat (first | apply Kd.R_alloc | apply Kd.R_drewN | apply Kd.R_drew)); exact HO_7.out⟩,⟨by (with_reducible repeat (first | apply Kd.R_alloc | apply Kd.R_drewN | apply Kd.R_drew)); exact HO_1236001.out⟩,⟨by (with_reducible repeat (first | refine blk_drewN ?_ _ | refine blk_drew ?_ | refine blk_alloc ?_ _)); exact BK1235.out⟩,⟨by repeat (first | (with_reducible first | exact HB.out | apply below_alloc | apply pw_below_drewN | apply below_drew1 | refine below_set ?_ GE1235.out) | exact HB.out)⟩⟩
     rw [if_neg c56] at H;have c56b0 : decide (x8_2 < (t1254.length : Int)) = false:=decide_eq_false c56;clear c56;replace H:=Option.bind_eq_some_iff.mp H;obtain ⟨t1260,A690,H⟩:=H;replace H : (laws_FnTreeReach.l1 k2 t1234 t1251 t1260 0 t1230 t1231) = some r:=H;have A69:=zx A690;clear A690;have H':=zx H;clear H;obtain ⟨Ao70,co70,eo70⟩:=Kd.R_slice HO_7.out;subst eo70;have hcz71_0 : wr.cell? ⟨gb1235,0,none⟩ = some (.int .i64 t1230):=(blk_cell BK1235.out 0).trans rfl;have hcz71_1 : wr.cell? ⟨gb1235,1,none⟩ = some (.slice Ao9 t1231.length co9):=(blk_cell BK1235.out 1).trans rfl;have hfz71_0:=blk_frozen BK1235.out 0;have hfz71_1:=blk_frozen BK1235.out 1
     go_wp2_with (first | ((with_reducible refine gate_callee (f:=58) rfl ?_); refine goesL_ (some 74) rfl rfl Try.func58 (by kernel_rfl) rfl #[.agg #[.int .i64 t1230,.slice Ao9 t1231.length co9]] rfl (by (try simp only [List.map_toArray,List.map_cons,List.map_nil]); first | done | rfl | (simp only [List.length_drop,List.length_take]; rfl)) ?_; (with_reducible refine (impl_ReachParts.calls k2 t1230 _ _ t1231 t1260 _ ?side1 ?side2 A69.out).mono ?_); (case side1 => repeat (first | exact (Kd.R_reads' HO_1236001.out).2.2 | (with_reducible refine Kd.C_alloc ?_ _) | (with_reducible refine Kd.C_drewN ?_ _) | (with_reducible refine Kd.C_drew ?_))); (case side2 => exact (Kd.R_reads' HO_1236001.out).2.1); rintro e w72 ⟨v1261,rfl,ho0,hb⟩; refine ⟨_,rfl,?_⟩; have n0_:=zx (Kd.R_elder' (by (with_reducible repeat (first | apply Kd.R_alloc | apply Kd.R_drewN | apply Kd.R_drew)); exact HO_6.out) (Kd.R_base ho0) hb); have n1_:=zx (Kd.R_elder' (by (with_reducible repeat (first | apply Kd.R_alloc | apply Kd.R_drewN | apply Kd.R_drew)); exact HO_7.out) (Kd.R_base ho0) hb); have n2_:=zx (Kd.R_below (by (with_reducible repeat (first | apply Kd.R_alloc | apply Kd.R_drewN | apply Kd.R_drew)); exact HO_1236001.out) hb); have n3_:=zx (Kd.R_lower (Kd.R_new' (Kd.R_new' ho0 (Kd.R_lt (by (with_reducible repeat (first | apply Kd.R_alloc | apply Kd.R_drewN | apply Kd.R_drew)); exact HO_6.out))) (Kd.R_lt (by (with_reducible repeat (first | apply Kd.R_alloc | apply Kd.R_drewN | apply Kd.R_drew)); exact HO_7.out))) (below_size (by repeat (first | (with_reducible first | exact HB.out | apply below_alloc | apply pw_below_drewN | apply below_drew1 | refine below_set ?_ GE1235.out) | exact HB.out)))); have n4_:=zx (blk_below (g:=gb1235) (o:=.cells #[.int .i64 t1230,.slice Ao9 t1231.length co9] 34 (0,0)) (by (with_reducible repeat (first | refine blk_drewN ?_ _ | refine blk_drew ?_ | refine blk_alloc ?_ _)); exact BK1235.out) hb); have n5_:=zx (below_step (by repeat (first | (with_reducible first | exact HB.out | apply below_alloc | apply pw_below_drewN | apply below_drew1 | refine below_set ?_ GE1235.out) | exact HB.out)) hb); clear HO_6; clear HO_7; clear HO_1236001; clear BK1235; clear HB; have HO_6:=n0_; have HO_7:=n1_; have HO_1236001:=n2_; have HO1262:=n3_; have BK1235:=n4_; have HB:=n5_; clear n0_ n1_ n2_ n3_ n4_ n5_; (try clear hb); (try clear hb2); (try clear hk); (try clear hi); (try clear ho0)))
     go_loopg [10] k2 (fun kq v10 w' => ∃ (x10_3 : Int),v10 = .int .i64 x10_3 ∧ Aside0 (laws_FnTreeReach.l1 kq t1234 t1251 t1260 x10_3 t1230 t1231 = some r) ∧ Aside0 (kq ≤ k2) ∧ Aside0 (Kd.R (Kd.int .i64) 3 w' w.heap.size (fun k_ => some k_ ≠ (v1261 : Value).ownBlock) v1252 t1251) ∧ Aside0 (Kd.R (Kd.int .i64) 3 w' w.heap.size (fun k_ => some k_ ≠ (v1252 : Value).ownBlock) v1261 t1260) ∧ Aside0 (Kd.R k58 58 w' w.heap.size (fun _ => True) (.slice Ao9 t1231.length co9) t1231) ∧ Aside0 (w'.heap[gb1235]? = some (.cells #[.int .i64 t1230,(.slice Ao9 t1231.length co9)] 34 (0,0))) ∧ Aside0 (Below w.heap.size w w'))
     case atStart => exact ⟨(0),(by first | rfl | (simp; done) | (simp [*]; done)),H',⟨Nat.le_refl _⟩,⟨by (with_reducible repeat (first | apply Kd.R_alloc | apply Kd.R_drewN | apply Kd.R_drew)); exact Kd.R_mono HO_6.out (fun _ hk => hk.2)⟩,⟨by (with_reducible repeat (first | apply Kd.R_alloc | apply Kd.R_drewN | apply Kd.R_drew)); exact Kd.R_mono HO1262.out (fun _ hk => hk.1.2)⟩,⟨by (with_reducible repeat (first | apply Kd.R_alloc | apply Kd.R_drewN | apply Kd.R_drew)); exact HO_1236001.out⟩,⟨by (with_reducible repeat (first | refine blk_drewN ?_ _ | refine blk_drew ?_ | refine blk_alloc ?_ _)); exact BK1235.out⟩,⟨by repeat (first | (with_reducible first | exact HB.out | apply below_alloc | apply pw_below_drewN | apply below_drew1 | refine below_set ?_ GE1235.out) | exact HB.out)⟩⟩
     case round =>
      clear H'
      try clear c1
      try clear p1
      try clear q1
      try clear hx1
      try clear c2
      try clear c2b0
      try clear c2b1
      try clear p2
      try clear c3
      try clear c4
      try clear c5
      try clear c6
      try clear p6
      try clear c12
      try clear p12
      try clear q12
      try clear hx12
      try clear c13
      try clear c15
      try clear c16
      try clear c16b0
      try clear c39
      try clear c40
      try clear c49
      try clear c52
      try clear c54
      try clear c55
      try clear c56
      try clear c56b0
      try clear c57
      try clear c57b0
      try clear c58
      try clear c58b0
      try clear c59
      try clear c59b0
      try clear c60
      try clear c60b0
      try clear c61
      try clear c61b0
      try clear c62
      try clear c62b0
      try clear c62b1
      try clear p64
      try clear hcz17_0
      try clear hcz17_1
      try clear hcz21_0
      try clear hcz21_1
      try clear hcz23_0
      try clear hcz23_1
      try clear hcz27_0
      try clear hcz27_1
      try clear hcz29_0
      try clear hcz29_1
      try clear hcz30_0
      try clear hcz30_1
      try clear hcz34_0
      try clear hcz34_1
      try clear hcz36_0
      try clear hcz36_1
      try clear hcz43_0
      try clear hcz43_1
      try clear hcz54_0
      try clear hcz54_1
      try clear hcz71_0
      try clear hcz71_1
      try clear hcz8_0
      try clear hcz8_1
      try clear hfz17_0
      try clear hfz17_1
      try clear hfz21_0
      try clear hfz21_1
      try clear hfz23_0
      try clear hfz23_1
      try clear hfz27_0
      try clear hfz27_1
      try clear hfz29_0
      try clear hfz29_1
      try clear hfz30_0
      try clear hfz30_1
      try clear hfz34_0
      try clear hfz34_1
      try clear hfz36_0
      try clear hfz36_1
      try clear hfz43_0
      try clear hfz43_1
      try clear hfz54_0
      try clear hfz54_1
      try clear hfz71_0
      try clear hfz71_1
      try clear hfz8_0
      try clear hfz8_1
      try clear hx1257_0
      try clear hx1258_0
      try clear hx1259_0
      try clear p1257
      try clear p1258
      try clear p1259
      try clear p2
      try clear q1257
      try clear q1258
      try clear q1259
      obtain ⟨x10_3,rfl,HA,HK3,HO_6,HO_9,HO_1236001,BK1235,HB⟩:=hrel;cases gk with
      | zero => exact absurd HA.out (by simp [laws_FnTreeReach.l1])
      | succ k3 =>
       have H:=HA.out;clear HA;simp only [laws_FnTreeReach.l1] at H
       by_cases c73 : x10_3 < t1230
       case neg =>
        rw [if_neg c73] at H;have c73b0 : decide (x10_3 < t1230) = false:=decide_eq_false c73;clear c73;obtain rfl:=Option.some.inj H;have hcz93_0 : wr.cell? ⟨gb1235,0,none⟩ = some (.int .i64 t1230):=(blk_cell BK1235.out 0).trans rfl;have hcz93_1 : wr.cell? ⟨gb1235,1,none⟩ = some (.slice Ao9 t1231.length co9):=(blk_cell BK1235.out 1).trans rfl;have hfz93_0:=blk_frozen BK1235.out 0;have hfz93_1:=blk_frozen BK1235.out 1
        go_wp2
        go_ret;exact ⟨by first | rfl | (simp [errW_none,errW_some] <;> rfl) | (simp [*,errW_none,errW_some] <;> rfl),by repeat (first | (with_reducible first | exact HB.out | apply below_alloc | apply pw_below_drewN | apply below_drew1 | refine below_set ?_ GE1235.out) | exact HB.out)⟩
       rw [if_pos c73] at H;have c73b0 : decide (x10_3 < t1230) = true:=decide_eq_true c73;clear c73
       by_cases c74 : 0 ≤ x10_3
       case neg =>
        rw [if_neg c74] at H;exact absurd H (by simp)
       rw [if_pos c74] at H;have c74b0 : decide (0 ≤ x10_3) = true:=decide_eq_true c74;clear c74
       by_cases c75 : x10_3 < (t1260.length : Int)
       case neg =>
        rw [if_neg c75] at H;exact absurd H (by simp)
       rw [if_pos c75] at H;have c75b0 : decide (x10_3 < (t1260.length : Int)) = true:=decide_eq_true c75;clear c75
       by_cases c76 : 0 ≤ t1234
       case neg =>
        rw [if_neg c76] at H;exact absurd H (by simp)
       rw [if_pos c76] at H;have c76b0 : decide (0 ≤ t1234) = true:=decide_eq_true c76;clear c76
       by_cases c77 : t1234 < (t1260.length : Int)
       case neg =>
        rw [if_neg c77] at H;exact absurd H (by simp)
       rw [if_pos c77] at H;have c77b0 : decide (t1234 < (t1260.length : Int)) = true:=decide_eq_true c77;clear c77
       by_cases c78 : (rd t1260 x10_3) = (rd t1260 t1234)
       case neg =>
        rw [if_neg c78] at H;have c78b0 : ((rd t1260 x10_3) == (rd t1260 t1234)) = false:=beq_eq_false_iff_ne.mpr c78;have c78b1 : ((rd t1260 x10_3) != (rd t1260 t1234)) = true:=bne_iff_ne.mpr c78;have H':=zx H;clear H;have hcz90_0 : wr.cell? ⟨gb1235,0,none⟩ = some (.int .i64 t1230):=(blk_cell BK1235.out 0).trans rfl;have hcz90_1 : wr.cell? ⟨gb1235,1,none⟩ = some (.slice Ao9 t1231.length co9):=(blk_cell BK1235.out 1).trans rfl;have hfz90_0:=blk_frozen BK1235.out 0;have hfz90_1:=blk_frozen BK1235.out 1
        try go_wp2
        have n0_:=zx (Kd.R_drew HO_6.out);have n1_:=zx (Kd.R_drew HO_9.out);have n2_:=zx (Kd.R_drew HO_1236001.out);have n3_:=zx (blk_drew BK1235.out);have n4_:=zx (below_drew1 HB.out);clear HO_6;clear HO_9;clear HO_1236001;clear BK1235;clear HB;have HO_6:=n0_;have HO_9:=n1_;have HO_1236001:=n2_;have BK1235:=n3_;have HB:=n4_;clear n0_ n1_ n2_ n3_ n4_;obtain ⟨Ao92,co92,eo92⟩:=Kd.R_slice HO_9.out
        (first | subst eo92 | (injection eo92 with f1_ f2_ f3_; have f4_:=f1_.symm; have f5_:=f3_.symm; clear f1_ f2_ f3_; subst f4_; subst f5_))
        have p1263 : 0 ≤ (x10_3 : Int):=of_decide_eq_true (by first | (with_reducible assumption) | assumption);have q1263 : x10_3 < (t1260.length : Int):=of_decide_eq_true (by first | (with_reducible assumption) | assumption);obtain ⟨ad1263,e1263,hx1263_0⟩:=Kd.at_int (Kd.R_reads' HO_9.out).2.2 x10_3 p1263 q1263;cases e1263;replace p1263:=eq_true p1263;replace q1263:=eq_true q1263;have p1264 : 0 ≤ (t1234 : Int):=of_decide_eq_true (by first | (with_reducible assumption) | assumption);have q1264 : t1234 < (t1260.length : Int):=of_decide_eq_true (by first | (with_reducible assumption) | assumption);obtain ⟨ad1264,e1264,hx1264_0⟩:=Kd.at_int (Kd.R_reads' HO_9.out).2.2 t1234 p1264 q1264;obtain rfl : ad1263 = ad1264:=(by injection e1264)
        replace p1264:=eq_true p1264;replace q1264:=eq_true q1264;refine start_ (n:=20) (S:=fun w' => w'.cell? (ad1263.add (x10_3).toNat) = some (.int .i64 (rd t1260 x10_3)) ∧ w'.cell? (ad1263.add (t1234).toNat) = some (.int .i64 (rd t1260 t1234))) (ds:=[]) #[false,false,false,false,false,false,false,false,false,false,false,false,false,false,false,false,false,false,false,false] (by kernel_rfl) rfl rfl ⟨hx1263_0,hx1264_0⟩ (fun hHeld => ?_); refine with_tabW laws_FnTreeReach.tab18 laws_FnTreeReach.bits18 (fun HT_ HW_ => ?_);generalize wr.drew = w91 at HO_6 HO_9 HO_1236001 BK1235 HB hx1263_0 hx1264_0 hHeld ⊢;refine pure_ (i:=0) (N:=some 81) (v:=?_) (a':=?_) #[true,false,false,false,false,false,false,false,false,false,false,false,false,false,false,false,false,false,false,false] rfl rfl (any_of HT_.out (by kernel_rfl)) (fun _ _ _ h => h) (Or.inl ⟨by rfl,?_⟩) ?_ ?_;rotate_left
        ·intro w';go_simp;with_reducible rfl
        rotate_left
        ·simp only [Act.put,U,V,Z,i64_w,i32_w];rfl
        refine pure_ (i:=1) (N:=some 82) (v:=?_) (a':=?_) #[true,true,false,false,false,false,false,false,false,false,false,false,false,false,false,false,false,false,false,false] rfl rfl (any_of HT_.out (by kernel_rfl)) (fun _ _ _ h => h) (Or.inl ⟨by rfl,?_⟩) ?_ ?_;rotate_left
        ·intro w';go_simp;with_reducible rfl
        rotate_left
        ·simp only [Act.put,U,V,Z,i64_w,i32_w];rfl
        refine pure_ (i:=2) (N:=some 83) (v:=?_) (a':=?_) #[true,true,true,false,false,false,false,false,false,false,false,false,false,false,false,false,false,false,false,false] rfl rfl (any_of HT_.out (by kernel_rfl)) (fun _ _ _ h => h) (Or.inl ⟨by rfl,?_⟩) ?_ ?_;rotate_left
        ·intro w';go_simp;with_reducible rfl
        rotate_left
        ·simp only [Act.put,U,V,Z,i64_w,i32_w];rfl
        refine pure_ (i:=4) (N:=some 85) (v:=?_) (a':=?_) #[true,true,true,false,true,false,false,false,false,false,false,false,false,false,false,false,false,false,false,false] rfl rfl (any_of HT_.out (by kernel_rfl)) (fun _ _ _ h => h) (Or.inl ⟨by rfl,?_⟩) ?_ ?_;rotate_left
        ·intro w';go_simp;with_reducible rfl
        rotate_left
        ·simp only [Act.put,U,V,Z,i64_w,i32_w];rfl
        refine pure_ (i:=5) (N:=some 86) (v:=?_) (a':=?_) #[true,true,true,false,true,true,false,false,false,false,false,false,false,false,false,false,false,false,false,false] rfl rfl (any_of HT_.out (by kernel_rfl)) (fun _ _ _ h => h) (Or.inl ⟨by rfl,?_⟩) ?_ ?_;rotate_left
        ·intro w';go_simp;with_reducible rfl
        rotate_left
        ·simp only [Act.put,U,V,Z,i64_w,i32_w];rfl
        refine pure_ (i:=6) (N:=some 87) (v:=?_) (a':=?_) #[true,true,true,false,true,true,true,false,false,false,false,false,false,false,false,false,false,false,false,false] rfl rfl (any_of HT_.out (by kernel_rfl)) (fun _ _ _ h => h) (Or.inl ⟨by rfl,?_⟩) ?_ ?_;rotate_left
        ·intro w';go_simp;with_reducible rfl
        rotate_left
        ·simp only [Act.put,U,V,Z,i64_w,i32_w];rfl
        refine take_ (i:=3) (N:=some 84) (v:=?_) (a':=?_) #[true,true,true,true,true,true,true,false,false,false,false,false,false,false,false,false,false,false,false,false] rfl rfl (take_ofW HT_.out HW_.out (by kernel_rfl)) (fun _ _ _ h => h) (Or.inl ⟨by rfl,?_⟩) hHeld ?_ ?_;rotate_left
        ·rintro w' ⟨s0,s1⟩;go_simp;with_reducible rfl
        rotate_left
        ·simp only [Act.put,U,V,Z,i64_w,i32_w];rfl
        refine take_ (i:=7) (N:=some 88) (v:=?_) (a':=?_) #[true,true,true,true,true,true,true,true,false,false,false,false,false,false,false,false,false,false,false,false] rfl rfl (take_ofW HT_.out HW_.out (by kernel_rfl)) (fun _ _ _ h => h) (Or.inl ⟨by rfl,?_⟩) hHeld ?_ ?_;rotate_left
        ·rintro w' ⟨s0,s1⟩;go_simp;with_reducible rfl
        rotate_left
        ·simp only [Act.put,U,V,Z,i64_w,i32_w];rfl
        refine pure_ (i:=8) (N:=some 89) (v:=?_) (a':=?_) #[true,true,true,true,true,true,true,true,true,false,false,false,false,false,false,false,false,false,false,false] rfl rfl (any_of HT_.out (by kernel_rfl)) (fun _ _ _ h => h) (Or.inl ⟨by rfl,?_⟩) ?_ ?_;rotate_left
        ·intro w';go_simp;with_reducible rfl
        rotate_left
        ·simp only [Act.put,U,V,Z,i64_w,i32_w];rfl
        refine pure_ (i:=9) (N:=some 90) (v:=?_) (a':=?_) #[true,true,true,true,true,true,true,true,true,true,false,false,false,false,false,false,false,false,false,false] rfl rfl (any_of HT_.out (by kernel_rfl)) (fun _ _ _ h => h) (Or.inl ⟨by rfl,?_⟩) ?_ ?_;rotate_left
        ·intro w';go_simp;with_reducible rfl
        rotate_left
        ·simp only [Act.put,U,V,Z,i64_w,i32_w];rfl
        refine pure_ (i:=10) (N:=some 91) (v:=undef) (a':=?_) #[true,true,true,true,true,true,true,true,true,true,true,false,false,false,false,false,false,false,false,false] rfl rfl (any_of HT_.out (by kernel_rfl)) (fun _ _ _ h => h) (Or.inr ⟨by rfl,rfl⟩) ?_ ?_;rotate_left
        ·simp only [Act.put,U,V,Z,i64_w,i32_w];rfl
        refine pure_ (i:=11) (N:=some 92) (v:=undef) (a':=?_) #[true,true,true,true,true,true,true,true,true,true,true,true,false,false,false,false,false,false,false,false] rfl rfl (any_of HT_.out (by kernel_rfl)) (fun _ _ _ h => h) (Or.inr ⟨by rfl,rfl⟩) ?_ ?_;rotate_left
        ·simp only [Act.put,U,V,Z,i64_w,i32_w];rfl
        refine pure_ (i:=12) (N:=some 93) (v:=undef) (a':=?_) #[true,true,true,true,true,true,true,true,true,true,true,true,true,false,false,false,false,false,false,false] rfl rfl (any_of HT_.out (by kernel_rfl)) (fun _ _ _ h => h) (Or.inr ⟨by rfl,rfl⟩) ?_ ?_;rotate_left
        ·simp only [Act.put,U,V,Z,i64_w,i32_w];rfl
        refine pure_ (i:=13) (N:=some 94) (v:=undef) (a':=?_) #[true,true,true,true,true,true,true,true,true,true,true,true,true,true,false,false,false,false,false,false] rfl rfl (any_of HT_.out (by kernel_rfl)) (fun _ _ _ h => h) (Or.inr ⟨by rfl,rfl⟩) ?_ ?_;rotate_left
        ·simp only [Act.put,U,V,Z,i64_w,i32_w];rfl
        refine pure_ (i:=14) (N:=some 95) (v:=undef) (a':=?_) #[true,true,true,true,true,true,true,true,true,true,true,true,true,true,true,false,false,false,false,false] rfl rfl (any_of HT_.out (by kernel_rfl)) (fun _ _ _ h => h) (Or.inr ⟨by rfl,rfl⟩) ?_ ?_;rotate_left
        ·simp only [Act.put,U,V,Z,i64_w,i32_w];rfl
        refine pure_ (i:=15) (N:=some 96) (v:=undef) (a':=?_) #[true,true,true,true,true,true,true,true,true,true,true,true,true,true,true,true,false,false,false,false] rfl rfl (any_of HT_.out (by kernel_rfl)) (fun _ _ _ h => h) (Or.inr ⟨by rfl,rfl⟩) ?_ ?_;rotate_left
        ·simp only [Act.put,U,V,Z,i64_w,i32_w];rfl
        refine pure_ (i:=16) (N:=some 97) (v:=undef) (a':=?_) #[true,true,true,true,true,true,true,true,true,true,true,true,true,true,true,true,true,false,false,false] rfl rfl (any_of HT_.out (by kernel_rfl)) (fun _ _ _ h => h) (Or.inr ⟨by rfl,rfl⟩) ?_ ?_;rotate_left
        ·simp only [Act.put,U,V,Z,i64_w,i32_w];rfl
        refine pure_ (i:=17) (N:=some 98) (v:=undef) (a':=?_) #[true,true,true,true,true,true,true,true,true,true,true,true,true,true,true,true,true,true,false,false] rfl rfl (any_of HT_.out (by kernel_rfl)) (fun _ _ _ h => h) (Or.inr ⟨by rfl,rfl⟩) ?_ ?_;rotate_left
        ·simp only [Act.put,U,V,Z,i64_w,i32_w];rfl
        refine pure_ (i:=18) (N:=some 99) (v:=undef) (a':=?_) #[true,true,true,true,true,true,true,true,true,true,true,true,true,true,true,true,true,true,true,false] rfl rfl (any_of HT_.out (by kernel_rfl)) (fun _ _ _ h => h) (Or.inr ⟨by rfl,rfl⟩) ?_ ?_;rotate_left
        ·simp only [Act.put,U,V,Z,i64_w,i32_w];rfl
        refine pure_ (i:=19) (N:=some 100) (v:=?_) (a':=?_) #[true,true,true,true,true,true,true,true,true,true,true,true,true,true,true,true,true,true,true,true] rfl rfl (any_of HT_.out (by kernel_rfl)) (fun _ _ _ h => h) (Or.inl ⟨by rfl,?_⟩) ?_ ?_;rotate_left
        ·intro w';go_simp;with_reducible rfl
        rotate_left
        ·simp only [Act.put,U,V,Z,i64_w,i32_w];rfl
        refine done_ (done_of HT_.out (by kernel_rfl)) ?_
        try go_wp2
        go_roundg k3
        case measure => have:=HJ4.out; have:=HK2.out; have:=HK3.out; omega
        case rel => exact ⟨(wrap64 (x10_3 + 1)),(by first | rfl | (simp; done) | (simp [*]; done)),H',⟨by have:=HJ4.out; have:=HK2.out; have:=HK3.out; omega⟩,⟨by (with_reducible repeat (first | apply Kd.R_alloc | apply Kd.R_drewN | apply Kd.R_drew)); exact HO_6.out⟩,⟨by (with_reducible repeat (first | apply Kd.R_alloc | apply Kd.R_drewN | apply Kd.R_drew)); exact HO_9.out⟩,⟨by (with_reducible repeat (first | apply Kd.R_alloc | apply Kd.R_drewN | apply Kd.R_drew)); exact HO_1236001.out⟩,⟨by (with_reducible repeat (first | refine blk_drewN ?_ _ | refine blk_drew ?_ | refine blk_alloc ?_ _)); exact BK1235.out⟩,⟨by repeat (first | (with_reducible first | exact HB.out | apply below_alloc | apply pw_below_drewN | apply below_drew1 | refine below_set ?_ GE1235.out) | exact HB.out)⟩⟩
       rw [if_pos c78] at H;have c78b0 : ((rd t1260 x10_3) == (rd t1260 t1234)) = true:=beq_iff_eq.mpr c78;have c78b1 : ((rd t1260 x10_3) != (rd t1260 t1234)) = false:=bne_eq_false_iff_eq.mpr c78;clear c78
       by_cases c79 : x10_3 < (t1251.length : Int)
       case neg =>
        rw [if_neg c79] at H;exact absurd H (by simp)
       rw [if_pos c79] at H;have c79b0 : decide (x10_3 < (t1251.length : Int)) = true:=decide_eq_true c79;clear c79
       by_cases c80 : t1234 < (t1251.length : Int)
       case neg =>
        rw [if_neg c80] at H;exact absurd H (by simp)
       rw [if_pos c80] at H;have c80b0 : decide (t1234 < (t1251.length : Int)) = true:=decide_eq_true c80;clear c80
       by_cases c81 : (rd t1251 x10_3) = (rd t1251 t1234)
       case neg =>
        rw [if_neg c81] at H;have c81b0 : ((rd t1251 x10_3) == (rd t1251 t1234)) = false:=beq_eq_false_iff_ne.mpr c81;have c81b1 : ((rd t1251 x10_3) != (rd t1251 t1234)) = true:=bne_iff_ne.mpr c81;obtain rfl:=Option.some.inj H;have hcz86_0 : wr.cell? ⟨gb1235,0,none⟩ = some (.int .i64 t1230):=(blk_cell BK1235.out 0).trans rfl;have hcz86_1 : wr.cell? ⟨gb1235,1,none⟩ = some (.slice Ao9 t1231.length co9):=(blk_cell BK1235.out 1).trans rfl;have hfz86_0:=blk_frozen BK1235.out 0;have hfz86_1:=blk_frozen BK1235.out 1
        try go_wp2
        have n0_:=zx (Kd.R_drew HO_6.out);have n1_:=zx (Kd.R_drew HO_9.out);have n2_:=zx (Kd.R_drew HO_1236001.out);have n3_:=zx (blk_drew BK1235.out);have n4_:=zx (below_drew1 HB.out);clear HO_6;clear HO_9;clear HO_1236001;clear BK1235;clear HB;have HO_6:=n0_;have HO_9:=n1_;have HO_1236001:=n2_;have BK1235:=n3_;have HB:=n4_;clear n0_ n1_ n2_ n3_ n4_;obtain ⟨Ao88,co88,eo88⟩:=Kd.R_slice HO_9.out
        (first | subst eo88 | (injection eo88 with f1_ f2_ f3_; have f4_:=f1_.symm; have f5_:=f3_.symm; clear f1_ f2_ f3_; subst f4_; subst f5_))
        have p1263 : 0 ≤ (x10_3 : Int):=of_decide_eq_true (by first | (with_reducible assumption) | assumption);have q1263 : x10_3 < (t1260.length : Int):=of_decide_eq_true (by first | (with_reducible assumption) | assumption);obtain ⟨ad1263,e1263,hx1263_0⟩:=Kd.at_int (Kd.R_reads' HO_9.out).2.2 x10_3 p1263 q1263;cases e1263;replace p1263:=eq_true p1263;replace q1263:=eq_true q1263;have p1264 : 0 ≤ (t1234 : Int):=of_decide_eq_true (by first | (with_reducible assumption) | assumption);have q1264 : t1234 < (t1260.length : Int):=of_decide_eq_true (by first | (with_reducible assumption) | assumption);obtain ⟨ad1264,e1264,hx1264_0⟩:=Kd.at_int (Kd.R_reads' HO_9.out).2.2 t1234 p1264 q1264;obtain rfl : ad1263 = ad1264:=(by injection e1264)
        replace p1264:=eq_true p1264;replace q1264:=eq_true q1264;obtain ⟨Ao89,co89,eo89⟩:=Kd.R_slice HO_6.out
        (first | subst eo89 | (injection eo89 with f1_ f2_ f3_; have f4_:=f1_.symm; have f5_:=f3_.symm; clear f1_ f2_ f3_; subst f4_; subst f5_))
        have p1265 : 0 ≤ (x10_3 : Int):=of_decide_eq_true (by first | (with_reducible assumption) | assumption);have q1265 : x10_3 < (t1251.length : Int):=of_decide_eq_true (by first | (with_reducible assumption) | assumption);obtain ⟨ad1265,e1265,hx1265_0⟩:=Kd.at_int (Kd.R_reads' HO_6.out).2.2 x10_3 p1265 q1265;cases e1265;replace p1265:=eq_true p1265;replace q1265:=eq_true q1265;have p1266 : 0 ≤ (t1234 : Int):=of_decide_eq_true (by first | (with_reducible assumption) | assumption);have q1266 : t1234 < (t1251.length : Int):=of_decide_eq_true (by first | (with_reducible assumption) | assumption);obtain ⟨ad1266,e1266,hx1266_0⟩:=Kd.at_int (Kd.R_reads' HO_6.out).2.2 t1234 p1266 q1266;obtain rfl : ad1265 = ad1266:=(by injection e1266)
        replace p1266:=eq_true p1266;replace q1266:=eq_true q1266;refine start_ (n:=20) (S:=fun w' => w'.cell? (ad1263.add (x10_3).toNat) = some (.int .i64 (rd t1260 x10_3)) ∧ w'.cell? (ad1263.add (t1234).toNat) = some (.int .i64 (rd t1260 t1234)) ∧ w'.cell? (ad1265.add (x10_3).toNat) = some (.int .i64 (rd t1251 x10_3)) ∧ w'.cell? (ad1265.add (t1234).toNat) = some (.int .i64 (rd t1251 t1234))) (ds:=[]) #[false,false,false,false,false,false,false,false,false,false,false,false,false,false,false,false,false,false,false,false] (by kernel_rfl) rfl rfl ⟨hx1263_0,hx1264_0,hx1265_0,hx1266_0⟩ (fun hHeld => ?_); refine with_tabW laws_FnTreeReach.tab18 laws_FnTreeReach.bits18 (fun HT_ HW_ => ?_);generalize wr.drew = w87 at HO_6 HO_9 HO_1236001 BK1235 HB hx1263_0 hx1264_0 hx1265_0 hx1266_0 hHeld ⊢;refine pure_ (i:=0) (N:=some 81) (v:=?_) (a':=?_) #[true,false,false,false,false,false,false,false,false,false,false,false,false,false,false,false,false,false,false,false] rfl rfl (any_of HT_.out (by kernel_rfl)) (fun _ _ _ h => h) (Or.inl ⟨by rfl,?_⟩) ?_ ?_;rotate_left
        ·intro w';go_simp;with_reducible rfl
        rotate_left
        ·simp only [Act.put,U,V,Z,i64_w,i32_w];rfl
        refine pure_ (i:=1) (N:=some 82) (v:=?_) (a':=?_) #[true,true,false,false,false,false,false,false,false,false,false,false,false,false,false,false,false,false,false,false] rfl rfl (any_of HT_.out (by kernel_rfl)) (fun _ _ _ h => h) (Or.inl ⟨by rfl,?_⟩) ?_ ?_;rotate_left
        ·intro w';go_simp;with_reducible rfl
        rotate_left
        ·simp only [Act.put,U,V,Z,i64_w,i32_w];rfl
        refine pure_ (i:=2) (N:=some 83) (v:=?_) (a':=?_) #[true,true,true,false,false,false,false,false,false,false,false,false,false,false,false,false,false,false,false,false] rfl rfl (any_of HT_.out (by kernel_rfl)) (fun _ _ _ h => h) (Or.inl ⟨by rfl,?_⟩) ?_ ?_;rotate_left
        ·intro w';go_simp;with_reducible rfl
        rotate_left
        ·simp only [Act.put,U,V,Z,i64_w,i32_w];rfl
        refine pure_ (i:=4) (N:=some 85) (v:=?_) (a':=?_) #[true,true,true,false,true,false,false,false,false,false,false,false,false,false,false,false,false,false,false,false] rfl rfl (any_of HT_.out (by kernel_rfl)) (fun _ _ _ h => h) (Or.inl ⟨by rfl,?_⟩) ?_ ?_;rotate_left
        ·intro w';go_simp;with_reducible rfl
        rotate_left
        ·simp only [Act.put,U,V,Z,i64_w,i32_w];rfl
        refine pure_ (i:=5) (N:=some 86) (v:=?_) (a':=?_) #[true,true,true,false,true,true,false,false,false,false,false,false,false,false,false,false,false,false,false,false] rfl rfl (any_of HT_.out (by kernel_rfl)) (fun _ _ _ h => h) (Or.inl ⟨by rfl,?_⟩) ?_ ?_;rotate_left
        ·intro w';go_simp;with_reducible rfl
        rotate_left
        ·simp only [Act.put,U,V,Z,i64_w,i32_w];rfl
        refine pure_ (i:=6) (N:=some 87) (v:=?_) (a':=?_) #[true,true,true,false,true,true,true,false,false,false,false,false,false,false,false,false,false,false,false,false] rfl rfl (any_of HT_.out (by kernel_rfl)) (fun _ _ _ h => h) (Or.inl ⟨by rfl,?_⟩) ?_ ?_;rotate_left
        ·intro w';go_simp;with_reducible rfl
        rotate_left
        ·simp only [Act.put,U,V,Z,i64_w,i32_w];rfl
        refine take_ (i:=3) (N:=some 84) (v:=?_) (a':=?_) #[true,true,true,true,true,true,true,false,false,false,false,false,false,false,false,false,false,false,false,false] rfl rfl (take_ofW HT_.out HW_.out (by kernel_rfl)) (fun _ _ _ h => h) (Or.inl ⟨by rfl,?_⟩) hHeld ?_ ?_;rotate_left
        ·rintro w' ⟨s0,s1,s2,s3⟩;go_simp;with_reducible rfl
        rotate_left
        ·simp only [Act.put,U,V,Z,i64_w,i32_w];rfl
        refine take_ (i:=7) (N:=some 88) (v:=?_) (a':=?_) #[true,true,true,true,true,true,true,true,false,false,false,false,false,false,false,false,false,false,false,false] rfl rfl (take_ofW HT_.out HW_.out (by kernel_rfl)) (fun _ _ _ h => h) (Or.inl ⟨by rfl,?_⟩) hHeld ?_ ?_;rotate_left
        ·rintro w' ⟨s0,s1,s2,s3⟩;go_simp;with_reducible rfl
        rotate_left
        ·simp only [Act.put,U,V,Z,i64_w,i32_w];rfl
        refine pure_ (i:=8) (N:=some 89) (v:=?_) (a':=?_) #[true,true,true,true,true,true,true,true,true,false,false,false,false,false,false,false,false,false,false,false] rfl rfl (any_of HT_.out (by kernel_rfl)) (fun _ _ _ h => h) (Or.inl ⟨by rfl,?_⟩) ?_ ?_;rotate_left
        ·intro w';go_simp;with_reducible rfl
        rotate_left
        ·simp only [Act.put,U,V,Z,i64_w,i32_w];rfl
        refine pure_ (i:=9) (N:=some 90) (v:=?_) (a':=?_) #[true,true,true,true,true,true,true,true,true,true,false,false,false,false,false,false,false,false,false,false] rfl rfl (any_of HT_.out (by kernel_rfl)) (fun _ _ _ h => h) (Or.inl ⟨by rfl,?_⟩) ?_ ?_;rotate_left
        ·intro w';go_simp;with_reducible rfl
        rotate_left
        ·simp only [Act.put,U,V,Z,i64_w,i32_w];rfl
        refine pure_ (i:=10) (N:=some 91) (v:=?_) (a':=?_) #[true,true,true,true,true,true,true,true,true,true,true,false,false,false,false,false,false,false,false,false] rfl rfl (any_of HT_.out (by kernel_rfl)) (fun _ _ _ h => h) (Or.inl ⟨by rfl,?_⟩) ?_ ?_;rotate_left
        ·intro w';go_simp;with_reducible rfl
        rotate_left
        ·simp only [Act.put,U,V,Z,i64_w,i32_w];rfl
        refine pure_ (i:=11) (N:=some 92) (v:=?_) (a':=?_) #[true,true,true,true,true,true,true,true,true,true,true,true,false,false,false,false,false,false,false,false] rfl rfl (any_of HT_.out (by kernel_rfl)) (fun _ _ _ h => h) (Or.inl ⟨by rfl,?_⟩) ?_ ?_;rotate_left
        ·intro w';go_simp;with_reducible rfl
        rotate_left
        ·simp only [Act.put,U,V,Z,i64_w,i32_w];rfl
        refine pure_ (i:=12) (N:=some 93) (v:=?_) (a':=?_) #[true,true,true,true,true,true,true,true,true,true,true,true,true,false,false,false,false,false,false,false] rfl rfl (any_of HT_.out (by kernel_rfl)) (fun _ _ _ h => h) (Or.inl ⟨by rfl,?_⟩) ?_ ?_;rotate_left
        ·intro w';go_simp;with_reducible rfl
        rotate_left
        ·simp only [Act.put,U,V,Z,i64_w,i32_w];rfl
        refine pure_ (i:=14) (N:=some 95) (v:=?_) (a':=?_) #[true,true,true,true,true,true,true,true,true,true,true,true,true,false,true,false,false,false,false,false] rfl rfl (any_of HT_.out (by kernel_rfl)) (fun _ _ _ h => h) (Or.inl ⟨by rfl,?_⟩) ?_ ?_;rotate_left
        ·intro w';go_simp;with_reducible rfl
        rotate_left
        ·simp only [Act.put,U,V,Z,i64_w,i32_w];rfl
        refine pure_ (i:=15) (N:=some 96) (v:=?_) (a':=?_) #[true,true,true,true,true,true,true,true,true,true,true,true,true,false,true,true,false,false,false,false] rfl rfl (any_of HT_.out (by kernel_rfl)) (fun _ _ _ h => h) (Or.inl ⟨by rfl,?_⟩) ?_ ?_;rotate_left
        ·intro w';go_simp;with_reducible rfl
        rotate_left
        ·simp only [Act.put,U,V,Z,i64_w,i32_w];rfl
        refine pure_ (i:=16) (N:=some 97) (v:=?_) (a':=?_) #[true,true,true,true,true,true,true,true,true,true,true,true,true,false,true,true,true,false,false,false] rfl rfl (any_of HT_.out (by kernel_rfl)) (fun _ _ _ h => h) (Or.inl ⟨by rfl,?_⟩) ?_ ?_;rotate_left
        ·intro w';go_simp;with_reducible rfl
        rotate_left
        ·simp only [Act.put,U,V,Z,i64_w,i32_w];rfl
        refine take_ (i:=13) (N:=some 94) (v:=?_) (a':=?_) #[true,true,true,true,true,true,true,true,true,true,true,true,true,true,true,true,true,false,false,false] rfl rfl (take_ofW HT_.out HW_.out (by kernel_rfl)) (fun _ _ _ h => h) (Or.inl ⟨by rfl,?_⟩) hHeld ?_ ?_;rotate_left
        ·rintro w' ⟨s0,s1,s2,s3⟩;go_simp;with_reducible rfl
        rotate_left
        ·simp only [Act.put,U,V,Z,i64_w,i32_w];rfl
        refine take_ (i:=17) (N:=some 98) (v:=?_) (a':=?_) #[true,true,true,true,true,true,true,true,true,true,true,true,true,true,true,true,true,true,false,false] rfl rfl (take_ofW HT_.out HW_.out (by kernel_rfl)) (fun _ _ _ h => h) (Or.inl ⟨by rfl,?_⟩) hHeld ?_ ?_;rotate_left
        ·rintro w' ⟨s0,s1,s2,s3⟩;go_simp;with_reducible rfl
        rotate_left
        ·simp only [Act.put,U,V,Z,i64_w,i32_w];rfl
        refine pure_ (i:=18) (N:=some 99) (v:=?_) (a':=?_) #[true,true,true,true,true,true,true,true,true,true,true,true,true,true,true,true,true,true,true,false] rfl rfl (any_of HT_.out (by kernel_rfl)) (fun _ _ _ h => h) (Or.inl ⟨by rfl,?_⟩) ?_ ?_;rotate_left
        ·intro w';go_simp;with_reducible rfl
        rotate_left
        ·simp only [Act.put,U,V,Z,i64_w,i32_w];rfl
        refine pure_ (i:=19) (N:=some 100) (v:=?_) (a':=?_) #[true,true,true,true,true,true,true,true,true,true,true,true,true,true,true,true,true,true,true,true] rfl rfl (any_of HT_.out (by kernel_rfl)) (fun _ _ _ h => h) (Or.inl ⟨by rfl,?_⟩) ?_ ?_;rotate_left
        ·intro w';go_simp;with_reducible rfl
        rotate_left
        ·simp only [Act.put,U,V,Z,i64_w,i32_w];rfl
        refine done_ (done_of HT_.out (by kernel_rfl)) ?_
        try go_wp2
        go_ret;exact ⟨by first | rfl | (simp [errW_none,errW_some] <;> rfl) | (simp [*,errW_none,errW_some] <;> rfl),by repeat (first | (with_reducible first | exact HB.out | apply below_alloc | apply pw_below_drewN | apply below_drew1 | refine below_set ?_ GE1235.out) | exact HB.out)⟩
       rw [if_pos c81] at H;have c81b0 : ((rd t1251 x10_3) == (rd t1251 t1234)) = true:=beq_iff_eq.mpr c81;have c81b1 : ((rd t1251 x10_3) != (rd t1251 t1234)) = false:=bne_eq_false_iff_eq.mpr c81;clear c81;have H':=zx H;clear H;have hcz82_0 : wr.cell? ⟨gb1235,0,none⟩ = some (.int .i64 t1230):=(blk_cell BK1235.out 0).trans rfl;have hcz82_1 : wr.cell? ⟨gb1235,1,none⟩ = some (.slice Ao9 t1231.length co9):=(blk_cell BK1235.out 1).trans rfl;have hfz82_0:=blk_frozen BK1235.out 0;have hfz82_1:=blk_frozen BK1235.out 1
       try go_wp2
       have n0_:=zx (Kd.R_drew HO_6.out);have n1_:=zx (Kd.R_drew HO_9.out);have n2_:=zx (Kd.R_drew HO_1236001.out);have n3_:=zx (blk_drew BK1235.out);have n4_:=zx (below_drew1 HB.out);clear HO_6;clear HO_9;clear HO_1236001;clear BK1235;clear HB;have HO_6:=n0_;have HO_9:=n1_;have HO_1236001:=n2_;have BK1235:=n3_;have HB:=n4_;clear n0_ n1_ n2_ n3_ n4_;obtain ⟨Ao84,co84,eo84⟩:=Kd.R_slice HO_9.out
       (first | subst eo84 | (injection eo84 with f1_ f2_ f3_; have f4_:=f1_.symm; have f5_:=f3_.symm; clear f1_ f2_ f3_; subst f4_; subst f5_))
       have p1263 : 0 ≤ (x10_3 : Int):=of_decide_eq_true (by first | (with_reducible assumption) | assumption);have q1263 : x10_3 < (t1260.length : Int):=of_decide_eq_true (by first | (with_reducible assumption) | assumption);obtain ⟨ad1263,e1263,hx1263_0⟩:=Kd.at_int (Kd.R_reads' HO_9.out).2.2 x10_3 p1263 q1263;cases e1263;replace p1263:=eq_true p1263;replace q1263:=eq_true q1263;have p1264 : 0 ≤ (t1234 : Int):=of_decide_eq_true (by first | (with_reducible assumption) | assumption);have q1264 : t1234 < (t1260.length : Int):=of_decide_eq_true (by first | (with_reducible assumption) | assumption);obtain ⟨ad1264,e1264,hx1264_0⟩:=Kd.at_int (Kd.R_reads' HO_9.out).2.2 t1234 p1264 q1264;obtain rfl : ad1263 = ad1264:=(by injection e1264)
       replace p1264:=eq_true p1264;replace q1264:=eq_true q1264;obtain ⟨Ao85,co85,eo85⟩:=Kd.R_slice HO_6.out
       (first | subst eo85 | (injection eo85 with f1_ f2_ f3_; have f4_:=f1_.symm; have f5_:=f3_.symm; clear f1_ f2_ f3_; subst f4_; subst f5_))
       have p1265 : 0 ≤ (x10_3 : Int):=of_decide_eq_true (by first | (with_reducible assumption) | assumption);have q1265 : x10_3 < (t1251.length : Int):=of_decide_eq_true (by first | (with_reducible assumption) | assumption);obtain ⟨ad1265,e1265,hx1265_0⟩:=Kd.at_int (Kd.R_reads' HO_6.out).2.2 x10_3 p1265 q1265;cases e1265;replace p1265:=eq_true p1265;replace q1265:=eq_true q1265;have p1266 : 0 ≤ (t1234 : Int):=of_decide_eq_true (by first | (with_reducible assumption) | assumption);have q1266 : t1234 < (t1251.length : Int):=of_decide_eq_true (by first | (with_reducible assumption) | assumption);obtain ⟨ad1266,e1266,hx1266_0⟩:=Kd.at_int (Kd.R_reads' HO_6.out).2.2 t1234 p1266 q1266;obtain rfl : ad1265 = ad1266:=(by injection e1266)
       replace p1266:=eq_true p1266;replace q1266:=eq_true q1266;refine start_ (n:=20) (S:=fun w' => w'.cell? (ad1263.add (x10_3).toNat) = some (.int .i64 (rd t1260 x10_3)) ∧ w'.cell? (ad1263.add (t1234).toNat) = some (.int .i64 (rd t1260 t1234)) ∧ w'.cell? (ad1265.add (x10_3).toNat) = some (.int .i64 (rd t1251 x10_3)) ∧ w'.cell? (ad1265.add (t1234).toNat) = some (.int .i64 (rd t1251 t1234))) (ds:=[]) #[false,false,false,false,false,false,false,false,false,false,false,false,false,false,false,false,false,false,false,false] (by kernel_rfl) rfl rfl ⟨hx1263_0,hx1264_0,hx1265_0,hx1266_0⟩ (fun hHeld => ?_); refine with_tabW laws_FnTreeReach.tab18 laws_FnTreeReach.bits18 (fun HT_ HW_ => ?_);generalize wr.drew = w83 at HO_6 HO_9 HO_1236001 BK1235 HB hx1263_0 hx1264_0 hx1265_0 hx1266_0 hHeld ⊢;refine pure_ (i:=0) (N:=some 81) (v:=?_) (a':=?_) #[true,false,false,false,false,false,false,false,false,false,false,false,false,false,false,false,false,false,false,false] rfl rfl (any_of HT_.out (by kernel_rfl)) (fun _ _ _ h => h) (Or.inl ⟨by rfl,?_⟩) ?_ ?_;rotate_left
       ·intro w';go_simp;with_reducible rfl
       rotate_left
       ·simp only [Act.put,U,V,Z,i64_w,i32_w];rfl
       refine pure_ (i:=1) (N:=some 82) (v:=?_) (a':=?_) #[true,true,false,false,false,false,false,false,false,false,false,false,false,false,false,false,false,false,false,false] rfl rfl (any_of HT_.out (by kernel_rfl)) (fun _ _ _ h => h) (Or.inl ⟨by rfl,?_⟩) ?_ ?_;rotate_left
       ·intro w';go_simp;with_reducible rfl
       rotate_left
       ·simp only [Act.put,U,V,Z,i64_w,i32_w];rfl
       refine pure_ (i:=2) (N:=some 83) (v:=?_) (a':=?_) #[true,true,true,false,false,false,false,false,false,false,false,false,false,false,false,false,false,false,false,false] rfl rfl (any_of HT_.out (by kernel_rfl)) (fun _ _ _ h => h) (Or.inl ⟨by rfl,?_⟩) ?_ ?_;rotate_left
       ·intro w';go_simp;with_reducible rfl
       rotate_left
       ·simp only [Act.put,U,V,Z,i64_w,i32_w];rfl
       refine pure_ (i:=4) (N:=some 85) (v:=?_) (a':=?_) #[true,true,true,false,true,false,false,false,false,false,false,false,false,false,false,false,false,false,false,false] rfl rfl (any_of HT_.out (by kernel_rfl)) (fun _ _ _ h => h) (Or.inl ⟨by rfl,?_⟩) ?_ ?_;rotate_left
       ·intro w';go_simp;with_reducible rfl
       rotate_left
       ·simp only [Act.put,U,V,Z,i64_w,i32_w];rfl
       refine pure_ (i:=5) (N:=some 86) (v:=?_) (a':=?_) #[true,true,true,false,true,true,false,false,false,false,false,false,false,false,false,false,false,false,false,false] rfl rfl (any_of HT_.out (by kernel_rfl)) (fun _ _ _ h => h) (Or.inl ⟨by rfl,?_⟩) ?_ ?_;rotate_left
       ·intro w';go_simp;with_reducible rfl
       rotate_left
       ·simp only [Act.put,U,V,Z,i64_w,i32_w];rfl
       refine pure_ (i:=6) (N:=some 87) (v:=?_) (a':=?_) #[true,true,true,false,true,true,true,false,false,false,false,false,false,false,false,false,false,false,false,false] rfl rfl (any_of HT_.out (by kernel_rfl)) (fun _ _ _ h => h) (Or.inl ⟨by rfl,?_⟩) ?_ ?_;rotate_left
       ·intro w';go_simp;with_reducible rfl
       rotate_left
       ·simp only [Act.put,U,V,Z,i64_w,i32_w];rfl
       refine take_ (i:=3) (N:=some 84) (v:=?_) (a':=?_) #[true,true,true,true,true,true,true,false,false,false,false,false,false,false,false,false,false,false,false,false] rfl rfl (take_ofW HT_.out HW_.out (by kernel_rfl)) (fun _ _ _ h => h) (Or.inl ⟨by rfl,?_⟩) hHeld ?_ ?_;rotate_left
       ·rintro w' ⟨s0,s1,s2,s3⟩;go_simp;with_reducible rfl
       rotate_left
       ·simp only [Act.put,U,V,Z,i64_w,i32_w];rfl
       refine take_ (i:=7) (N:=some 88) (v:=?_) (a':=?_) #[true,true,true,true,true,true,true,true,false,false,false,false,false,false,false,false,false,false,false,false] rfl rfl (take_ofW HT_.out HW_.out (by kernel_rfl)) (fun _ _ _ h => h) (Or.inl ⟨by rfl,?_⟩) hHeld ?_ ?_;rotate_left
       ·rintro w' ⟨s0,s1,s2,s3⟩;go_simp;with_reducible rfl
       rotate_left
       ·simp only [Act.put,U,V,Z,i64_w,i32_w];rfl
       refine pure_ (i:=8) (N:=some 89) (v:=?_) (a':=?_) #[true,true,true,true,true,true,true,true,true,false,false,false,false,false,false,false,false,false,false,false] rfl rfl (any_of HT_.out (by kernel_rfl)) (fun _ _ _ h => h) (Or.inl ⟨by rfl,?_⟩) ?_ ?_;rotate_left
       ·intro w';go_simp;with_reducible rfl
       rotate_left
       ·simp only [Act.put,U,V,Z,i64_w,i32_w];rfl
       refine pure_ (i:=9) (N:=some 90) (v:=?_) (a':=?_) #[true,true,true,true,true,true,true,true,true,true,false,false,false,false,false,false,false,false,false,false] rfl rfl (any_of HT_.out (by kernel_rfl)) (fun _ _ _ h => h) (Or.inl ⟨by rfl,?_⟩) ?_ ?_;rotate_left
       ·intro w';go_simp;with_reducible rfl
       rotate_left
       ·simp only [Act.put,U,V,Z,i64_w,i32_w];rfl
       refine pure_ (i:=10) (N:=some 91) (v:=?_) (a':=?_) #[true,true,true,true,true,true,true,true,true,true,true,false,false,false,false,false,false,false,false,false] rfl rfl (any_of HT_.out (by kernel_rfl)) (fun _ _ _ h => h) (Or.inl ⟨by rfl,?_⟩) ?_ ?_;rotate_left
       ·intro w';go_simp;with_reducible rfl
       rotate_left
       ·simp only [Act.put,U,V,Z,i64_w,i32_w];rfl
       refine pure_ (i:=11) (N:=some 92) (v:=?_) (a':=?_) #[true,true,true,true,true,true,true,true,true,true,true,true,false,false,false,false,false,false,false,false] rfl rfl (any_of HT_.out (by kernel_rfl)) (fun _ _ _ h => h) (Or.inl ⟨by rfl,?_⟩) ?_ ?_;rotate_left
       ·intro w';go_simp;with_reducible rfl
       rotate_left
       ·simp only [Act.put,U,V,Z,i64_w,i32_w];rfl
       refine pure_ (i:=12) (N:=some 93) (v:=?_) (a':=?_) #[true,true,true,true,true,true,true,true,true,true,true,true,true,false,false,false,false,false,false,false] rfl rfl (any_of HT_.out (by kernel_rfl)) (fun _ _ _ h => h) (Or.inl ⟨by rfl,?_⟩) ?_ ?_;rotate_left
       ·intro w';go_simp;with_reducible rfl
       rotate_left
       ·simp only [Act.put,U,V,Z,i64_w,i32_w];rfl
       refine pure_ (i:=14) (N:=some 95) (v:=?_) (a':=?_) #[true,true,true,true,true,true,true,true,true,true,true,true,true,false,true,false,false,false,false,false] rfl rfl (any_of HT_.out (by kernel_rfl)) (fun _ _ _ h => h) (Or.inl ⟨by rfl,?_⟩) ?_ ?_;rotate_left
       ·intro w';go_simp;with_reducible rfl
       rotate_left
       ·simp only [Act.put,U,V,Z,i64_w,i32_w];rfl
       refine pure_ (i:=15) (N:=some 96) (v:=?_) (a':=?_) #[true,true,true,true,true,true,true,true,true,true,true,true,true,false,true,true,false,false,false,false] rfl rfl (any_of HT_.out (by kernel_rfl)) (fun _ _ _ h => h) (Or.inl ⟨by rfl,?_⟩) ?_ ?_;rotate_left
       ·intro w';go_simp;with_reducible rfl
       rotate_left
       ·simp only [Act.put,U,V,Z,i64_w,i32_w];rfl
       refine pure_ (i:=16) (N:=some 97) (v:=?_) (a':=?_) #[true,true,true,true,true,true,true,true,true,true,true,true,true,false,true,true,true,false,false,false] rfl rfl (any_of HT_.out (by kernel_rfl)) (fun _ _ _ h => h) (Or.inl ⟨by rfl,?_⟩) ?_ ?_;rotate_left
       ·intro w';go_simp;with_reducible rfl
       rotate_left
       ·simp only [Act.put,U,V,Z,i64_w,i32_w];rfl
       refine take_ (i:=13) (N:=some 94) (v:=?_) (a':=?_) #[true,true,true,true,true,true,true,true,true,true,true,true,true,true,true,true,true,false,false,false] rfl rfl (take_ofW HT_.out HW_.out (by kernel_rfl)) (fun _ _ _ h => h) (Or.inl ⟨by rfl,?_⟩) hHeld ?_ ?_;rotate_left
       ·rintro w' ⟨s0,s1,s2,s3⟩;go_simp;with_reducible rfl
       rotate_left
       ·simp only [Act.put,U,V,Z,i64_w,i32_w];rfl
       refine take_ (i:=17) (N:=some 98) (v:=?_) (a':=?_) #[true,true,true,true,true,true,true,true,true,true,true,true,true,true,true,true,true,true,false,false] rfl rfl (take_ofW HT_.out HW_.out (by kernel_rfl)) (fun _ _ _ h => h) (Or.inl ⟨by rfl,?_⟩) hHeld ?_ ?_;rotate_left
       ·rintro w' ⟨s0,s1,s2,s3⟩;go_simp;with_reducible rfl
       rotate_left
       ·simp only [Act.put,U,V,Z,i64_w,i32_w];rfl
       refine pure_ (i:=18) (N:=some 99) (v:=?_) (a':=?_) #[true,true,true,true,true,true,true,true,true,true,true,true,true,true,true,true,true,true,true,false] rfl rfl (any_of HT_.out (by kernel_rfl)) (fun _ _ _ h => h) (Or.inl ⟨by rfl,?_⟩) ?_ ?_;rotate_left
       ·intro w';go_simp;with_reducible rfl
       rotate_left
       ·simp only [Act.put,U,V,Z,i64_w,i32_w];rfl
       refine pure_ (i:=19) (N:=some 100) (v:=?_) (a':=?_) #[true,true,true,true,true,true,true,true,true,true,true,true,true,true,true,true,true,true,true,true] rfl rfl (any_of HT_.out (by kernel_rfl)) (fun _ _ _ h => h) (Or.inl ⟨by rfl,?_⟩) ?_ ?_;rotate_left
       ·intro w';go_simp;with_reducible rfl
       rotate_left
       ·simp only [Act.put,U,V,Z,i64_w,i32_w];rfl
       refine done_ (done_of HT_.out (by kernel_rfl)) ?_
       try go_wp2
       go_roundg k3
       case measure => have:=HJ4.out; have:=HK2.out; have:=HK3.out; omega
       case rel => exact ⟨(wrap64 (x10_3 + 1)),(by first | rfl | (simp; done) | (simp [*]; done)),H',⟨by have:=HJ4.out; have:=HK2.out; have:=HK3.out; omega⟩,⟨by (with_reducible repeat (first | apply Kd.R_alloc | apply Kd.R_drewN | apply Kd.R_drew)); exact HO_6.out⟩,⟨by (with_reducible repeat (first | apply Kd.R_alloc | apply Kd.R_drewN | apply Kd.R_drew)); exact HO_9.out⟩,⟨by (with_reducible repeat (first | apply Kd.R_alloc | apply Kd.R_drewN | apply Kd.R_drew)); exact HO_1236001.out⟩,⟨by (with_reducible repeat (first | refine blk_drewN ?_ _ | refine blk_drew ?_ | refine blk_alloc ?_ _)); exact BK1235.out⟩,⟨by repeat (first | (with_reducible first | exact HB.out | apply below_alloc | apply pw_below_drewN | apply below_drew1 | refine below_set ?_ GE1235.out) | exact HB.out)⟩⟩
end Go.Proofs.Ytlhmljngjdfbpaa.Pr
end
section
set_option linter.unusedVariables false
namespace Go.Proofs.YtlhmljngjdfbpaaW.PrintWords
open Go.RowKit Go.ChangeShapes Go.WideShapes
def Opens (P : Program) {α : Type} (d : Kd α) (t : TypeId) (wf : α → Prop) : Prop :=
 ∀ {H : Type} {enc : TypeId × Value → H} {w : World} {sp : Nat → Bool} {held : Bool} {fuel : Nat} {cs : List Value} {x : DataW H × List MemPlace},DataW.trod enc P w 0 sp held fuel t cs = some x → ∃ a,d.K w a cs ∧ wf a
section
variable {P : Program} {α β : Type}
theorem opens_int {t : TypeId} {k : IntKind} (ht : P.underlying t = some (.int k)) : Opens P (Kd.int k) t (fun n => (Lit.int k n).wf = true):=by
 intro H enc w sp held fuel cs x h;obtain ⟨n,rfl,_,hw⟩:=DataW.trod_int ht h;exact ⟨n,rfl,hw⟩
theorem addr_add_add (a : Addr) (i j : Nat) : (a.add i).add j = a.add (i + j):=by
 unfold Addr.add
 by_cases hi : i = 0 <;> by_cases hj : j = 0 <;> simp [hi,hj,Nat.add_assoc]
theorem opens_slice [Inhabited α] {d : Kd α} {t e : TypeId} {wf : α → Prop} (ht : P.underlying t = some (.slice e)) (hc : P.cellsOf e = d.sz) (he : Opens P d e wf) : Opens P (Kd.slice e d) t (fun l => l.length ≤ maxLen ∧ ∀ x ∈ l,wf x):=by
 intro H enc w sp held fuel cs x h
 rcases Deep.open_slice ht h with ⟨rfl,_⟩ | ⟨a,len,cap,m,n,D,Pl,rfl,_,hl,hm,hmm,_,hel⟩
 ·exact ⟨[],⟨none,0,rfl,Nat.le_refl _,Kd.C_nil d w⟩,by simp,by simp⟩
 ·have hlm : len ≤ m:=by rw [hmm]; split <;> omega
  have hx : ∀ i,i < len → ∃ y : α,(∃ c,c.length = d.sz ∧ d.K w y c ∧ ∀ j u,c[j]? = some u → w.cell? (a.add (i * d.sz + j)) = some u) ∧ wf y:=by
   intro i hi;obtain ⟨cs',hcs,htr⟩:=hel i (by omega);obtain ⟨y,hk,hw⟩:=he htr;obtain ⟨_,hlen,hcell⟩:=World.cells?_some hcs;refine ⟨y,⟨cs',d.K_len hk,hk,fun j u hu => ?_⟩,hw⟩;have hj : j < P.cellsOf e:=by
    have:=(List.getElem?_eq_some_iff.1 hu).1;omega
   have:=hcell j hj;rw [addr_add_add,hc,hu] at this;exact this
  obtain ⟨f,hf⟩:=Deep.choose_lt hx;refine ⟨(List.range len).map f,⟨some a,cap,by simp,by simpa using hl,by simp,by simp only [maxLen] at hm; simp; omega,fun _ => ⟨a,rfl,fun j p hj => ?_⟩⟩,by simp; omega,fun y hy => ?_⟩
  ·obtain ⟨hj1,hj2⟩:=List.getElem?_eq_some_iff.1 hj;simp at hj1 hj2;subst hj2;exact (hf j hj1).1
  ·simp only [List.mem_map,List.mem_range] at hy;obtain ⟨i,hi,rfl⟩:=hy;exact (hf i hi).2
end
end Go.Proofs.YtlhmljngjdfbpaaW.PrintWords
end
section
namespace Go.Proofs.Ytlhmljngjdfbpaa.Pr
open Go.RowKit Go.Proofs.YtlhmljngjdfbpaaW.PrintWords Go.Proofs.YtlhmljngjdfbpaaW.PrintLast Go.Proofs.YtlhmljngjdfbpaaW.PrintMore
open List renaming setIfInBounds_toArray → U,set_cons_zero → V,set_cons_succ → Z
open Go.Proofs.YtlhmljngjdfbpaaW.PrintWords.Aside0 renaming mk → zx
def laws_FnTreeReach.Asked : Prop:=∀ (l0 : List Int),(l0.length ≤ maxLen ∧ ∀ x_ ∈ l0,(Lit.int .u8 x_).wf = true) → ∃ k,laws_FnTreeReach.f k l0 = some true
end Go.Proofs.Ytlhmljngjdfbpaa.Pr
end
section
set_option linter.unusedVariables false
namespace Go.Proofs.YtlhmljngjdfbpaaW.PrintWords
open Go.RowKit
section
variable {α β : Type}
theorem Ev.pos {c : Prop} [Decidable c] {t e : Nat → Option α} {r : α} (h : c) (k : Ev t r) : Ev (fun n => if c then t n else e n) r:=by
 simp only [if_pos h]; exact k
theorem Ev.neg {c : Prop} [Decidable c] {t e : Nat → Option α} {r : α} (h : ¬ c) (k : Ev e r) : Ev (fun n => if c then t n else e n) r:=by
 simp only [if_neg h]; exact k
theorem Ev.bind0 {g : Option α} {f : Nat → α → Option β} {a : α} {r : β} (h : g = some a) (k : Ev (fun n => f n a) r) : Ev (fun n => g.bind (f n)) r:=by
 subst h; exact k
theorem Ev.is {a r : α} (h : a = r) : Ev (fun _ => some a) r:=by subst h; exact Ev.now _
theorem Ev.cast {g : Nat → Option α} {a r : α} (k : Ev g a) (h : a = r) : Ev g r:=h ▸ k
theorem Ev.go {g f : Nat → Option α} {r : α} (k : Ev f r) (h : ∀ k,g (k + 1) = f k) : Ev g r:=Ev.step h k
end
theorem w64 {n : Int} (h : -9223372036854775808 ≤ n) (h' : n ≤ 9223372036854775807) : wrap64 n = n:=by unfold wrap64; omega
theorem rd_nat {l : List Int} {i : Nat} (h : i < l.length) : rd l (i : Int) = l[i]:=by simp [rd,h]
noncomputable def Bp (p : Prop) : Bool:=@decide p (Classical.propDecidable p)
theorem Bp_iff {p : Prop} : Bp p = true ↔ p:=by unfold Bp; exact @decide_eq_true_iff p (Classical.propDecidable p)
theorem Bp_true {p : Prop} (h : p) : Bp p = true:=Bp_iff.2 h
theorem Bp_false {p : Prop} (h : ¬ p) : Bp p = false:=by
 cases e : Bp p with
 | false => rfl
 | true => exact absurd (Bp_iff.1 e) h
end Go.Proofs.YtlhmljngjdfbpaaW.PrintWords
end
section
set_option linter.unusedSimpArgs false
set_option linter.unusedVariables false
namespace Go.Proofs.Ytlhmljngjdfbpaa.Pure
open Go.RowKit Go.Proofs.Ytlhmljngjdfbpaa.Pr Go.Proofs.YtlhmljngjdfbpaaW.PrintWords Go.Proofs.YtlhmljngjdfbpaaW.PrintLast Go.Proofs.YtlhmljngjdfbpaaW.PrintMore
def inB (x a b : Int) : Bool:=decide (a ≤ x) && decide (x ≤ b)
theorem inB_iff {x a b : Int} : inB x a b = true ↔ a ≤ x ∧ x ≤ b:=by simp [inB]
theorem in1 (x a b : Int) : spec_l1In.f x a b = some (inB x a b):=by
 unfold spec_l1In.f inB
 by_cases h : x ≥ a
 case pos => rw [if_pos h]; simp [show a ≤ x from h]
 rw [if_neg h]; simp [show ¬ a ≤ x from h]
theorem up1 {i n : Nat} (h : i < n) (hn : n ≤ maxLen) : wrap64 ((i : Int) + 1) = ((i + 1 : Nat) : Int):=by
 simp only [maxLen] at hn;rw [w64 (by omega) (by omega)]; omega
theorem rdn {l : List Int} {i : Nat} (h : i < l.length) : rd l (i : Int) = l[i]:=rd_nat h
def nth (l : List Int) (i : Nat) : Int:=l.getD i 0
theorem rdg {l : List Int} (i : Nat) : rd l (i : Int) = nth l i:=by simp [rd,nth]
theorem nth_get {l : List Int} {i : Nat} (h : i < l.length) : nth l i = l[i]:=by simp [nth,h]
theorem getD_mem {l : List Int} {i : Nat} (h : i < l.length) : nth l i ∈ l:=by
 rw [nth_get h];exact List.getElem_mem h
theorem mem_getD {l : List Int} {x : Int} (h : x ∈ l) : ∃ i,i < l.length ∧ nth l i = x:=by
 obtain ⟨i,hi,rfl⟩:=List.getElem_of_mem h;exact ⟨i,hi,nth_get hi⟩
theorem drop_cons {α : Type} {l : List α} {i : Nat} (h : i < l.length) : l.drop i = l[i] :: l.drop (i + 1):=List.drop_eq_getElem_cons h
def Pv {α : Type} (g : Nat → Option α) (P : α → Prop) : Prop:=∃ r,Ev g r ∧ P r
section
variable {α β : Type} {P : α → Prop}
theorem Pv.of {g : Nat → Option α} {r : α} (h : Ev g r) (hp : P r) : Pv g P:=⟨r,h,hp⟩
theorem Pv.now {a : α} (h : P a) : Pv (fun _ => some a) P:=⟨a,Ev.now a,h⟩
theorem Pv.pos {c : Prop} [Decidable c] {t e : Nat → Option α} (h : c) (k : Pv t P) : Pv (fun n => if c then t n else e n) P:=by
 obtain ⟨r,k,hp⟩:=k;exact ⟨r,Ev.pos h k,hp⟩
theorem Pv.neg {c : Prop} [Decidable c] {t e : Nat → Option α} (h : ¬ c) (k : Pv e P) : Pv (fun n => if c then t n else e n) P:=by
 obtain ⟨r,k,hp⟩:=k;exact ⟨r,Ev.neg h k,hp⟩
theorem Pv.ite {c : Prop} [Decidable c] {t e : Nat → Option α} (h : c → Pv t P) (k : ¬ c → Pv e P) : Pv (fun n => if c then t n else e n) P:=by
 by_cases hc : c
 case neg => exact Pv.neg hc (k hc)
 exact Pv.pos hc (h hc)
theorem Pv.bind {g : Nat → Option β} {f : Nat → β → Option α} {R : β → Prop} (h : Pv g R) (k : ∀ b,R b → Pv (fun n => f n b) P) : Pv (fun n => (g n).bind (f n)) P:=by
 obtain ⟨b,h,hb⟩:=h;obtain ⟨r,k,hp⟩:=k b hb;exact ⟨r,Ev.bind h k,hp⟩
theorem Pv.bind0 {g : Option β} {f : Nat → β → Option α} {b : β} (h : g = some b) (k : Pv (fun n => f n b) P) : Pv (fun n => g.bind (f n)) P:=by
 obtain ⟨r,k,hp⟩:=k;exact ⟨r,Ev.bind0 h k,hp⟩
theorem Pv.go {g f : Nat → Option α} (k : Pv f P) (h : ∀ k,g (k + 1) = f k) : Pv g P:=by
 obtain ⟨r,k,hp⟩:=k;exact ⟨r,Ev.go k h,hp⟩
theorem Pv.mono {g : Nat → Option α} {R : α → Prop} (h : Pv g R) (k : ∀ a,R a → P a) : Pv g P:=by
 obtain ⟨r,h,hr⟩:=h;exact ⟨r,h,k r hr⟩
end
theorem Pv.rounds {g : Nat → Option Bool} (h : Pv g (· = true)) : ∃ k,g k = some true:=by
 obtain ⟨r,h,rfl⟩:=h;exact Ev.rounds h
def lst (n : Nat) (F : Nat → Int) : List Int:=(List.range n).map F
theorem lst_len (n : Nat) (F : Nat → Int) : (lst n F).length = n:=by simp [lst]
theorem lst_nth {n v : Nat} (F : Nat → Int) (h : v < n) : nth (lst n F) v = F v:=by
 simp [nth,lst,h]
theorem lst_rd {n v : Nat} (F : Nat → Int) (h : v < n) : rd (lst n F) (v : Int) = F v:=by rw [rdg,lst_nth F h]
theorem lst_congr {n : Nat} {F G : Nat → Int} (h : ∀ v,v < n → F v = G v) : lst n F = lst n G:=by
 unfold lst
 exact List.map_congr_left (fun v hv => h v (List.mem_range.1 hv))
theorem lst_snoc (n : Nat) (F : Nat → Int) : lst n F ++ [F n] = lst (n + 1) F:=by
 simp [lst,List.range_succ]
def upd (F : Nat → Int) (a : Nat) (x : Int) : Nat → Int:=fun v => if v = a then x else F v
theorem lst_set {n a : Nat} (F : Nat → Int) (x : Int) : (lst n F).set a x = lst n (upd F a x):=by
 apply List.ext_getElem (by simp [lst])
 intro i h1 h2;have hi : i < n:=by simpa [lst] using h2
 simp only [List.getElem_set]
 by_cases e : a = i
 case pos => subst e; simp [lst,upd]
 simp [lst,upd,e,show ¬ i = a from fun h => e h.symm]
theorem upd_same (F : Nat → Int) (a : Nat) (x : Int) : upd F a x a = x:=by simp [upd]
theorem upd_far (F : Nat → Int) {a v : Nat} (x : Int) (h : v ≠ a) : upd F a x v = F v:=by simp [upd,h]
inductive Conn (E : Nat → Nat → Prop) : Nat → Nat → Prop
 | refl (v : Nat) : Conn E v v
 | tail {u v w : Nat} : Conn E u v → (E v w ∨ E w v) → Conn E u w
theorem Conn.trans {E : Nat → Nat → Prop} {u v w : Nat} (h : Conn E u v) (k : Conn E v w) : Conn E u w:=by
 induction k with
 | refl => exact h
 | tail _ e ih => exact .tail ih e
theorem Conn.one {E : Nat → Nat → Prop} {u v : Nat} (h : E u v ∨ E v u) : Conn E u v:=.tail (.refl u) h
theorem Conn.symm {E : Nat → Nat → Prop} {u v : Nat} (h : Conn E u v) : Conn E v u:=by
 induction h with
 | refl => exact .refl _
 | tail _ e ih => exact (Conn.one e.symm).trans ih
theorem Conn.mono {E E' : Nat → Nat → Prop} {u v : Nat} (h : Conn E u v) (k : ∀ a b,E a b → E' a b) : Conn E' u v:=by
 induction h with
 | refl => exact .refl _
 | tail _ e ih => exact .tail ih (e.imp (k _ _) (k _ _))
noncomputable def cnt (p : Nat → Prop) : Nat → Nat
 | 0 => 0
 | n + 1 => cnt p n + if Bp (p n) = true then 1 else 0
theorem cnt_le (p : Nat → Prop) (n : Nat) : cnt p n ≤ n:=by
 induction n with
 | zero => exact Nat.le_refl _
 | succ n ih => simp only [cnt]; split <;> omega
theorem cnt_mono {p q : Nat → Prop} (h : ∀ v,p v → q v) (n : Nat) : cnt p n ≤ cnt q n:=by
 induction n with
 | zero => exact Nat.le_refl _
 | succ n ih =>
  simp only [cnt]
  by_cases hp : p n
  case neg => rw [Bp_false hp]; simp; omega
  rw [Bp_true hp,Bp_true (h n hp)]; omega
theorem cnt_lt {p q : Nat → Prop} (h : ∀ v,p v → q v) {n u : Nat} (hu : u < n) (hq : q u) (hp : ¬ p u) : cnt p n < cnt q n:=by
 induction n with
 | zero => omega
 | succ n ih =>
  simp only [cnt]
  by_cases e : u = n
  case pos =>
   subst e;have:=cnt_mono h u;rw [Bp_false hp,Bp_true hq];simp; omega
  have:=ih (by omega)
  by_cases hp' : p n
  case neg => rw [Bp_false hp']; simp; omega
  rw [Bp_true hp',Bp_true (h n hp')]; omega
theorem cnt_all {p : Nat → Prop} {n : Nat} (h : n ≤ cnt p n) : ∀ v,v < n → p v:=by
 induction n with
 | zero => intro v hv; omega
 | succ n ih =>
  intro v hv;simp only [cnt] at h;have:=cnt_le p n
  by_cases hp : p n
  case neg =>
   rw [Bp_false hp] at h;simp at h;omega
  rw [Bp_true hp] at h;simp at h
  by_cases e : v = n
  case pos => subst e; exact hp
  exact ih h v (by omega)
theorem spread (n : Nat) (f : Nat → Nat → Prop) (mono : ∀ r v,f r v → f (r + 1) v) (lt : ∀ r v,f r v → v < n) (stop : ∀ r,(∀ v,f (r + 1) v → f r v) → ∀ v,f (r + 2) v → f (r + 1) v) (h0 : ∃ v,f 0 v) : ∀ r v,f r v → f (n - 1) v:=by
 have monos : ∀ r s v,f r v → f (r + s) v:=by
  intro r s v h
  induction s with
  | zero => exact h
  | succ s ih => exact mono _ _ ih
 have stops : ∀ r,(∀ v,f (r + 1) v → f r v) → ∀ s v,f (r + s) v → f r v:=by
  intro r h s;have hs : ∀ s v,f (r + s + 1) v → f (r + s) v:=by
   intro s
   induction s with
   | zero => exact h
   | succ s ih => exact stop (r + s) ih
  induction s with
  | zero => exact fun v h => h
  | succ s ih => exact fun v h => ih v (hs s v h)
 have key : ∀ r,(∃ s,s < r ∧ ∀ v,f (s + 1) v → f s v) ∨ r + 1 ≤ cnt (f r) n:=by
  intro r
  induction r with
  | zero =>
   right
   obtain ⟨v,hv⟩:=h0;have:=cnt_lt (p:=fun _ => False) (q:=f 0) (fun _ h => h.elim) (lt 0 v hv) hv (fun h => h);omega
  | succ r ih =>
   rcases ih with ⟨s,h1,h2⟩ | ih
   ·exact .inl ⟨s,by omega,h2⟩
   ·by_cases c : ∀ v,f (r + 1) v → f r v
    case pos => exact .inl ⟨r,by omega,c⟩
    right
    have : ∃ v,f (r + 1) v ∧ ¬ f r v:=by
     apply Classical.byContradiction
     intro h;exact c (fun v hv => Classical.byContradiction (fun h' => h ⟨v,hv,h'⟩))
    obtain ⟨v,h1,h2⟩:=this;have:=cnt_lt (mono r) (lt _ v h1) h1 h2;omega
 intro r v hv;obtain ⟨u,hu⟩:=h0;have hn : 0 < n:=by have:=lt 0 u hu; omega
 rcases key (n - 1) with ⟨s,h1,h2⟩ | h
 ·by_cases c : r ≤ s
  case pos =>
   have e : n - 1 = r + (n - 1 - r):=by omega
   rw [e];exact monos _ _ _ hv
  have hs : f s v:=by
   have e : r = s + (r - s):=by omega
   rw [e] at hv;exact stops s h2 _ v hv
  have e : n - 1 = s + (n - 1 - s):=by omega
  rw [e];exact monos _ _ _ hs
 ·exact cnt_all (by omega) v (lt _ v hv)
end Go.Proofs.Ytlhmljngjdfbpaa.Pure
end
section
set_option linter.unusedSectionVars false
namespace Go.Proofs.Ytlhmljngjdfbpaa.Pure
open Go.RowKit Go.Proofs.Ytlhmljngjdfbpaa.Pr Go.Proofs.YtlhmljngjdfbpaaW.PrintWords Go.Proofs.YtlhmljngjdfbpaaW.PrintLast Go.Proofs.YtlhmljngjdfbpaaW.PrintMore
section
variable {fr tw : Nat → Nat}
def LE (fr tw : Nat → Nat) (l : List Nat) (a b : Nat) : Prop:=∃ i,i ∈ l ∧ a = fr i ∧ b = tw i
abbrev Con (fr tw : Nat → Nat) (l : List Nat) (u v : Nat) : Prop:=Conn (LE fr tw l) u v
theorem Con.sub {l l' : List Nat} {u v : Nat} (h : Con fr tw l u v) (k : ∀ x,x ∈ l → x ∈ l') : Con fr tw l' u v :=
 h.mono (fun _ _ ⟨i,hi,e⟩ => ⟨i,k i hi,e⟩)
theorem Con.arc {l : List Nat} {k : Nat} (h : k ∈ l) : Con fr tw l (fr k) (tw k):=Conn.one (.inl ⟨k,h,rfl,rfl⟩)
theorem Con.via {l l' : List Nat} {u v : Nat} (h : Con fr tw l u v) (k : ∀ x,x ∈ l → Con fr tw l' (fr x) (tw x)) : Con fr tw l' u v:=by
 induction h with
 | refl => exact .refl _
 | tail _ e ih =>
  rcases e with ⟨i,hi,rfl,rfl⟩ | ⟨i,hi,rfl,rfl⟩
  ·exact ih.trans (k i hi)
  ·exact ih.trans (k i hi).symm
inductive Kru (fr tw : Nat → Nat) : List Nat → List Nat → List Nat → Prop
 | nil (o : List Nat) : Kru fr tw [] o o
 | skip {k : Nat} {ks o r : List Nat} : Con fr tw o (fr k) (tw k) → Kru fr tw ks o r → Kru fr tw (k :: ks) o r
 | take {k : Nat} {ks o r : List Nat} : ¬ Con fr tw o (fr k) (tw k) → Kru fr tw ks (o ++ [k]) r → Kru fr tw (k :: ks) o r
theorem Kru.ext {ks o r : List Nat} (h : Kru fr tw ks o r) : ∃ s,r = o ++ s ∧ ∀ x,x ∈ s → x ∈ ks:=by
 induction h with
 | nil => exact ⟨[],by simp,by simp⟩
 | skip _ _ ih =>
  obtain ⟨s,e,h⟩:=ih;exact ⟨s,e,fun x hx => List.mem_cons_of_mem _ (h x hx)⟩
 | @take k _ _ _ _ _ ih =>
  obtain ⟨s,e,h⟩:=ih;refine ⟨k :: s,by rw [e]; simp,fun x hx => ?_⟩
  rcases List.mem_cons.1 hx with rfl | hx
  ·simp
  ·exact List.mem_cons_of_mem _ (h x hx)
theorem Kru.spans {ks o r : List Nat} (h : Kru fr tw ks o r) : ∀ k,k ∈ ks → Con fr tw r (fr k) (tw k):=by
 induction h with
 | nil => simp
 | skip c h ih =>
  intro x hx;obtain ⟨s,e,_⟩:=h.ext
  rcases List.mem_cons.1 hx with rfl | hx
  ·exact c.sub (fun y hy => by rw [e]; simp [hy])
  ·exact ih x hx
 | take _ h ih =>
  intro x hx;obtain ⟨s,e,_⟩:=h.ext
  rcases List.mem_cons.1 hx with rfl | hx
  ·exact .arc (by rw [e]; simp)
  ·exact ih x hx
theorem Kru.nodup {ks o r : List Nat} (h : Kru fr tw ks o r) (hn : ks.Nodup) (ho : o.Nodup) (hd : ∀ x,x ∈ ks → x ∉ o) : r.Nodup:=by
 induction h with
 | nil => exact ho
 | skip _ _ ih => exact ih (List.nodup_cons.1 hn).2 ho (fun x hx => hd x (List.mem_cons_of_mem _ hx))
 | @take k ks o r _ _ ih =>
  refine ih (List.nodup_cons.1 hn).2 ?_ (fun x hx => ?_)
  ·rw [List.nodup_append];refine ⟨ho,by simp,fun a ha b hb => ?_⟩;rintro rfl;obtain rfl : a = k:=by simpa using hb
   exact hd a (by simp) ha
  ·intro hx2
   rcases List.mem_append.1 hx2 with h | h
   ·exact hd x (List.mem_cons_of_mem _ hx) h
   ·obtain rfl : x = k:=by simpa using h
    exact (List.nodup_cons.1 hn).1 hx
end
end Go.Proofs.Ytlhmljngjdfbpaa.Pure
end
section
set_option linter.unusedSimpArgs false
set_option linter.unusedVariables false
namespace Go.Proofs.Ytlhmljngjdfbpaa.Pure
open Go.RowKit Go.Proofs.Ytlhmljngjdfbpaa.Pr Go.Proofs.YtlhmljngjdfbpaaW.PrintWords Go.Proofs.YtlhmljngjdfbpaaW.PrintLast Go.Proofs.YtlhmljngjdfbpaaW.PrintMore
section
variable {t e : Nat → Option Bool} {r : Bool}
theorem Ev.and {b : Bool} (k : Ev t r) : Ev (fun n => if b = true then t n else some false) (b && r):=by
 cases b with
 | false => exact Ev.neg (by simp) (Ev.now _)
 | true => exact Ev.pos rfl k
theorem Ev.nand {c : Prop} [Decidable c] (k : Ev t r) : Ev (fun n => if c then some false else t n) (!decide c && r):=by
 by_cases h : c
 case pos => exact Ev.pos h (Ev.is (by simp [h]))
 exact Ev.neg h (k.cast (by simp [h]))
end
abbrev Arc:=S58
def arc (l : List Arc) (i : Nat) : Arc:=rd_T58 l (i : Int)
theorem rda (l : List Arc) (i : Nat) : rd_T58 l (i : Int) = arc l i:=rfl
theorem arc_get {l : List Arc} {i : Nat} (h : i < l.length) : arc l i = l[i]:=by simp [arc,rd_T58,h]
theorem arc_mem {l : List Arc} {i : Nat} (h : i < l.length) : arc l i ∈ l:=by
 rw [arc_get h];exact List.getElem_mem h
attribute [irreducible] arc
def okArcW (n : Int) (a : Arc) : Bool:=inB a.f0 0 (wrap64 (n - 1)) && (inB a.f1 0 (wrap64 (n - 1)) && (!decide (a.f0 = a.f1) && (inB a.f2 0 99 && (inB a.f3 0 99 && inB a.f4 0 9))))
theorem l1Ok_l (n : Int) (l : List Arc) (hm : l.length ≤ maxLen) : ∀ (m i : Nat),l.length - i = m → i ≤ l.length → Ev (fun k => spec_l1Ok.l0 k (i : Int) n l) ((l.drop i).all (okArcW n) && (inB n 1 8 && decide ((l.length : Int) ≤ 16))):=by
 intro m
 induction m with
 | zero =>
  intro i hd hi;refine Ev.go ?_ (fun k => by rw [spec_l1Ok.l0]);refine Ev.neg (by omega) (Ev.bind0 (in1 _ _ _) ?_);rw [List.drop_of_length_le (by omega)];exact (Ev.and (Ev.now _)).cast (by simp)
 | succ m ih =>
  intro i hd hi;have hlt : i < l.length:=by omega
  refine Ev.go ?_ (fun k => by rw [spec_l1Ok.l0]);rw [drop_cons hlt,← arc_get hlt,List.all_cons,rda,up1 hlt hm];refine Ev.pos (by omega) (Ev.pos (by omega) ?_);refine Ev.cast (Ev.bind0 (in1 _ _ _) (Ev.and (Ev.bind0 (in1 _ _ _) (Ev.and (Ev.nand (Ev.bind0 (in1 _ _ _) (Ev.and (Ev.bind0 (in1 _ _ _) (Ev.and (Ev.bind0 (in1 _ _ _) (Ev.and (ih (i + 1) (by omega) (by omega))))))))))))) ?_;simp only [okArcW,Bool.and_assoc]
theorem okArcW_okArc {n : Int} (h : 1 ≤ n) (h8 : n ≤ 8) (a : Arc) : okArcW n a = okArc n a:=by
 unfold okArcW okArc inB okN okC
 rw [w64 (by omega) (by omega)];have e : (a.f4 ≤ 9) ↔ (a.f4 ≤ 10 - 1):=by omega
 have e2 : (a.f0 == a.f1) = decide (a.f0 = a.f1):=by
  by_cases c : a.f0 = a.f1 <;> simp [c]
 rw [e2];simp only [Bool.and_assoc,e]
theorem l1Ok_ev (n : Int) (l : List Arc) (hm : l.length ≤ maxLen) : Ev (fun k => spec_l1Ok.f k n l) (netOkB n l):=by
 unfold spec_l1Ok.f
 refine (l1Ok_l n l hm _ 0 rfl (by omega)).cast ?_
 unfold netOkB
 rw [List.drop_zero]
 by_cases h : 1 ≤ n ∧ n ≤ 8
 case pos =>
  have e : l.all (okArcW n) = l.all (okArc n):=by
   congr 1
   funext a
   exact okArcW_okArc h.1 h.2 a
  rw [e,show inB n 1 8 = true from inB_iff.2 h];simp [h.1,h.2,Bool.and_comm]
 have e : inB n 1 8 = false:=by
  cases c : inB n 1 8 with
  | false => rfl
  | true => exact absurd (inB_iff.1 c) h
 rw [e];have e2 : (decide (1 ≤ n) && decide (n ≤ 8)) = false:=e;simp only [e2,Bool.false_and,Bool.and_false]
structure NetGood (n : Int) (l : List Arc) : Prop where
 n1 : 1 ≤ n
 n8 : n ≤ 8
 len : l.length ≤ 16
 ok : ∀ i,i < l.length → (0 ≤ (arc l i).f0 ∧ (arc l i).f0 < n) ∧ (0 ≤ (arc l i).f1 ∧ (arc l i).f1 < n) ∧ (arc l i).f0 ≠ (arc l i).f1 ∧ (0 ≤ (arc l i).f2 ∧ (arc l i).f2 ≤ 99) ∧ (0 ≤ (arc l i).f3 ∧ (arc l i).f3 ≤ 99) ∧ (0 ≤ (arc l i).f4 ∧ (arc l i).f4 ≤ 9)
theorem okArc_iff (n : Int) (a : Arc) : okArc n a = true ↔ (0 ≤ a.f0 ∧ a.f0 < n) ∧ (0 ≤ a.f1 ∧ a.f1 < n) ∧ a.f0 ≠ a.f1 ∧ (0 ≤ a.f2 ∧ a.f2 ≤ 99) ∧ (0 ≤ a.f3 ∧ a.f3 ≤ 99) ∧ (0 ≤ a.f4 ∧ a.f4 ≤ 9):=by
 simp only [okArc,okN,okC,Bool.and_eq_true,decide_eq_true_eq,Bool.not_eq_true',beq_eq_false_iff_ne];constructor
 ·rintro ⟨⟨⟨⟨⟨⟨a1,a2⟩,a3,a4⟩,a5⟩,a6⟩,a7⟩,a8,a9⟩;exact ⟨⟨a1,by omega⟩,⟨a3,by omega⟩,a5,a6,a7,a8,by omega⟩
 ·rintro ⟨⟨a1,a2⟩,⟨a3,a4⟩,a5,a6,a7,a8,a9⟩;exact ⟨⟨⟨⟨⟨⟨a1,by omega⟩,a3,by omega⟩,a5⟩,a6⟩,a7⟩,a8,by omega⟩
theorem netOkB_iff (n : Int) (l : List Arc) : netOkB n l = true ↔ NetGood n l:=by
 simp only [netOkB,Bool.and_eq_true,decide_eq_true_eq,List.all_eq_true];constructor
 ·rintro ⟨⟨⟨h1,h2⟩,h3⟩,h4⟩;exact ⟨h1,h2,by omega,fun i hi => (okArc_iff n _).1 (h4 _ (arc_mem hi))⟩
 ·rintro ⟨h1,h2,h3,h4⟩;refine ⟨⟨⟨h1,h2⟩,by omega⟩,fun a ha => ?_⟩;obtain ⟨i,hi,rfl⟩:=List.getElem_of_mem ha;rw [← arc_get hi];exact (okArc_iff n _).2 (h4 i hi)
theorem hasOf {n : Int} {l : List Arc} (h : NetGood n l) (v : List Int) : impl_Net_has.f n l v = some (v.all (okN n)):=by
 have:=h.n1;have:=h.n8
 unfold impl_Net_has.f
 rw [if_pos (by omega),if_pos (by omega)]
theorem nodesIn_eq (n : Int) (l : List Arc) (v : List Int) : impl_nodesIn.f n l v = some (netOkB n l && v.all (okN n)):=by
 unfold impl_nodesIn.f
 rw [show impl_NetOk.f n l = some (netOkB n l) from rfl,Option.bind_some];cases h : netOkB n l with
 | false => rfl
 | true => rw [if_pos rfl,hasOf ((netOkB_iff n l).1 h),Option.bind_some,Bool.true_and]
end Go.Proofs.Ytlhmljngjdfbpaa.Pure
end
section
set_option linter.unusedSimpArgs false
set_option linter.unusedVariables false
set_option linter.unusedSectionVars false
namespace Go.Proofs.Ytlhmljngjdfbpaa.Pure
open Go.RowKit Go.Proofs.Ytlhmljngjdfbpaa.Pr Go.Proofs.YtlhmljngjdfbpaaW.PrintWords Go.Proofs.YtlhmljngjdfbpaaW.PrintLast Go.Proofs.YtlhmljngjdfbpaaW.PrintMore
def frm (l : List Arc) (x : List Int) (j : Nat) : Nat:=(arc l (nth x j).toNat).f0.toNat
def too (l : List Arc) (x : List Int) (j : Nat) : Nat:=(arc l (nth x j).toNat).f1.toNat
def TE (l : List Arc) (x : List Int) (j : Nat) (a b : Nat) : Prop:=∃ i,i < j ∧ a = frm l x i ∧ b = too l x i
structure Parts (n : Nat) (E : Nat → Nat → Prop) (F : Nat → Int) : Prop where
 same : ∀ a b,E a b → F a = F b
 low : ∀ v,v < n → F v ≤ v
 conn : ∀ v,v < n → ∃ u : Nat,F v = u ∧ u < n ∧ Conn E u v
theorem Parts.all {n : Nat} {E : Nat → Nat → Prop} {F : Nat → Int} (h : Parts n E F) {u v : Nat} (c : Conn E u v) : F u = F v:=by
 induction c with
 | refl => rfl
 | tail _ e ih => exact ih.trans (e.elim (h.same _ _) (fun e => (h.same _ _ e).symm))
theorem Parts.uniq {n : Nat} {E : Nat → Nat → Prop} {F G : Nat → Int} (hF : Parts n E F) (hG : Parts n E G) : ∀ v,v < n → F v = G v:=by
 intro v hv;obtain ⟨u,e1,h1,c1⟩:=hF.conn v hv;obtain ⟨w,e2,h2,c2⟩:=hG.conn v hv;have a1:=hG.low u h1;have a2:=hF.low w h2;rw [hG.all c1] at a1;rw [hF.all c2] at a2;omega
section
variable {n : Int} {l : List Arc} (hg : NetGood n l) {x : List Int} (hx : ∀ j,j < x.length → 0 ≤ nth x j ∧ nth x j < l.length)
include hg hx
theorem frm_lt {j : Nat} (h : j < x.length) : ((frm l x j : Nat) : Int) = (arc l (nth x j).toNat).f0 ∧ frm l x j < n.toNat:=by
 have h1:=hx j h;have h2:=(hg.ok (nth x j).toNat (by omega)).1;have:=hg.n1
 unfold frm
 omega
theorem too_lt {j : Nat} (h : j < x.length) : ((too l x j : Nat) : Int) = (arc l (nth x j).toNat).f1 ∧ too l x j < n.toNat:=by
 have h1:=hx j h;have h2:=(hg.ok (nth x j).toNat (by omega)).2.1;have:=hg.n1
 unfold too
 omega
end
def stepS (F : Nat → Int) (a b : Nat) : Nat → Int:=if F a < F b then upd F b (F a) else upd F a (F b)
def sweepS (l : List Arc) (x : List Int) (F : Nat → Int) : Nat → (Nat → Int)
 | 0 => F
 | i + 1 => stepS (sweepS l x F i) (frm l x i) (too l x i)
def roundS (l : List Arc) (x : List Int) : Nat → (Nat → Int)
 | 0 => fun v => v
 | r + 1 => sweepS l x (roundS l x r) x.length
theorem stepS_at {F : Nat → Int} {a b : Nat} : stepS F a b a ≤ F a ∧ stepS F a b a ≤ F b ∧ stepS F a b b ≤ F a ∧ stepS F a b b ≤ F b ∧ ∀ v,stepS F a b v ≤ F v:=by
 unfold stepS
 by_cases h : F a < F b
 case pos =>
  rw [if_pos h];refine ⟨?_,?_,?_,?_,fun v => ?_⟩
  ·by_cases e : a = b
   case pos => subst e; omega
   rw [upd_far _ _ e]; omega
  ·by_cases e : a = b
   case pos => subst e; omega
   rw [upd_far _ _ e]; omega
  ·rw [upd_same]; omega
  ·rw [upd_same]; omega
  ·by_cases e : v = b
   case neg => rw [upd_far _ _ e]; omega
   subst e; rw [upd_same]; omega
 rw [if_neg h];refine ⟨?_,?_,?_,?_,fun v => ?_⟩
 ·rw [upd_same]; omega
 ·rw [upd_same]; omega
 ·by_cases e : b = a
  case neg => rw [upd_far _ _ e]; omega
  subst e; rw [upd_same]; omega
 ·by_cases e : b = a
  case neg => rw [upd_far _ _ e]; omega
  subst e; rw [upd_same]; omega
 ·by_cases e : v = a
  case neg => rw [upd_far _ _ e]; omega
  subst e; rw [upd_same]; omega
theorem stepS_from {F : Nat → Int} {a b v : Nat} : stepS F a b v = F v ∨ (v = b ∧ stepS F a b v = F a) ∨ (v = a ∧ stepS F a b v = F b):=by
 unfold stepS
 by_cases h : F a < F b
 case neg =>
  rw [if_neg h]
  by_cases e : v = a
  case neg => exact .inl (upd_far _ _ e)
  exact .inr (.inr ⟨e,by rw [e,upd_same]⟩)
 rw [if_pos h]
 by_cases e : v = b
 case neg => exact .inl (upd_far _ _ e)
 exact .inr (.inl ⟨e,by rw [e,upd_same]⟩)
theorem sweepS_le (l : List Arc) (x : List Int) (F : Nat → Int) : ∀ i v,sweepS l x F i v ≤ F v:=by
 intro i
 induction i with
 | zero => intro v; exact Int.le_refl _
 | succ i ih => intro v; exact Int.le_trans (stepS_at.2.2.2.2 v) (ih v)
theorem sweepS_anti (l : List Arc) (x : List Int) (F : Nat → Int) (i : Nat) : ∀ s v,sweepS l x F (i + s) v ≤ sweepS l x F i v:=by
 intro s
 induction s with
 | zero => intro v; exact Int.le_refl _
 | succ s ih => intro v; exact Int.le_trans (stepS_at.2.2.2.2 v) (ih v)
theorem sweepS_arc (l : List Arc) (x : List Int) (F : Nat → Int) {i : Nat} (hi : i < x.length) : sweepS l x F x.length (frm l x i) ≤ F (too l x i) ∧ sweepS l x F x.length (too l x i) ≤ F (frm l x i):=by
 have e : x.length = (i + 1) + (x.length - (i + 1)):=by omega
 have h1:=sweepS_anti l x F (i + 1) (x.length - (i + 1));rw [← e] at h1;have h2:=sweepS_le l x F i;have h3:=@stepS_at (sweepS l x F i) (frm l x i) (too l x i);constructor
 ·exact Int.le_trans (h1 _) (Int.le_trans h3.2.1 (h2 _))
 ·exact Int.le_trans (h1 _) (Int.le_trans h3.2.2.1 (h2 _))
def Near (l : List Arc) (x : List Int) (n u : Nat) : Nat → Nat → Prop
 | 0,v => v = u ∧ v < n
 | r + 1,v => v < n ∧ (Near l x n u r v ∨ ∃ w,Near l x n u r w ∧ (TE l x x.length w v ∨ TE l x x.length v w))
theorem near_lt {l : List Arc} {x : List Int} {n u : Nat} : ∀ r v,Near l x n u r v → v < n
 | 0,v,h => h.2
 | r + 1,v,h => h.1
theorem near_round {l : List Arc} {x : List Int} {n u : Nat} : ∀ r v,Near l x n u r v → roundS l x r v ≤ u:=by
 intro r
 induction r with
 | zero =>
  intro v h;rw [h.1];exact Int.le_refl _
 | succ r ih =>
  intro v h
  rcases h.2 with h | ⟨w,hw,⟨i,hi,e1,e2⟩ | ⟨i,hi,e1,e2⟩⟩
  ·exact Int.le_trans (sweepS_le l x _ _ v) (ih v h)
  ·have:=(sweepS_arc l x (roundS l x r) hi).2;rw [← e1,← e2] at this;exact Int.le_trans this (ih w hw)
  ·have:=(sweepS_arc l x (roundS l x r) hi).1;rw [← e1,← e2] at this;exact Int.le_trans this (ih w hw)
section
variable {n : Int} {l : List Arc} (hg : NetGood n l) {x : List Int} (hx : ∀ j,j < x.length → 0 ≤ nth x j ∧ nth x j < l.length)
include hg hx
theorem near_conn {u v : Nat} (hu : u < n.toNat) (c : Conn (TE l x x.length) u v) : Near l x n.toNat u (n.toNat - 1) v:=by
 have hr : ∃ r,Near l x n.toNat u r v:=by
  induction c with
  | refl => exact ⟨0,rfl,hu⟩
  | tail c e ih =>
   obtain ⟨r,hr⟩:=ih;refine ⟨r + 1,?_,.inr ⟨_,hr,e⟩⟩
   rcases e with ⟨i,hi,e1,e2⟩ | ⟨i,hi,e1,e2⟩
   ·rw [e2]; exact (too_lt hg hx hi).2
   ·rw [e1]; exact (frm_lt hg hx hi).2
 obtain ⟨r,hr⟩:=hr;refine spread n.toNat (Near l x n.toNat u) (fun r v h => ⟨near_lt r v h,.inl h⟩) near_lt (fun r h v hv => ?_) ⟨u,rfl,hu⟩ r v hr;refine ⟨hv.1,?_⟩
 rcases hv.2 with hv | ⟨w,hw,e⟩
 ·exact .inl (h v hv)
 ·exact .inr ⟨w,h w hw,e⟩
theorem sweepS_conn (F : Nat → Int) (hF : ∀ v,v < n.toNat → ∃ u : Nat,F v = u ∧ u < n.toNat ∧ Conn (TE l x x.length) u v) : ∀ i,i ≤ x.length → ∀ v,v < n.toNat → ∃ u : Nat,sweepS l x F i v = u ∧ u < n.toNat ∧ Conn (TE l x x.length) u v:=by
 intro i
 induction i with
 | zero => exact fun _ => hF
 | succ i ih =>
  intro hi v hv;have ih:=ih (by omega);have he : TE l x x.length (frm l x i) (too l x i):=⟨i,by omega,rfl,rfl⟩
  simp only [sweepS]
  rcases @stepS_from (sweepS l x F i) (frm l x i) (too l x i) v with h | ⟨e,h⟩ | ⟨e,h⟩
  ·rw [h]; exact ih v hv
  ·rw [h];obtain ⟨u,h1,h2,h3⟩:=ih _ (frm_lt hg hx (j:=i) (by omega)).2;exact ⟨u,h1,h2,e ▸ .tail h3 (.inl he)⟩
  ·rw [h];obtain ⟨u,h1,h2,h3⟩:=ih _ (too_lt hg hx (j:=i) (by omega)).2;exact ⟨u,h1,h2,e ▸ .tail h3 (.inr he)⟩
theorem roundS_conn : ∀ r v,v < n.toNat → ∃ u : Nat,roundS l x r v = u ∧ u < n.toNat ∧ Conn (TE l x x.length) u v:=by
 intro r
 induction r with
 | zero => exact fun v hv => ⟨v,rfl,hv,.refl v⟩
 | succ r ih => exact sweepS_conn hg hx _ ih _ (Nat.le_refl _)
theorem roundS_le : ∀ r v,roundS l x r v ≤ v:=by
 intro r
 induction r with
 | zero => exact fun v => Int.le_refl _
 | succ r ih => exact fun v => Int.le_trans (sweepS_le l x _ _ v) (ih v)
theorem roundS_anti (r : Nat) : ∀ s v,roundS l x (r + s) v ≤ roundS l x r v:=by
 intro s
 induction s with
 | zero => exact fun v => Int.le_refl _
 | succ s ih => exact fun v => Int.le_trans (sweepS_le l x _ _ v) (ih v)
theorem specParts : Parts n.toNat (TE l x x.length) (roundS l x n.toNat):=by
 have h1:=hg.n1;have least : ∀ u v,u < n.toNat → Conn (TE l x x.length) u v → roundS l x n.toNat v ≤ u:=by
  intro u v hu c;have a:=near_round _ _ (near_conn hg hx hu c);have b:=roundS_anti hg hx (n.toNat - 1) 1 v;rw [show n.toNat - 1 + 1 = n.toNat by omega] at b;exact Int.le_trans b a
 refine ⟨fun a b e => ?_,fun v hv => roundS_le hg hx _ v,roundS_conn hg hx _⟩;have ha : a < n.toNat:=by obtain ⟨i,hi,e1,e2⟩:=e; rw [e1]; exact (frm_lt hg hx hi).2
 have hb : b < n.toNat:=by obtain ⟨i,hi,e1,e2⟩:=e; rw [e2]; exact (too_lt hg hx hi).2
 obtain ⟨u,e1,h1,c1⟩:=roundS_conn hg hx n.toNat a ha;obtain ⟨w,e2,h2,c2⟩:=roundS_conn hg hx n.toNat b hb;have b1:=least u b h1 (.tail c1 (.inl e));have b2:=least w a h2 (.tail c2 (.inr e));omega
end
def stepI (F : Nat → Int) (a b : Nat) : Nat → Int:=fun v => if F v = mx (F a) (F b) then mn (F a) (F b) else F v
def sweepI (l : List Arc) (x : List Int) : Nat → (Nat → Int)
 | 0 => fun v => v
 | i + 1 => stepI (sweepI l x i) (frm l x i) (too l x i)
theorem stepI_ends (F : Nat → Int) (a b : Nat) : stepI F a b a = stepI F a b b:=by
 have e1 : mx (F a) (F b) = max (F a) (F b):=by unfold mx; omega
 have e2 : mn (F a) (F b) = min (F a) (F b):=by unfold mn; omega
 unfold stepI
 rw [e1,e2]
 split <;> split <;> omega
section
variable {n : Int} {l : List Arc} (hg : NetGood n l) {x : List Int} (hx : ∀ j,j < x.length → 0 ≤ nth x j ∧ nth x j < l.length)
include hg hx
theorem implParts_to : ∀ i,i ≤ x.length → Parts n.toNat (TE l x i) (sweepI l x i):=by
 intro i
 induction i with
 | zero =>
  intro _;exact ⟨fun a b ⟨j,hj,_⟩ => absurd hj (by omega),fun v _ => Int.le_refl _,fun v hv => ⟨v,rfl,hv,.refl v⟩⟩
 | succ i ih =>
  intro hi;have ih:=ih (by omega);have ha:=(frm_lt hg hx (j:=i) (by omega)).2;have hb:=(too_lt hg hx (j:=i) (by omega)).2;have up : ∀ a b,TE l x i a b → TE l x (i + 1) a b:=fun a b ⟨j,hj,e⟩ => ⟨j,by omega,e⟩
  have he : TE l x (i + 1) (frm l x i) (too l x i):=⟨i,by omega,rfl,rfl⟩
  refine ⟨fun a b ⟨j,hj,e1,e2⟩ => ?_,fun v hv => ?_,fun v hv => ?_⟩
  ·by_cases e : j = i
   case pos =>
    subst e;rw [e1,e2];exact stepI_ends _ _ _
   have:=ih.same a b ⟨j,by omega,e1,e2⟩;simp only [sweepI,stepI,this]
  ·have h1:=ih.low v hv;simp only [sweepI,stepI]
   split
   ·rename_i c;have : mn (sweepI l x i (frm l x i)) (sweepI l x i (too l x i)) ≤ mx (sweepI l x i (frm l x i)) (sweepI l x i (too l x i)):=by unfold mn mx; omega
    omega
   ·exact h1
  ·obtain ⟨u,e1,h1,c1⟩:=ih.conn v hv;obtain ⟨p,ep,hp,cp⟩:=ih.conn _ ha;obtain ⟨q,eq,hq,cq⟩:=ih.conn _ hb;have c1:=c1.mono up;have cp:=cp.mono up;have cq:=cq.mono up;have link : Conn (TE l x (i + 1)) p q:=(Conn.tail cp (.inl he)).trans cq.symm;simp only [sweepI,stepI]
   by_cases c : sweepI l x i v = mx (sweepI l x i (frm l x i)) (sweepI l x i (too l x i))
   case neg =>
    rw [if_neg c];exact ⟨u,e1,h1,c1⟩
   rw [if_pos c];rw [ep,eq] at c ⊢
   by_cases hpq : p < q
   case pos =>
    refine ⟨p,by unfold mn; omega,hp,?_⟩;have : u = q:=by unfold mx at c; omega
    subst this;exact link.trans c1
   refine ⟨q,by unfold mn; omega,hq,?_⟩;have : u = p:=by unfold mx at c; omega
   subst this;exact link.symm.trans c1
end
section
variable {n : Int} {l : List Arc} (hg : NetGood n l) {x : List Int} (hx : ∀ j,j < x.length → 0 ≤ nth x j ∧ nth x j < l.length) (hm : x.length ≤ 35184372088832)
include hg hx hm
theorem rdx {j : Nat} (h : j < x.length) : rd x (j : Int) = (((nth x j).toNat : Nat) : Int) ∧ (nth x j).toNat < l.length:=by
 have:=hx j h;rw [rdg];omega
theorem implParts_l2 (i : Nat) (hi : i < x.length) {res : List Int} (next : Ev (fun k => impl_Net_joined.l1 k (lst n.toNat (sweepI l x (i + 1))) x (x.length : Int) ((i + 1 : Nat) : Int) n l) res) : ∀ (m v : Nat),n.toNat - v = m → v ≤ n.toNat → Ev (fun k => impl_Net_joined.l2 k (lst n.toNat (fun u => if u < v then sweepI l x (i + 1) u else sweepI l x i u)) (sweepI l x i (frm l x i)) (sweepI l x i (too l x i)) x (x.length : Int) (i : Int) (n.toNat : Int) (v : Int) n l) res:=by
 intro m;have h1:=hg.n1;have h8:=hg.n8
 induction m with
 | zero =>
  intro v hd hv;have e : v = n.toNat:=by omega
  subst e;refine Ev.go ?_ (fun k => by rw [impl_Net_joined.l2]);rw [up1 hi (by simp only [maxLen]; omega),lst_congr (G:=sweepI l x (i + 1)) (fun u hu => if_pos hu)];exact Ev.neg (by omega) next
 | succ m ih =>
  intro v hd hv;have hlt : v < n.toNat:=by omega
  have hn:=ih (v + 1) (by omega) (by omega);rw [← up1 (i:=v) (n:=n.toNat) hlt (by simp only [maxLen]; omega)] at hn;refine Ev.go ?_ (fun k => by rw [impl_Net_joined.l2]);rw [lst_len,lst_rd _ hlt,if_neg (Nat.lt_irrefl v)];refine Ev.pos (by omega) (Ev.pos (by omega) (Ev.pos (by omega) ?_));simp only [Int.toNat_natCast,lst_set]
  by_cases c : sweepI l x i v = mx (sweepI l x i (frm l x i)) (sweepI l x i (too l x i))
  case neg =>
   refine Ev.neg c ?_;rw [lst_congr (n:=n.toNat) (G:=fun u => if u < v + 1 then sweepI l x (i + 1) u else sweepI l x i u) ?_]
   ·exact hn
   ·intro u hu
    by_cases e : u = v
    case neg =>
     by_cases h : u < v
     case neg => rw [if_neg h,if_neg (by omega)]
     rw [if_pos h,if_pos (by omega)]
    subst e;rw [if_neg (Nat.lt_irrefl u),if_pos (Nat.lt_succ_self _)];simp only [sweepI,stepI];rw [if_neg c]
  refine Ev.pos c ?_;rw [lst_congr (n:=n.toNat) (F:=upd _ v _) (G:=fun u => if u < v + 1 then sweepI l x (i + 1) u else sweepI l x i u) ?_]
  ·exact hn
  ·intro u hu
   by_cases e : u = v
   case pos =>
    subst e;rw [upd_same,if_pos (Nat.lt_succ_self _)];simp only [sweepI,stepI];rw [if_pos c]
   rw [upd_far _ _ e]
   by_cases h : u < v
   case neg => rw [if_neg h,if_neg (by omega)]
   rw [if_pos h,if_pos (by omega)]
theorem implParts_l1 : ∀ (m i : Nat),x.length - i = m → i ≤ x.length → Ev (fun k => impl_Net_joined.l1 k (lst n.toNat (sweepI l x i)) x (x.length : Int) (i : Int) n l) (lst n.toNat (sweepI l x x.length)):=by
 intro m;have h1:=hg.n1;have h8:=hg.n8
 induction m with
 | zero =>
  intro i hd hi;have e : i = x.length:=by omega
  subst e;refine Ev.go ?_ (fun k => by rw [impl_Net_joined.l1]);exact Ev.neg (by omega) (Ev.now _)
 | succ m ih =>
  intro i hd hi;have hlt : i < x.length:=by omega
  have hn:=ih (i + 1) (by omega) (by omega);obtain ⟨e0,hj⟩:=rdx hg hx hm hlt;obtain ⟨ef,hf⟩:=frm_lt hg hx hlt;obtain ⟨et,ht⟩:=too_lt hg hx hlt;refine Ev.go ?_ (fun k => by rw [impl_Net_joined.l1]);rw [e0,rda,← ef,← et,lst_len,lst_rd _ hf,lst_rd _ ht];refine Ev.pos (by omega) (Ev.pos (by omega) (Ev.pos (by omega) (Ev.pos (by omega) (Ev.pos (by omega) (Ev.pos (by omega) (Ev.pos (by omega) (Ev.pos (by omega) (Ev.pos (by omega) ?_))))))));have:=implParts_l2 hg hx hm i hlt hn _ 0 rfl (Nat.zero_le _);rw [lst_congr (G:=sweepI l x i) (fun u hu => if_neg (Nat.not_lt_zero u))] at this;exact this
theorem implParts_l0 : ∀ (m i : Nat),n.toNat - i = m → i ≤ n.toNat → Ev (fun k => impl_Net_joined.l0 k x (lst i (fun v => v)) n (i : Int) n l) (lst n.toNat (sweepI l x x.length)):=by
 have h1:=hg.n1;have h8:=hg.n8;intro m
 induction m with
 | zero =>
  intro i hd hi;have e : i = n.toNat:=by omega
  subst e;refine Ev.go ?_ (fun k => by rw [impl_Net_joined.l0]);exact Ev.neg (by omega) (implParts_l1 hg hx hm _ 0 rfl (Nat.zero_le _))
 | succ m ih =>
  intro i hd hi;have hlt : i < n.toNat:=by omega
  refine Ev.go ?_ (fun k => by rw [impl_Net_joined.l0]);rw [up1 hlt (by simp only [maxLen]; omega),lst_snoc i (fun v => (v : Int))];exact Ev.pos (by omega) (Ev.pos (by rw [lst_len]; omega) (ih (i + 1) (by omega) (by omega)))
theorem implParts_ev : Ev (fun k => impl_Net_joined.f k n l x) (lst n.toNat (roundS l x n.toNat)):=by
 have h1:=hg.n1;have h8:=hg.n8
 unfold impl_Net_joined.f
 refine Ev.pos (by omega) (Ev.pos (by omega) ((implParts_l0 hg hx hm _ 0 rfl (Nat.zero_le _)).cast ?_));exact lst_congr (fun v hv => (implParts_to hg hx _ (Nat.le_refl _)).uniq (specParts hg hx) v hv)
end
end Go.Proofs.Ytlhmljngjdfbpaa.Pure
end
section
set_option linter.unusedSimpArgs false
set_option linter.unusedVariables false
namespace Go.Proofs.Ytlhmljngjdfbpaa.Pure
open Go.RowKit Go.Proofs.Ytlhmljngjdfbpaa.Pr Go.Proofs.YtlhmljngjdfbpaaW.PrintWords Go.Proofs.YtlhmljngjdfbpaaW.PrintLast Go.Proofs.YtlhmljngjdfbpaaW.PrintMore
def arcsB (n : Int) (l : List Arc) (x : List Int) : Bool:=netOkB n l && decide ((x.length : Int) ≤ 16) && x.all (okN (l.length : Int))
theorem arcsB_iff (n : Int) (l : List Arc) (x : List Int) : arcsB n l x = true ↔ NetGood n l ∧ x.length ≤ 16 ∧ ∀ j,j < x.length → 0 ≤ nth x j ∧ nth x j < l.length:=by
 simp only [arcsB,Bool.and_eq_true,netOkB_iff,decide_eq_true_eq,List.all_eq_true,okN];constructor
 ·rintro ⟨⟨h1,h2⟩,h3⟩;refine ⟨h1,by omega,fun j hj => ?_⟩;have:=h3 _ (getD_mem hj);omega
 ·rintro ⟨h1,h2,h3⟩;refine ⟨⟨h1,by omega⟩,fun c hc => ?_⟩;obtain ⟨j,hj,rfl⟩:=mem_getD hc;have:=h3 j hj;omega
def treeV (n : Int) (l : List Arc) (x : List Int) : List Int:=if arcsB n l x = true then lst n.toNat (roundS l x n.toNat) else []
theorem implTree_ev (n : Int) (l : List Arc) (x : List Int) : Ev (fun k => impl_TreeParts.f k n l x) (treeV n l x):=by
 unfold impl_TreeParts.f
 refine Ev.bind0 (show impl_arcsOk.f n l x = some (arcsB n l x) from rfl) ?_
 unfold treeV
 cases h : arcsB n l x with
 | false => exact Ev.neg (by simp) (Ev.is (by simp))
 | true =>
  obtain ⟨hg,h16,hx⟩:=(arcsB_iff n l x).1 h;rw [if_pos rfl];exact Ev.pos rfl (Ev.bind (implParts_ev hg hx (by omega)) (Ev.now _))
end Go.Proofs.Ytlhmljngjdfbpaa.Pure
end
section
set_option linter.unusedSimpArgs false
set_option linter.unusedVariables false
namespace Go.Proofs.Ytlhmljngjdfbpaa.Ins
section
variable {α : Type} {L : α → α → Prop}
theorem pw_uniq (irr : ∀ x,¬ L x x) (asy : ∀ x y,L x y → ¬ L y x) : ∀ (a b : List α),a.Pairwise L → b.Pairwise L → (∀ x,x ∈ a ↔ x ∈ b) → a = b
 | [],[],_,_,_ => rfl
 | [],y :: b,_,_,h => absurd ((h y).2 (List.mem_cons_self ..)) (by simp)
 | x :: a,[],_,_,h => absurd ((h x).1 (List.mem_cons_self ..)) (by simp)
 | x :: a,y :: b,ha,hb,h => by
  obtain ⟨ha1,ha2⟩:=List.pairwise_cons.1 ha;obtain ⟨hb1,hb2⟩:=List.pairwise_cons.1 hb;have e : x = y:=by
   rcases List.mem_cons.1 ((h x).1 (List.mem_cons_self ..)) with e | h1
   ·exact e
   ·rcases List.mem_cons.1 ((h y).2 (List.mem_cons_self ..)) with e | h2
    ·exact e.symm
    ·exact absurd (hb1 x h1) (asy _ _ (ha1 y h2))
  subst e
  congr 1
  refine pw_uniq irr asy a b ha2 hb2 (fun z => ⟨fun hz => ?_,fun hz => ?_⟩)
  ·rcases List.mem_cons.1 ((h z).1 (List.mem_cons_of_mem _ hz)) with e | h1
   ·subst e; exact absurd (ha1 z hz) (irr z)
   ·exact h1
  ·rcases List.mem_cons.1 ((h z).2 (List.mem_cons_of_mem _ hz)) with e | h1
   ·subst e; exact absurd (hb1 z hz) (irr z)
   ·exact h1
end
section
variable {α : Type} [Inhabited α] {lt : α → α → Bool}
theorem swp_list (d : Array α) (P R : List α) (x y : α) (h : d.toList = P ++ y :: x :: R) : (Go.Sort.swp d (P.length + 1) P.length).toList = P ++ x :: y :: R:=by
 have hs : d.size = P.length + (R.length + 2):=by rw [← Array.length_toList,h]; simp
 have e1 : d[P.length + 1]! = x:=by
  rw [getElem!_pos d (P.length + 1) (by omega),← Array.getElem_toList];simp [h]
 have e0 : d[P.length]! = y:=by
  rw [getElem!_pos d P.length (by omega),← Array.getElem_toList];simp [h]
 unfold Go.Sort.swp
 rw [e0,e1,Array.toList_setIfInBounds,Array.toList_setIfInBounds,h];rw [List.set_append_right _ _ (by omega),List.set_append_right _ _ (by omega)];simp
theorem insInner_list : ∀ (j : Nat) (d : Array α) (P R : List α) (x : α),P.length = j → d.toList = P ++ x :: R → ∃ A B,P = A ++ B ∧ (Go.Sort.insInner lt 0 j d).toList = A ++ x :: (B ++ R) ∧ (∀ b ∈ B,lt x b = true) ∧ (∀ A' a,A = A' ++ [a] → lt x a = false)
 | 0,d,P,R,x,hP,hd => by
  have : P = []:=List.length_eq_zero_iff.1 hP;subst this;exact ⟨[],[],rfl,by simpa [Go.Sort.insInner] using hd,by simp,by simp⟩
 | j + 1,d,P,R,x,hP,hd => by
  obtain ⟨P',y,rfl⟩ : ∃ P' y,P = P' ++ [y]:=by
   have hne : P ≠ []:=fun e => by rw [e] at hP; simp at hP
   exact ⟨P.dropLast,P.getLast hne,(List.dropLast_concat_getLast hne).symm⟩
  have hl : P'.length = j:=by simpa using hP
  have hd' : d.toList = P' ++ y :: x :: R:=by rw [hd]; simp
  have hs : d.size = P'.length + (R.length + 2):=by rw [← Array.length_toList,hd']; simp
  have e1 : d[j + 1]! = x:=by
   rw [getElem!_pos d (j + 1) (by omega),← Array.getElem_toList];simp [hd',← hl]
  have e0 : d[j]! = y:=by
   rw [getElem!_pos d j (by omega),← Array.getElem_toList];simp [hd',← hl]
  unfold Go.Sort.insInner
  rw [e0,e1];cases hlt : lt x y with
  | true =>
   rw [if_pos (by simp)];have hsw:=swp_list d P' R x y hd';rw [hl] at hsw;obtain ⟨A,B,h1,h2,h3,h4⟩:=insInner_list j (Go.Sort.swp d (j + 1) j) P' (y :: R) x hl hsw;refine ⟨A,B ++ [y],by rw [h1]; simp,by rw [h2]; simp,fun b hb => ?_,h4⟩
   rcases List.mem_append.1 hb with h | h
   ·exact h3 b h
   ·rw [List.mem_singleton.1 h]; exact hlt
  | false =>
   rw [if_neg (by simp)];refine ⟨P' ++ [y],[],by simp,by rw [hd]; simp,by simp,fun A' a e => ?_⟩;obtain ⟨_,e⟩:=List.append_inj' e rfl;injection e with e _
   rw [← e]; exact hlt
end
section
variable {key : Nat → Nat}
def Lk (key : Nat → Nat) (x y : Nat) : Prop:=key x < key y ∨ (key x = key y ∧ x < y)
theorem Lk.irr (x : Nat) : ¬ Lk key x x:=by unfold Lk; omega
theorem Lk.asy (x y : Nat) (h : Lk key x y) : ¬ Lk key y x:=by unfold Lk at h ⊢; omega
theorem put_in {A B : List Nat} {i : Nat} (hp : (A ++ B).Pairwise (Lk key)) (hi : ∀ x ∈ A ++ B,x < i) (hB : ∀ b ∈ B,key i < key b) (hA : ∀ A' a,A = A' ++ [a] → key a ≤ key i) : (A ++ i :: B).Pairwise (Lk key):=by
 have hA2 : ∀ a ∈ A,key a ≤ key i:=by
  intro a ha
  by_cases hne : A = []
  case pos => rw [hne] at ha; simp at ha
  have e:=List.dropLast_concat_getLast hne;have h1:=hA _ _ e.symm;rw [← e] at ha
  rcases List.mem_append.1 ha with h | h
  ·have hpa:=(List.pairwise_append.1 hp).1;rw [← e] at hpa;have:=(List.pairwise_append.1 hpa).2.2 a h _ (List.mem_singleton.2 rfl)
   unfold Lk at this
   omega
  ·rw [List.mem_singleton.1 h]; exact h1
 obtain ⟨h1,h2,h3⟩:=List.pairwise_append.1 hp;rw [List.pairwise_append];refine ⟨h1,List.pairwise_cons.2 ⟨fun b hb => .inl (hB b hb),h2⟩,fun a ha b hb => ?_⟩
 rcases List.mem_cons.1 hb with rfl | hb
 ·have:=hA2 a ha;have:=hi a (List.mem_append_left _ ha)
  unfold Lk
  omega
 ·exact h3 a ha b hb
end
section
variable {m : Nat} {lt : Fin (m + 1) → Fin (m + 1) → Bool} {key : Nat → Nat} (hlt : ∀ x y,lt x y = decide (key x.1 < key y.1))
include hlt
theorem outer_list : ∀ (s i : Nat) (d : Array (Fin (m + 1))) (S R : List (Fin (m + 1))),(m + 1) - i = s → i ≤ m + 1 → 0 < i → d.toList = S ++ R → S.length = i → (S.map fun x => x.1).Pairwise (Lk key) → (∀ x : Nat,x ∈ S.map (fun x => x.1) ↔ x < i) → R.map (fun x => x.1) = (List.range' i s) → ((Go.Sort.insOuter lt 0 (m + 1) i d).toList.map fun x => x.1).Pairwise (Lk key) ∧ ∀ x : Nat,x ∈ (Go.Sort.insOuter lt 0 (m + 1) i d).toList.map (fun x => x.1) ↔ x < m + 1:=by
 intro s
 induction s with
 | zero =>
  intro i d S R hs hi h0 hd hS hp hm hR;have : R = []:=by simpa using hR
  subst this;rw [Go.Sort.insOuter,if_neg (by omega),hd,List.append_nil];have : i = m + 1:=by omega
  subst this;exact ⟨hp,hm⟩
 | succ s ih =>
  intro i d S R hs hi h0 hd hS hp hm hR;rw [List.range'_succ] at hR;obtain ⟨x,R',rfl,hx,hR'⟩ : ∃ x R',R = x :: R' ∧ x.1 = i ∧ R'.map (fun x => x.1) = List.range' (i + 1) s:=by
   cases R with
   | nil => simp at hR
   | cons x R' => exact ⟨x,R',rfl,by simpa using (List.cons.inj hR).1,by simpa using (List.cons.inj hR).2⟩
  rw [Go.Sort.insOuter,if_pos (by omega)];obtain ⟨A,B,h1,h2,h3,h4⟩:=insInner_list (lt:=lt) i d S R' x hS hd;subst h1;refine ih (i + 1) _ (A ++ x :: B) R' (by omega) (by omega) (by omega) (by rw [h2]; simp) (by simp at hS ⊢; omega) ?_ ?_ hR'
  ·rw [List.map_append,List.map_cons,hx];rw [List.map_append] at hp hm;refine put_in hp (fun y hy => (hm y).1 hy) (fun b hb => ?_) (fun A' a e => ?_)
   ·obtain ⟨z,hz,rfl⟩:=List.mem_map.1 hb;have:=h3 z hz;rw [hlt,decide_eq_true_eq,hx] at this;exact this
   ·by_cases hne : A = []
    case pos => rw [hne] at e; simp at e
    have e2:=List.dropLast_concat_getLast hne;have h5:=h4 _ _ e2.symm;rw [hlt,decide_eq_false_iff_not,hx] at h5;rw [← e2,List.map_append] at e;obtain ⟨_,e⟩:=List.append_inj' e rfl;have e : (A.getLast hne).1 = a:=by simpa using e
    rw [← e];omega
  ·intro y;rw [List.map_append,List.map_cons,List.mem_append,List.mem_cons,hx];have:=hm y;rw [List.map_append,List.mem_append] at this;constructor
   ·rintro (h | h | h)
    ·have:=this.1 (.inl h); omega
    ·omega
    ·have:=this.1 (.inr h); omega
   ·intro h
    by_cases e : y = i
    case pos => exact .inr (.inl e)
    rcases this.2 (by omega) with h | h
    ·exact .inl h
    ·exact .inr (.inr h)
theorem sort_list : ((Go.Sort.insertionSort lt (Array.ofFn fun x : Fin (m + 1) => x) 0 (m + 1)).toList.map fun x => x.1).Pairwise (Lk key) ∧ ∀ x : Nat,x ∈ (Go.Sort.insertionSort lt (Array.ofFn fun x : Fin (m + 1) => x) 0 (m + 1)).toList.map (fun x => x.1) ↔ x < m + 1:=by
 have hd : (Array.ofFn fun x : Fin (m + 1) => x).toList = [⟨0,by omega⟩] ++ (List.ofFn fun x : Fin m => (⟨x.1 + 1,by omega⟩ : Fin (m + 1))):=by
  rw [Array.toList_ofFn,List.ofFn_succ];rfl
 refine outer_list hlt m 1 _ [⟨0,by omega⟩] (List.ofFn fun x : Fin m => (⟨x.1 + 1,by omega⟩ : Fin (m + 1))) (by omega) (by omega) (by omega) hd rfl (by simp) (fun x => by simp) ?_
 apply List.ext_getElem (by simp)
 intro i h1 h2;simp [List.getElem_range'];omega
end
end Go.Proofs.Ytlhmljngjdfbpaa.Ins
end
section
set_option linter.unusedSectionVars false
namespace Go.Proofs.Ytlhmljngjdfbpaa.Sp
structure G where
 n : Nat
 m : Nat
 fr : Nat → Nat
 tw : Nat → Nat
 w : Nat → Int
 use : Nat → Bool
structure G.Ok (g : G) : Prop where
 fl : ∀ i,i < g.m → g.fr i < g.n
 tl : ∀ i,i < g.m → g.tw i < g.n
 w0 : ∀ i,i < g.m → 0 ≤ g.w i
inductive Wk (g : G) : Nat → Nat → Nat → Int → Prop
 | nil (v : Nat) : Wk g v v 0 0
 | cons {i v k : Nat} {c : Int} : i < g.m → g.use i = true → Wk g (g.tw i) v k c → Wk g (g.fr i) v (k + 1) (g.w i + c)
theorem Wk.cast {g : G} {u v k k' : Nat} {c c' : Int} (h : Wk g u v k c) (hk : k = k') (hc : c = c') : Wk g u v k' c':=by
 subst hk; subst hc; exact h
theorem Wk.nonneg {g : G} (ok : g.Ok) {u v k : Nat} {c : Int} (h : Wk g u v k c) : 0 ≤ c:=by
 induction h with
 | nil => omega
 | cons hi _ _ ih => have:=ok.w0 _ hi; omega
theorem nodup_len : ∀ (n : Nat) (l : List Nat),l.Nodup → (∀ x ∈ l,x < n) → l.length ≤ n:=by
 intro n
 induction n with
 | zero =>
  intro l _ h;cases l with
  | nil => simp
  | cons a l => exact absurd (h a (by simp)) (by omega)
 | succ n ih =>
  intro l hn h;have h1:=ih (l.erase n) (hn.erase n) (fun x hx => by
   have h2:=h x (List.mem_of_mem_erase hx);have h3 : x ≠ n:=by
    rintro rfl;exact (List.Nodup.not_mem_erase hn) hx
   omega)
  have:=List.length_erase_le (a:=n) (l:=l);have h4 : l.length ≤ (l.erase n).length + 1:=by
   rw [List.length_erase]
   split <;> omega
  omega
inductive Sm (g : G) (t : Nat) : Nat → List Nat → Nat → Int → Prop
 | nil : Sm g t t [t] 0 0
 | cons {i k : Nat} {L : List Nat} {c : Int} : i < g.m → g.use i = true → Sm g t (g.tw i) L k c → g.fr i ∉ L → Sm g t (g.fr i) (g.fr i :: L) (k + 1) (g.w i + c)
theorem Sm.wk {g : G} {t u k : Nat} {L : List Nat} {c : Int} (h : Sm g t u L k c) : Wk g u t k c:=by
 induction h with
 | nil => exact .nil _
 | cons hi hu _ _ ih => exact .cons hi hu ih
theorem Sm.facts {g : G} (ok : g.Ok) {t u k : Nat} (ht : t < g.n) {L : List Nat} {c : Int} (h : Sm g t u L k c) : L.Nodup ∧ (∀ x ∈ L,x < g.n) ∧ L.length = k + 1:=by
 induction h with
 | nil => simp [ht]
 | cons hi _ _ hn ih =>
  refine ⟨List.nodup_cons.2 ⟨hn,ih.1⟩,?_,by simp [ih.2.2]⟩;intro x hx
  rcases List.mem_cons.1 hx with rfl | hx
  ·exact ok.fl _ hi
  ·exact ih.2.1 x hx
theorem Sm.tail {g : G} (ok : g.Ok) {t u k : Nat} {L : List Nat} {c : Int} (h : Sm g t u L k c) {x : Nat} (hx : x ∈ L) : ∃ L' k' c',Sm g t x L' k' c' ∧ k' ≤ k ∧ c' ≤ c:=by
 induction h with
 | nil =>
  obtain rfl : x = t:=by simpa using hx
  exact ⟨_,_,_,.nil,Nat.le_refl _,Int.le_refl _⟩
 | cons hi hu h hn ih =>
  rcases List.mem_cons.1 hx with rfl | hx
  ·exact ⟨_,_,_,.cons hi hu h hn,Nat.le_refl _,Int.le_refl _⟩
  ·obtain ⟨L',k',c',h1,h2,h3⟩:=ih hx;have:=ok.w0 _ hi;exact ⟨L',k',c',h1,by omega,by omega⟩
theorem Wk.simple {g : G} (ok : g.Ok) {u v k : Nat} {c : Int} (h : Wk g u v k c) : ∃ L k' c',Sm g v u L k' c' ∧ k' ≤ k ∧ c' ≤ c:=by
 induction h with
 | nil v => exact ⟨_,_,_,.nil,Nat.le_refl _,Int.le_refl _⟩
 | @cons i v k c hi hu h ih =>
  obtain ⟨L,k',c',h1,h2,h3⟩:=ih
  by_cases hm : g.fr i ∈ L
  case neg => exact ⟨_,_,_,.cons hi hu h1 hm,by omega,by omega⟩
  obtain ⟨L'',k'',c'',h4,h5,h6⟩:=h1.tail ok hm;have:=ok.w0 _ hi;exact ⟨L'',k'',c'',h4,by omega,by omega⟩
theorem Wk.short {g : G} (ok : g.Ok) {u v k : Nat} (hv : v < g.n) {c : Int} (h : Wk g u v k c) : ∃ k' c',Wk g u v k' c' ∧ k' < g.n ∧ k' ≤ k ∧ c' ≤ c:=by
 obtain ⟨L,k',c',h1,h2,h3⟩:=h.simple ok;obtain ⟨f1,f2,f3⟩:=h1.facts ok hv;have:=nodup_len _ _ f1 f2;exact ⟨k',c',h1.wk,by omega,h2,h3⟩
def Opt (g : G) (t : Nat) (L : Nat → Option Int) : Prop:=∀ v,v < g.n → (∀ x,L v = some x → ∃ k,Wk g v t k x) ∧ (∀ k c,Wk g v t k c → ∃ x,L v = some x ∧ x ≤ c)
theorem Opt.uniq {g : G} {t : Nat} {L L' : Nat → Option Int} (h : Opt g t L) (h' : Opt g t L') : ∀ v,v < g.n → L v = L' v:=by
 intro v hv;obtain ⟨a,b⟩:=h v hv;obtain ⟨a',b'⟩:=h' v hv;cases e : L v with
 | none =>
  cases e' : L' v with
  | none => rfl
  | some y =>
   obtain ⟨k,hk⟩:=a' y e';obtain ⟨x,hx,_⟩:=b k y hk;rw [e] at hx; cases hx
 | some x =>
  obtain ⟨k,hk⟩:=a x e;obtain ⟨y,hy,h1⟩:=b' k x hk;obtain ⟨k',hk'⟩:=a' y hy;obtain ⟨x',hx',h2⟩:=b k' y hk';rw [e] at hx';obtain rfl:=Option.some.inj hx';rw [hy]
  congr 1
  omega
def lts (a : Int) : Option Int → Bool
 | none => true
 | some y => decide (a < y)
def put (L : Nat → Option Int) (a : Nat) (x : Int) : Nat → Option Int:=fun v => if v = a then some x else L v
def relax (g : G) (L : Nat → Option Int) (i : Nat) : Nat → Option Int :=
 if g.use i = true then
  match L (g.tw i) with
  | none => L
  | some x => if lts (x + g.w i) (L (g.fr i)) = true then put L (g.fr i) (x + g.w i) else L
 else L
theorem relax_cases (g : G) (L : Nat → Option Int) (i : Nat) : (relax g L i = L ∧ (g.use i = true → ∀ x,L (g.tw i) = some x → lts (x + g.w i) (L (g.fr i)) = false)) ∨ (g.use i = true ∧ ∃ x,L (g.tw i) = some x ∧ lts (x + g.w i) (L (g.fr i)) = true ∧ relax g L i = put L (g.fr i) (x + g.w i)):=by
 unfold relax
 by_cases hu : g.use i = true
 case neg =>
  rw [if_neg hu];exact .inl ⟨rfl,fun h => absurd h hu⟩
 rw [if_pos hu];cases e : L (g.tw i) with
 | none => exact .inl ⟨rfl,fun _ x hx => by cases hx⟩
 | some x =>
  dsimp only
  by_cases hl : lts (x + g.w i) (L (g.fr i)) = true
  case pos =>
   rw [if_pos hl];exact .inr ⟨hu,x,rfl,hl,rfl⟩
  rw [if_neg hl];refine .inl ⟨rfl,fun _ y hy => ?_⟩;obtain rfl:=Option.some.inj hy
  simpa using hl
def sweep (g : G) (L : Nat → Option Int) : Nat → (Nat → Option Int)
 | 0 => L
 | i + 1 => relax g (sweep g L i) i
def Le (a b : Option Int) : Prop:=∀ y,b = some y → ∃ x,a = some x ∧ x ≤ y
theorem Le.refl (a : Option Int) : Le a a:=fun y h => ⟨y,h,Int.le_refl _⟩
theorem Le.trans {a b c : Option Int} (h : Le a b) (k : Le b c) : Le a c:=by
 intro y hy;obtain ⟨x,hx,h1⟩:=k y hy;obtain ⟨z,hz,h2⟩:=h x hx;exact ⟨z,hz,by omega⟩
theorem put_same (L : Nat → Option Int) (a : Nat) (x : Int) : put L a x a = some x:=by simp [put]
theorem put_far (L : Nat → Option Int) {a v : Nat} (x : Int) (h : v ≠ a) : put L a x v = L v:=by simp [put,h]
theorem relax_le (g : G) (L : Nat → Option Int) (i v : Nat) : Le (relax g L i v) (L v):=by
 rcases relax_cases g L i with ⟨e,_⟩ | ⟨_,x,hx,hl,e⟩
 ·rw [e]; exact Le.refl _
 ·rw [e]
  by_cases hv : v = g.fr i
  case neg => rw [put_far _ _ hv]; exact Le.refl _
  subst hv;rw [put_same];intro y hy;rw [hy] at hl;exact ⟨_,rfl,by simp [lts] at hl; omega⟩
theorem relax_arc (g : G) (L : Nat → Option Int) (i : Nat) (hu : g.use i = true) {x : Int} (hx : L (g.tw i) = some x) : Le (relax g L i (g.fr i)) (some (x + g.w i)):=by
 intro y hy;obtain rfl:=Option.some.inj hy
 unfold relax
 rw [if_pos hu,hx];dsimp only
 split
 ·exact ⟨_,by simp [put],Int.le_refl _⟩
 ·rename_i hl;cases e : L (g.fr i) with
  | none => rw [e] at hl; simp [lts] at hl
  | some z => rw [e] at hl; exact ⟨z,rfl,by simp [lts] at hl; omega⟩
theorem sweep_le (g : G) (L : Nat → Option Int) (i s v : Nat) : Le (sweep g L (i + s) v) (sweep g L i v):=by
 induction s with
 | zero => exact Le.refl _
 | succ s ih => exact (relax_le g _ _ v).trans ih
theorem sweep_arc (g : G) (L : Nat → Option Int) {i : Nat} (hi : i < g.m) (hu : g.use i = true) {x : Int} (hx : L (g.tw i) = some x) : ∃ y,sweep g L g.m (g.fr i) = some y ∧ y ≤ x + g.w i:=by
 have h0:=sweep_le g L 0 i (g.tw i);rw [Nat.zero_add] at h0;obtain ⟨x',hx',h1⟩:=h0 x hx;have h2:=relax_arc g (sweep g L i) i hu hx';have h3:=sweep_le g L (i + 1) (g.m - (i + 1)) (g.fr i);rw [show i + 1 + (g.m - (i + 1)) = g.m by omega] at h3;obtain ⟨y,hy,h4⟩:=(h3.trans h2) _ rfl;exact ⟨y,hy,by omega⟩
def Real (g : G) (t : Nat) (L : Nat → Option Int) : Prop:=∀ v x,L v = some x → ∃ k,Wk g v t k x
theorem relax_real {g : G} {t : Nat} {L : Nat → Option Int} (h : Real g t L) {i : Nat} (hi : i < g.m) : Real g t (relax g L i):=by
 intro v x hx
 rcases relax_cases g L i with ⟨e,_⟩ | ⟨hu,y,hy,hl,e⟩
 ·rw [e] at hx; exact h v x hx
 ·rw [e] at hx
  by_cases hv : v = g.fr i
  case neg => rw [put_far _ _ hv] at hx; exact h v x hx
  subst hv;rw [put_same] at hx;obtain rfl:=Option.some.inj hx;obtain ⟨k,hk⟩:=h _ _ hy;exact ⟨k + 1,(Wk.cons hi hu hk).cast rfl (by omega)⟩
theorem sweep_real {g : G} {t : Nat} {L : Nat → Option Int} (h : Real g t L) : ∀ i,i ≤ g.m → Real g t (sweep g L i):=by
 intro i
 induction i with
 | zero => exact fun _ => h
 | succ i ih => exact fun hi => relax_real (ih (by omega)) (by omega)
theorem opt_of_fix {g : G} {t : Nat} {L : Nat → Option Int} (h : Real g t L) (ht : Le (L t) (some 0)) (hf : ∀ v,sweep g L g.m v = L v) : Opt g t L:=by
 intro v hv0;clear hv0;refine ⟨fun x hx => h v x hx,fun k c hw => ?_⟩;clear h
 induction hw with
 | nil =>
  obtain ⟨x,hx,h1⟩:=ht 0 rfl;exact ⟨x,hx,h1⟩
 | cons hi hu _ ih =>
  obtain ⟨x,hx,h1⟩:=ih ht;obtain ⟨y,hy,h2⟩:=sweep_arc g L hi hu hx;rw [hf] at hy;exact ⟨y,hy,by omega⟩
def start (t : Nat) : Nat → Option Int:=fun v => if v = t then some 0 else none
def rounds (g : G) (t : Nat) : Nat → (Nat → Option Int)
 | 0 => start t
 | r + 1 => sweep g (rounds g t r) g.m
theorem start_real (g : G) (t : Nat) : Real g t (start t):=by
 intro v x hx
 unfold start at hx
 split at hx
 ·rename_i e;obtain rfl:=Option.some.inj hx;subst e;exact ⟨0,.nil _⟩
 ·cases hx
theorem rounds_real (g : G) (t : Nat) : ∀ r,Real g t (rounds g t r):=by
 intro r
 induction r with
 | zero => exact start_real g t
 | succ r ih => exact sweep_real ih _ (Nat.le_refl _)
theorem rounds_le (g : G) (t r s v : Nat) : Le (rounds g t (r + s) v) (rounds g t r v):=by
 induction s with
 | zero => exact Le.refl _
 | succ s ih =>
  have:=sweep_le g (rounds g t (r + s)) 0 g.m v;rw [Nat.zero_add] at this;exact this.trans ih
theorem rounds_t (g : G) (t r : Nat) : Le (rounds g t r t) (some 0):=by
 have:=rounds_le g t 0 r t;rw [Nat.zero_add] at this;exact this.trans (by simp [rounds,start]; exact Le.refl _)
theorem rounds_walk {g : G} {t r u k : Nat} {c : Int} (h : Wk g u t k c) (hk : k ≤ r) : ∃ x,rounds g t r u = some x ∧ x ≤ c:=by
 induction h generalizing r with
 | nil => exact rounds_t g _ r 0 rfl
 | cons hi hu _ ih =>
  obtain ⟨r,rfl⟩ : ∃ q,r = q + 1:=⟨r - 1,by omega⟩
  obtain ⟨x,hx,h1⟩:=ih (r:=r) (by omega);obtain ⟨y,hy,h2⟩:=sweep_arc g _ hi hu hx;exact ⟨y,hy,by omega⟩
theorem rounds_opt {g : G} (ok : g.Ok) {t r : Nat} (ht : t < g.n) (hr : g.n ≤ r + 1) : Opt g t (rounds g t r):=by
 intro v _;refine ⟨fun x hx => rounds_real g t r v x hx,fun k c hw => ?_⟩;obtain ⟨k',c',h1,h2,h3,h4⟩:=hw.short ok ht;obtain ⟨x,hx,h5⟩:=rounds_walk (r:=r) h1 (by omega);exact ⟨x,hx,by omega⟩
theorem relax_none {g : G} {L : Nat → Option Int} (hn : ∀ v,g.n ≤ v → L v = none) (ok : g.Ok) {i : Nat} (hi : i < g.m) : ∀ v,g.n ≤ v → relax g L i v = none:=by
 intro v hv
 rcases relax_cases g L i with ⟨e,_⟩ | ⟨_,x,hx,hl,e⟩
 ·rw [e]; exact hn v hv
 ·rw [e,put_far _ _ (by have:=ok.fl i hi; omega)]; exact hn v hv
theorem sweep_none {g : G} {L : Nat → Option Int} (ok : g.Ok) (hn : ∀ v,g.n ≤ v → L v = none) : ∀ i,i ≤ g.m → ∀ v,g.n ≤ v → sweep g L i v = none:=by
 intro i
 induction i with
 | zero => exact fun _ => hn
 | succ i ih => exact fun hi => relax_none (ih (by omega)) ok (by omega)
theorem rounds_none {g : G} (ok : g.Ok) {t : Nat} (ht : t < g.n) : ∀ r v,g.n ≤ v → rounds g t r v = none:=by
 intro r
 induction r with
 | zero => intro v hv; simp [rounds,start]; omega
 | succ r ih => exact sweep_none ok ih _ (Nat.le_refl _)
theorem rounds_fix {g : G} (ok : g.Ok) {t r : Nat} (ht : t < g.n) (hr : g.n ≤ r + 1) : ∀ v,rounds g t (r + 1) v = rounds g t r v:=by
 intro v
 by_cases hv : v < g.n
 case pos => exact (rounds_opt ok ht (by omega)).uniq (rounds_opt ok ht hr) v hv
 rw [rounds_none ok ht _ v (by omega),rounds_none ok ht _ v (by omega)]
theorem sweep_same {g : G} {L : Nat → Option Int} (h : ∀ v,sweep g L g.m v = L v) {i : Nat} (hi : i ≤ g.m) : ∀ v,sweep g L i v = L v:=by
 intro v;have h1:=sweep_le g L 0 i v;have h2:=sweep_le g L i (g.m - i) v;rw [Nat.zero_add] at h1;rw [show i + (g.m - i) = g.m by omega,h v] at h2;cases e : L v with
 | none =>
  cases e' : sweep g L i v with
  | none => rfl
  | some y =>
   obtain ⟨x,hx,_⟩:=h2 y e';rw [e] at hx; cases hx
 | some x =>
  obtain ⟨y,hy,a1⟩:=h1 x (by simpa [sweep] using e);obtain ⟨x',hx',a2⟩:=h2 y hy;rw [e] at hx';obtain rfl:=Option.some.inj hx';rw [hy]; congr 1; omega
end Go.Proofs.Ytlhmljngjdfbpaa.Sp
namespace Go.Proofs.Ytlhmljngjdfbpaa.Sp
structure Dbl (g e s : G) (D : Nat → Option Int) : Prop where
 en : e.n = g.n
 em : e.m = g.m
 ef : e.fr = g.fr
 et : e.tw = g.tw
 eu : e.use = g.use
 ew : ∀ i,i < g.m → e.w i = 1000 * g.w i + 1
 sn : s.n = g.n
 sm : s.m = g.m
 sf : s.fr = g.fr
 st : s.tw = g.tw
 sw : ∀ i,i < g.m → s.w i = 1
 su : ∀ i,i < g.m → (s.use i = true ↔ g.use i = true ∧ ∃ x,D (g.tw i) = some x ∧ D (g.fr i) = some (g.w i + x))
def both (D S : Nat → Option Int) : Nat → Option Int:=fun v =>
 match D v with
 | none => none
 | some d => match S v with
  | none => none
  | some k => some (1000 * d + k)
section
variable {g e s : G} {t : Nat} {D S : Nat → Option Int} (h : Dbl g e s D) (ok : g.Ok) (hD : Opt g t D) (hS : Opt s t S) (ht : t < g.n)
include h
theorem Dbl.okS (ok : g.Ok) : s.Ok:=by
 refine ⟨?_,?_,?_⟩
 ·rw [h.sf,h.sm,h.sn]; exact ok.fl
 ·rw [h.st,h.sm,h.sn]; exact ok.tl
 ·intro i hi;rw [h.sm] at hi;rw [h.sw i hi]; omega
theorem Dbl.toE {u v k : Nat} {c : Int} (w : Wk g u v k c) : Wk e u v k (1000 * c + k):=by
 induction w with
 | nil => exact (Wk.nil _).cast rfl (by omega)
 | @cons i v k c hi hu _ ih =>
  have h1 : Wk e (e.tw i) v k (1000 * c + k):=by rw [h.et]; exact ih
  have h2:=Wk.cons (i:=i) (by rw [h.em]; exact hi) (by rw [h.eu]; exact hu) h1;rw [h.ef,h.ew i hi] at h2;exact h2.cast rfl (by omega)
theorem Dbl.ofE {u v k : Nat} {c : Int} (w : Wk e u v k c) : ∃ c',Wk g u v k c' ∧ c = 1000 * c' + k:=by
 induction w with
 | nil => exact ⟨0,.nil _,by omega⟩
 | @cons i v k c hi hu _ ih =>
  obtain ⟨c',h1,h2⟩:=ih;rw [h.em] at hi;rw [h.eu] at hu;rw [h.et] at h1;refine ⟨g.w i + c',?_,by rw [h.ew i hi]; omega⟩;rw [h.ef];exact .cons hi hu h1
theorem Dbl.ofS (hD : Opt g t D) (ht : t < g.n) (ok : g.Ok) {u k : Nat} {c : Int} (w : Wk s u t k c) : ∃ d,D u = some d ∧ Wk g u t k d ∧ c = k:=by
 generalize ev : t = v at w
 induction w with
 | nil v =>
  subst ev;obtain ⟨x,hx,h1⟩:=(hD t ht).2 0 0 (.nil _);obtain ⟨k,hk⟩:=(hD t ht).1 x hx;have:=hk.nonneg ok;have e0 : x = 0:=by omega
  subst e0;exact ⟨0,hx,.nil _,rfl⟩
 | @cons i v k c hi hu _ ih =>
  obtain ⟨d,h1,h2,h3⟩:=ih ev;rw [h.sm] at hi;obtain ⟨g1,x,g2,g3⟩:=(h.su i hi).1 hu;rw [h.st] at h1 h2;rw [g2] at h1;obtain rfl:=Option.some.inj h1;rw [h.sf];exact ⟨_,g3,.cons hi g1 h2,by rw [h.sw i hi,h3]; omega⟩
theorem Dbl.toS (hD : Opt g t D) (ok : g.Ok) {u k : Nat} {c : Int} (w : Wk g u t k c) (hc : D u = some c) : Wk s u t k k:=by
 generalize ev : t = v at w
 induction w with
 | nil => exact .nil _
 | @cons i v k c hi hu w ih =>
  subst ev;obtain ⟨x,hx,h1⟩:=(hD _ (ok.tl i hi)).2 k c w;obtain ⟨j,hj⟩:=(hD _ (ok.tl i hi)).1 x hx;obtain ⟨y,hy,h2⟩:=(hD _ (ok.fl i hi)).2 _ _ (Wk.cons hi hu hj);rw [hc] at hy;obtain rfl:=Option.some.inj hy;have ex : x = c:=by omega
  subst ex;have h3:=ih hx rfl;rw [← h.st] at h3;have h4:=Wk.cons (i:=i) (by rw [h.sm]; exact hi) ((h.su i hi).2 ⟨hu,x,hx,hc⟩) h3;rw [h.sf,h.sw i hi] at h4;exact h4.cast rfl (by omega)
theorem Dbl.some (hD : Opt g t D) (hS : Opt s t S) (ht : t < g.n) (ok : g.Ok) {v : Nat} (hv : v < g.n) {d : Int} (hd : D v = .some d) : ∃ k : Nat,S v = .some (k : Int) ∧ k < g.n ∧ Wk s v t k k:=by
 obtain ⟨k,hk⟩:=(hD v hv).1 d hd;have w:=h.toS hD ok hk hd;obtain ⟨x,hx,h1⟩:=(hS v (by rw [h.sn]; exact hv)).2 _ _ w;obtain ⟨j,hj⟩:=(hS v (by rw [h.sn]; exact hv)).1 x hx;obtain ⟨d',e1,e2,e3⟩:=h.ofS hD ht ok hj;obtain ⟨j',c',w1,w2,w3,w4⟩:=hj.short (h.okS ok) (by rw [h.sn]; exact ht);obtain ⟨y,hy,h5⟩:=(hS v (by rw [h.sn]; exact hv)).2 _ _ w1;rw [hx] at hy;obtain rfl:=Option.some.inj hy;obtain ⟨_,_,_,e5⟩:=h.ofS hD ht ok w1;rw [h.sn] at w2;exact ⟨j,by rw [hx,e3],by omega,e3 ▸ hj⟩
theorem Dbl.opt (hD : Opt g t D) (hS : Opt s t S) (ht : t < g.n) (ok : g.Ok) (h8 : g.n ≤ 1000) : Opt e t (both D S):=by
 intro v hv;rw [h.en] at hv;constructor
 ·intro x hx
  unfold both at hx
  cases ed : D v with
  | none => rw [ed] at hx; cases hx
  | some d =>
   obtain ⟨k,hk,h1,h2⟩:=h.some hD hS ht ok hv ed;rw [ed,hk] at hx;obtain rfl:=Option.some.inj hx;obtain ⟨d',g1,g2,g3⟩:=h.ofS hD ht ok h2;rw [ed] at g1;obtain rfl:=Option.some.inj g1;exact ⟨k,h.toE g2⟩
 ·intro k c w;obtain ⟨c',w1,rfl⟩:=h.ofE w;obtain ⟨d,hd,h1⟩:=(hD v hv).2 _ _ w1;obtain ⟨j,hj,h2,h3⟩:=h.some hD hS ht ok hv hd;refine ⟨1000 * d + j,by simp [both,hd,hj],?_⟩
  by_cases e0 : d = c'
  case neg => omega
  subst e0;have w2:=h.toS hD ok w1 hd;obtain ⟨x,hx,h4⟩:=(hS v (by rw [h.sn]; exact hv)).2 _ _ w2;rw [hj] at hx;obtain rfl:=Option.some.inj hx;omega
end
end Go.Proofs.Ytlhmljngjdfbpaa.Sp
end
