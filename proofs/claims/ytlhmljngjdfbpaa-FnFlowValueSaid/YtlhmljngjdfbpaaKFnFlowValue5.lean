/- For the statement FnFlowValue of this seat: it is proved here, with no further conditions (part 6 of its texts: words, walks of the functions, the plain law, the row). -/
import Derived.Test.YtlhmljngjdfbpaaKFnFlowValue4
section
namespace Go.Proofs.Ytlhmljngjdfbpaa.Pr
open Go.RowKit Go.Proofs.YtlhmljngjdfbpaaW.PrintWords Go.Proofs.YtlhmljngjdfbpaaW.PrintLast Go.Proofs.YtlhmljngjdfbpaaW.PrintMore
attribute [local go_sem] max2_int min2_int max_two min_two max_three min_three max_four min_four
set_option linter.unusedVariables false
set_option linter.unusedSimpArgs false
open List renaming setIfInBounds_toArray → U,set_cons_zero → V,set_cons_succ → Z
open Go.Proofs.YtlhmljngjdfbpaaW.PrintWords.Aside0 renaming mk → zx
def spec_l30Node.f (k : Nat) (s0_0 : List Int) (s0_1 : Int) (a1_0 : Int) (l1_1 : List (S58)) : Option (Int × Int):=(spec_l30Rd_pick.f k s0_0 s0_1 16).bind fun bt677 => (if bt677.1 = 0 then ((spec_l30Rd_one.f k s0_0 bt677.2 (([(-1),a1_0] : List Int))).bind fun bt682 => (some (bt682.1,bt682.2))) else ((spec_l30Rd_pick.f k s0_0 bt677.2 a1_0).bind fun bt684 => (some (bt684.1,bt684.2))))
set_option maxHeartbeats 8000000 in
set_option maxRecDepth 100000 in
theorem spec_l30Node.calls (k : Nat) (g : Nat) (s0_0 : List Int) (s0_1 : Int) (a1_0 : Int) (A1_1 : Option Addr) (c1_1 : Nat) (l1_1 : List (S58)) (r1 : Int) (r2 : Int) (w0 w : World) (hI : IsS122 w0 w g s0_0 s0_1) (hB : Below w0.heap.size w0 w) (hr1_1 : ∀ W_,KeepBut w W_ g none → Kd.C k58 W_ A1_1 l1_1.length l1_1) (hc1_1 : l1_1.length ≤ c1_1) (h : spec_l30Node.f k s0_0 s0_1 a1_0 l1_1 = some (r1,r2)) :
  Calls Try.prog 87 #[.pointer (some ⟨g,0,none⟩),.agg #[.int .i64 a1_0,.slice A1_1 l1_1.length c1_1]] w fun e w' => e = .returned (.int .i64 r1) ∧ IsS122 w0 w' g s0_0 r2 ∧ Below w0.heap.size w0 w' ∧ KeepBut w w' g none:=by
 have hu34:=Try.underlying34;have HR1_1:=zx hr1_1;have HC1_1:=zx hc1_1;clear hr1_1 hc1_1;have HI0:=zx hI;have HK:=zx (KeepBut.refl w g none);have HL:=zx hB.size;clear hI;have HW0:=zx hB.size;have HB:=zx hB;clear hB;have H : ((spec_l30Rd_pick.f k s0_0 s0_1 16).bind fun bt677 => (if bt677.1 = 0 then ((spec_l30Rd_one.f k s0_0 bt677.2 (([(-1),a1_0] : List Int))).bind fun bt682 => (some (bt682.1,bt682.2))) else ((spec_l30Rd_pick.f k s0_0 bt677.2 a1_0).bind fun bt684 => (some (bt684.1,bt684.2))))) = some (r1,r2):=h;clear h;replace H:=Option.bind_eq_some_iff.mp H;obtain ⟨⟨t677,t678⟩,A30,H⟩:=H;replace H : (if t677 = 0 then ((spec_l30Rd_one.f k s0_0 t678 (([(-1),a1_0] : List Int))).bind fun bt682 => (some (bt682.1,bt682.2))) else ((spec_l30Rd_pick.f k s0_0 t678 a1_0).bind fun bt684 => (some (bt684.1,bt684.2)))) = some (r1,r2):=H;have A3:=zx A30;clear A30
 by_cases c4 : t677 = 0
 case neg =>
  rw [if_neg c4] at H;have c4b0 : (t677 == 0) = false:=beq_eq_false_iff_ne.mpr c4;have c4b1 : (t677 != 0) = true:=bne_iff_ne.mpr c4;replace H:=Option.bind_eq_some_iff.mp H;obtain ⟨⟨t684,t685⟩,A140,H⟩:=H;replace H : (some (t684,t685)) = some (r1,r2):=H;have A14:=zx A140;clear A140;simp only [Option.some.injEq,Prod.mk.injEq] at H;obtain ⟨rfl,rfl⟩:=H
  go_enter Try.func87,Try.ntmps87
  go_wp2_with (first | ((with_reducible refine gate_dst (N:=3) rfl ?_); refine box_event ?hg (N:=3) ?hd (cs:=#[.int .i64 a1_0,.slice A1_1 l1_1.length c1_1]) (t:=34) ?hr ?_; (case hd => rfl); (case hg => rfl); (case hr => first | (go_simp; done) | (go_simp; rfl)); intro p1 hg w15 hbox hb; have n0_:=zx (IsS122.below HI0.out hb); have n1_:=zx (KeepBut.trans HK.out (KeepBut.of_below hb g none) (.inl rfl)); have n2_:=zx (below_step HB.out hb); have n3_:=zx (hbox); have n4_:=zx ((by rw [hg]; exact (keep_size (w:=w) (g:=g) (row:=none) HK.out) : w.heap.size ≤ p1)); have n5_:=zx ((Nat.le_trans HW0.out (by rw [hg]; exact (keep_size (w:=w) (g:=g) (row:=none) HK.out) : w.heap.size ≤ p1) : w0.heap.size ≤ p1)); have n6_:=zx ((by rw [hg]; exact Nat.ne_of_lt (IsS122.lt (show IsS122 w0 _ g s0_0 s0_1 from by repeat (first | (with_reducible first | exact HI0.out | apply IsS122.alloc | apply IsS122.drewN | apply IsS122.drew | apply IsS122.set_1) | exact HI0.out))) : g ≠ p1)); have n7_:=zx ((by rw [hg]; exact Nat.ne_of_gt (IsS122.lt (show IsS122 w0 _ g s0_0 s0_1 from by repeat (first | (with_reducible first | exact HI0.out | apply IsS122.alloc | apply IsS122.drewN | apply IsS122.drew | apply IsS122.set_1) | exact HI0.out))) : p1 ≠ g)); clear HI0; clear HK; clear HB; have HI0:=n0_; have HK:=n1_; have HB:=n2_; have p0:=n3_; have p4:=n4_; have p5:=n5_; have p3:=n6_; have p2:=n7_; clear n0_ n1_ n2_ n3_ n4_ n5_ n6_ n7_; clear hb hbox hg) | ((with_reducible refine gate_callee (f:=64) rfl ?_); refine goesL_ (some 6) rfl rfl Try.func64 (by kernel_rfl) rfl #[.pointer (some ⟨g,0,none⟩),.int .i64 16] rfl (by (try simp only [List.map_toArray,List.map_cons,List.map_nil]); first | done | rfl | (simp only [List.length_drop,List.length_take]; rfl)) ?_; (with_reducible refine (spec_l30Rd_pick.calls k g s0_0 s0_1 16 t677 t678 w0 _ ?side1 ?side2 A3.out).mono ?_); (case side1 => exact HI0.out); (case side2 => exact HB.out); rintro e w16 ⟨rfl,hi,hb,hk⟩; refine ⟨_,rfl,?_⟩; have n0_:=zx (KeepBut.blk hk (g':=p1) (o:=.cells #[.int .i64 a1_0,.slice A1_1 l1_1.length c1_1] 34 (0,0)) p0.out p2.out (by simp)); have n1_:=zx (KeepBut.trans HK.out hk (.inl rfl)); have n2_:=zx (hb); have n3_:=zx (hi); clear p0; clear HK; clear HB; clear HI0; have p0:=n0_; have HK:=n1_; have HB:=n2_; have HI0:=n3_; clear n0_ n1_ n2_ n3_; (try clear hb); (try clear hb2); (try clear hk); (try clear hi); have hnb17:=p2.out; have hnc17:=p3.out; have hcz18_0 : w16.cell? ⟨p1,0,none⟩ = some (.int .i64 a1_0):=(blk_cell p0.out 0).trans rfl; have hcz18_1 : w16.cell? ⟨p1,1,none⟩ = some (.slice A1_1 l1_1.length c1_1):=(blk_cell p0.out 1).trans rfl; have hfz18_0:=blk_frozen p0.out 0; have hfz18_1:=blk_frozen p0.out 1) | ((with_reducible refine gate_callee (f:=64) rfl ?_); refine goesL_ (some 16) rfl rfl Try.func64 (by kernel_rfl) rfl #[.pointer (some ⟨g,0,none⟩),.int .i64 a1_0] rfl (by (try simp only [List.map_toArray,List.map_cons,List.map_nil]); first | done | rfl | (simp only [List.length_drop,List.length_take]; rfl)) ?_; (with_reducible refine (spec_l30Rd_pick.calls k g s0_0 t678 a1_0 t684 t685 w0 _ ?side1 ?side2 A14.out).mono ?_); (case side1 => exact HI0.out); (case side2 => exact HB.out); rintro e w19 ⟨rfl,hi,hb,hk⟩; refine ⟨_,rfl,?_⟩; have n0_:=zx (KeepBut.blk hk (g':=p1) (o:=.cells #[.int .i64 a1_0,.slice A1_1 l1_1.length c1_1] 34 (0,0)) p0.out p2.out (by simp)); have n1_:=zx (KeepBut.trans HK.out hk (.inl rfl)); have n2_:=zx (hb); have n3_:=zx (hi); clear p0; clear HK; clear HB; clear HI0; have p0:=n0_; have HK:=n1_; have HB:=n2_; have HI0:=n3_; clear n0_ n1_ n2_ n3_; (try clear hb); (try clear hb2); (try clear hk); (try clear hi)))
  go_ret;exact ⟨by first | rfl | (simp [errW_none,errW_some] <;> rfl) | (simp [*,errW_none,errW_some] <;> rfl),by repeat (first | (with_reducible first | exact HI0.out | apply IsS122.alloc | apply IsS122.drewN | apply IsS122.drew | apply IsS122.set_1 | refine IsS122.far ?_ p3.out _) | exact HI0.out),by repeat (first | (with_reducible first | exact HB.out | apply below_alloc | apply pw_below_drewN | apply below_drew1 | refine below_set ?_ (IsS122.ge HI0.out) | refine below_set ?_ p5.out) | exact HB.out),by repeat (first | (with_reducible first | exact HK.out | apply KeepBut.set_ | apply keep_drewN | apply keep_drew | apply keep_alloc | refine keep_far ?_ p4.out _) | exact HK.out)⟩
 rw [if_pos c4] at H;have c4b0 : (t677 == 0) = true:=beq_iff_eq.mpr c4;have c4b1 : (t677 != 0) = false:=bne_eq_false_iff_eq.mpr c4;clear c4;obtain ⟨y679,hy679⟩ : ∃ y_ : List Int,y_ = (([(-1),a1_0] : List Int)):=⟨_,rfl⟩
 replace H : ((spec_l30Rd_one.f k s0_0 t678 y679).bind fun bt682 => (some (bt682.1,bt682.2))) = some (r1,r2):=by first | (rw [hy679]; with_reducible exact H) | (have H2_:=(Option.bind_some _ _).symm.trans H; rw [hy679]; with_reducible exact H2_) | (have H2_:=(Option.bind_some _ _).symm.trans H; with_reducible exact H2_) | with_reducible exact H | (rw [hy679]; exact H) | exact H
 have Ny679:=zx hy679;clear hy679;replace H:=Option.bind_eq_some_iff.mp H;obtain ⟨⟨t682,t683⟩,A50,H⟩:=H;replace H : (some (t682,t683)) = some (r1,r2):=H;have A5:=zx A50;clear A50;simp only [Option.some.injEq,Prod.mk.injEq] at H;obtain ⟨rfl,rfl⟩:=H
 go_enter Try.func87,Try.ntmps87
 go_wp2_with (first | ((with_reducible refine gate_dst (N:=3) rfl ?_); refine box_event ?hg (N:=3) ?hd (cs:=#[.int .i64 a1_0,.slice A1_1 l1_1.length c1_1]) (t:=34) ?hr ?_; (case hd => rfl); (case hg => rfl); (case hr => first | (go_simp; done) | (go_simp; rfl)); intro p1 hg w6 hbox hb; have n0_:=zx (IsS122.below HI0.out hb); have n1_:=zx (KeepBut.trans HK.out (KeepBut.of_below hb g none) (.inl rfl)); have n2_:=zx (below_step HB.out hb); have n3_:=zx (hbox); have n4_:=zx ((by rw [hg]; exact (keep_size (w:=w) (g:=g) (row:=none) HK.out) : w.heap.size ≤ p1)); have n5_:=zx ((Nat.le_trans HW0.out (by rw [hg]; exact (keep_size (w:=w) (g:=g) (row:=none) HK.out) : w.heap.size ≤ p1) : w0.heap.size ≤ p1)); have n6_:=zx ((by rw [hg]; exact Nat.ne_of_lt (IsS122.lt (show IsS122 w0 _ g s0_0 s0_1 from by repeat (first | (with_reducible first | exact HI0.out | apply IsS122.alloc | apply IsS122.drewN | apply IsS122.drew | apply IsS122.set_1) | exact HI0.out))) : g ≠ p1)); have n7_:=zx ((by rw [hg]; exact Nat.ne_of_gt (IsS122.lt (show IsS122 w0 _ g s0_0 s0_1 from by repeat (first | (with_reducible first | exact HI0.out | apply IsS122.alloc | apply IsS122.drewN | apply IsS122.drew | apply IsS122.set_1) | exact HI0.out))) : p1 ≠ g)); clear HI0; clear HK; clear HB; have HI0:=n0_; have HK:=n1_; have HB:=n2_; have p0:=n3_; have p4:=n4_; have p5:=n5_; have p3:=n6_; have p2:=n7_; clear n0_ n1_ n2_ n3_ n4_ n5_ n6_ n7_; clear hb hbox hg) | ((with_reducible refine gate_callee (f:=64) rfl ?_); refine goesL_ (some 6) rfl rfl Try.func64 (by kernel_rfl) rfl #[.pointer (some ⟨g,0,none⟩),.int .i64 16] rfl (by (try simp only [List.map_toArray,List.map_cons,List.map_nil]); first | done | rfl | (simp only [List.length_drop,List.length_take]; rfl)) ?_; (with_reducible refine (spec_l30Rd_pick.calls k g s0_0 s0_1 16 t677 t678 w0 _ ?side1 ?side2 A3.out).mono ?_); (case side1 => exact HI0.out); (case side2 => exact HB.out); rintro e w7 ⟨rfl,hi,hb,hk⟩; refine ⟨_,rfl,?_⟩; have n0_:=zx (KeepBut.blk hk (g':=p1) (o:=.cells #[.int .i64 a1_0,.slice A1_1 l1_1.length c1_1] 34 (0,0)) p0.out p2.out (by simp)); have n1_:=zx (KeepBut.trans HK.out hk (.inl rfl)); have n2_:=zx (hb); have n3_:=zx (hi); clear p0; clear HK; clear HB; clear HI0; have p0:=n0_; have HK:=n1_; have HB:=n2_; have HI0:=n3_; clear n0_ n1_ n2_ n3_; (try clear hb); (try clear hb2); (try clear hk); (try clear hi); have hnb8:=p2.out; have hnc8:=p3.out; have hcz9_0 : w7.cell? ⟨p1,0,none⟩ = some (.int .i64 a1_0):=(blk_cell p0.out 0).trans rfl; have hcz9_1 : w7.cell? ⟨p1,1,none⟩ = some (.slice A1_1 l1_1.length c1_1):=(blk_cell p0.out 1).trans rfl; have hfz9_0:=blk_frozen p0.out 0; have hfz9_1:=blk_frozen p0.out 1) | ((with_reducible refine gate_dst (N:=11) rfl ?_); refine Kd.R_lit (Kd.int .i64) _ 3 ?hg (N:=11) ?hd (xs:=([(-1),a1_0] : List Int)) (inner:=[.int .i64 (-1),.int .i64 a1_0]) (ok:=fun _ => True) (okp:=fun _ => True) ?hr ?hp (fun _ hk => hk) trivial (Below.refl _ _) (Nat.le_refl _) (by simp) ?_; (case hd => rfl); (case hg => rfl); (case hr => first | (go_simp; done) | (go_simp; rfl)); (case hp => exact (Reps.one (show Kd.M (Kd.int .i64) _ _ _ (-1) [.int .i64 (-1)] from rfl) (Reps.one (show Kd.M (Kd.int .i64) _ _ _ a1_0 [.int .i64 a1_0] from rfl) (Reps.none _ _)))); intro v680 w10 ho11 hb hg_ hnew_; clear hg_ hnew_; (first | rw [← Ny679.out] at ho11 | (simp only [Int.reduceToNat] at ho11; rw [← Ny679.out] at ho11)); have n0_:=zx (Kd.R_lower ho11 (keep_size (w:=w) (g:=g) (row:=none) HK.out)); have n1_:=zx (IsS122.below HI0.out hb); have n2_:=zx (blk_below (g:=p1) (o:=.cells #[.int .i64 a1_0,.slice A1_1 l1_1.length c1_1] 34 (0,0)) p0.out hb); have n3_:=zx (KeepBut.trans HK.out (KeepBut.of_below hb g none) (.inl rfl)); have n4_:=zx (below_step HB.out hb); clear HI0; clear p0; clear HK; clear HB; have HO681:=n0_; have HI0:=n1_; have p0:=n2_; have HK:=n3_; have HB:=n4_; clear n0_ n1_ n2_ n3_ n4_; clear hb ho11; obtain ⟨Ao12,co12,eo12⟩:=Kd.R_slice HO681.out; subst eo12) | ((with_reducible refine gate_callee (f:=88) rfl ?_); refine goesL_ (some 12) rfl rfl Try.func88 (by kernel_rfl) rfl #[.pointer (some ⟨g,0,none⟩),.slice Ao12 y679.length co12] rfl (by (try simp only [List.map_toArray,List.map_cons,List.map_nil]); first | done | rfl | (simp only [List.length_drop,List.length_take]; rfl)) ?_; (with_reducible refine (spec_l30Rd_one.calls k g s0_0 t678 _ _ y679 t682 t683 w0 _ ?side1 ?side2 ?side3 ?side4 ?side5 A5.out).mono ?_); (case side1 => exact HI0.out); (case side2 => exact HB.out); (case side3 => repeat (first | exact (Kd.R_reads' HO681.out).2.2 | (with_reducible refine Kd.C_alloc ?_ _) | (with_reducible refine Kd.C_drewN ?_ _) | (with_reducible refine Kd.C_drew ?_))); (case side4 => exact (Kd.R_reads' HO681.out).2.1); (case side5 => exact far_slice (IsS122.own_ne HI0.out HO681.out (by decide))); rintro e w13 ⟨rfl,hi,hb,hk⟩; refine ⟨_,rfl,?_⟩; have n0_:=zx (KeepBut.blk hk (g':=p1) (o:=.cells #[.int .i64 a1_0,.slice A1_1 l1_1.length c1_1] 34 (0,0)) p0.out p2.out (by simp)); have n1_:=zx (Kd.R_mono (Kd.R_keep (IsS122.apart (show IsS122 w0 _ g s0_0 t678 from by repeat (first | (with_reducible first | exact HI0.out | apply IsS122.alloc | apply IsS122.drewN | apply IsS122.drew | apply IsS122.set_1 | refine IsS122.far ?_ p3.out _) | exact HI0.out)) HO681.out (by decide)) hk (fun _ h => h.2)) (fun _ h => h.1)); have n2_:=zx (KeepBut.trans HK.out hk (.inl rfl)); have n3_:=zx (hb); have n4_:=zx (hi); clear p0; clear HO681; clear HK; clear HB; clear HI0; have p0:=n0_; have HO681:=n1_; have HK:=n2_; have HB:=n3_; have HI0:=n4_; clear n0_ n1_ n2_ n3_ n4_; (try clear hb); (try clear hb2); (try clear hk); (try clear hi)))
 go_ret;exact ⟨by first | rfl | (simp [errW_none,errW_some] <;> rfl) | (simp [*,errW_none,errW_some] <;> rfl),by repeat (first | (with_reducible first | exact HI0.out | apply IsS122.alloc | apply IsS122.drewN | apply IsS122.drew | apply IsS122.set_1 | refine IsS122.far ?_ p3.out _) | exact HI0.out),by repeat (first | (with_reducible first | exact HB.out | apply below_alloc | apply pw_below_drewN | apply below_drew1 | refine below_set ?_ (IsS122.ge HI0.out) | refine below_set ?_ p5.out) | exact HB.out),by repeat (first | (with_reducible first | exact HK.out | apply KeepBut.set_ | apply keep_drewN | apply keep_drew | apply keep_alloc | refine keep_far ?_ p4.out _) | exact HK.out)⟩
def spec_DrawFlowValue.j0 : Nat → Int → Int → List Int → Bool → List Int → Int → Int → List (S58) → Option (Int × (List (S58)) × List Int × Int × Int)
 | 0,_,_,_,_,_,_,_,_ => none
 | k + 1,x8,x9,x10,x33,x690000,x690001,x696000,x696001 => if x33 = true then ((spec_l30Rd_pick.f k x690000 x690001 (x10.length : Int)).bind fun bt705 => (if 0 ≤ bt705.1 then (if bt705.1 < (x10.length : Int) then ((spec_l30Rd_one.f k x690000 bt705.2 (([1,(-1)] : List Int))).bind fun bt711 => ((some (x10.set (bt705.1 : Int).toNat (wrap64 ((rd x10 bt705.1) + bt711.1)) : List Int)).bind fun y713 => ((spec_l30Rd_pick.f k x690000 bt711.2 14).bind fun bt714 => (if bt714.1 = 0 then (if y713.length < 17592186044416 then (some (x696000,x696001,(y713 ++ [0]),x8,x9)) else (none)) else (some (x696000,x696001,y713,x8,x9)))))) else (none)) else (none))) else ((spec_l30Rd_pick.f k x690000 x690001 14).bind fun bt719 => (if bt719.1 = 0 then (if x10.length < 17592186044416 then (some (x696000,x696001,(x10 ++ [0]),x8,x9)) else (none)) else (some (x696000,x696001,x10,x8,x9))))
def spec_DrawFlowValue.f (k : Nat) (l0 : List Int) : Option (Int × (List (S58)) × List Int × Int × Int):=(spec_l30Open.f l0).bind fun bt687 => ((spec_l30AnyNet.f k bt687.1 bt687.2).bind fun bt690 => ((spec_l30Node.f k bt687.1 bt690.2.2 bt690.1 bt690.2.1).bind fun bt696 => ((spec_l30Node.f k bt687.1 bt696.2 bt690.1 bt690.2.1).bind fun bt698 => ((spec_FlowOf.f k bt690.1 bt690.2.1 bt696.1 bt698.1).bind fun t700 => (if (t700.length : Int) > 0 then ((spec_l30Rd_pick.f k bt687.1 bt698.2 3).bind fun bt703 => (spec_DrawFlowValue.j0 k bt696.1 bt698.1 t700 (bt703.1 == 0) bt687.1 bt703.2 bt690.1 bt690.2.1)) else (spec_DrawFlowValue.j0 k bt696.1 bt698.1 t700 false bt687.1 bt698.2 bt690.1 bt690.2.1))))))
def spec_DrawFlowValue.T8 : Bool × List (List Nat × List Nat):=(true,[([],[]),([],[]),([],[]),([],[]),([2,3],[2,3]),([4],[4]),([],[]),([],[]),([6,7],[6,7]),([5,8],[5,8]),([0,1,0,1,2,3,4,5,6,7,8,9],[0,1]),([10,9,8,0,1,2,3,4,5,6,7,8,9],[9,10])])
def spec_DrawFlowValue.B8 : List Nat:=[0,0,0,0,12,28,0,0,192,508,1023,2047]
theorem spec_DrawFlowValue.tab8 : rtab .any (opsOf Try.f33 8) = spec_DrawFlowValue.T8:=by kernel_rfl
theorem spec_DrawFlowValue.bits8 : waitsOk spec_DrawFlowValue.T8.2 spec_DrawFlowValue.B8 = true:=by kernel_rfl
def spec_DrawFlowValue.T10 : Bool × List (List Nat × List Nat):=(true,[([],[]),([],[]),([],[]),([1,2],[1,2]),([],[]),([],[]),([0,3,0],[0]),([3,6,0,1,2,3,6],[3]),([4,7,0,1,2,3,4,6,7],[4]),([5,8,0,1,2,3,4,5,6,7,8],[5])])
def spec_DrawFlowValue.B10 : List Nat:=[0,0,0,6,0,0,15,79,223,511]
theorem spec_DrawFlowValue.tab10 : rtab .any (opsOf Try.f33 10) = spec_DrawFlowValue.T10:=by kernel_rfl
theorem spec_DrawFlowValue.bits10 : waitsOk spec_DrawFlowValue.T10.2 spec_DrawFlowValue.B10 = true:=by kernel_rfl
set_option maxHeartbeats 8000000 in
set_option maxRecDepth 100000 in
theorem spec_DrawFlowValue.calls (k : Nat) (A0 : Option Addr) (c0 : Nat) (l0 : List Int) (r1 : Int) (r2 : List (S58)) (r3 : List Int) (r4 : Int) (r5 : Int) (w : World) (hr0 : Kd.C (Kd.int .u8) w A0 l0.length l0) (hc0 : l0.length ≤ c0) (h : spec_DrawFlowValue.f k l0 = some (r1,r2,r3,r4,r5)) :
  Calls Try.prog 33 #[.slice A0 l0.length c0] w fun e w' => ∃ v1_ v2_ : Value,e = .returned (.tuple #[.agg #[.int .i64 r1,v1_],v2_,.int .i64 r4,.int .i64 r5]) ∧ Kd.R k58 58 w' w.heap.size (fun _ => True) v1_ r2 ∧ Kd.R (Kd.int .i64) 3 w' w.heap.size (fun _ => True) v2_ r3 ∧ Below w.heap.size w w':=by
 have hu34:=Try.underlying34;have HR0:=zx hr0;have HC0:=zx hc0;clear hr0 hc0;have HB:=zx (Below.refl w.heap.size w);have H : ((spec_l30Open.f l0).bind fun bt687 => ((spec_l30AnyNet.f k bt687.1 bt687.2).bind fun bt690 => ((spec_l30Node.f k bt687.1 bt690.2.2 bt690.1 bt690.2.1).bind fun bt696 => ((spec_l30Node.f k bt687.1 bt696.2 bt690.1 bt690.2.1).bind fun bt698 => ((spec_FlowOf.f k bt690.1 bt690.2.1 bt696.1 bt698.1).bind fun t700 => (if (t700.length : Int) > 0 then ((spec_l30Rd_pick.f k bt687.1 bt698.2 3).bind fun bt703 => (spec_DrawFlowValue.j0 k bt696.1 bt698.1 t700 (bt703.1 == 0) bt687.1 bt703.2 bt690.1 bt690.2.1)) else (spec_DrawFlowValue.j0 k bt696.1 bt698.1 t700 false bt687.1 bt698.2 bt690.1 bt690.2.1))))))) = some (r1,r2,r3,r4,r5):=h;clear h;replace H:=Option.bind_eq_some_iff.mp H;obtain ⟨⟨t687,t688⟩,A20,H⟩:=H;replace H : ((spec_l30AnyNet.f k t687 t688).bind fun bt690 => ((spec_l30Node.f k t687 bt690.2.2 bt690.1 bt690.2.1).bind fun bt696 => ((spec_l30Node.f k t687 bt696.2 bt690.1 bt690.2.1).bind fun bt698 => ((spec_FlowOf.f k bt690.1 bt690.2.1 bt696.1 bt698.1).bind fun t700 => (if (t700.length : Int) > 0 then ((spec_l30Rd_pick.f k t687 bt698.2 3).bind fun bt703 => (spec_DrawFlowValue.j0 k bt696.1 bt698.1 t700 (bt703.1 == 0) t687 bt703.2 bt690.1 bt690.2.1)) else (spec_DrawFlowValue.j0 k bt696.1 bt698.1 t700 false t687 bt698.2 bt690.1 bt690.2.1)))))) = some (r1,r2,r3,r4,r5):=H;have A2:=zx A20;clear A20;replace H:=Option.bind_eq_some_iff.mp H;obtain ⟨⟨t690,t691,t694⟩,A30,H⟩:=H;replace H : ((spec_l30Node.f k t687 t694 t690 t691).bind fun bt696 => ((spec_l30Node.f k t687 bt696.2 t690 t691).bind fun bt698 => ((spec_FlowOf.f k t690 t691 bt696.1 bt698.1).bind fun t700 => (if (t700.length : Int) > 0 then ((spec_l30Rd_pick.f k t687 bt698.2 3).bind fun bt703 => (spec_DrawFlowValue.j0 k bt696.1 bt698.1 t700 (bt703.1 == 0) t687 bt703.2 t690 t691)) else (spec_DrawFlowValue.j0 k bt696.1 bt698.1 t700 false t687 bt698.2 t690 t691))))) = some (r1,r2,r3,r4,r5):=H;have A3:=zx A30;clear A30;replace H:=Option.bind_eq_some_iff.mp H;obtain ⟨⟨t696,t697⟩,A40,H⟩:=H;replace H : ((spec_l30Node.f k t687 t697 t690 t691).bind fun bt698 => ((spec_FlowOf.f k t690 t691 t696 bt698.1).bind fun t700 => (if (t700.length : Int) > 0 then ((spec_l30Rd_pick.f k t687 bt698.2 3).bind fun bt703 => (spec_DrawFlowValue.j0 k t696 bt698.1 t700 (bt703.1 == 0) t687 bt703.2 t690 t691)) else (spec_DrawFlowValue.j0 k t696 bt698.1 t700 false t687 bt698.2 t690 t691)))) = some (r1,r2,r3,r4,r5):=H;have A4:=zx A40;clear A40;replace H:=Option.bind_eq_some_iff.mp H;obtain ⟨⟨t698,t699⟩,A50,H⟩:=H
 replace H : ((spec_FlowOf.f k t690 t691 t696 t698).bind fun t700 => (if (t700.length : Int) > 0 then ((spec_l30Rd_pick.f k t687 t699 3).bind fun bt703 => (spec_DrawFlowValue.j0 k t696 t698 t700 (bt703.1 == 0) t687 bt703.2 t690 t691)) else (spec_DrawFlowValue.j0 k t696 t698 t700 false t687 t699 t690 t691))) = some (r1,r2,r3,r4,r5):=H;have A5:=zx A50;clear A50;replace H:=Option.bind_eq_some_iff.mp H;obtain ⟨t700,A60,H⟩:=H;replace H : (if (t700.length : Int) > 0 then ((spec_l30Rd_pick.f k t687 t699 3).bind fun bt703 => (spec_DrawFlowValue.j0 k t696 t698 t700 (bt703.1 == 0) t687 bt703.2 t690 t691)) else (spec_DrawFlowValue.j0 k t696 t698 t700 false t687 t699 t690 t691)) = some (r1,r2,r3,r4,r5):=H;have A6:=zx A60;clear A60;have HC7:=zx H;clear H
 go_enter Try.func33,Try.ntmps33
 go_upto_region 6 with (first | ((with_reducible refine gate_dst (N:=2) rfl ?_); refine box_event ?hg (N:=2) ?hd (cs:=#[.int .i64 0,.slice none 0 0]) (t:=34) ?hr ?_; (case hd => rfl); (case hg => rfl); (case hr => first | (go_simp; done) | (go_simp; rfl)); intro gb686 hg w8 hbox hb; have n0_:=zx (below_step (by repeat (first | (with_reducible first | exact HB.out | apply below_alloc | apply pw_below_drewN | apply below_drew1) | exact HB.out)) hb); have n1_:=zx (hbox); have n2_:=zx ((by rw [hg]; exact (below_size (by repeat (first | (with_reducible first | exact HB.out | apply below_alloc | apply pw_below_drewN | apply below_drew1) | exact HB.out))) : w.heap.size ≤ gb686)); have n3_:=zx ((by rw [hg]; exact (below_size (by repeat (first | (with_reducible first | exact HB.out | apply below_alloc | apply pw_below_drewN | apply below_drew1) | exact HB.out))) : w.heap.size ≤ gb686)); clear HB; have HB:=n0_; have BK686:=n1_; have GW686:=n2_; have GE686:=n3_; clear n0_ n1_ n2_ n3_; clear hb hbox hg) | ((with_reducible refine gate_callee (f:=62) rfl ?_); refine goesL_ (some 13) rfl rfl Try.func62 (by kernel_rfl) rfl #[.slice A0 l0.length c0] rfl (by (try simp only [List.map_toArray,List.map_cons,List.map_nil]); first | done | rfl | (simp only [List.length_drop,List.length_take]; rfl)) ?_; (with_reducible refine (spec_l30Open.calls _ _ l0 t687 t688 w _ ?side1 ?side2 ?side3 A2.out).mono ?_); (case side1 => repeat (first | (with_reducible first | exact HB.out | apply below_alloc | apply pw_below_drewN | apply below_drew1 | refine below_set ?_ GE686.out) | exact HB.out)); (case side2 => exact HR0.out); (case side3 => exact HC0.out); rintro e w9 ⟨g689,rfl,hi,hb,hb2⟩; refine ⟨_,rfl,?_⟩; have n0_:=zx (blk_below (g:=gb686) (o:=.cells #[.int .i64 0,.slice none 0 0] 34 (0,0)) (by (with_reducible repeat (first | refine blk_drewN ?_ _ | refine blk_drew ?_ | refine blk_alloc ?_ _)); exact BK686.out) hb2); have n1_:=zx (hb); have n2_:=zx (hi); have n3_:=zx (IsS122.ne_blk hi (blk_below (g:=gb686) (o:=.cells #[.int .i64 0,.slice none 0 0] 34 (0,0)) (by (with_reducible repeat (first | refine blk_drewN ?_ _ | refine blk_drew ?_ | refine blk_alloc ?_ _)); exact BK686.out) hb2) (by decide)); have n4_:=zx (Ne.symm (IsS122.ne_blk hi (blk_below (g:=gb686) (o:=.cells #[.int .i64 0,.slice none 0 0] 34 (0,0)) (by (with_reducible repeat (first | refine blk_drewN ?_ _ | refine blk_drew ?_ | refine blk_alloc ?_ _)); exact BK686.out) hb2) (by decide))); clear BK686; clear HB; have BK686:=n0_; have HB:=n1_; have HI689:=n2_; have NB689_686:=n3_; have NB686_689:=n4_; clear n0_ n1_ n2_ n3_ n4_; (try clear hb); (try clear hb2); (try clear hk); (try clear hi)) | ((with_reducible refine gate_callee (f:=70) rfl ?_); refine goesL_ (some 15) rfl rfl Try.func70 (by kernel_rfl) rfl #[.pointer (some ⟨g689,0,none⟩)] rfl (by (try simp only [List.map_toArray,List.map_cons,List.map_nil]); first | done | rfl | (simp only [List.length_drop,List.length_take]; rfl)) ?_; (with_reducible refine (spec_l30AnyNet.calls k g689 t687 t688 t690 t691 t694 w _ ?side1 ?side2 A3.out).mono ?_); (case side1 => repeat (first | (with_reducible first | exact HI689.out | apply IsS122.alloc | apply IsS122.drewN | apply IsS122.drew | apply IsS122.set_1 | refine IsS122.far ?_ NB689_686.out _) | exact HI689.out)); (case side2 => repeat (first | (with_reducible first | exact HB.out | apply below_alloc | apply pw_below_drewN | apply below_drew1 | refine below_set ?_ (IsS122.ge HI689.out) | refine below_set ?_ GE686.out) | exact HB.out)); rintro e w10 ⟨v692,rfl,ho0,hi,hb,hk⟩; refine ⟨_,rfl,?_⟩; have n0_:=zx (KeepBut.blk hk (g':=gb686) (o:=.cells #[.int .i64 0,.slice none 0 0] 34 (0,0)) (by (with_reducible repeat (first | refine blk_drewN ?_ _ | refine blk_drew ?_ | refine blk_alloc ?_ _)); exact BK686.out) NB686_689.out (by simp)); have n1_:=zx (Kd.R_lower ho0 (below_size (by repeat (first | (with_reducible first | exact HB.out | apply below_alloc | apply pw_below_drewN | apply below_drew1 | refine below_set ?_ (IsS122.ge HI689.out) | refine below_set ?_ GE686.out) | exact HB.out)))); have n2_:=zx (hb); have n3_:=zx (hi); clear BK686; clear HB; clear HI689; have BK686:=n0_; have HO693:=n1_; have HB:=n2_; have HI689:=n3_; clear n0_ n1_ n2_ n3_; (try clear hb); (try clear hb2); (try clear hk); (try clear hi); (try clear ho0)) | ((with_reducible refine gate_dst (N:=7) rfl ?_); refine box_event ?hg (N:=7) ?hd (cs:=#[.int .i64 0,.slice none 0 0]) (t:=34) ?hr ?_; (case hd => rfl); (case hg => rfl); (case hr => first | (go_simp; done) | (go_simp; rfl)); intro gb695 hg w11 hbox hb; have n0_:=zx (Kd.R_below (by (with_reducible repeat (first | apply Kd.R_alloc | apply Kd.R_drewN | apply Kd.R_drew)); exact HO693.out) hb); have n1_:=zx (blk_below (g:=gb686) (o:=.cells #[.int .i64 0,.slice none 0 0] 34 (0,0)) (by (with_reducible repeat (first | refine blk_drewN ?_ _ | refine blk_drew ?_ | refine blk_alloc ?_ _)); exact BK686.out) hb); have n2_:=zx (IsS122.below (by repeat (first | (with_reducible first | exact HI689.out | apply IsS122.alloc | apply IsS122.drewN | apply IsS122.drew | apply IsS122.set_1 | refine IsS122.far ?_ NB689_686.out _) | exact HI689.out)) hb); have n3_:=zx (below_step (by repeat (first | (with_reducible first | exact HB.out | apply below_alloc | apply pw_below_drewN | apply below_drew1 | refine below_set ?_ (IsS122.ge HI689.out) | refine below_set ?_ GE686.out) | exact HB.out)) hb); have n4_:=zx (hbox); have n5_:=zx ((by rw [hg]; exact (below_size (by repeat (first | (with_reducible first | exact HB.out | apply below_alloc | apply pw_below_drewN | apply below_drew1 | refine below_set ?_ (IsS122.ge HI689.out) | refine below_set ?_ GE686.out) | exact HB.out))) : w.heap.size ≤ gb695)); have n6_:=zx ((by rw [hg]; exact (below_size (by repeat (first | (with_reducible first | exact HB.out | apply below_alloc | apply pw_below_drewN | apply below_drew1 | refine below_set ?_ (IsS122.ge HI689.out) | refine below_set ?_ GE686.out) | exact HB.out))) : w.heap.size ≤ gb695)); have n7_:=zx ((by rw [hg]; exact Nat.ne_of_lt (blk_lt (g:=gb686) (o:=.cells #[.int .i64 0,.slice none 0 0] 34 (0,0)) (by (with_reducible repeat (first | refine blk_drewN ?_ _ | refine blk_drew ?_ | refine blk_alloc ?_ _)); exact BK686.out)) : gb686 ≠ gb695)); have n8_:=zx ((by rw [hg]; exact Nat.ne_of_gt (blk_lt (g:=gb686) (o:=.cells #[.int .i64 0,.slice none 0 0] 34 (0,0)) (by (with_reducible repeat (first | refine blk_drewN ?_ _ | refine blk_drew ?_ | refine blk_alloc ?_ _)); exact BK686.out)) : gb695 ≠ gb686)); have n9_:=zx ((by rw [hg]; exact Nat.ne_of_lt (IsS122.lt (show IsS122 w _ g689 t687 t694 from by repeat (first | (with_reducible first | exact HI689.out | apply IsS122.alloc | apply IsS122.drewN | apply IsS122.drew | apply IsS122.set_1 | refine IsS122.far ?_ NB689_686.out _) | exact HI689.out))) : g689 ≠ gb695)); have n10_:=zx ((by rw [hg]; exact Nat.ne_of_gt (IsS122.lt (show IsS122 w _ g689 t687 t694 from by repeat (first | (with_reducible first | exact HI689.out | apply IsS122.alloc | apply IsS122.drewN | apply IsS122.drew | apply IsS122.set_1 | refine IsS122.far ?_ NB689_686.out _) | exact HI689.out))) : gb695 ≠ g689)); clear HO693; clear BK686; clear HI689; clear HB; have HO693:=n0_; have BK686:=n1_; have HI689:=n2_; have HB:=n3_; have BK695:=n4_; have GW695:=n5_; have GE695:=n6_; have NB686_695:=n7_; have NB695_686:=n8_; have NB689_695:=n9_; have NB695_689:=n10_; clear n0_ n1_ n2_ n3_ n4_ n5_ n6_ n7_ n8_ n9_ n10_; clear hb hbox hg; have hnb12:=NB695_686.out; have hnc12:=NB686_695.out; have hnb13:=NB695_689.out; have hnc13:=NB689_695.out; have hcz14_0 : w11.cell? ⟨gb695,0,none⟩ = some (.int .i64 0):=(blk_cell BK695.out 0).trans rfl; have hcz14_1 : w11.cell? ⟨gb695,1,none⟩ = some (.slice none 0 0):=(blk_cell BK695.out 1).trans rfl; have hfz14_0:=blk_frozen BK695.out 0; have hfz14_1:=blk_frozen BK695.out 1; obtain ⟨Ao15,co15,eo15⟩:=Kd.R_slice HO693.out; subst eo15) | ((with_reducible refine gate_callee (f:=87) rfl ?_); refine goesL_ (some 18) rfl rfl Try.func87 (by kernel_rfl) rfl #[.pointer (some ⟨g689,0,none⟩),.agg #[.int .i64 t690,.slice Ao15 t691.length co15]] rfl (by (try simp only [List.map_toArray,List.map_cons,List.map_nil]); first | done | rfl | (simp only [List.length_drop,List.length_take]; rfl)) ?_; (with_reducible refine (spec_l30Node.calls k g689 t687 t694 t690 _ _ t691 t696 t697 w _ ?side1 ?side2 ?side3 ?side4 A4.out).mono ?_); (case side1 => repeat (first | (with_reducible first | exact HI689.out | apply IsS122.alloc | apply IsS122.drewN | apply IsS122.drew | apply IsS122.set_1 | refine IsS122.far ?_ NB689_686.out _ | refine IsS122.far ?_ NB689_695.out _) | exact HI689.out)); (case side2 => repeat (first | (with_reducible first | exact HB.out | apply below_alloc | apply pw_below_drewN | apply below_drew1 | refine below_set ?_ (IsS122.ge HI689.out) | refine below_set ?_ GE686.out | refine below_set ?_ GE695.out) | exact HB.out)); (case side3 => exact Kd.C_foot_own (IsS122.apart (show IsS122 w _ g689 t687 t694 from by repeat (first | (with_reducible first | exact HI689.out | apply IsS122.alloc | apply IsS122.drewN | apply IsS122.drew | apply IsS122.set_1 | refine IsS122.far ?_ NB689_686.out _ | refine IsS122.far ?_ NB689_695.out _) | exact HI689.out)) (by (with_reducible repeat (first | apply Kd.R_alloc | apply Kd.R_drewN | apply Kd.R_drew)); exact (Kd.R_mono (Kd.R_far (p:=⟨gb695,1,none⟩) (Kd.R_far (p:=⟨gb695,0,none⟩) (Kd.R_types HO693.out BK695.out (by decide)) (fun _ hk => hk.2) (.int .i64 t690)) (fun _ hk => hk.2) (.slice Ao15 t691.length co15)) (fun _ h_ => h_.1))) (by decide)) (fun _ h_ => h_.2)); (case side4 => exact (Kd.R_reads' HO693.out).2.1); rintro e w16 ⟨rfl,hi,hb,hk⟩; refine ⟨_,rfl,?_⟩; have n0_:=zx (KeepBut.blk hk (g':=gb686) (o:=.cells #[.int .i64 0,.slice none 0 0] 34 (0,0)) (by (with_reducible repeat (first | refine blk_drewN ?_ _ | refine blk_drew ?_ | refine blk_alloc ?_ _)); refine blk_far ?_ NB686_695.out _; (with_reducible repeat (first | refine blk_drewN ?_ _ | refine blk_drew ?_ | refine blk_alloc ?_ _)); refine blk_far ?_ NB686_695.out _; (with_reducible repeat (first | refine blk_drewN ?_ _ | refine blk_drew ?_ | refine blk_alloc ?_ _)); exact BK686.out) NB686_689.out (by simp)); have n1_:=zx (Kd.R_mono (Kd.R_keep (IsS122.apart (show IsS122 w _ g689 t687 t694 from by repeat (first | (with_reducible first | exact HI689.out | apply IsS122.alloc | apply IsS122.drewN | apply IsS122.drew | apply IsS122.set_1 | refine IsS122.far ?_ NB689_686.out _ | refine IsS122.far ?_ NB689_695.out _) | exact HI689.out)) (by (with_reducible repeat (first | apply Kd.R_alloc | apply Kd.R_drewN | apply Kd.R_drew)); exact (Kd.R_mono (Kd.R_far (p:=⟨gb695,1,none⟩) (Kd.R_far (p:=⟨gb695,0,none⟩) (Kd.R_types HO693.out BK695.out (by decide)) (fun _ hk => hk.2) (.int .i64 t690)) (fun _ hk => hk.2) (.slice Ao15 t691.length co15)) (fun _ h_ => h_.1))) (by decide)) hk (fun _ h => h.2)) (fun _ h => h.1)); have n2_:=zx (KeepBut.blk hk (g':=gb695) (o:=.cells #[.int .i64 t690,.slice Ao15 t691.length co15] 34 (0,0)) (by (with_reducible repeat (first | refine blk_drewN ?_ _ | refine blk_drew ?_ | refine blk_alloc ?_ _)); refine blk_put (cs:=#[.int .i64 t690,.slice none 0 0]) ?_ 1 _ rfl; (with_reducible repeat (first | refine blk_drewN ?_ _ | refine blk_drew ?_ | refine blk_alloc ?_ _)); refine blk_put (cs:=#[.int .i64 0,.slice none 0 0]) ?_ 0 _ rfl; (with_reducible repeat (first | refine blk_drewN ?_ _ | refine blk_drew ?_ | refine blk_alloc ?_ _)); exact BK695.out) NB695_689.out (by simp)); have n3_:=zx (hb); have n4_:=zx (hi); clear BK686; clear HO693; clear BK695; clear HB; clear HI689; have BK686:=n0_; have HO693:=n1_; have BK695:=n2_; have HB:=n3_; have HI689:=n4_; clear n0_ n1_ n2_ n3_ n4_; (try clear hb); (try clear hb2); (try clear hk); (try clear hi); have hcz17_0 : w16.cell? ⟨gb695,0,none⟩ = some (.int .i64 t690):=(blk_cell BK695.out 0).trans rfl; have hcz17_1 : w16.cell? ⟨gb695,1,none⟩ = some (.slice Ao15 t691.length co15):=(blk_cell BK695.out 1).trans rfl; have hfz17_0:=blk_frozen BK695.out 0; have hfz17_1:=blk_frozen BK695.out 1) | ((with_reducible refine gate_callee (f:=87) rfl ?_); refine goesL_ (some 21) rfl rfl Try.func87 (by kernel_rfl) rfl #[.pointer (some ⟨g689,0,none⟩),.agg #[.int .i64 t690,.slice Ao15 t691.length co15]] rfl (by (try simp only [List.map_toArray,List.map_cons,List.map_nil]); first | done | rfl | (simp only [List.length_drop,List.length_take]; rfl)) ?_; (with_reducible refine (spec_l30Node.calls k g689 t687 t697 t690 _ _ t691 t698 t699 w _ ?side1 ?side2 ?side3 ?side4 A5.out).mono ?_); (case side1 => repeat (first | (with_reducible first | exact HI689.out | apply IsS122.alloc | apply IsS122.drewN | apply IsS122.drew | apply IsS122.set_1 | refine IsS122.far ?_ NB689_686.out _ | refine IsS122.far ?_ NB689_695.out _) | exact HI689.out)); (case side2 => repeat (first | (with_reducible first | exact HB.out | apply below_alloc | apply pw_below_drewN | apply below_drew1 | refine below_set ?_ (IsS122.ge HI689.out) | refine below_set ?_ GE686.out | refine below_set ?_ GE695.out) | exact HB.out)); (case side3 => exact Kd.C_foot_own (IsS122.apart (show IsS122 w _ g689 t687 t697 from by repeat (first | (with_reducible first | exact HI689.out | apply IsS122.alloc | apply IsS122.drewN | apply IsS122.drew | apply IsS122.set_1 | refine IsS122.far ?_ NB689_686.out _ | refine IsS122.far ?_ NB689_695.out _) | exact HI689.out)) (by (with_reducible repeat (first | apply Kd.R_alloc | apply Kd.R_drewN | apply Kd.R_drew)); exact HO693.out) (by decide)) (fun _ h_ => h_.2)); (case side4 => exact (Kd.R_reads' HO693.out).2.1); rintro e w18 ⟨rfl,hi,hb,hk⟩; refine ⟨_,rfl,?_⟩; have n0_:=zx (KeepBut.blk hk (g':=gb686) (o:=.cells #[.int .i64 0,.slice none 0 0] 34 (0,0)) (by (with_reducible repeat (first | refine blk_drewN ?_ _ | refine blk_drew ?_ | refine blk_alloc ?_ _)); exact BK686.out) NB686_689.out (by simp)); have n1_:=zx (Kd.R_mono (Kd.R_keep (IsS122.apart (show IsS122 w _ g689 t687 t697 from by repeat (first | (with_reducible first | exact HI689.out | apply IsS122.alloc | apply IsS122.drewN | apply IsS122.drew | apply IsS122.set_1 | refine IsS122.far ?_ NB689_686.out _ | refine IsS122.far ?_ NB689_695.out _) | exact HI689.out)) (by (with_reducible repeat (first | apply Kd.R_alloc | apply Kd.R_drewN | apply Kd.R_drew)); exact HO693.out) (by decide)) hk (fun _ h => h.2)) (fun _ h => h.1)); have n2_:=zx (KeepBut.blk hk (g':=gb695) (o:=.cells #[.int .i64 t690,.slice Ao15 t691.length co15] 34 (0,0)) (by (with_reducible repeat (first | refine blk_drewN ?_ _ | refine blk_drew ?_ | refine blk_alloc ?_ _)); exact BK695.out) NB695_689.out (by simp)); have n3_:=zx (hb); have n4_:=zx (hi); clear BK686; clear HO693; clear BK695; clear HB; clear HI689; have BK686:=n0_; have HO693:=n1_; have BK695:=n2_; have HB:=n3_; have HI689:=n4_; clear n0_ n1_ n2_ n3_ n4_; (try clear hb); (try clear hb2); (try clear hk); (try clear hi); have hcz19_0 : w18.cell? ⟨gb695,0,none⟩ = some (.int .i64 t690):=(blk_cell BK695.out 0).trans rfl; have hcz19_1 : w18.cell? ⟨gb695,1,none⟩ = some (.slice Ao15 t691.length co15):=(blk_cell BK695.out 1).trans rfl; have hfz19_0:=blk_frozen BK695.out 0; have hfz19_1:=blk_frozen BK695.out 1) | ((with_reducible refine gate_callee (f:=40) rfl ?_); refine goesL_ (some 25) rfl rfl Try.func40 (by kernel_rfl) rfl #[.agg #[.int .i64 t690,.slice Ao15 t691.length co15],.int .i64 t696,.int .i64 t698] rfl (by (try simp only [List.map_toArray,List.map_cons,List.map_nil]); first | done | rfl | (simp only [List.length_drop,List.length_take]; rfl)) ?_; (with_reducible refine (spec_FlowOf.calls k t690 _ _ t691 t696 t698 t700 _ ?side1 ?side2 A6.out).mono ?_); (case side1 => repeat (first | exact (Kd.R_reads' HO693.out).2.2 | (with_reducible refine Kd.C_alloc ?_ _) | (with_reducible refine Kd.C_drewN ?_ _) | (with_reducible refine Kd.C_drew ?_))); (case side2 => exact (Kd.R_reads' HO693.out).2.1); rintro e w20 ⟨v701,rfl,ho0,hb⟩; refine ⟨_,rfl,?_⟩; have n0_:=zx (Kd.R_below (by (with_reducible repeat (first | apply Kd.R_alloc | apply Kd.R_drewN | apply Kd.R_drew)); exact HO693.out) hb); have n1_:=zx (Kd.R_lower ho0 (below_size (by repeat (first | (with_reducible first | exact HB.out | apply below_alloc | apply pw_below_drewN | apply below_drew1 | refine below_set ?_ (IsS122.ge HI689.out) | refine below_set ?_ GE686.out | refine below_set ?_ GE695.out) | exact HB.out)))); have n2_:=zx (blk_below (g:=gb686) (o:=.cells #[.int .i64 0,.slice none 0 0] 34 (0,0)) (by (with_reducible repeat (first | refine blk_drewN ?_ _ | refine blk_drew ?_ | refine blk_alloc ?_ _)); exact BK686.out) hb); have n3_:=zx (IsS122.below (by repeat (first | (with_reducible first | exact HI689.out | apply IsS122.alloc | apply IsS122.drewN | apply IsS122.drew | apply IsS122.set_1 | refine IsS122.far ?_ NB689_686.out _ | refine IsS122.far ?_ NB689_695.out _) | exact HI689.out)) hb); have n4_:=zx (blk_below (g:=gb695) (o:=.cells #[.int .i64 t690,.slice Ao15 t691.length co15] 34 (0,0)) (by (with_reducible repeat (first | refine blk_drewN ?_ _ | refine blk_drew ?_ | refine blk_alloc ?_ _)); exact BK695.out) hb); have n5_:=zx (below_step (by repeat (first | (with_reducible first | exact HB.out | apply below_alloc | apply pw_below_drewN | apply below_drew1 | refine below_set ?_ (IsS122.ge HI689.out) | refine below_set ?_ GE686.out | refine below_set ?_ GE695.out) | exact HB.out)) hb); clear HO693; clear BK686; clear HI689; clear BK695; clear HB; have HO693:=n0_; have HO702:=n1_; have BK686:=n2_; have HI689:=n3_; have BK695:=n4_; have HB:=n5_; clear n0_ n1_ n2_ n3_ n4_ n5_; (try clear hb); (try clear hb2); (try clear hk); (try clear hi); (try clear ho0)))
 (try simp only [Act.put,U,V,Z])
 go_cut [33] (fun v33 wc => ∃ (kq : Nat) (x33_6 : Bool) (x690001_6 : Int),v33 = .bool x33_6 ∧ Aside0 (spec_DrawFlowValue.j0 kq t696 t698 t700 x33_6 t687 x690001_6 t690 t691 = some (r1,r2,r3,r4,r5)) ∧ Aside0 (kq ≤ k) ∧ Aside0 (Kd.R (Kd.int .i64) 3 wc w.heap.size (fun _ => True) v701 t700) ∧ Aside0 (Kd.R k58 58 wc w.heap.size (fun _ => True) (.slice Ao15 t691.length co15) t691) ∧ Aside0 (wc.heap[gb686]? = some (.cells #[.int .i64 0,(.slice none 0 0)] 34 (0,0))) ∧ Aside0 (wc.heap[gb695]? = some (.cells #[.int .i64 t690,(.slice Ao15 t691.length co15)] 34 (0,0))) ∧ Aside0 (IsS122 w wc g689 t687 x690001_6) ∧ Aside0 (Below w.heap.size w wc))
 case first =>
  have H:=HC7.out;clear HC7
  by_cases c21 : (t700.length : Int) > 0
  case neg =>
   rw [if_neg c21] at H;have c21b0 : decide (0 < (t700.length : Int)) = false:=decide_eq_false c21;have c21b1 : decide (0 < t700.length) = false:=decide_eq_false (by omega);clear c21
   (first | rw [c21b0] | (simp only [i64_w,i32_w]; rw [c21b0]) | skip)
   have H':=zx H;clear H;obtain ⟨Ao25,co25,eo25⟩:=Kd.R_slice HO702.out;subst eo25
   go_wp2
   go_meet
   case rel => exact ⟨_,(false),(t699),(by first | rfl | (simp; done) | (simp [*]; done)),H',⟨by first | omega | exact Nat.le_refl _⟩,⟨by (with_reducible repeat (first | apply Kd.R_alloc | apply Kd.R_drewN | apply Kd.R_drew)); exact HO702.out⟩,⟨by (with_reducible repeat (first | apply Kd.R_alloc | apply Kd.R_drewN | apply Kd.R_drew)); exact HO693.out⟩,⟨by (with_reducible repeat (first | refine blk_drewN ?_ _ | refine blk_drew ?_ | refine blk_alloc ?_ _)); exact BK686.out⟩,⟨by (with_reducible repeat (first | refine blk_drewN ?_ _ | refine blk_drew ?_ | refine blk_alloc ?_ _)); exact BK695.out⟩,⟨by repeat (first | (with_reducible first | exact HI689.out | apply IsS122.alloc | apply IsS122.drewN | apply IsS122.drew | apply IsS122.set_1 | refine IsS122.far ?_ NB689_686.out _ | refine IsS122.far ?_ NB689_695.out _) | exact HI689.out)⟩,⟨by repeat (first | (with_reducible first | exact HB.out | apply below_alloc | apply pw_below_drewN | apply below_drew1 | refine below_set ?_ (IsS122.ge HI689.out) | refine below_set ?_ GE686.out | refine below_set ?_ GE695.out) | exact HB.out)⟩⟩
  rw [if_pos c21] at H;have c21b0 : decide (0 < (t700.length : Int)) = true:=decide_eq_true c21;have c21b1 : decide (0 < t700.length) = true:=decide_eq_true (by omega);clear c21
  (first | rw [c21b0] | (simp only [i64_w,i32_w]; rw [c21b0]) | skip)
  replace H:=Option.bind_eq_some_iff.mp H;obtain ⟨⟨t703,t704⟩,A220,H⟩:=H;replace H : (spec_DrawFlowValue.j0 k t696 t698 t700 (t703 == 0) t687 t704 t690 t691) = some (r1,r2,r3,r4,r5):=H;have A22:=zx A220;clear A220;have H':=zx H;clear H;obtain ⟨Ao23,co23,eo23⟩:=Kd.R_slice HO702.out;subst eo23
  go_wp2_with (first | (go_at_call 64; (with_reducible refine (spec_l30Rd_pick.calls k g689 t687 t699 3 t703 t704 w _ ?side1 ?side2 A22.out).mono ?_); (case side1 => repeat (first | (with_reducible first | exact HI689.out | apply IsS122.alloc | apply IsS122.drewN | apply IsS122.drew | apply IsS122.set_1 | refine IsS122.far ?_ NB689_686.out _ | refine IsS122.far ?_ NB689_695.out _) | exact HI689.out)); (case side2 => repeat (first | (with_reducible first | exact HB.out | apply below_alloc | apply pw_below_drewN | apply below_drew1 | refine below_set ?_ (IsS122.ge HI689.out) | refine below_set ?_ GE686.out | refine below_set ?_ GE695.out) | exact HB.out)); rintro e w24 ⟨rfl,hi,hb,hk⟩; have n0_:=zx (KeepBut.blk hk (g':=gb686) (o:=.cells #[.int .i64 0,.slice none 0 0] 34 (0,0)) (by (with_reducible repeat (first | refine blk_drewN ?_ _ | refine blk_drew ?_ | refine blk_alloc ?_ _)); exact BK686.out) NB686_689.out (by simp)); have n1_:=zx (Kd.R_mono (Kd.R_keep (IsS122.apart (show IsS122 w _ g689 t687 t699 from by repeat (first | (with_reducible first | exact HI689.out | apply IsS122.alloc | apply IsS122.drewN | apply IsS122.drew | apply IsS122.set_1 | refine IsS122.far ?_ NB689_686.out _ | refine IsS122.far ?_ NB689_695.out _) | exact HI689.out)) (by (with_reducible repeat (first | apply Kd.R_alloc | apply Kd.R_drewN | apply Kd.R_drew)); exact HO693.out) (by decide)) hk (fun _ h => h.2)) (fun _ h => h.1)); have n2_:=zx (KeepBut.blk hk (g':=gb695) (o:=.cells #[.int .i64 t690,.slice Ao15 t691.length co15] 34 (0,0)) (by (with_reducible repeat (first | refine blk_drewN ?_ _ | refine blk_drew ?_ | refine blk_alloc ?_ _)); exact BK695.out) NB695_689.out (by simp)); have n3_:=zx (Kd.R_mono (Kd.R_keep (IsS122.apart (show IsS122 w _ g689 t687 t699 from by repeat (first | (with_reducible first | exact HI689.out | apply IsS122.alloc | apply IsS122.drewN | apply IsS122.drew | apply IsS122.set_1 | refine IsS122.far ?_ NB689_686.out _ | refine IsS122.far ?_ NB689_695.out _) | exact HI689.out)) (by (with_reducible repeat (first | apply Kd.R_alloc | apply Kd.R_drewN | apply Kd.R_drew)); exact HO702.out) (by decide)) hk (fun _ h => h.2)) (fun _ h => h.1)); have n4_:=zx (hb); have n5_:=zx (hi); clear BK686; clear HO693; clear BK695; clear HO702; clear HB; clear HI689; have BK686:=n0_; have HO693:=n1_; have BK695:=n2_; have HO702:=n3_; have HB:=n4_; have HI689:=n5_; clear n0_ n1_ n2_ n3_ n4_ n5_; (try clear hb); (try clear hb2); (try clear hk); (try clear hi)))
  go_meet
  case rel => exact ⟨_,((t703 == 0)),(t704),(by first | rfl | (simp; done) | (simp [*]; done)),H',⟨by first | omega | exact Nat.le_refl _⟩,⟨by (with_reducible repeat (first | apply Kd.R_alloc | apply Kd.R_drewN | apply Kd.R_drew)); exact HO702.out⟩,⟨by (with_reducible repeat (first | apply Kd.R_alloc | apply Kd.R_drewN | apply Kd.R_drew)); exact HO693.out⟩,⟨by (with_reducible repeat (first | refine blk_drewN ?_ _ | refine blk_drew ?_ | refine blk_alloc ?_ _)); exact BK686.out⟩,⟨by (with_reducible repeat (first | refine blk_drewN ?_ _ | refine blk_drew ?_ | refine blk_alloc ?_ _)); exact BK695.out⟩,⟨by repeat (first | (with_reducible first | exact HI689.out | apply IsS122.alloc | apply IsS122.drewN | apply IsS122.drew | apply IsS122.set_1 | refine IsS122.far ?_ NB689_686.out _ | refine IsS122.far ?_ NB689_695.out _) | exact HI689.out)⟩,⟨by repeat (first | (with_reducible first | exact HB.out | apply below_alloc | apply pw_below_drewN | apply below_drew1 | refine below_set ?_ (IsS122.ge HI689.out) | refine below_set ?_ GE686.out | refine below_set ?_ GE695.out) | exact HB.out)⟩⟩
 case rest =>
  clear HC7
  try clear c1
  try clear c2
  try clear p2
  try clear c3
  try clear c4
  try clear c6
  try clear c7
  try clear c8
  try clear c12
  try clear c13
  try clear c21
  try clear c21b0
  try clear c21b1
  try clear hcz14_0
  try clear hcz14_1
  try clear hcz17_0
  try clear hcz17_1
  try clear hcz19_0
  try clear hcz19_1
  try clear hfz14_0
  try clear hfz14_1
  try clear hfz17_0
  try clear hfz17_1
  try clear hfz19_0
  try clear hfz19_1
  obtain ⟨kq,x33_6,x690001_6,rfl,HA,HJ6,HO_10,HO_696001,BK686,BK695,HI689,HB⟩:=hcut;cases kq with
  | zero => exact absurd HA.out (by simp [spec_DrawFlowValue.j0])
  | succ kj6 =>
   have H:=HA.out;clear HA;simp only [spec_DrawFlowValue.j0] at H
   by_cases c26 : x33_6 = true
   case neg =>
    replace c26:=Bool.eq_false_iff.mpr c26;subst c26;have H1 : ((spec_l30Rd_pick.f kj6 t687 x690001_6 14).bind fun bt719 => (if bt719.1 = 0 then (if t700.length < 17592186044416 then (some (t690,t691,(t700 ++ [0]),t696,t698)) else (none)) else (some (t690,t691,t700,t696,t698)))) = some (r1,r2,r3,r4,r5):=by rw [if_neg (show ¬ (false = true) by decide)] at H; exact H
    clear H;have H:=H1;clear H1;replace H:=Option.bind_eq_some_iff.mp H;obtain ⟨⟨t719,t720⟩,A640,H⟩:=H;replace H : (if t719 = 0 then (if t700.length < 17592186044416 then (some (t690,t691,(t700 ++ [0]),t696,t698)) else (none)) else (some (t690,t691,t700,t696,t698))) = some (r1,r2,r3,r4,r5):=H;have A64:=zx A640;clear A640
    by_cases c65 : t719 = 0
    case neg =>
     rw [if_neg c65] at H;have c65b0 : (t719 == 0) = false:=beq_eq_false_iff_ne.mpr c65;have c65b1 : (t719 != 0) = true:=bne_iff_ne.mpr c65;simp only [Option.some.injEq,Prod.mk.injEq] at H;obtain ⟨rfl,rfl,rfl,rfl,rfl⟩:=H
     go_wp2_with (first | ((with_reducible refine gate_callee (f:=64) rfl ?_); refine goesL_ (some 50) rfl rfl Try.func64 (by kernel_rfl) rfl #[.pointer (some ⟨g689,0,none⟩),.int .i64 14] rfl (by (try simp only [List.map_toArray,List.map_cons,List.map_nil]); first | done | rfl | (simp only [List.length_drop,List.length_take]; rfl)) ?_; (with_reducible refine (spec_l30Rd_pick.calls kj6 g689 t687 x690001_6 14 t719 t720 w _ ?side1 ?side2 A64.out).mono ?_); (case side1 => repeat (first | (with_reducible first | exact HI689.out | apply IsS122.alloc | apply IsS122.drewN | apply IsS122.drew | apply IsS122.set_1 | refine IsS122.far ?_ NB689_686.out _ | refine IsS122.far ?_ NB689_695.out _) | exact HI689.out)); (case side2 => repeat (first | (with_reducible first | exact HB.out | apply below_alloc | apply pw_below_drewN | apply below_drew1 | refine below_set ?_ (IsS122.ge HI689.out) | refine below_set ?_ GE686.out | refine below_set ?_ GE695.out) | exact HB.out)); rintro e w72 ⟨rfl,hi,hb,hk⟩; refine ⟨_,rfl,?_⟩; have n0_:=zx (Kd.R_mono (Kd.R_keep (IsS122.apart (show IsS122 w _ g689 t687 x690001_6 from by repeat (first | (with_reducible first | exact HI689.out | apply IsS122.alloc | apply IsS122.drewN | apply IsS122.drew | apply IsS122.set_1 | refine IsS122.far ?_ NB689_686.out _ | refine IsS122.far ?_ NB689_695.out _) | exact HI689.out)) (by (with_reducible repeat (first | apply Kd.R_alloc | apply Kd.R_drewN | apply Kd.R_drew)); exact HO_10.out) (by decide)) hk (fun _ h => h.2)) (fun _ h => h.1)); have n1_:=zx (Kd.R_mono (Kd.R_keep (IsS122.apart (show IsS122 w _ g689 t687 x690001_6 from by repeat (first | (with_reducible first | exact HI689.out | apply IsS122.alloc | apply IsS122.drewN | apply IsS122.drew | apply IsS122.set_1 | refine IsS122.far ?_ NB689_686.out _ | refine IsS122.far ?_ NB689_695.out _) | exact HI689.out)) (by (with_reducible repeat (first | apply Kd.R_alloc | apply Kd.R_drewN | apply Kd.R_drew)); exact HO_696001.out) (by decide)) hk (fun _ h => h.2)) (fun _ h => h.1)); have n2_:=zx (KeepBut.blk hk (g':=gb686) (o:=.cells #[.int .i64 0,.slice none 0 0] 34 (0,0)) (by (with_reducible repeat (first | refine blk_drewN ?_ _ | refine blk_drew ?_ | refine blk_alloc ?_ _)); exact BK686.out) NB686_689.out (by simp)); have n3_:=zx (KeepBut.blk hk (g':=gb695) (o:=.cells #[.int .i64 t690,.slice Ao15 t691.length co15] 34 (0,0)) (by (with_reducible repeat (first | refine blk_drewN ?_ _ | refine blk_drew ?_ | refine blk_alloc ?_ _)); exact BK695.out) NB695_689.out (by simp)); have n4_:=zx (hb); have n5_:=zx (hi); clear HO_10; clear HO_696001; clear BK686; clear BK695; clear HB; clear HI689; have HO_10:=n0_; have HO_696001:=n1_; have BK686:=n2_; have BK695:=n3_; have HB:=n4_; have HI689:=n5_; clear n0_ n1_ n2_ n3_ n4_ n5_; (try clear hb); (try clear hb2); (try clear hk); (try clear hi); have hnb73:=NB695_686.out; have hnc73:=NB686_695.out; have hnb74:=NB695_689.out; have hnc74:=NB689_695.out; have hcz75_0 : w72.cell? ⟨gb695,0,none⟩ = some (.int .i64 t690):=(blk_cell BK695.out 0).trans rfl; have hcz75_1 : w72.cell? ⟨gb695,1,none⟩ = some (.slice Ao15 t691.length co15):=(blk_cell BK695.out 1).trans rfl; have hfz75_0:=blk_frozen BK695.out 0; have hfz75_1:=blk_frozen BK695.out 1; have hnb76:=NB686_689.out; have hnc76:=NB689_686.out; have hcz77_0 : w72.cell? ⟨gb686,0,none⟩ = some (.int .i64 0):=(blk_cell BK686.out 0).trans rfl; have hcz77_1 : w72.cell? ⟨gb686,1,none⟩ = some (.slice none 0 0):=(blk_cell BK686.out 1).trans rfl; have hfz77_0:=blk_frozen BK686.out 0; have hfz77_1:=blk_frozen BK686.out 1))
     refine bodyPost_ret (results_list (rs:=[.cell 2 34,.tmp 3,.tmp 4,.tmp 5]) rfl (by simp) (.cell gb686 34 #[.int .i64 t690,.slice Ao15 t691.length co15] (0,0) _ rfl (by (with_reducible repeat (first | refine blk_drewN ?_ _ | refine blk_drew ?_ | refine blk_alloc ?_ _)); refine blk_put (cs:=#[.int .i64 t690,.slice none 0 0]) ?_ 1 _ rfl; (with_reducible repeat (first | refine blk_drewN ?_ _ | refine blk_drew ?_ | refine blk_alloc ?_ _)); refine blk_put (cs:=#[.int .i64 0,.slice none 0 0]) ?_ 0 _ rfl; (with_reducible repeat (first | refine blk_drewN ?_ _ | refine blk_drew ?_ | refine blk_alloc ?_ _)); exact BK686.out) Try.underlying34 rfl (by kernel_rfl) (.tmp (.tmp (.tmp .nil))))) rfl ?_;exact ⟨_,_,by first | rfl | (simp [errW_none,errW_some] <;> rfl) | (simp [*,errW_none,errW_some] <;> rfl),by (with_reducible repeat (first | apply Kd.R_alloc | apply Kd.R_drewN | apply Kd.R_drew)); exact Kd.R_mono (Kd.R_far (p:=⟨gb686,1,none⟩) (Kd.R_far (p:=⟨gb686,0,none⟩) (Kd.R_types HO_696001.out BK686.out (by decide)) (fun _ hk => hk.2) (.int .i64 t690)) (fun _ hk => hk.2) (.slice Ao15 t691.length co15)) (fun _ hk => trivial),by (with_reducible repeat (first | apply Kd.R_alloc | apply Kd.R_drewN | apply Kd.R_drew)); exact Kd.R_mono (Kd.R_far (p:=⟨gb686,1,none⟩) (Kd.R_far (p:=⟨gb686,0,none⟩) (Kd.R_types HO_10.out BK686.out (by decide)) (fun _ hk => hk.2) (.int .i64 t690)) (fun _ hk => hk.2) (.slice Ao15 t691.length co15)) (fun _ hk => trivial),by repeat (first | (with_reducible first | exact HB.out | apply below_alloc | apply pw_below_drewN | apply below_drew1 | refine below_set ?_ (IsS122.ge HI689.out) | refine below_set ?_ GE686.out | refine below_set ?_ GE695.out) | exact HB.out)⟩
    rw [if_pos c65] at H;have c65b0 : (t719 == 0) = true:=beq_iff_eq.mpr c65;have c65b1 : (t719 != 0) = false:=bne_eq_false_iff_eq.mpr c65;clear c65
    by_cases c66 : t700.length < 17592186044416
    case neg =>
     rw [if_neg c66] at H;exact absurd H (by simp)
    rw [if_pos c66] at H;have LMc66:=zx c66;clear c66;obtain ⟨y721,hy721⟩ : ∃ y_ : List Int,y_ = (t700 ++ [0]):=⟨_,rfl⟩
    replace H : (some (t690,t691,y721,t696,t698)) = some (r1,r2,r3,r4,r5):=by first | (rw [hy721]; with_reducible exact H) | (have H2_:=(Option.bind_some _ _).symm.trans H; rw [hy721]; with_reducible exact H2_) | (have H2_:=(Option.bind_some _ _).symm.trans H; with_reducible exact H2_) | with_reducible exact H | (rw [hy721]; exact H) | exact H
    have Ny721:=zx hy721;clear hy721;simp only [Option.some.injEq,Prod.mk.injEq] at H;obtain ⟨rfl,rfl,rfl,rfl,rfl⟩:=H
    try go_wp2_with (first | ((with_reducible refine gate_callee (f:=64) rfl ?_); refine goesL_ (some 50) rfl rfl Try.func64 (by kernel_rfl) rfl #[.pointer (some ⟨g689,0,none⟩),.int .i64 14] rfl (by (try simp only [List.map_toArray,List.map_cons,List.map_nil]); first | done | rfl | (simp only [List.length_drop,List.length_take]; rfl)) ?_; (with_reducible refine (spec_l30Rd_pick.calls kj6 g689 t687 x690001_6 14 t719 t720 w _ ?side1 ?side2 A64.out).mono ?_); (case side1 => repeat (first | (with_reducible first | exact HI689.out | apply IsS122.alloc | apply IsS122.drewN | apply IsS122.drew | apply IsS122.set_1 | refine IsS122.far ?_ NB689_686.out _ | refine IsS122.far ?_ NB689_695.out _) | exact HI689.out)); (case side2 => repeat (first | (with_reducible first | exact HB.out | apply below_alloc | apply pw_below_drewN | apply below_drew1 | refine below_set ?_ (IsS122.ge HI689.out) | refine below_set ?_ GE686.out | refine below_set ?_ GE695.out) | exact HB.out)); rintro e w67 ⟨rfl,hi,hb,hk⟩; refine ⟨_,rfl,?_⟩; have n0_:=zx (Kd.R_mono (Kd.R_keep (IsS122.apart (show IsS122 w _ g689 t687 x690001_6 from by repeat (first | (with_reducible first | exact HI689.out | apply IsS122.alloc | apply IsS122.drewN | apply IsS122.drew | apply IsS122.set_1 | refine IsS122.far ?_ NB689_686.out _ | refine IsS122.far ?_ NB689_695.out _) | exact HI689.out)) (by (with_reducible repeat (first | apply Kd.R_alloc | apply Kd.R_drewN | apply Kd.R_drew)); exact HO_10.out) (by decide)) hk (fun _ h => h.2)) (fun _ h => h.1)); have n1_:=zx (Kd.R_mono (Kd.R_keep (IsS122.apart (show IsS122 w _ g689 t687 x690001_6 from by repeat (first | (with_reducible first | exact HI689.out | apply IsS122.alloc | apply IsS122.drewN | apply IsS122.drew | apply IsS122.set_1 | refine IsS122.far ?_ NB689_686.out _ | refine IsS122.far ?_ NB689_695.out _) | exact HI689.out)) (by (with_reducible repeat (first | apply Kd.R_alloc | apply Kd.R_drewN | apply Kd.R_drew)); exact HO_696001.out) (by decide)) hk (fun _ h => h.2)) (fun _ h => h.1)); have n2_:=zx (KeepBut.blk hk (g':=gb686) (o:=.cells #[.int .i64 0,.slice none 0 0] 34 (0,0)) (by (with_reducible repeat (first | refine blk_drewN ?_ _ | refine blk_drew ?_ | refine blk_alloc ?_ _)); exact BK686.out) NB686_689.out (by simp)); have n3_:=zx (KeepBut.blk hk (g':=gb695) (o:=.cells #[.int .i64 t690,.slice Ao15 t691.length co15] 34 (0,0)) (by (with_reducible repeat (first | refine blk_drewN ?_ _ | refine blk_drew ?_ | refine blk_alloc ?_ _)); exact BK695.out) NB695_689.out (by simp)); have n4_:=zx (hb); have n5_:=zx (hi); clear HO_10; clear HO_696001; clear BK686; clear BK695; clear HB; clear HI689; have HO_10:=n0_; have HO_696001:=n1_; have BK686:=n2_; have BK695:=n3_; have HB:=n4_; have HI689:=n5_; clear n0_ n1_ n2_ n3_ n4_ n5_; (try clear hb); (try clear hb2); (try clear hk); (try clear hi)))
    have n0_:=zx (Kd.R_drew HO_10.out);have n1_:=zx (Kd.R_drew HO_696001.out);have n2_:=zx (blk_drew BK686.out);have n3_:=zx (blk_drew BK695.out);have n4_:=zx (IsS122.drew HI689.out);have n5_:=zx (below_drew1 HB.out);clear HO_10;clear HO_696001;clear BK686;clear BK695;clear HI689;clear HB;have HO_10:=n0_;have HO_696001:=n1_;have BK686:=n2_;have BK695:=n3_;have HI689:=n4_;have HB:=n5_;clear n0_ n1_ n2_ n3_ n4_ n5_;refine start_ (n:=10) (S:=fun w' => w'.cell? ⟨gb695,0,none⟩ = some (.int .i64 t690) ∧ w'.cell? ⟨gb695,1,none⟩ = some (.slice Ao15 t691.length co15)) (ds:=[]) #[false,false,false,false,false,false,false,false,false,false] (by kernel_rfl) rfl rfl ⟨(blk_cell BK695.out 0).trans rfl,(blk_cell BK695.out 1).trans rfl⟩ (fun hHeld => ?_); refine with_tabW spec_DrawFlowValue.tab10 spec_DrawFlowValue.bits10 (fun HT_ HW_ => ?_);generalize w67.drew = w68 at HO_10 HO_696001 BK686 BK695 HI689 HB hHeld ⊢;refine pure_ (i:=1) (N:=some 53) (v:=?_) (a':=?_) #[false,true,false,false,false,false,false,false,false,false] rfl rfl (any_of HT_.out (by kernel_rfl)) (fun _ _ _ h => h) (Or.inl ⟨by rfl,?_⟩) ?_ ?_;rotate_left
    ·intro w';go_simp;with_reducible rfl
    rotate_left
    ·simp only [Act.put,U,V,Z,i64_w,i32_w];rfl
    refine pure_ (i:=4) (N:=some 56) (v:=?_) (a':=?_) #[false,true,false,false,true,false,false,false,false,false] rfl rfl (any_of HT_.out (by kernel_rfl)) (fun _ _ _ h => h) (Or.inl ⟨by rfl,?_⟩) ?_ ?_;rotate_left
    ·intro w';go_simp;with_reducible rfl
    rotate_left
    ·simp only [Act.put,U,V,Z,i64_w,i32_w];rfl
    refine pure_ (i:=5) (N:=some 57) (v:=?_) (a':=?_) #[false,true,false,false,true,true,false,false,false,false] rfl rfl (any_of HT_.out (by kernel_rfl)) (fun _ _ _ h => h) (Or.inl ⟨by rfl,?_⟩) ?_ ?_;rotate_left
    ·intro w';go_simp;with_reducible rfl
    rotate_left
    ·simp only [Act.put,U,V,Z,i64_w,i32_w];rfl
    refine take_ (i:=0) (N:=some 52) (v:=?_) (a':=?_) #[true,true,false,false,true,true,false,false,false,false] rfl rfl (take_ofW HT_.out HW_.out (by kernel_rfl)) (fun _ _ _ h => h) (Or.inl ⟨by rfl,?_⟩) hHeld ?_ ?_;rotate_left
    ·rintro w' ⟨s0,s1⟩;go_simp;with_reducible rfl
    rotate_left
    ·simp only [Act.put,U,V,Z,i64_w,i32_w];rfl
    refine one_ (i:=2) (N:=some 54) #[true,true,true,false,true,true,false,false,false,false] rfl rfl (one_of HT_.out (by kernel_rfl)) (by decide) (fun K hK => ?_);refine value_ (w1:=?_) (v:=?_) (by rfl) rfl ?_ ?_;rotate_left 2
    ·go_simp;constructor
     ·rfl
     ·rfl
    refine hK.out _ _ ⟨(blk_cell (blk_alloc BK695.out _) 0).trans rfl,(blk_cell (blk_alloc BK695.out _) 1).trans rfl⟩ (fun hHeld => ?_);clear hK K;refine norm_ (a':=?_) ?_ ?_;rotate_left
    ·show Act.put _ (some 54) _ = _
     simp only [Act.put,U,V,Z,i64_w,i32_w];rfl
    refine one_ (i:=3) (N:=some 55) #[true,true,true,true,true,true,false,false,false,false] rfl rfl (one_of HT_.out (by kernel_rfl)) (by decide) (fun K hK => ?_);refine Kd.R_append_step (Kd.int .i64) (w0:=w) w.heap.size (by rfl) (.tmp 53) (.tmp 54) 23 3 (.int .i64 0) 8 rfl Try.underlying23 info3 rfl (by decide) (by omega) v701 t700 0 [.int .i64 0] (fun _ => True) (fun _ => False) rfl rfl ?aP (fun _ hk => hk.elim) ?aF ?aO ?aB ?aS ?aL ?_
    (case aP => exact rfl)
    (case aB => exact (by repeat (first | (with_reducible first | exact HB.out | apply below_alloc | apply pw_below_drewN | apply below_drew1 | refine below_set ?_ (IsS122.ge HI689.out) | refine below_set ?_ GE686.out | refine below_set ?_ GE695.out) | exact HB.out)))
    (case aF => exact (fun _ _ => trivial))
    (case aO => exact (by (with_reducible repeat (first | apply Kd.R_alloc | apply Kd.R_drewN | apply Kd.R_drew)); exact HO_10.out))
    (case aS => exact (below_size (by repeat (first | (with_reducible first | exact HB.out | apply below_alloc | apply pw_below_drewN | apply below_drew1 | refine below_set ?_ (IsS122.ge HI689.out) | refine below_set ?_ GE686.out | refine below_set ?_ GE695.out) | exact HB.out))))
    (case aL => have:=LMc66.out; omega)
    intro v722 w69 ho hb hg hat;rw [← Ny721.out] at ho;have n0_:=zx (Kd.R_over' (by (with_reducible repeat (first | apply Kd.R_alloc | apply Kd.R_drewN | apply Kd.R_drew)); exact HO_696001.out) (Kd.R_typed (by (with_reducible repeat (first | apply Kd.R_alloc | apply Kd.R_drewN | apply Kd.R_drew)); exact HO_10.out)) (by decide) hg);have n1_:=zx (blk_grown (g:=gb686) (o:=.cells #[.int .i64 0,.slice none 0 0] 34 (0,0)) (by (with_reducible repeat (first | refine blk_drewN ?_ _ | refine blk_drew ?_ | refine blk_alloc ?_ _)); exact BK686.out) hg (Kd.R_ne HO_10.out BK686.out (by decide)));have n2_:=zx (blk_grown (g:=gb695) (o:=.cells #[.int .i64 t690,.slice Ao15 t691.length co15] 34 (0,0)) (by (with_reducible repeat (first | refine blk_drewN ?_ _ | refine blk_drew ?_ | refine blk_alloc ?_ _)); exact BK695.out) hg (Kd.R_ne HO_10.out BK695.out (by decide)));have n3_:=zx (IsS122.grown2 HI689.out (by repeat (first | (with_reducible first | exact HI689.out | apply IsS122.alloc | apply IsS122.drewN | apply IsS122.drew | apply IsS122.set_1 | refine IsS122.far ?_ NB689_686.out _ | refine IsS122.far ?_ NB689_695.out _) | exact HI689.out)) hg (IsS122.own_ne HI689.out HO_10.out (by decide)));have n4_:=zx (hb);have n5_:=zx (ho);clear HO_696001;clear BK686;clear BK695;clear HI689;clear HB;clear HO_10;have HO_696001:=n0_;have BK686:=n1_;have BK695:=n2_;have HI689:=n3_;have HB:=n4_;have HO723:=n5_;clear n0_ n1_ n2_ n3_ n4_ n5_;clear ho hb hg hat;refine hK.out _ _ ⟨(blk_cell BK695.out 0).trans rfl,(blk_cell BK695.out 1).trans rfl⟩ (fun hHeld => ?_);clear hK K;refine norm_ (a':=?_) ?_ ?_;rotate_left
    ·show Act.put _ (some 55) _ = _
     simp only [Act.put,U,V,Z,i64_w,i32_w];rfl
    refine one_ (i:=6) (N:=none) #[true,true,true,true,true,true,true,false,false,false] rfl rfl (one_of HT_.out (by kernel_rfl)) (by decide) (fun K hK => ?_);have hs70 : w69.cell? ⟨gb686,0,none⟩ = some (.int .i64 0):=(blk_cell BK686.out 0).trans rfl;have hfs70:=blk_frozen BK686.out 0;have hns70_1:=NB695_686.out;have hms70_1:=NB686_695.out;have hs71 : w69.cell? ⟨gb686,1,none⟩ = some (.slice none 0 0):=(blk_cell BK686.out 1).trans rfl;have hfs71:=blk_frozen BK686.out 1;have hns71_1:=NB695_686.out;have hms71_1:=NB686_695.out;refine skip_ (w1:=?_) (by rfl) rfl ?_ ?_;rotate_left
    ·go_simp;rfl
    refine hK.out _ _ ⟨((cell_far (p:=⟨gb686,_,none⟩) NB695_686.out _).trans (((cell_far (p:=⟨gb686,_,none⟩) NB695_686.out _).trans (hHeld.1)))),((cell_far (p:=⟨gb686,_,none⟩) NB695_686.out _).trans (((cell_far (p:=⟨gb686,_,none⟩) NB695_686.out _).trans (hHeld.2))))⟩ (fun hHeld => ?_);clear hK K;refine pure_ (i:=7) (N:=some 3) (v:=?_) (a':=?_) #[true,true,true,true,true,true,true,true,false,false] rfl rfl (any_of HT_.out (by kernel_rfl)) (fun _ _ _ h => h) (Or.inl ⟨by rfl,?_⟩) ?_ ?_;rotate_left
    ·intro w';go_simp;with_reducible rfl
    rotate_left
    ·simp only [Act.put,U,V,Z,i64_w,i32_w];rfl
    refine pure_ (i:=8) (N:=some 4) (v:=?_) (a':=?_) #[true,true,true,true,true,true,true,true,true,false] rfl rfl (any_of HT_.out (by kernel_rfl)) (fun _ _ _ h => h) (Or.inl ⟨by rfl,?_⟩) ?_ ?_;rotate_left
    ·intro w';go_simp;with_reducible rfl
    rotate_left
    ·simp only [Act.put,U,V,Z,i64_w,i32_w];rfl
    refine pure_ (i:=9) (N:=some 5) (v:=?_) (a':=?_) #[true,true,true,true,true,true,true,true,true,true] rfl rfl (any_of HT_.out (by kernel_rfl)) (fun _ _ _ h => h) (Or.inl ⟨by rfl,?_⟩) ?_ ?_;rotate_left
    ·intro w';go_simp;with_reducible rfl
    rotate_left
    ·simp only [Act.put,U,V,Z,i64_w,i32_w];rfl
    refine done_ (done_of HT_.out (by kernel_rfl)) ?_
    try go_wp2
    refine bodyPost_ret (results_list (rs:=[.cell 2 34,.tmp 3,.tmp 4,.tmp 5]) rfl (by simp) (.cell gb686 34 #[.int .i64 t690,.slice Ao15 t691.length co15] (0,0) _ rfl (by (with_reducible repeat (first | refine blk_drewN ?_ _ | refine blk_drew ?_ | refine blk_alloc ?_ _)); refine blk_put (cs:=#[.int .i64 t690,.slice none 0 0]) ?_ 1 _ rfl; (with_reducible repeat (first | refine blk_drewN ?_ _ | refine blk_drew ?_ | refine blk_alloc ?_ _)); refine blk_put (cs:=#[.int .i64 0,.slice none 0 0]) ?_ 0 _ rfl; (with_reducible repeat (first | refine blk_drewN ?_ _ | refine blk_drew ?_ | refine blk_alloc ?_ _)); exact BK686.out) Try.underlying34 rfl (by kernel_rfl) (.tmp (.tmp (.tmp .nil))))) rfl ?_;exact ⟨_,_,by first | rfl | (simp [errW_none,errW_some] <;> rfl) | (simp [*,errW_none,errW_some] <;> rfl),by (with_reducible repeat (first | apply Kd.R_alloc | apply Kd.R_drewN | apply Kd.R_drew)); exact Kd.R_mono (Kd.R_far (p:=⟨gb686,1,none⟩) (Kd.R_far (p:=⟨gb686,0,none⟩) (Kd.R_types HO_696001.out BK686.out (by decide)) (fun _ hk => hk.2) (.int .i64 t690)) (fun _ hk => hk.2) (.slice Ao15 t691.length co15)) (fun _ hk => trivial),by (with_reducible repeat (first | apply Kd.R_alloc | apply Kd.R_drewN | apply Kd.R_drew)); exact Kd.R_mono (Kd.R_far (p:=⟨gb686,1,none⟩) (Kd.R_far (p:=⟨gb686,0,none⟩) (Kd.R_types HO723.out BK686.out (by decide)) (fun _ hk => hk.2) (.int .i64 t690)) (fun _ hk => hk.2) (.slice Ao15 t691.length co15)) (fun _ hk => trivial),by repeat (first | (with_reducible first | exact HB.out | apply below_alloc | apply pw_below_drewN | apply below_drew1 | refine below_set ?_ (IsS122.ge HI689.out) | refine below_set ?_ GE686.out | refine below_set ?_ GE695.out) | exact HB.out)⟩
   subst c26;have H1 : ((spec_l30Rd_pick.f kj6 t687 x690001_6 (t700.length : Int)).bind fun bt705 => (if 0 ≤ bt705.1 then (if bt705.1 < (t700.length : Int) then ((spec_l30Rd_one.f kj6 t687 bt705.2 (([1,(-1)] : List Int))).bind fun bt711 => ((some (t700.set (bt705.1 : Int).toNat (wrap64 ((rd t700 bt705.1) + bt711.1)) : List Int)).bind fun y713 => ((spec_l30Rd_pick.f kj6 t687 bt711.2 14).bind fun bt714 => (if bt714.1 = 0 then (if y713.length < 17592186044416 then (some (t690,t691,(y713 ++ [0]),t696,t698)) else (none)) else (some (t690,t691,y713,t696,t698)))))) else (none)) else (none))) = some (r1,r2,r3,r4,r5):=by rw [if_pos rfl] at H; exact H
   clear H;have H:=H1;clear H1;replace H:=Option.bind_eq_some_iff.mp H;obtain ⟨⟨t705,t706⟩,A270,H⟩:=H;replace H : (if 0 ≤ t705 then (if t705 < (t700.length : Int) then ((spec_l30Rd_one.f kj6 t687 t706 (([1,(-1)] : List Int))).bind fun bt711 => ((some (t700.set (t705 : Int).toNat (wrap64 ((rd t700 t705) + bt711.1)) : List Int)).bind fun y713 => ((spec_l30Rd_pick.f kj6 t687 bt711.2 14).bind fun bt714 => (if bt714.1 = 0 then (if y713.length < 17592186044416 then (some (t690,t691,(y713 ++ [0]),t696,t698)) else (none)) else (some (t690,t691,y713,t696,t698)))))) else (none)) else (none)) = some (r1,r2,r3,r4,r5):=H;have A27:=zx A270;clear A270
   by_cases c28 : 0 ≤ t705
   case neg =>
    rw [if_neg c28] at H;exact absurd H (by simp)
   rw [if_pos c28] at H;have c28b0 : decide (0 ≤ t705) = true:=decide_eq_true c28;clear c28
   by_cases c29 : t705 < (t700.length : Int)
   case neg =>
    rw [if_neg c29] at H;exact absurd H (by simp)
   rw [if_pos c29] at H;have c29b0 : decide (t705 < (t700.length : Int)) = true:=decide_eq_true c29;clear c29;obtain ⟨y708,hy708⟩ : ∃ y_ : List Int,y_ = (([1,(-1)] : List Int)):=⟨_,rfl⟩
   replace H : ((spec_l30Rd_one.f kj6 t687 t706 y708).bind fun bt711 => ((some (t700.set (t705 : Int).toNat (wrap64 ((rd t700 t705) + bt711.1)) : List Int)).bind fun y713 => ((spec_l30Rd_pick.f kj6 t687 bt711.2 14).bind fun bt714 => (if bt714.1 = 0 then (if y713.length < 17592186044416 then (some (t690,t691,(y713 ++ [0]),t696,t698)) else (none)) else (some (t690,t691,y713,t696,t698)))))) = some (r1,r2,r3,r4,r5):=by first | (rw [hy708]; with_reducible exact H) | (have H2_:=(Option.bind_some _ _).symm.trans H; rw [hy708]; with_reducible exact H2_) | (have H2_:=(Option.bind_some _ _).symm.trans H; with_reducible exact H2_) | with_reducible exact H | (rw [hy708]; exact H) | exact H
   have Ny708:=zx hy708;clear hy708;replace H:=Option.bind_eq_some_iff.mp H;obtain ⟨⟨t711,t712⟩,A300,H⟩:=H;replace H : ((some (t700.set (t705 : Int).toNat (wrap64 ((rd t700 t705) + t711)) : List Int)).bind fun y713 => ((spec_l30Rd_pick.f kj6 t687 t712 14).bind fun bt714 => (if bt714.1 = 0 then (if y713.length < 17592186044416 then (some (t690,t691,(y713 ++ [0]),t696,t698)) else (none)) else (some (t690,t691,y713,t696,t698))))) = some (r1,r2,r3,r4,r5):=H;have A30:=zx A300;clear A300;obtain ⟨y713,hy713⟩ : ∃ y_ : List Int,y_ = (t700.set (t705 : Int).toNat (wrap64 ((rd t700 t705) + t711))):=⟨_,rfl⟩
   replace H : ((spec_l30Rd_pick.f kj6 t687 t712 14).bind fun bt714 => (if bt714.1 = 0 then (if y713.length < 17592186044416 then (some (t690,t691,(y713 ++ [0]),t696,t698)) else (none)) else (some (t690,t691,y713,t696,t698)))) = some (r1,r2,r3,r4,r5):=by first | (rw [hy713]; with_reducible exact H) | (have H2_:=(Option.bind_some _ _).symm.trans H; rw [hy713]; with_reducible exact H2_) | (have H2_:=(Option.bind_some _ _).symm.trans H; with_reducible exact H2_) | with_reducible exact H | (rw [hy713]; exact H) | exact H
   have Ny713:=zx hy713;clear hy713;replace H:=Option.bind_eq_some_iff.mp H;obtain ⟨⟨t714,t715⟩,A320,H⟩:=H;replace H : (if t714 = 0 then (if y713.length < 17592186044416 then (some (t690,t691,(y713 ++ [0]),t696,t698)) else (none)) else (some (t690,t691,y713,t696,t698))) = some (r1,r2,r3,r4,r5):=H;have A32:=zx A320;clear A320
   by_cases c33 : t714 = 0
   case neg =>
    rw [if_neg c33] at H;have c33b0 : (t714 == 0) = false:=beq_eq_false_iff_ne.mpr c33;have c33b1 : (t714 != 0) = true:=bne_iff_ne.mpr c33;simp only [Option.some.injEq,Prod.mk.injEq] at H;obtain ⟨rfl,rfl,rfl,rfl,rfl⟩:=H;obtain ⟨Ao49,co49,eo49⟩:=Kd.R_slice HO_10.out;subst eo49
    try go_wp2_with (first | ((with_reducible refine gate_callee (f:=64) rfl ?_); refine goesL_ (some 37) rfl rfl Try.func64 (by kernel_rfl) rfl #[.pointer (some ⟨g689,0,none⟩),.int .i64 (t700.length : Int)] rfl (by (try simp only [List.map_toArray,List.map_cons,List.map_nil]); first | done | rfl | (simp only [List.length_drop,List.length_take]; rfl)) ?_; (with_reducible refine (spec_l30Rd_pick.calls kj6 g689 t687 x690001_6 (t700.length : Int) t705 t706 w _ ?side1 ?side2 A27.out).mono ?_); (case side1 => repeat (first | (with_reducible first | exact HI689.out | apply IsS122.alloc | apply IsS122.drewN | apply IsS122.drew | apply IsS122.set_1 | refine IsS122.far ?_ NB689_686.out _ | refine IsS122.far ?_ NB689_695.out _) | exact HI689.out)); (case side2 => repeat (first | (with_reducible first | exact HB.out | apply below_alloc | apply pw_below_drewN | apply below_drew1 | refine below_set ?_ (IsS122.ge HI689.out) | refine below_set ?_ GE686.out | refine below_set ?_ GE695.out) | exact HB.out)); rintro e w50 ⟨rfl,hi,hb,hk⟩; refine ⟨_,rfl,?_⟩; have n0_:=zx (Kd.R_mono (Kd.R_keep (IsS122.apart (show IsS122 w _ g689 t687 x690001_6 from by repeat (first | (with_reducible first | exact HI689.out | apply IsS122.alloc | apply IsS122.drewN | apply IsS122.drew | apply IsS122.set_1 | refine IsS122.far ?_ NB689_686.out _ | refine IsS122.far ?_ NB689_695.out _) | exact HI689.out)) (by (with_reducible repeat (first | apply Kd.R_alloc | apply Kd.R_drewN | apply Kd.R_drew)); exact HO_10.out) (by decide)) hk (fun _ h => h.2)) (fun _ h => h.1)); have n1_:=zx (Kd.R_mono (Kd.R_keep (IsS122.apart (show IsS122 w _ g689 t687 x690001_6 from by repeat (first | (with_reducible first | exact HI689.out | apply IsS122.alloc | apply IsS122.drewN | apply IsS122.drew | apply IsS122.set_1 | refine IsS122.far ?_ NB689_686.out _ | refine IsS122.far ?_ NB689_695.out _) | exact HI689.out)) (by (with_reducible repeat (first | apply Kd.R_alloc | apply Kd.R_drewN | apply Kd.R_drew)); exact HO_696001.out) (by decide)) hk (fun _ h => h.2)) (fun _ h => h.1)); have n2_:=zx (KeepBut.blk hk (g':=gb686) (o:=.cells #[.int .i64 0,.slice none 0 0] 34 (0,0)) (by (with_reducible repeat (first | refine blk_drewN ?_ _ | refine blk_drew ?_ | refine blk_alloc ?_ _)); exact BK686.out) NB686_689.out (by simp)); have n3_:=zx (KeepBut.blk hk (g':=gb695) (o:=.cells #[.int .i64 t690,.slice Ao15 t691.length co15] 34 (0,0)) (by (with_reducible repeat (first | refine blk_drewN ?_ _ | refine blk_drew ?_ | refine blk_alloc ?_ _)); exact BK695.out) NB695_689.out (by simp)); have n4_:=zx (hb); have n5_:=zx (hi); clear HO_10; clear HO_696001; clear BK686; clear BK695; clear HB; clear HI689; have HO_10:=n0_; have HO_696001:=n1_; have BK686:=n2_; have BK695:=n3_; have HB:=n4_; have HI689:=n5_; clear n0_ n1_ n2_ n3_ n4_ n5_; (try clear hb); (try clear hb2); (try clear hk); (try clear hi)))
    have n0_:=zx (Kd.R_drew HO_10.out);have n1_:=zx (Kd.R_drew HO_696001.out);have n2_:=zx (blk_drew BK686.out);have n3_:=zx (blk_drew BK695.out);have n4_:=zx (IsS122.drew HI689.out);have n5_:=zx (below_drew1 HB.out);clear HO_10;clear HO_696001;clear BK686;clear BK695;clear HI689;clear HB;have HO_10:=n0_;have HO_696001:=n1_;have BK686:=n2_;have BK695:=n3_;have HI689:=n4_;have HB:=n5_;clear n0_ n1_ n2_ n3_ n4_ n5_;have p707 : 0 ≤ (t705 : Int):=of_decide_eq_true (by first | (with_reducible assumption) | assumption);have q707 : t705 < (t700.length : Int):=of_decide_eq_true (by first | (with_reducible assumption) | assumption);obtain ⟨ad707,e707,hx707_0⟩:=Kd.at_int (Kd.R_reads' HO_10.out).2.2 t705 p707 q707;cases e707;replace p707:=eq_true p707;replace q707:=eq_true q707;refine start_ (n:=12) (S:=fun w' => w'.cell? (ad707.add (t705).toNat) = some (.int .i64 (rd t700 t705))) (ds:=[11]) #[false,false,false,false,false,false,false,false,false,false,false,false] (by kernel_rfl) rfl rfl (hx707_0) (fun hHeld => ?_); refine with_tabW spec_DrawFlowValue.tab8 spec_DrawFlowValue.bits8 (fun HT_ HW_ => ?_);generalize w50.drew = w51 at HO_10 HO_696001 BK686 BK695 HI689 HB hx707_0 hHeld ⊢;refine pure_ (i:=0) (N:=some 38) (v:=?_) (a':=?_) #[true,false,false,false,false,false,false,false,false,false,false,false] rfl rfl (any_of HT_.out (by kernel_rfl)) (fun _ _ _ h => h) (Or.inl ⟨by rfl,?_⟩) ?_ ?_;rotate_left
    ·intro w';go_simp;with_reducible rfl
    rotate_left
    ·simp only [Act.put,U,V,Z,i64_w,i32_w];rfl
    refine pure_ (i:=1) (N:=some 39) (v:=?_) (a':=?_) #[true,true,false,false,false,false,false,false,false,false,false,false] rfl rfl (any_of HT_.out (by kernel_rfl)) (fun _ _ _ h => h) (Or.inl ⟨by rfl,?_⟩) ?_ ?_;rotate_left
    ·intro w';go_simp;with_reducible rfl
    rotate_left
    ·simp only [Act.put,U,V,Z,i64_w,i32_w];rfl
    refine pure_ (i:=2) (N:=some 40) (v:=?_) (a':=?_) #[true,true,true,false,false,false,false,false,false,false,false,false] rfl rfl (any_of HT_.out (by kernel_rfl)) (fun _ _ _ h => h) (Or.inl ⟨by rfl,?_⟩) ?_ ?_;rotate_left
    ·intro w';go_simp;with_reducible rfl
    rotate_left
    ·simp only [Act.put,U,V,Z,i64_w,i32_w];rfl
    refine pure_ (i:=3) (N:=some 41) (v:=?_) (a':=?_) #[true,true,true,true,false,false,false,false,false,false,false,false] rfl rfl (any_of HT_.out (by kernel_rfl)) (fun _ _ _ h => h) (Or.inl ⟨by rfl,?_⟩) ?_ ?_;rotate_left
    ·intro w';go_simp;with_reducible rfl
    rotate_left
    ·simp only [Act.put,U,V,Z,i64_w,i32_w];rfl
    refine pure_ (i:=4) (N:=some 42) (v:=?_) (a':=?_) #[true,true,true,true,true,false,false,false,false,false,false,false] rfl rfl (any_of HT_.out (by kernel_rfl)) (fun _ _ _ h => h) (Or.inl ⟨by rfl,?_⟩) ?_ ?_;rotate_left
    ·intro w';go_simp;with_reducible rfl
    rotate_left
    ·simp only [Act.put,U,V,Z,i64_w,i32_w];rfl
    refine pure_ (i:=6) (N:=some 44) (v:=?_) (a':=?_) #[true,true,true,true,true,false,true,false,false,false,false,false] rfl rfl (any_of HT_.out (by kernel_rfl)) (fun _ _ _ h => h) (Or.inl ⟨by rfl,?_⟩) ?_ ?_;rotate_left
    ·intro w';go_simp;with_reducible rfl
    rotate_left
    ·simp only [Act.put,U,V,Z,i64_w,i32_w];rfl
    refine take_ (i:=5) (N:=some 43) (v:=?_) (a':=?_) #[true,true,true,true,true,true,true,false,false,false,false,false] rfl rfl (take_ofW HT_.out HW_.out (by kernel_rfl)) (fun _ _ _ h => h) (Or.inl ⟨by rfl,?_⟩) hHeld ?_ ?_;rotate_left
    ·intro w' s0;go_simp;with_reducible rfl
    rotate_left
    ·simp only [Act.put,U,V,Z,i64_w,i32_w];rfl
    refine one_ (i:=7) (N:=some 45) #[true,true,true,true,true,true,true,true,false,false,false,false] rfl rfl (one_of HT_.out (by kernel_rfl)) (by decide) (fun K hK => ?_);refine Kd.R_lit_step (Kd.int .i64) _ 3 ?hg (N:=45) ?hd (xs:=([1,(-1)] : List Int)) (inner:=[.int .i64 1,.int .i64 (-1)]) (ok:=fun _ => True) (okp:=fun _ => True) ?hr ?hp (fun _ hk => hk) trivial (Below.refl _ _) (Nat.le_refl _) (by simp) ?_; (case hd => rfl); (case hg => rfl); (case hr => first | (go_simp; done) | (go_simp; rfl)); (case hp => exact (Reps.one (show Kd.M (Kd.int .i64) _ _ _ 1 [.int .i64 1] from rfl) (Reps.one (show Kd.M (Kd.int .i64) _ _ _ (-1) [.int .i64 (-1)] from rfl) (Reps.none _ _))));intro v709 w52 ho53 hb hg_ hnew_;have HS0_:=(hb.cell (World.block_lt_of_cell? _ _ (hHeld))).trans (hHeld);clear hg_ hnew_
    (first | rw [← Ny708.out] at ho53 | (simp only [Int.reduceToNat] at ho53; rw [← Ny708.out] at ho53))
    have n0_:=zx (Kd.R_elder' (by (with_reducible repeat (first | apply Kd.R_alloc | apply Kd.R_drewN | apply Kd.R_drew)); exact HO_10.out) (Kd.R_base ho53) hb);have n1_:=zx (Kd.R_below (by (with_reducible repeat (first | apply Kd.R_alloc | apply Kd.R_drewN | apply Kd.R_drew)); exact HO_696001.out) hb);have n2_:=zx (Kd.R_lower (Kd.R_new' ho53 (Kd.R_lt (by (with_reducible repeat (first | apply Kd.R_alloc | apply Kd.R_drewN | apply Kd.R_drew)); exact HO_10.out))) (below_size (by repeat (first | (with_reducible first | exact HB.out | apply below_alloc | apply pw_below_drewN | apply below_drew1 | refine below_set ?_ (IsS122.ge HI689.out) | refine below_set ?_ GE686.out | refine below_set ?_ GE695.out) | exact HB.out))));have n3_:=zx (blk_below (g:=gb686) (o:=.cells #[.int .i64 0,.slice none 0 0] 34 (0,0)) (by (with_reducible repeat (first | refine blk_drewN ?_ _ | refine blk_drew ?_ | refine blk_alloc ?_ _)); exact BK686.out) hb);have n4_:=zx (blk_below (g:=gb695) (o:=.cells #[.int .i64 t690,.slice Ao15 t691.length co15] 34 (0,0)) (by (with_reducible repeat (first | refine blk_drewN ?_ _ | refine blk_drew ?_ | refine blk_alloc ?_ _)); exact BK695.out) hb);have n5_:=zx (IsS122.below (by repeat (first | (with_reducible first | exact HI689.out | apply IsS122.alloc | apply IsS122.drewN | apply IsS122.drew | apply IsS122.set_1 | refine IsS122.far ?_ NB689_686.out _ | refine IsS122.far ?_ NB689_695.out _) | exact HI689.out)) hb);have n6_:=zx (below_step (by repeat (first | (with_reducible first | exact HB.out | apply below_alloc | apply pw_below_drewN | apply below_drew1 | refine below_set ?_ (IsS122.ge HI689.out) | refine below_set ?_ GE686.out | refine below_set ?_ GE695.out) | exact HB.out)) hb);clear HO_10;clear HO_696001;clear BK686;clear BK695;clear HI689;clear HB;have HO_10:=n0_;have HO_696001:=n1_;have HO710:=n2_;have BK686:=n3_;have BK695:=n4_;have HI689:=n5_;have HB:=n6_;clear n0_ n1_ n2_ n3_ n4_ n5_ n6_;clear hb ho53;obtain ⟨Ao54,co54,eo54⟩:=Kd.R_slice HO710.out
    (first | subst eo54 | (injection eo54 with f1_ f2_ f3_; have f4_:=f1_.symm; have f5_:=f3_.symm; clear f1_ f2_ f3_; subst f4_; subst f5_))
    refine hK.out _ _ (HS0_) (fun hHeld => ?_);clear hK K;refine norm_ (a':=?_) ?_ ?_;rotate_left
    ·show Act.put _ (some 45) _ = _
     simp only [Act.put,U,V,Z,i64_w,i32_w];rfl
    refine one_ (i:=8) (N:=some 46) #[true,true,true,true,true,true,true,true,true,false,false,false] rfl rfl (one_of HT_.out (by kernel_rfl)) (by decide) (fun K hK => ?_);refine goes_ Try.func88 (by kernel_rfl) rfl #[.pointer (some ⟨g689,0,none⟩),.slice Ao54 y708.length co54] (by rfl) rfl rfl (by (try simp only [List.map_toArray,List.map_cons,List.map_nil]); first | done | rfl | (simp only [List.length_drop,List.length_take]; rfl)) ?_;with_reducible refine (spec_l30Rd_one.calls kj6 g689 t687 t706 _ _ y708 t711 t712 w _ ?side1 ?side2 ?side3 ?side4 ?side5 A30.out).mono ?_
    (case side1 => repeat (first | (with_reducible first | exact HI689.out | apply IsS122.alloc | apply IsS122.drewN | apply IsS122.drew | apply IsS122.set_1 | refine IsS122.far ?_ NB689_686.out _ | refine IsS122.far ?_ NB689_695.out _) | exact HI689.out))
    (case side2 => repeat (first | (with_reducible first | exact HB.out | apply below_alloc | apply pw_below_drewN | apply below_drew1 | refine below_set ?_ (IsS122.ge HI689.out) | refine below_set ?_ GE686.out | refine below_set ?_ GE695.out) | exact HB.out))
    (case side3 => repeat (first | exact (Kd.R_reads' HO710.out).2.2 | (with_reducible refine Kd.C_alloc ?_ _) | (with_reducible refine Kd.C_drewN ?_ _) | (with_reducible refine Kd.C_drew ?_)))
    (case side4 => exact (Kd.R_reads' HO710.out).2.1)
    (case side5 => exact far_slice (IsS122.own_ne HI689.out HO710.out (by decide)))
    rintro e w55 ⟨rfl,hi,hb,hk⟩;have HS0_:=keep_cell hk (hHeld) (by first | (rw [add_block]; exact Kd.own_blk (IsS122.own_ne HI689.out HO_10.out (by decide))) | (show (Addr.add _ _).block ≠ _; rw [add_block]; exact Kd.own_blk (IsS122.own_ne HI689.out HO_10.out (by decide))) | exact Kd.own_blk (IsS122.own_ne HI689.out HO_10.out (by decide)));refine ⟨_,rfl,?_⟩;have n0_:=zx (Kd.R_mono (Kd.R_keep (IsS122.apart (show IsS122 w _ g689 t687 t706 from by repeat (first | (with_reducible first | exact HI689.out | apply IsS122.alloc | apply IsS122.drewN | apply IsS122.drew | apply IsS122.set_1 | refine IsS122.far ?_ NB689_686.out _ | refine IsS122.far ?_ NB689_695.out _) | exact HI689.out)) (by (with_reducible repeat (first | apply Kd.R_alloc | apply Kd.R_drewN | apply Kd.R_drew)); exact HO_10.out) (by decide)) hk (fun _ h => h.2)) (fun _ h => h.1));have n1_:=zx (Kd.R_mono (Kd.R_keep (IsS122.apart (show IsS122 w _ g689 t687 t706 from by repeat (first | (with_reducible first | exact HI689.out | apply IsS122.alloc | apply IsS122.drewN | apply IsS122.drew | apply IsS122.set_1 | refine IsS122.far ?_ NB689_686.out _ | refine IsS122.far ?_ NB689_695.out _) | exact HI689.out)) (by (with_reducible repeat (first | apply Kd.R_alloc | apply Kd.R_drewN | apply Kd.R_drew)); exact HO_696001.out) (by decide)) hk (fun _ h => h.2)) (fun _ h => h.1));have n2_:=zx (KeepBut.blk hk (g':=gb686) (o:=.cells #[.int .i64 0,.slice none 0 0] 34 (0,0)) (by (with_reducible repeat (first | refine blk_drewN ?_ _ | refine blk_drew ?_ | refine blk_alloc ?_ _)); exact BK686.out) NB686_689.out (by simp));have n3_:=zx (KeepBut.blk hk (g':=gb695) (o:=.cells #[.int .i64 t690,.slice Ao15 t691.length co15] 34 (0,0)) (by (with_reducible repeat (first | refine blk_drewN ?_ _ | refine blk_drew ?_ | refine blk_alloc ?_ _)); exact BK695.out) NB695_689.out (by simp));have n4_:=zx (Kd.R_mono (Kd.R_keep (IsS122.apart (show IsS122 w _ g689 t687 t706 from by repeat (first | (with_reducible first | exact HI689.out | apply IsS122.alloc | apply IsS122.drewN | apply IsS122.drew | apply IsS122.set_1 | refine IsS122.far ?_ NB689_686.out _ | refine IsS122.far ?_ NB689_695.out _) | exact HI689.out)) (by (with_reducible repeat (first | apply Kd.R_alloc | apply Kd.R_drewN | apply Kd.R_drew)); exact HO710.out) (by decide)) hk (fun _ h => h.2)) (fun _ h => h.1));have n5_:=zx (hb);have n6_:=zx (hi);clear HO_10;clear HO_696001;clear BK686;clear BK695;clear HO710;clear HB;clear HI689;have HO_10:=n0_;have HO_696001:=n1_;have BK686:=n2_;have BK695:=n3_;have HO710:=n4_;have HB:=n5_;have HI689:=n6_;clear n0_ n1_ n2_ n3_ n4_ n5_ n6_
    (try clear hb)
    (try clear hb2)
    (try clear hk)
    (try clear hi)
    have p31 : 0 ≤ (t705 : Int):=of_decide_eq_true (by first | (with_reducible assumption) | assumption);have q31 : (t705 : Int) < ((t700.length : Int) : Int):=of_decide_eq_true (by first | (with_reducible assumption) | assumption);obtain ⟨go31,co31,eo31,gb31,gl31,cl31,HG31⟩:=Kd.R_form HO_10.out (by omega)
    (first | cases eo31 | (injection eo31 with ea_ en_ ec_; (first | subst ea_ | (injection ea_ with ea_; subst ea_)); subst ec_; clear en_))
    have GB31:=zx gb31;have GG31:=zx HG31;clear gb31 gl31 HG31
    (first | simp only [add_plain] at hx707_0 | skip)
    obtain ⟨hx31_0,hf31_0⟩:=Kd.R_celln 0 HO_10.out (t705 : Int) p31 q31;replace p31:=eq_true p31;replace q31:=eq_true q31;have HN689_go31:=zx (show g689 ≠ go31 from by have h_:=IsS122.own_ne HI689.out HO_10.out (by decide); intro e_; exact h_ (by rw [e_]; rfl));have HP56:=Kd.R_putn HO_10.out (t705 : Int) (wrap64 ((rd t700 t705) + t711));rw [← Ny713.out] at HP56;have HQ56:=zx HP56;clear HP56;refine hK.out _ _ (HS0_) (fun hHeld => ?_);clear hK K;refine norm_ (a':=?_) ?_ ?_;rotate_left
    ·show Act.put _ (some 46) _ = _
     simp only [Act.put,U,V,Z,i64_w,i32_w];rfl
    refine pure_ (i:=9) (N:=some 47) (v:=?_) (a':=?_) #[true,true,true,true,true,true,true,true,true,true,false,false] rfl rfl (any_of HT_.out (by kernel_rfl)) (fun _ _ _ h => h) (Or.inl ⟨by rfl,?_⟩) ?_ ?_;rotate_left
    ·intro w';go_simp;with_reducible rfl
    rotate_left
    ·simp only [Act.put,U,V,Z,i64_w,i32_w];rfl
    refine pure_ (i:=10) (N:=some 48) (v:=?_) (a':=?_) #[true,true,true,true,true,true,true,true,true,true,true,false] rfl rfl (any_of HT_.out (by kernel_rfl)) (fun _ _ _ h => h) (Or.inl ⟨by rfl,?_⟩) ?_ ?_;rotate_left
    ·intro w';go_simp;with_reducible rfl
    rotate_left
    ·simp only [Act.put,U,V,Z,i64_w,i32_w];rfl
    refine last_ (i:=11) (N:=none) #[true,true,true,true,true,true,true,true,true,true,true,true] rfl rfl (one_of HT_.out (by kernel_rfl)) (by decide) (fun K hK => ?_);refine skip_ (w1:=?_) (by rfl) rfl ?_ ?_;rotate_left
    ·go_simp;rfl
    refine hK.out _ _ ?_;clear hK K;refine done_ (done_of HT_.out (by kernel_rfl)) ?_;have n0_ : Aside0 (Kd.R (Kd.int .i64) 3 (w55.setCell ⟨go31,(t705 : Int).toNat,none⟩ (.int .i64 (wrap64 ((rd t700 t705) + t711)))) w.heap.size (fun k_ => some k_ ≠ (.slice Ao54 y708.length co54 : Value).ownBlock) (.slice (some ⟨go31,0,none⟩) t700.length co49) y713):=⟨by (with_reducible repeat (first | apply Kd.R_alloc | apply Kd.R_drewN | apply Kd.R_drew)); exact Kd.R_mono HQ56.out (fun _ hk => hk.2)⟩
    have n1_ : Aside0 (Kd.R k58 58 (w55.setCell ⟨go31,(t705 : Int).toNat,none⟩ (.int .i64 (wrap64 ((rd t700 t705) + t711)))) w.heap.size (fun _ => True) (.slice Ao15 t691.length co15) t691):=⟨by (with_reducible repeat (first | apply Kd.R_alloc | apply Kd.R_drewN | apply Kd.R_drew)); exact Kd.R_mono (Kd.R_far (p:=⟨go31,(t705 : Int).toNat,none⟩) (Kd.R_types HO_696001.out GG31.out (by decide)) (fun _ hk => hk.2) (.int .i64 (wrap64 ((rd t700 t705) + t711)))) (fun _ hk => trivial)⟩
    have n2_ : Aside0 (Kd.R (Kd.int .i64) 3 (w55.setCell ⟨go31,(t705 : Int).toNat,none⟩ (.int .i64 (wrap64 ((rd t700 t705) + t711)))) w.heap.size (fun k_ => some k_ ≠ (.slice (some ⟨go31,0,none⟩) t700.length co49 : Value).ownBlock) (.slice Ao54 y708.length co54) y708):=⟨by (with_reducible repeat (first | apply Kd.R_alloc | apply Kd.R_drewN | apply Kd.R_drew)); exact Kd.R_mono (Kd.R_far (p:=⟨go31,(t705 : Int).toNat,none⟩) (Kd.R_mono HO710.out (fun k_ hk => (⟨hk,fun e_ => hk.2 (by rw [e_]; rfl)⟩ : _ ∧ k_ ≠ go31))) (fun _ hk => hk.2) (.int .i64 (wrap64 ((rd t700 t705) + t711)))) (fun _ hk => hk.1.2)⟩
    have n3_ : Aside0 ((w55.setCell ⟨go31,(t705 : Int).toNat,none⟩ (.int .i64 (wrap64 ((rd t700 t705) + t711)))).heap[gb686]? = some (.cells #[.int .i64 0,.slice none 0 0] 34 (0,0))):=⟨by (with_reducible repeat (first | refine blk_drewN ?_ _ | refine blk_drew ?_ | refine blk_alloc ?_ _)); refine blk_far ?_ (by have h_:=Kd.R_ne HO_10.out BK686.out (by decide); intro e_; exact h_ (by rw [e_]; rfl)) _; (with_reducible repeat (first | refine blk_drewN ?_ _ | refine blk_drew ?_ | refine blk_alloc ?_ _)); exact BK686.out⟩
    have n4_ : Aside0 ((w55.setCell ⟨go31,(t705 : Int).toNat,none⟩ (.int .i64 (wrap64 ((rd t700 t705) + t711)))).heap[gb695]? = some (.cells #[.int .i64 t690,.slice Ao15 t691.length co15] 34 (0,0))):=⟨by (with_reducible repeat (first | refine blk_drewN ?_ _ | refine blk_drew ?_ | refine blk_alloc ?_ _)); refine blk_far ?_ (by have h_:=Kd.R_ne HO_10.out BK695.out (by decide); intro e_; exact h_ (by rw [e_]; rfl)) _; (with_reducible repeat (first | refine blk_drewN ?_ _ | refine blk_drew ?_ | refine blk_alloc ?_ _)); exact BK695.out⟩
    have n5_ : Aside0 (IsS122 w (w55.setCell ⟨go31,(t705 : Int).toNat,none⟩ (.int .i64 (wrap64 ((rd t700 t705) + t711)))) g689 t687 t712):=⟨by repeat (first | (with_reducible first | exact HI689.out | apply IsS122.alloc | apply IsS122.drewN | apply IsS122.drew | apply IsS122.set_1 | refine IsS122.far ?_ HN689_go31.out _ | refine IsS122.far ?_ NB689_686.out _ | refine IsS122.far ?_ NB689_695.out _) | exact HI689.out)⟩
    have n6_ : Aside0 (Below w.heap.size w (w55.setCell ⟨go31,(t705 : Int).toNat,none⟩ (.int .i64 (wrap64 ((rd t700 t705) + t711))))):=⟨by repeat (first | (with_reducible first | exact HB.out | apply below_alloc | apply pw_below_drewN | apply below_drew1 | refine below_set ?_ GB31.out | refine below_set ?_ (IsS122.ge HI689.out) | refine below_set ?_ GE686.out | refine below_set ?_ GE695.out) | exact HB.out)⟩
    (try clear HO_10)
    (try clear HO_696001)
    (try clear HO710)
    (try clear BK686)
    (try clear BK695)
    (try clear HI689)
    (try clear HB)
    generalize (w55.setCell ⟨go31,(t705 : Int).toNat,none⟩ (.int .i64 (wrap64 ((rd t700 t705) + t711)))) = w57 at n0_ n1_ n2_ n3_ n4_ n5_ n6_ ⊢;have HO_10:=n0_;have HO_696001:=n1_;have HO710:=n2_;have BK686:=n3_;have BK695:=n4_;have HI689:=n5_;have HB:=n6_;clear n0_ n1_ n2_ n3_ n4_ n5_ n6_
    try go_wp2_with (first | ((with_reducible refine gate_callee (f:=64) rfl ?_); refine goesL_ (some 50) rfl rfl Try.func64 (by kernel_rfl) rfl #[.pointer (some ⟨g689,0,none⟩),.int .i64 14] rfl (by (try simp only [List.map_toArray,List.map_cons,List.map_nil]); first | done | rfl | (simp only [List.length_drop,List.length_take]; rfl)) ?_; (with_reducible refine (spec_l30Rd_pick.calls kj6 g689 t687 t712 14 t714 t715 w _ ?side1 ?side2 A32.out).mono ?_); (case side1 => repeat (first | (with_reducible first | exact HI689.out | apply IsS122.alloc | apply IsS122.drewN | apply IsS122.drew | apply IsS122.set_1 | refine IsS122.far ?_ NB689_686.out _ | refine IsS122.far ?_ NB689_695.out _) | exact HI689.out)); (case side2 => repeat (first | (with_reducible first | exact HB.out | apply below_alloc | apply pw_below_drewN | apply below_drew1 | refine below_set ?_ (IsS122.ge HI689.out) | refine below_set ?_ GE686.out | refine below_set ?_ GE695.out) | exact HB.out)); rintro e w58 ⟨rfl,hi,hb,hk⟩; refine ⟨_,rfl,?_⟩; have n0_:=zx (Kd.R_mono (Kd.R_keep (IsS122.apart (show IsS122 w _ g689 t687 t712 from by repeat (first | (with_reducible first | exact HI689.out | apply IsS122.alloc | apply IsS122.drewN | apply IsS122.drew | apply IsS122.set_1 | refine IsS122.far ?_ NB689_686.out _ | refine IsS122.far ?_ NB689_695.out _) | exact HI689.out)) (by (with_reducible repeat (first | apply Kd.R_alloc | apply Kd.R_drewN | apply Kd.R_drew)); exact HO_10.out) (by decide)) hk (fun _ h => h.2)) (fun _ h => h.1)); have n1_:=zx (Kd.R_mono (Kd.R_keep (IsS122.apart (show IsS122 w _ g689 t687 t712 from by repeat (first | (with_reducible first | exact HI689.out | apply IsS122.alloc | apply IsS122.drewN | apply IsS122.drew | apply IsS122.set_1 | refine IsS122.far ?_ NB689_686.out _ | refine IsS122.far ?_ NB689_695.out _) | exact HI689.out)) (by (with_reducible repeat (first | apply Kd.R_alloc | apply Kd.R_drewN | apply Kd.R_drew)); exact HO_696001.out) (by decide)) hk (fun _ h => h.2)) (fun _ h => h.1)); have n2_:=zx (KeepBut.blk hk (g':=gb686) (o:=.cells #[.int .i64 0,.slice none 0 0] 34 (0,0)) (by (with_reducible repeat (first | refine blk_drewN ?_ _ | refine blk_drew ?_ | refine blk_alloc ?_ _)); exact BK686.out) NB686_689.out (by simp)); have n3_:=zx (KeepBut.blk hk (g':=gb695) (o:=.cells #[.int .i64 t690,.slice Ao15 t691.length co15] 34 (0,0)) (by (with_reducible repeat (first | refine blk_drewN ?_ _ | refine blk_drew ?_ | refine blk_alloc ?_ _)); exact BK695.out) NB695_689.out (by simp)); have n4_:=zx (Kd.R_mono (Kd.R_keep (IsS122.apart (show IsS122 w _ g689 t687 t712 from by repeat (first | (with_reducible first | exact HI689.out | apply IsS122.alloc | apply IsS122.drewN | apply IsS122.drew | apply IsS122.set_1 | refine IsS122.far ?_ NB689_686.out _ | refine IsS122.far ?_ NB689_695.out _) | exact HI689.out)) (by (with_reducible repeat (first | apply Kd.R_alloc | apply Kd.R_drewN | apply Kd.R_drew)); exact HO710.out) (by decide)) hk (fun _ h => h.2)) (fun _ h => h.1)); have n5_:=zx (hb); have n6_:=zx (hi); clear HO_10; clear HO_696001; clear BK686; clear BK695; clear HO710; clear HB; clear HI689; have HO_10:=n0_; have HO_696001:=n1_; have BK686:=n2_; have BK695:=n3_; have HO710:=n4_; have HB:=n5_; have HI689:=n6_; clear n0_ n1_ n2_ n3_ n4_ n5_ n6_; (try clear hb); (try clear hb2); (try clear hk); (try clear hi); have hnb59:=NB695_686.out; have hnc59:=NB686_695.out; have hnb60:=NB695_689.out; have hnc60:=NB689_695.out; have hcz61_0 : w58.cell? ⟨gb695,0,none⟩ = some (.int .i64 t690):=(blk_cell BK695.out 0).trans rfl; have hcz61_1 : w58.cell? ⟨gb695,1,none⟩ = some (.slice Ao15 t691.length co15):=(blk_cell BK695.out 1).trans rfl; have hfz61_0:=blk_frozen BK695.out 0; have hfz61_1:=blk_frozen BK695.out 1; have hnb62:=NB686_689.out; have hnc62:=NB689_686.out; have hcz63_0 : w58.cell? ⟨gb686,0,none⟩ = some (.int .i64 0):=(blk_cell BK686.out 0).trans rfl; have hcz63_1 : w58.cell? ⟨gb686,1,none⟩ = some (.slice none 0 0):=(blk_cell BK686.out 1).trans rfl; have hfz63_0:=blk_frozen BK686.out 0; have hfz63_1:=blk_frozen BK686.out 1))
    refine bodyPost_ret (results_list (rs:=[.cell 2 34,.tmp 3,.tmp 4,.tmp 5]) rfl (by simp) (.cell gb686 34 #[.int .i64 t690,.slice Ao15 t691.length co15] (0,0) _ rfl (by (with_reducible repeat (first | refine blk_drewN ?_ _ | refine blk_drew ?_ | refine blk_alloc ?_ _)); refine blk_put (cs:=#[.int .i64 t690,.slice none 0 0]) ?_ 1 _ rfl; (with_reducible repeat (first | refine blk_drewN ?_ _ | refine blk_drew ?_ | refine blk_alloc ?_ _)); refine blk_put (cs:=#[.int .i64 0,.slice none 0 0]) ?_ 0 _ rfl; (with_reducible repeat (first | refine blk_drewN ?_ _ | refine blk_drew ?_ | refine blk_alloc ?_ _)); exact BK686.out) Try.underlying34 rfl (by kernel_rfl) (.tmp (.tmp (.tmp .nil))))) rfl ?_;exact ⟨_,_,by first | rfl | (simp [errW_none,errW_some] <;> rfl) | (simp [*,errW_none,errW_some] <;> rfl),by (with_reducible repeat (first | apply Kd.R_alloc | apply Kd.R_drewN | apply Kd.R_drew)); exact Kd.R_mono (Kd.R_far (p:=⟨gb686,1,none⟩) (Kd.R_far (p:=⟨gb686,0,none⟩) (Kd.R_types HO_696001.out BK686.out (by decide)) (fun _ hk => hk.2) (.int .i64 t690)) (fun _ hk => hk.2) (.slice Ao15 t691.length co15)) (fun _ hk => trivial),by (with_reducible repeat (first | apply Kd.R_alloc | apply Kd.R_drewN | apply Kd.R_drew)); exact Kd.R_mono (Kd.R_far (p:=⟨gb686,1,none⟩) (Kd.R_far (p:=⟨gb686,0,none⟩) (Kd.R_types HO_10.out BK686.out (by decide)) (fun _ hk => hk.2) (.int .i64 t690)) (fun _ hk => hk.2) (.slice Ao15 t691.length co15)) (fun _ hk => trivial),by repeat (first | (with_reducible first | exact HB.out | apply below_alloc | apply pw_below_drewN | apply below_drew1 | refine below_set ?_ (IsS122.ge HI689.out) | refine below_set ?_ GE686.out | refine below_set ?_ GE695.out) | exact HB.out)⟩
   rw [if_pos c33] at H;have c33b0 : (t714 == 0) = true:=beq_iff_eq.mpr c33;have c33b1 : (t714 != 0) = false:=bne_eq_false_iff_eq.mpr c33;clear c33
   by_cases c34 : y713.length < 17592186044416
   case neg =>
    rw [if_neg c34] at H;exact absurd H (by simp)
   rw [if_pos c34] at H;have LMc34:=zx c34;clear c34;obtain ⟨y716,hy716⟩ : ∃ y_ : List Int,y_ = (y713 ++ [0]):=⟨_,rfl⟩
   replace H : (some (t690,t691,y716,t696,t698)) = some (r1,r2,r3,r4,r5):=by first | (rw [hy716]; with_reducible exact H) | (have H2_:=(Option.bind_some _ _).symm.trans H; rw [hy716]; with_reducible exact H2_) | (have H2_:=(Option.bind_some _ _).symm.trans H; with_reducible exact H2_) | with_reducible exact H | (rw [hy716]; exact H) | exact H
   have Ny716:=zx hy716;clear hy716;simp only [Option.some.injEq,Prod.mk.injEq] at H;obtain ⟨rfl,rfl,rfl,rfl,rfl⟩:=H;obtain ⟨Ao35,co35,eo35⟩:=Kd.R_slice HO_10.out;subst eo35
   try go_wp2_with (first | ((with_reducible refine gate_callee (f:=64) rfl ?_); refine goesL_ (some 37) rfl rfl Try.func64 (by kernel_rfl) rfl #[.pointer (some ⟨g689,0,none⟩),.int .i64 (t700.length : Int)] rfl (by (try simp only [List.map_toArray,List.map_cons,List.map_nil]); first | done | rfl | (simp only [List.length_drop,List.length_take]; rfl)) ?_; (with_reducible refine (spec_l30Rd_pick.calls kj6 g689 t687 x690001_6 (t700.length : Int) t705 t706 w _ ?side1 ?side2 A27.out).mono ?_); (case side1 => repeat (first | (with_reducible first | exact HI689.out | apply IsS122.alloc | apply IsS122.drewN | apply IsS122.drew | apply IsS122.set_1 | refine IsS122.far ?_ NB689_686.out _ | refine IsS122.far ?_ NB689_695.out _) | exact HI689.out)); (case side2 => repeat (first | (with_reducible first | exact HB.out | apply below_alloc | apply pw_below_drewN | apply below_drew1 | refine below_set ?_ (IsS122.ge HI689.out) | refine below_set ?_ GE686.out | refine below_set ?_ GE695.out) | exact HB.out)); rintro e w36 ⟨rfl,hi,hb,hk⟩; refine ⟨_,rfl,?_⟩; have n0_:=zx (Kd.R_mono (Kd.R_keep (IsS122.apart (show IsS122 w _ g689 t687 x690001_6 from by repeat (first | (with_reducible first | exact HI689.out | apply IsS122.alloc | apply IsS122.drewN | apply IsS122.drew | apply IsS122.set_1 | refine IsS122.far ?_ NB689_686.out _ | refine IsS122.far ?_ NB689_695.out _) | exact HI689.out)) (by (with_reducible repeat (first | apply Kd.R_alloc | apply Kd.R_drewN | apply Kd.R_drew)); exact HO_10.out) (by decide)) hk (fun _ h => h.2)) (fun _ h => h.1)); have n1_:=zx (Kd.R_mono (Kd.R_keep (IsS122.apart (show IsS122 w _ g689 t687 x690001_6 from by repeat (first | (with_reducible first | exact HI689.out | apply IsS122.alloc | apply IsS122.drewN | apply IsS122.drew | apply IsS122.set_1 | refine IsS122.far ?_ NB689_686.out _ | refine IsS122.far ?_ NB689_695.out _) | exact HI689.out)) (by (with_reducible repeat (first | apply Kd.R_alloc | apply Kd.R_drewN | apply Kd.R_drew)); exact HO_696001.out) (by decide)) hk (fun _ h => h.2)) (fun _ h => h.1)); have n2_:=zx (KeepBut.blk hk (g':=gb686) (o:=.cells #[.int .i64 0,.slice none 0 0] 34 (0,0)) (by (with_reducible repeat (first | refine blk_drewN ?_ _ | refine blk_drew ?_ | refine blk_alloc ?_ _)); exact BK686.out) NB686_689.out (by simp)); have n3_:=zx (KeepBut.blk hk (g':=gb695) (o:=.cells #[.int .i64 t690,.slice Ao15 t691.length co15] 34 (0,0)) (by (with_reducible repeat (first | refine blk_drewN ?_ _ | refine blk_drew ?_ | refine blk_alloc ?_ _)); exact BK695.out) NB695_689.out (by simp)); have n4_:=zx (hb); have n5_:=zx (hi); clear HO_10; clear HO_696001; clear BK686; clear BK695; clear HB; clear HI689; have HO_10:=n0_; have HO_696001:=n1_; have BK686:=n2_; have BK695:=n3_; have HB:=n4_; have HI689:=n5_; clear n0_ n1_ n2_ n3_ n4_ n5_; (try clear hb); (try clear hb2); (try clear hk); (try clear hi)))
   have n0_:=zx (Kd.R_drew HO_10.out);have n1_:=zx (Kd.R_drew HO_696001.out);have n2_:=zx (blk_drew BK686.out);have n3_:=zx (blk_drew BK695.out);have n4_:=zx (IsS122.drew HI689.out);have n5_:=zx (below_drew1 HB.out);clear HO_10;clear HO_696001;clear BK686;clear BK695;clear HI689;clear HB;have HO_10:=n0_;have HO_696001:=n1_;have BK686:=n2_;have BK695:=n3_;have HI689:=n4_;have HB:=n5_;clear n0_ n1_ n2_ n3_ n4_ n5_;have p707 : 0 ≤ (t705 : Int):=of_decide_eq_true (by first | (with_reducible assumption) | assumption);have q707 : t705 < (t700.length : Int):=of_decide_eq_true (by first | (with_reducible assumption) | assumption);obtain ⟨ad707,e707,hx707_0⟩:=Kd.at_int (Kd.R_reads' HO_10.out).2.2 t705 p707 q707;cases e707;replace p707:=eq_true p707;replace q707:=eq_true q707;refine start_ (n:=12) (S:=fun w' => w'.cell? (ad707.add (t705).toNat) = some (.int .i64 (rd t700 t705))) (ds:=[11]) #[false,false,false,false,false,false,false,false,false,false,false,false] (by kernel_rfl) rfl rfl (hx707_0) (fun hHeld => ?_); refine with_tabW spec_DrawFlowValue.tab8 spec_DrawFlowValue.bits8 (fun HT_ HW_ => ?_);generalize w36.drew = w37 at HO_10 HO_696001 BK686 BK695 HI689 HB hx707_0 hHeld ⊢;refine pure_ (i:=0) (N:=some 38) (v:=?_) (a':=?_) #[true,false,false,false,false,false,false,false,false,false,false,false] rfl rfl (any_of HT_.out (by kernel_rfl)) (fun _ _ _ h => h) (Or.inl ⟨by rfl,?_⟩) ?_ ?_;rotate_left
   ·intro w';go_simp;with_reducible rfl
   rotate_left
   ·simp only [Act.put,U,V,Z,i64_w,i32_w];rfl
   refine pure_ (i:=1) (N:=some 39) (v:=?_) (a':=?_) #[true,true,false,false,false,false,false,false,false,false,false,false] rfl rfl (any_of HT_.out (by kernel_rfl)) (fun _ _ _ h => h) (Or.inl ⟨by rfl,?_⟩) ?_ ?_;rotate_left
   ·intro w';go_simp;with_reducible rfl
   rotate_left
   ·simp only [Act.put,U,V,Z,i64_w,i32_w];rfl
   refine pure_ (i:=2) (N:=some 40) (v:=?_) (a':=?_) #[true,true,true,false,false,false,false,false,false,false,false,false] rfl rfl (any_of HT_.out (by kernel_rfl)) (fun _ _ _ h => h) (Or.inl ⟨by rfl,?_⟩) ?_ ?_;rotate_left
   ·intro w';go_simp;with_reducible rfl
   rotate_left
   ·simp only [Act.put,U,V,Z,i64_w,i32_w];rfl
   refine pure_ (i:=3) (N:=some 41) (v:=?_) (a':=?_) #[true,true,true,true,false,false,false,false,false,false,false,false] rfl rfl (any_of HT_.out (by kernel_rfl)) (fun _ _ _ h => h) (Or.inl ⟨by rfl,?_⟩) ?_ ?_;rotate_left
   ·intro w';go_simp;with_reducible rfl
   rotate_left
   ·simp only [Act.put,U,V,Z,i64_w,i32_w];rfl
   refine pure_ (i:=4) (N:=some 42) (v:=?_) (a':=?_) #[true,true,true,true,true,false,false,false,false,false,false,false] rfl rfl (any_of HT_.out (by kernel_rfl)) (fun _ _ _ h => h) (Or.inl ⟨by rfl,?_⟩) ?_ ?_;rotate_left
   ·intro w';go_simp;with_reducible rfl
   rotate_left
   ·simp only [Act.put,U,V,Z,i64_w,i32_w];rfl
   refine pure_ (i:=6) (N:=some 44) (v:=?_) (a':=?_) #[true,true,true,true,true,false,true,false,false,false,false,false] rfl rfl (any_of HT_.out (by kernel_rfl)) (fun _ _ _ h => h) (Or.inl ⟨by rfl,?_⟩) ?_ ?_;rotate_left
   ·intro w';go_simp;with_reducible rfl
   rotate_left
   ·simp only [Act.put,U,V,Z,i64_w,i32_w];rfl
   refine take_ (i:=5) (N:=some 43) (v:=?_) (a':=?_) #[true,true,true,true,true,true,true,false,false,false,false,false] rfl rfl (take_ofW HT_.out HW_.out (by kernel_rfl)) (fun _ _ _ h => h) (Or.inl ⟨by rfl,?_⟩) hHeld ?_ ?_;rotate_left
   ·intro w' s0;go_simp;with_reducible rfl
   rotate_left
   ·simp only [Act.put,U,V,Z,i64_w,i32_w];rfl
   refine one_ (i:=7) (N:=some 45) #[true,true,true,true,true,true,true,true,false,false,false,false] rfl rfl (one_of HT_.out (by kernel_rfl)) (by decide) (fun K hK => ?_);refine Kd.R_lit_step (Kd.int .i64) _ 3 ?hg (N:=45) ?hd (xs:=([1,(-1)] : List Int)) (inner:=[.int .i64 1,.int .i64 (-1)]) (ok:=fun _ => True) (okp:=fun _ => True) ?hr ?hp (fun _ hk => hk) trivial (Below.refl _ _) (Nat.le_refl _) (by simp) ?_; (case hd => rfl); (case hg => rfl); (case hr => first | (go_simp; done) | (go_simp; rfl)); (case hp => exact (Reps.one (show Kd.M (Kd.int .i64) _ _ _ 1 [.int .i64 1] from rfl) (Reps.one (show Kd.M (Kd.int .i64) _ _ _ (-1) [.int .i64 (-1)] from rfl) (Reps.none _ _))));intro v709 w38 ho39 hb hg_ hnew_;have HS0_:=(hb.cell (World.block_lt_of_cell? _ _ (hHeld))).trans (hHeld);clear hg_ hnew_
   (first | rw [← Ny708.out] at ho39 | (simp only [Int.reduceToNat] at ho39; rw [← Ny708.out] at ho39))
   have n0_:=zx (Kd.R_elder' (by (with_reducible repeat (first | apply Kd.R_alloc | apply Kd.R_drewN | apply Kd.R_drew)); exact HO_10.out) (Kd.R_base ho39) hb);have n1_:=zx (Kd.R_below (by (with_reducible repeat (first | apply Kd.R_alloc | apply Kd.R_drewN | apply Kd.R_drew)); exact HO_696001.out) hb);have n2_:=zx (Kd.R_lower (Kd.R_new' ho39 (Kd.R_lt (by (with_reducible repeat (first | apply Kd.R_alloc | apply Kd.R_drewN | apply Kd.R_drew)); exact HO_10.out))) (below_size (by repeat (first | (with_reducible first | exact HB.out | apply below_alloc | apply pw_below_drewN | apply below_drew1 | refine below_set ?_ (IsS122.ge HI689.out) | refine below_set ?_ GE686.out | refine below_set ?_ GE695.out) | exact HB.out))));have n3_:=zx (blk_below (g:=gb686) (o:=.cells #[.int .i64 0,.slice none 0 0] 34 (0,0)) (by (with_reducible repeat (first | refine blk_drewN ?_ _ | refine blk_drew ?_ | refine blk_alloc ?_ _)); exact BK686.out) hb);have n4_:=zx (blk_below (g:=gb695) (o:=.cells #[.int .i64 t690,.slice Ao15 t691.length co15] 34 (0,0)) (by (with_reducible repeat (first | refine blk_drewN ?_ _ | refine blk_drew ?_ | refine blk_alloc ?_ _)); exact BK695.out) hb);have n5_:=zx (IsS122.below (by repeat (first | (with_reducible first | exact HI689.out | apply IsS122.alloc | apply IsS122.drewN | apply IsS122.drew | apply IsS122.set_1 | refine IsS122.far ?_ NB689_686.out _ | refine IsS122.far ?_ NB689_695.out _) | exact HI689.out)) hb);have n6_:=zx (below_step (by repeat (first | (with_reducible first | exact HB.out | apply below_alloc | apply pw_below_drewN | apply below_drew1 | refine below_set ?_ (IsS122.ge HI689.out) | refine below_set ?_ GE686.out | refine below_set ?_ GE695.out) | exact HB.out)) hb);clear HO_10;clear HO_696001;clear BK686;clear BK695;clear HI689;clear HB;have HO_10:=n0_;have HO_696001:=n1_;have HO710:=n2_;have BK686:=n3_;have BK695:=n4_;have HI689:=n5_;have HB:=n6_;clear n0_ n1_ n2_ n3_ n4_ n5_ n6_;clear hb ho39;obtain ⟨Ao40,co40,eo40⟩:=Kd.R_slice HO710.out
   (first | subst eo40 | (injection eo40 with f1_ f2_ f3_; have f4_:=f1_.symm; have f5_:=f3_.symm; clear f1_ f2_ f3_; subst f4_; subst f5_))
   refine hK.out _ _ (HS0_) (fun hHeld => ?_);clear hK K;refine norm_ (a':=?_) ?_ ?_;rotate_left
   ·show Act.put _ (some 45) _ = _
    simp only [Act.put,U,V,Z,i64_w,i32_w];rfl
   refine one_ (i:=8) (N:=some 46) #[true,true,true,true,true,true,true,true,true,false,false,false] rfl rfl (one_of HT_.out (by kernel_rfl)) (by decide) (fun K hK => ?_);refine goes_ Try.func88 (by kernel_rfl) rfl #[.pointer (some ⟨g689,0,none⟩),.slice Ao40 y708.length co40] (by rfl) rfl rfl (by (try simp only [List.map_toArray,List.map_cons,List.map_nil]); first | done | rfl | (simp only [List.length_drop,List.length_take]; rfl)) ?_;with_reducible refine (spec_l30Rd_one.calls kj6 g689 t687 t706 _ _ y708 t711 t712 w _ ?side1 ?side2 ?side3 ?side4 ?side5 A30.out).mono ?_
   (case side1 => repeat (first | (with_reducible first | exact HI689.out | apply IsS122.alloc | apply IsS122.drewN | apply IsS122.drew | apply IsS122.set_1 | refine IsS122.far ?_ NB689_686.out _ | refine IsS122.far ?_ NB689_695.out _) | exact HI689.out))
   (case side2 => repeat (first | (with_reducible first | exact HB.out | apply below_alloc | apply pw_below_drewN | apply below_drew1 | refine below_set ?_ (IsS122.ge HI689.out) | refine below_set ?_ GE686.out | refine below_set ?_ GE695.out) | exact HB.out))
   (case side3 => repeat (first | exact (Kd.R_reads' HO710.out).2.2 | (with_reducible refine Kd.C_alloc ?_ _) | (with_reducible refine Kd.C_drewN ?_ _) | (with_reducible refine Kd.C_drew ?_)))
   (case side4 => exact (Kd.R_reads' HO710.out).2.1)
   (case side5 => exact far_slice (IsS122.own_ne HI689.out HO710.out (by decide)))
   rintro e w41 ⟨rfl,hi,hb,hk⟩;have HS0_:=keep_cell hk (hHeld) (by first | (rw [add_block]; exact Kd.own_blk (IsS122.own_ne HI689.out HO_10.out (by decide))) | (show (Addr.add _ _).block ≠ _; rw [add_block]; exact Kd.own_blk (IsS122.own_ne HI689.out HO_10.out (by decide))) | exact Kd.own_blk (IsS122.own_ne HI689.out HO_10.out (by decide)));refine ⟨_,rfl,?_⟩;have n0_:=zx (Kd.R_mono (Kd.R_keep (IsS122.apart (show IsS122 w _ g689 t687 t706 from by repeat (first | (with_reducible first | exact HI689.out | apply IsS122.alloc | apply IsS122.drewN | apply IsS122.drew | apply IsS122.set_1 | refine IsS122.far ?_ NB689_686.out _ | refine IsS122.far ?_ NB689_695.out _) | exact HI689.out)) (by (with_reducible repeat (first | apply Kd.R_alloc | apply Kd.R_drewN | apply Kd.R_drew)); exact HO_10.out) (by decide)) hk (fun _ h => h.2)) (fun _ h => h.1));have n1_:=zx (Kd.R_mono (Kd.R_keep (IsS122.apart (show IsS122 w _ g689 t687 t706 from by repeat (first | (with_reducible first | exact HI689.out | apply IsS122.alloc | apply IsS122.drewN | apply IsS122.drew | apply IsS122.set_1 | refine IsS122.far ?_ NB689_686.out _ | refine IsS122.far ?_ NB689_695.out _) | exact HI689.out)) (by (with_reducible repeat (first | apply Kd.R_alloc | apply Kd.R_drewN | apply Kd.R_drew)); exact HO_696001.out) (by decide)) hk (fun _ h => h.2)) (fun _ h => h.1));have n2_:=zx (KeepBut.blk hk (g':=gb686) (o:=.cells #[.int .i64 0,.slice none 0 0] 34 (0,0)) (by (with_reducible repeat (first | refine blk_drewN ?_ _ | refine blk_drew ?_ | refine blk_alloc ?_ _)); exact BK686.out) NB686_689.out (by simp));have n3_:=zx (KeepBut.blk hk (g':=gb695) (o:=.cells #[.int .i64 t690,.slice Ao15 t691.length co15] 34 (0,0)) (by (with_reducible repeat (first | refine blk_drewN ?_ _ | refine blk_drew ?_ | refine blk_alloc ?_ _)); exact BK695.out) NB695_689.out (by simp));have n4_:=zx (Kd.R_mono (Kd.R_keep (IsS122.apart (show IsS122 w _ g689 t687 t706 from by repeat (first | (with_reducible first | exact HI689.out | apply IsS122.alloc | apply IsS122.drewN | apply IsS122.drew | apply IsS122.set_1 | refine IsS122.far ?_ NB689_686.out _ | refine IsS122.far ?_ NB689_695.out _) | exact HI689.out)) (by (with_reducible repeat (first | apply Kd.R_alloc | apply Kd.R_drewN | apply Kd.R_drew)); exact HO710.out) (by decide)) hk (fun _ h => h.2)) (fun _ h => h.1));have n5_:=zx (hb);have n6_:=zx (hi);clear HO_10;clear HO_696001;clear BK686;clear BK695;clear HO710;clear HB;clear HI689;have HO_10:=n0_;have HO_696001:=n1_;have BK686:=n2_;have BK695:=n3_;have HO710:=n4_;have HB:=n5_;have HI689:=n6_;clear n0_ n1_ n2_ n3_ n4_ n5_ n6_
   (try clear hb)
   (try clear hb2)
   (try clear hk)
   (try clear hi)
   have p31 : 0 ≤ (t705 : Int):=of_decide_eq_true (by first | (with_reducible assumption) | assumption);have q31 : (t705 : Int) < ((t700.length : Int) : Int):=of_decide_eq_true (by first | (with_reducible assumption) | assumption);obtain ⟨go31,co31,eo31,gb31,gl31,cl31,HG31⟩:=Kd.R_form HO_10.out (by omega)
   (first | cases eo31 | (injection eo31 with ea_ en_ ec_; (first | subst ea_ | (injection ea_ with ea_; subst ea_)); subst ec_; clear en_))
   have GB31:=zx gb31;have GG31:=zx HG31;clear gb31 gl31 HG31
   (first | simp only [add_plain] at hx707_0 | skip)
   obtain ⟨hx31_0,hf31_0⟩:=Kd.R_celln 0 HO_10.out (t705 : Int) p31 q31;replace p31:=eq_true p31;replace q31:=eq_true q31;have HN689_go31:=zx (show g689 ≠ go31 from by have h_:=IsS122.own_ne HI689.out HO_10.out (by decide); intro e_; exact h_ (by rw [e_]; rfl));have HP42:=Kd.R_putn HO_10.out (t705 : Int) (wrap64 ((rd t700 t705) + t711));rw [← Ny713.out] at HP42;have HQ42:=zx HP42;clear HP42;refine hK.out _ _ (HS0_) (fun hHeld => ?_);clear hK K;refine norm_ (a':=?_) ?_ ?_;rotate_left
   ·show Act.put _ (some 46) _ = _
    simp only [Act.put,U,V,Z,i64_w,i32_w];rfl
   refine pure_ (i:=9) (N:=some 47) (v:=?_) (a':=?_) #[true,true,true,true,true,true,true,true,true,true,false,false] rfl rfl (any_of HT_.out (by kernel_rfl)) (fun _ _ _ h => h) (Or.inl ⟨by rfl,?_⟩) ?_ ?_;rotate_left
   ·intro w';go_simp;with_reducible rfl
   rotate_left
   ·simp only [Act.put,U,V,Z,i64_w,i32_w];rfl
   refine pure_ (i:=10) (N:=some 48) (v:=?_) (a':=?_) #[true,true,true,true,true,true,true,true,true,true,true,false] rfl rfl (any_of HT_.out (by kernel_rfl)) (fun _ _ _ h => h) (Or.inl ⟨by rfl,?_⟩) ?_ ?_;rotate_left
   ·intro w';go_simp;with_reducible rfl
   rotate_left
   ·simp only [Act.put,U,V,Z,i64_w,i32_w];rfl
   refine last_ (i:=11) (N:=none) #[true,true,true,true,true,true,true,true,true,true,true,true] rfl rfl (one_of HT_.out (by kernel_rfl)) (by decide) (fun K hK => ?_);refine skip_ (w1:=?_) (by rfl) rfl ?_ ?_;rotate_left
   ·go_simp;rfl
   refine hK.out _ _ ?_;clear hK K;refine done_ (done_of HT_.out (by kernel_rfl)) ?_;have n0_ : Aside0 (Kd.R (Kd.int .i64) 3 (w41.setCell ⟨go31,(t705 : Int).toNat,none⟩ (.int .i64 (wrap64 ((rd t700 t705) + t711)))) w.heap.size (fun k_ => some k_ ≠ (.slice Ao40 y708.length co40 : Value).ownBlock) (.slice (some ⟨go31,0,none⟩) t700.length co35) y713):=⟨by (with_reducible repeat (first | apply Kd.R_alloc | apply Kd.R_drewN | apply Kd.R_drew)); exact Kd.R_mono HQ42.out (fun _ hk => hk.2)⟩
   have n1_ : Aside0 (Kd.R k58 58 (w41.setCell ⟨go31,(t705 : Int).toNat,none⟩ (.int .i64 (wrap64 ((rd t700 t705) + t711)))) w.heap.size (fun _ => True) (.slice Ao15 t691.length co15) t691):=⟨by (with_reducible repeat (first | apply Kd.R_alloc | apply Kd.R_drewN | apply Kd.R_drew)); exact Kd.R_mono (Kd.R_far (p:=⟨go31,(t705 : Int).toNat,none⟩) (Kd.R_types HO_696001.out GG31.out (by decide)) (fun _ hk => hk.2) (.int .i64 (wrap64 ((rd t700 t705) + t711)))) (fun _ hk => trivial)⟩
   have n2_ : Aside0 (Kd.R (Kd.int .i64) 3 (w41.setCell ⟨go31,(t705 : Int).toNat,none⟩ (.int .i64 (wrap64 ((rd t700 t705) + t711)))) w.heap.size (fun k_ => some k_ ≠ (.slice (some ⟨go31,0,none⟩) t700.length co35 : Value).ownBlock) (.slice Ao40 y708.length co40) y708):=⟨by (with_reducible repeat (first | apply Kd.R_alloc | apply Kd.R_drewN | apply Kd.R_drew)); exact Kd.R_mono (Kd.R_far (p:=⟨go31,(t705 : Int).toNat,none⟩) (Kd.R_mono HO710.out (fun k_ hk => (⟨hk,fun e_ => hk.2 (by rw [e_]; rfl)⟩ : _ ∧ k_ ≠ go31))) (fun _ hk => hk.2) (.int .i64 (wrap64 ((rd t700 t705) + t711)))) (fun _ hk => hk.1.2)⟩
   have n3_ : Aside0 ((w41.setCell ⟨go31,(t705 : Int).toNat,none⟩ (.int .i64 (wrap64 ((rd t700 t705) + t711)))).heap[gb686]? = some (.cells #[.int .i64 0,.slice none 0 0] 34 (0,0))):=⟨by (with_reducible repeat (first | refine blk_drewN ?_ _ | refine blk_drew ?_ | refine blk_alloc ?_ _)); refine blk_far ?_ (by have h_:=Kd.R_ne HO_10.out BK686.out (by decide); intro e_; exact h_ (by rw [e_]; rfl)) _; (with_reducible repeat (first | refine blk_drewN ?_ _ | refine blk_drew ?_ | refine blk_alloc ?_ _)); exact BK686.out⟩
   have n4_ : Aside0 ((w41.setCell ⟨go31,(t705 : Int).toNat,none⟩ (.int .i64 (wrap64 ((rd t700 t705) + t711)))).heap[gb695]? = some (.cells #[.int .i64 t690,.slice Ao15 t691.length co15] 34 (0,0))):=⟨by (with_reducible repeat (first | refine blk_drewN ?_ _ | refine blk_drew ?_ | refine blk_alloc ?_ _)); refine blk_far ?_ (by have h_:=Kd.R_ne HO_10.out BK695.out (by decide); intro e_; exact h_ (by rw [e_]; rfl)) _; (with_reducible repeat (first | refine blk_drewN ?_ _ | refine blk_drew ?_ | refine blk_alloc ?_ _)); exact BK695.out⟩
   have n5_ : Aside0 (IsS122 w (w41.setCell ⟨go31,(t705 : Int).toNat,none⟩ (.int .i64 (wrap64 ((rd t700 t705) + t711)))) g689 t687 t712):=⟨by repeat (first | (with_reducible first | exact HI689.out | apply IsS122.alloc | apply IsS122.drewN | apply IsS122.drew | apply IsS122.set_1 | refine IsS122.far ?_ HN689_go31.out _ | refine IsS122.far ?_ NB689_686.out _ | refine IsS122.far ?_ NB689_695.out _) | exact HI689.out)⟩
   have n6_ : Aside0 (Below w.heap.size w (w41.setCell ⟨go31,(t705 : Int).toNat,none⟩ (.int .i64 (wrap64 ((rd t700 t705) + t711))))):=⟨by repeat (first | (with_reducible first | exact HB.out | apply below_alloc | apply pw_below_drewN | apply below_drew1 | refine below_set ?_ GB31.out | refine below_set ?_ (IsS122.ge HI689.out) | refine below_set ?_ GE686.out | refine below_set ?_ GE695.out) | exact HB.out)⟩
   (try clear HO_10)
   (try clear HO_696001)
   (try clear HO710)
   (try clear BK686)
   (try clear BK695)
   (try clear HI689)
   (try clear HB)
   generalize (w41.setCell ⟨go31,(t705 : Int).toNat,none⟩ (.int .i64 (wrap64 ((rd t700 t705) + t711)))) = w43 at n0_ n1_ n2_ n3_ n4_ n5_ n6_ ⊢;have HO_10:=n0_;have HO_696001:=n1_;have HO710:=n2_;have BK686:=n3_;have BK695:=n4_;have HI689:=n5_;have HB:=n6_;clear n0_ n1_ n2_ n3_ n4_ n5_ n6_
   try go_wp2_with (first | ((with_reducible refine gate_callee (f:=64) rfl ?_); refine goesL_ (some 50) rfl rfl Try.func64 (by kernel_rfl) rfl #[.pointer (some ⟨g689,0,none⟩),.int .i64 14] rfl (by (try simp only [List.map_toArray,List.map_cons,List.map_nil]); first | done | rfl | (simp only [List.length_drop,List.length_take]; rfl)) ?_; (with_reducible refine (spec_l30Rd_pick.calls kj6 g689 t687 t712 14 t714 t715 w _ ?side1 ?side2 A32.out).mono ?_); (case side1 => repeat (first | (with_reducible first | exact HI689.out | apply IsS122.alloc | apply IsS122.drewN | apply IsS122.drew | apply IsS122.set_1 | refine IsS122.far ?_ NB689_686.out _ | refine IsS122.far ?_ NB689_695.out _) | exact HI689.out)); (case side2 => repeat (first | (with_reducible first | exact HB.out | apply below_alloc | apply pw_below_drewN | apply below_drew1 | refine below_set ?_ (IsS122.ge HI689.out) | refine below_set ?_ GE686.out | refine below_set ?_ GE695.out) | exact HB.out)); rintro e w44 ⟨rfl,hi,hb,hk⟩; refine ⟨_,rfl,?_⟩; have n0_:=zx (Kd.R_mono (Kd.R_keep (IsS122.apart (show IsS122 w _ g689 t687 t712 from by repeat (first | (with_reducible first | exact HI689.out | apply IsS122.alloc | apply IsS122.drewN | apply IsS122.drew | apply IsS122.set_1 | refine IsS122.far ?_ NB689_686.out _ | refine IsS122.far ?_ NB689_695.out _) | exact HI689.out)) (by (with_reducible repeat (first | apply Kd.R_alloc | apply Kd.R_drewN | apply Kd.R_drew)); exact HO_10.out) (by decide)) hk (fun _ h => h.2)) (fun _ h => h.1)); have n1_:=zx (Kd.R_mono (Kd.R_keep (IsS122.apart (show IsS122 w _ g689 t687 t712 from by repeat (first | (with_reducible first | exact HI689.out | apply IsS122.alloc | apply IsS122.drewN | apply IsS122.drew | apply IsS122.set_1 | refine IsS122.far ?_ NB689_686.out _ | refine IsS122.far ?_ NB689_695.out _) | exact HI689.out)) (by (with_reducible repeat (first | apply Kd.R_alloc | apply Kd.R_drewN | apply Kd.R_drew)); exact HO_696001.out) (by decide)) hk (fun _ h => h.2)) (fun _ h => h.1)); have n2_:=zx (KeepBut.blk hk (g':=gb686) (o:=.cells #[.int .i64 0,.slice none 0 0] 34 (0,0)) (by (with_reducible repeat (first | refine blk_drewN ?_ _ | refine blk_drew ?_ | refine blk_alloc ?_ _)); exact BK686.out) NB686_689.out (by simp)); have n3_:=zx (KeepBut.blk hk (g':=gb695) (o:=.cells #[.int .i64 t690,.slice Ao15 t691.length co15] 34 (0,0)) (by (with_reducible repeat (first | refine blk_drewN ?_ _ | refine blk_drew ?_ | refine blk_alloc ?_ _)); exact BK695.out) NB695_689.out (by simp)); have n4_:=zx (Kd.R_mono (Kd.R_keep (IsS122.apart (show IsS122 w _ g689 t687 t712 from by repeat (first | (with_reducible first | exact HI689.out | apply IsS122.alloc | apply IsS122.drewN | apply IsS122.drew | apply IsS122.set_1 | refine IsS122.far ?_ NB689_686.out _ | refine IsS122.far ?_ NB689_695.out _) | exact HI689.out)) (by (with_reducible repeat (first | apply Kd.R_alloc | apply Kd.R_drewN | apply Kd.R_drew)); exact HO710.out) (by decide)) hk (fun _ h => h.2)) (fun _ h => h.1)); have n5_:=zx (hb); have n6_:=zx (hi); clear HO_10; clear HO_696001; clear BK686; clear BK695; clear HO710; clear HB; clear HI689; have HO_10:=n0_; have HO_696001:=n1_; have BK686:=n2_; have BK695:=n3_; have HO710:=n4_; have HB:=n5_; have HI689:=n6_; clear n0_ n1_ n2_ n3_ n4_ n5_ n6_; (try clear hb); (try clear hb2); (try clear hk); (try clear hi)))
   have n0_:=zx (Kd.R_drew HO_10.out);have n1_:=zx (Kd.R_drew HO_696001.out);have n2_:=zx (Kd.R_drew HO710.out);have n3_:=zx (blk_drew BK686.out);have n4_:=zx (blk_drew BK695.out);have n5_:=zx (IsS122.drew HI689.out);have n6_:=zx (below_drew1 HB.out);clear HO_10;clear HO_696001;clear HO710;clear BK686;clear BK695;clear HI689;clear HB;have HO_10:=n0_;have HO_696001:=n1_;have HO710:=n2_;have BK686:=n3_;have BK695:=n4_;have HI689:=n5_;have HB:=n6_;clear n0_ n1_ n2_ n3_ n4_ n5_ n6_;refine start_ (n:=10) (S:=fun w' => w'.cell? ⟨gb695,0,none⟩ = some (.int .i64 t690) ∧ w'.cell? ⟨gb695,1,none⟩ = some (.slice Ao15 t691.length co15)) (ds:=[]) #[false,false,false,false,false,false,false,false,false,false] (by kernel_rfl) rfl rfl ⟨(blk_cell BK695.out 0).trans rfl,(blk_cell BK695.out 1).trans rfl⟩ (fun hHeld => ?_); refine with_tabW spec_DrawFlowValue.tab10 spec_DrawFlowValue.bits10 (fun HT_ HW_ => ?_);generalize w44.drew = w45 at HO_10 HO_696001 HO710 BK686 BK695 HI689 HB hHeld ⊢;refine pure_ (i:=1) (N:=some 53) (v:=?_) (a':=?_) #[false,true,false,false,false,false,false,false,false,false] rfl rfl (any_of HT_.out (by kernel_rfl)) (fun _ _ _ h => h) (Or.inl ⟨by rfl,?_⟩) ?_ ?_;rotate_left
   ·intro w';go_simp;with_reducible rfl
   rotate_left
   ·simp only [Act.put,U,V,Z,i64_w,i32_w];rfl
   refine pure_ (i:=4) (N:=some 56) (v:=?_) (a':=?_) #[false,true,false,false,true,false,false,false,false,false] rfl rfl (any_of HT_.out (by kernel_rfl)) (fun _ _ _ h => h) (Or.inl ⟨by rfl,?_⟩) ?_ ?_;rotate_left
   ·intro w';go_simp;with_reducible rfl
   rotate_left
   ·simp only [Act.put,U,V,Z,i64_w,i32_w];rfl
   refine pure_ (i:=5) (N:=some 57) (v:=?_) (a':=?_) #[false,true,false,false,true,true,false,false,false,false] rfl rfl (any_of HT_.out (by kernel_rfl)) (fun _ _ _ h => h) (Or.inl ⟨by rfl,?_⟩) ?_ ?_;rotate_left
   ·intro w';go_simp;with_reducible rfl
   rotate_left
   ·simp only [Act.put,U,V,Z,i64_w,i32_w];rfl
   refine take_ (i:=0) (N:=some 52) (v:=?_) (a':=?_) #[true,true,false,false,true,true,false,false,false,false] rfl rfl (take_ofW HT_.out HW_.out (by kernel_rfl)) (fun _ _ _ h => h) (Or.inl ⟨by rfl,?_⟩) hHeld ?_ ?_;rotate_left
   ·rintro w' ⟨s0,s1⟩;go_simp;with_reducible rfl
   rotate_left
   ·simp only [Act.put,U,V,Z,i64_w,i32_w];rfl
   refine one_ (i:=2) (N:=some 54) #[true,true,true,false,true,true,false,false,false,false] rfl rfl (one_of HT_.out (by kernel_rfl)) (by decide) (fun K hK => ?_);refine value_ (w1:=?_) (v:=?_) (by rfl) rfl ?_ ?_;rotate_left 2
   ·go_simp;constructor
    ·rfl
    ·rfl
   refine hK.out _ _ ⟨(blk_cell (blk_alloc BK695.out _) 0).trans rfl,(blk_cell (blk_alloc BK695.out _) 1).trans rfl⟩ (fun hHeld => ?_);clear hK K;refine norm_ (a':=?_) ?_ ?_;rotate_left
   ·show Act.put _ (some 54) _ = _
    simp only [Act.put,U,V,Z,i64_w,i32_w];rfl
   refine one_ (i:=3) (N:=some 55) #[true,true,true,true,true,true,false,false,false,false] rfl rfl (one_of HT_.out (by kernel_rfl)) (by decide) (fun K hK => ?_);refine Kd.R_append_step (Kd.int .i64) (w0:=w) w.heap.size (by rfl) (.tmp 53) (.tmp 54) 23 3 (.int .i64 0) 8 rfl Try.underlying23 info3 rfl (by decide) (by omega) (.slice (some ⟨go31,0,none⟩) t700.length co35) y713 0 [.int .i64 0] (fun k_ => some k_ ≠ (.slice Ao40 y708.length co40 : Value).ownBlock) (fun _ => False) rfl rfl ?aP (fun _ hk => hk.elim) ?aF ?aO ?aB ?aS ?aL ?_
   (case aP => exact rfl)
   (case aB => exact (by repeat (first | (with_reducible first | exact HB.out | apply below_alloc | apply pw_below_drewN | apply below_drew1 | refine below_set ?_ (IsS122.ge HI689.out) | refine below_set ?_ GE686.out | refine below_set ?_ GE695.out) | exact HB.out)))
   (case aF => exact (fun k_ hk => Kd.fresh' (Kd.R_lt (by (with_reducible repeat (first | apply Kd.R_alloc | apply Kd.R_drewN | apply Kd.R_drew)); exact HO710.out)) k_ hk))
   (case aO => exact (by (with_reducible repeat (first | apply Kd.R_alloc | apply Kd.R_drewN | apply Kd.R_drew)); exact HO_10.out))
   (case aS => exact (below_size (by repeat (first | (with_reducible first | exact HB.out | apply below_alloc | apply pw_below_drewN | apply below_drew1 | refine below_set ?_ (IsS122.ge HI689.out) | refine below_set ?_ GE686.out | refine below_set ?_ GE695.out) | exact HB.out))))
   (case aL => have:=LMc34.out; omega)
   intro v717 w46 ho hb hg hat;rw [← Ny716.out] at ho;have n0_:=zx (Kd.R_over' (by (with_reducible repeat (first | apply Kd.R_alloc | apply Kd.R_drewN | apply Kd.R_drew)); exact HO_696001.out) (Kd.R_typed (by (with_reducible repeat (first | apply Kd.R_alloc | apply Kd.R_drewN | apply Kd.R_drew)); exact HO_10.out)) (by decide) hg);have n1_:=zx (blk_grown (g:=gb686) (o:=.cells #[.int .i64 0,.slice none 0 0] 34 (0,0)) (by (with_reducible repeat (first | refine blk_drewN ?_ _ | refine blk_drew ?_ | refine blk_alloc ?_ _)); exact BK686.out) hg (Kd.R_ne HO_10.out BK686.out (by decide)));have n2_:=zx (blk_grown (g:=gb695) (o:=.cells #[.int .i64 t690,.slice Ao15 t691.length co15] 34 (0,0)) (by (with_reducible repeat (first | refine blk_drewN ?_ _ | refine blk_drew ?_ | refine blk_alloc ?_ _)); exact BK695.out) hg (Kd.R_ne HO_10.out BK695.out (by decide)));have n3_:=zx (IsS122.grown2 HI689.out (by repeat (first | (with_reducible first | exact HI689.out | apply IsS122.alloc | apply IsS122.drewN | apply IsS122.drew | apply IsS122.set_1 | refine IsS122.far ?_ NB689_686.out _ | refine IsS122.far ?_ NB689_695.out _) | exact HI689.out)) hg (IsS122.own_ne HI689.out HO_10.out (by decide)));have n4_:=zx (Kd.R_after (ok:=(fun _ => True)) (by (with_reducible repeat (first | apply Kd.R_alloc | apply Kd.R_drewN | apply Kd.R_drew)); exact Kd.R_mono HO710.out (fun _ hk => ⟨trivial,hk⟩)) hg hat);have n5_:=zx (hb);have n6_:=zx (ho);clear HO_696001;clear BK686;clear BK695;clear HI689;clear HO710;clear HB;clear HO_10;have HO_696001:=n0_;have BK686:=n1_;have BK695:=n2_;have HI689:=n3_;have HO710:=n4_;have HB:=n5_;have HO718:=n6_;clear n0_ n1_ n2_ n3_ n4_ n5_ n6_;clear ho hb hg hat;refine hK.out _ _ ⟨(blk_cell BK695.out 0).trans rfl,(blk_cell BK695.out 1).trans rfl⟩ (fun hHeld => ?_);clear hK K;refine norm_ (a':=?_) ?_ ?_;rotate_left
   ·show Act.put _ (some 55) _ = _
    simp only [Act.put,U,V,Z,i64_w,i32_w];rfl
   refine one_ (i:=6) (N:=none) #[true,true,true,true,true,true,true,false,false,false] rfl rfl (one_of HT_.out (by kernel_rfl)) (by decide) (fun K hK => ?_);have hs47 : w46.cell? ⟨gb686,0,none⟩ = some (.int .i64 0):=(blk_cell BK686.out 0).trans rfl;have hfs47:=blk_frozen BK686.out 0;have hns47_1:=NB695_686.out;have hms47_1:=NB686_695.out;have hs48 : w46.cell? ⟨gb686,1,none⟩ = some (.slice none 0 0):=(blk_cell BK686.out 1).trans rfl;have hfs48:=blk_frozen BK686.out 1;have hns48_1:=NB695_686.out;have hms48_1:=NB686_695.out;refine skip_ (w1:=?_) (by rfl) rfl ?_ ?_;rotate_left
   ·go_simp;rfl
   refine hK.out _ _ ⟨((cell_far (p:=⟨gb686,_,none⟩) NB695_686.out _).trans (((cell_far (p:=⟨gb686,_,none⟩) NB695_686.out _).trans (hHeld.1)))),((cell_far (p:=⟨gb686,_,none⟩) NB695_686.out _).trans (((cell_far (p:=⟨gb686,_,none⟩) NB695_686.out _).trans (hHeld.2))))⟩ (fun hHeld => ?_);clear hK K;refine pure_ (i:=7) (N:=some 3) (v:=?_) (a':=?_) #[true,true,true,true,true,true,true,true,false,false] rfl rfl (any_of HT_.out (by kernel_rfl)) (fun _ _ _ h => h) (Or.inl ⟨by rfl,?_⟩) ?_ ?_;rotate_left
   ·intro w';go_simp;with_reducible rfl
   rotate_left
   ·simp only [Act.put,U,V,Z,i64_w,i32_w];rfl
   refine pure_ (i:=8) (N:=some 4) (v:=?_) (a':=?_) #[true,true,true,true,true,true,true,true,true,false] rfl rfl (any_of HT_.out (by kernel_rfl)) (fun _ _ _ h => h) (Or.inl ⟨by rfl,?_⟩) ?_ ?_;rotate_left
   ·intro w';go_simp;with_reducible rfl
   rotate_left
   ·simp only [Act.put,U,V,Z,i64_w,i32_w];rfl
   refine pure_ (i:=9) (N:=some 5) (v:=?_) (a':=?_) #[true,true,true,true,true,true,true,true,true,true] rfl rfl (any_of HT_.out (by kernel_rfl)) (fun _ _ _ h => h) (Or.inl ⟨by rfl,?_⟩) ?_ ?_;rotate_left
   ·intro w';go_simp;with_reducible rfl
   rotate_left
   ·simp only [Act.put,U,V,Z,i64_w,i32_w];rfl
   refine done_ (done_of HT_.out (by kernel_rfl)) ?_
   try go_wp2
   refine bodyPost_ret (results_list (rs:=[.cell 2 34,.tmp 3,.tmp 4,.tmp 5]) rfl (by simp) (.cell gb686 34 #[.int .i64 t690,.slice Ao15 t691.length co15] (0,0) _ rfl (by (with_reducible repeat (first | refine blk_drewN ?_ _ | refine blk_drew ?_ | refine blk_alloc ?_ _)); refine blk_put (cs:=#[.int .i64 t690,.slice none 0 0]) ?_ 1 _ rfl; (with_reducible repeat (first | refine blk_drewN ?_ _ | refine blk_drew ?_ | refine blk_alloc ?_ _)); refine blk_put (cs:=#[.int .i64 0,.slice none 0 0]) ?_ 0 _ rfl; (with_reducible repeat (first | refine blk_drewN ?_ _ | refine blk_drew ?_ | refine blk_alloc ?_ _)); exact BK686.out) Try.underlying34 rfl (by kernel_rfl) (.tmp (.tmp (.tmp .nil))))) rfl ?_;exact ⟨_,_,by first | rfl | (simp [errW_none,errW_some] <;> rfl) | (simp [*,errW_none,errW_some] <;> rfl),by (with_reducible repeat (first | apply Kd.R_alloc | apply Kd.R_drewN | apply Kd.R_drew)); exact Kd.R_mono (Kd.R_far (p:=⟨gb686,1,none⟩) (Kd.R_far (p:=⟨gb686,0,none⟩) (Kd.R_types HO_696001.out BK686.out (by decide)) (fun _ hk => hk.2) (.int .i64 t690)) (fun _ hk => hk.2) (.slice Ao15 t691.length co15)) (fun _ hk => trivial),by (with_reducible repeat (first | apply Kd.R_alloc | apply Kd.R_drewN | apply Kd.R_drew)); exact Kd.R_mono (Kd.R_far (p:=⟨gb686,1,none⟩) (Kd.R_far (p:=⟨gb686,0,none⟩) (Kd.R_types HO718.out BK686.out (by decide)) (fun _ hk => hk.2) (.int .i64 t690)) (fun _ hk => hk.2) (.slice Ao15 t691.length co15)) (fun _ hk => trivial),by repeat (first | (with_reducible first | exact HB.out | apply below_alloc | apply pw_below_drewN | apply below_drew1 | refine below_set ?_ (IsS122.ge HI689.out) | refine below_set ?_ GE686.out | refine below_set ?_ GE695.out) | exact HB.out)⟩
def impl_within.f (a0 : Int) (a1 : Int) (a2 : Int) : Option (Bool):=if a0 ≥ a1 then (some (decide (a0 ≤ a2))) else (some false)
set_option maxHeartbeats 8000000 in
set_option maxRecDepth 100000 in
theorem impl_within.calls (a0 : Int) (a1 : Int) (a2 : Int) (r : Bool) (w : World) (h : impl_within.f a0 a1 a2 = some r) :
  Calls Try.prog 82 #[.int .i64 a0,.int .i64 a1,.int .i64 a2] w fun e w' => e = .returned (.bool r) ∧ Drawn0 w w':=by
 have H : (if a0 ≥ a1 then (some (decide (a0 ≤ a2))) else (some false)) = some r:=h;clear h
 by_cases c4 : a0 ≥ a1
 case pos =>
  rw [if_pos c4] at H;have c4b0 : decide (a1 ≤ a0) = true:=decide_eq_true c4;clear c4;obtain rfl:=Option.some.inj H
  go_enter Try.func82,Try.ntmps82
  go_wp2
  go_ret;exact ⟨by first | rfl | (simp; done) | (simp [*]; done),by repeat (first | exact Drawn0.refl _ | apply Drawn0.step)⟩
 rw [if_neg c4] at H;have c4b0 : decide (a1 ≤ a0) = false:=decide_eq_false c4;clear c4;obtain rfl:=Option.some.inj H
 go_enter Try.func82,Try.ntmps82
 go_wp2
 go_ret;exact ⟨by first | rfl | (simp; done) | (simp [*]; done),by repeat (first | exact Drawn0.refl _ | apply Drawn0.step)⟩
def idxI {α : Type} (p : α → Bool) (l : List α) : Int:=match l.findIdx? p with | some i => (i : Int) | none => -1
theorem idxI_hit {α : Type} {p : α → Bool} {l : List α} (k : Nat) (hk : k < l.length) (h : p l[k] = true) (hne : ∀ j (hj : j < k),p (l[j]'(by omega)) = false) : idxI p l = k:=by
 have : l.findIdx? p = some k:=by
  rw [List.findIdx?_eq_some_iff_getElem];exact ⟨hk,h,fun j hj => by rw [hne j hj]; simp⟩
 simp [idxI,this]
theorem idxI_miss {α : Type} {p : α → Bool} {l : List α} (h : ∀ x ∈ l,p x = false) : idxI p l = -1:=by
 have : l.findIdx? p = none:=by
  rw [List.findIdx?_eq_none_iff];exact h
 simp [idxI,this]
theorem idxI_any {α : Type} (p : α → Bool) (l : List α) : decide (idxI p l ≥ 0) = l.any p:=by
 cases h : l.findIdx? p with
 | none =>
  rw [List.findIdx?_eq_none_iff] at h;simp only [idxI,List.findIdx?_eq_none_iff.2 h];rw [eq_comm]
  simpa using h
 | some i =>
  have h':=h;rw [List.findIdx?_eq_some_iff_getElem] at h';obtain ⟨hi,hp,_⟩:=h';simp only [idxI,h];have : l.any p = true:=List.any_eq_true.2 ⟨_,List.getElem_mem hi,hp⟩;rw [this];simp
set_option maxHeartbeats 8000000 in
set_option maxRecDepth 100000 in
theorem slices_IndexFunc_int_int.calls (p : Int → Bool) (g : Nat) (lb : Array Value) (eg : ∀ args w,(callFunc g args).run Try.prog w = .ok (.enter g args) w) (A0 : Option Addr) (c0 : Nat) (l0 : List Int) (w : World) (hr0 : Kd.C (Kd.int .i64) w A0 l0.length l0) (_hc0 : l0.length ≤ c0)
  (hp : ∀ (W : World) (x : Int),x ∈ l0 → Below w.heap.size w W → Calls Try.prog g (#[.int .i64 x] ++ lb) W fun e w' => e = .returned (.bool (p x)) ∧ Below W.heap.size W w') :
  Calls Try.prog 145 #[.slice A0 l0.length c0,.func (.func g) #[] lb] w fun e w' => e = .returned (.int .i64 (idxI p l0)) ∧ Below w.heap.size w w':=by
 have HR0:=zx hr0;have hlen:=hr0.2.1;clear hr0
 go_enter Try.func145,Try.ntmps145
 go_wp2
 go_loopg [5,8] l0.length (fun gg _ s8 wr => ∃ x : Int,s8 = .int .i64 x ∧ Aside0 (0 ≤ x) ∧ Aside0 (x ≤ (l0.length : Int)) ∧ Aside0 ((l0.length : Int) - x ≤ gg) ∧ Aside0 (Below w.heap.size w wr) ∧ Aside0 (∀ j (hl : j < l0.length),(j : Int) < x → p l0[j] = false))
 case atStart => exact ⟨0,rfl,⟨by omega⟩,⟨by omega⟩,⟨by omega⟩,⟨Below.refl _ w⟩,⟨fun j hj h => absurd h (by omega)⟩⟩
 case round =>
  obtain ⟨x,rfl,X0,X1,X2,BW,AA⟩:=hrel
  by_cases c2 : x < (l0.length : Int)
  case neg =>
   have c2b0 : decide (x < (l0.length : Int)) = false:=decide_eq_false c2;have E1:=zx c2;clear c2 hp
   go_wp2
   go_ret;refine ⟨?_,BW.out⟩;rw [idxI_miss (fun y hy => by
    obtain ⟨j,hj,rfl⟩:=List.getElem_of_mem hy;have h1:=E1.out;exact AA.out j hj (by omega))]
   rfl
  have c2b0 : decide (x < (l0.length : Int)) = true:=decide_eq_true c2;have h0:=X0.out;have hg:=X2.out;have hlt : x.toNat < l0.length:=by omega
  obtain ⟨ad,e,hx⟩:=Kd.at_int (Kd.C_below HR0.out BW.out) x h0 c2;cases e;have hw : wrap64 (x + 1) = x + 1:=by unfold wrap64; omega
  have HW:=zx hw;clear hw;have hcall:=hp wr l0[x.toNat] (List.getElem_mem hlt) BW.out;clear hp;have hrd : rd l0 x = l0[x.toNat]:=by simp [rd,hlt]
  rw [← hrd] at hcall;have B : Aside0 (∀ h : x.toNat < l0.length,rd l0 x = l0[x.toNat]):=⟨fun _ => hrd⟩
  clear hrd;generalize hy : rd l0 x = y at hx hcall B;clear hy;have p108:=eq_true h0;have q108:=eq_true c2;have E0:=zx h0;have E1:=zx c2;have E2:=zx hg;have E3:=zx hlt;clear h0 hg hlt c2;cases hq : p y with
  | true =>
   rw [hq] at hcall;have HQ:=zx hq;clear hq
   go_wp2_with (go_at_fn g; refine hcall.mono ?_; rintro e w' ⟨rfl,hb'⟩)
   go_ret;refine ⟨?_,below_then BW.out BW.out.size hb'⟩;have h0:=E0.out;rw [idxI_hit x.toNat E3.out (by rw [← B.out E3.out]; exact HQ.out) (fun j hj => AA.out j _ (by omega))];rw [Int.toNat_of_nonneg h0];rfl
  | false =>
   rw [hq] at hcall;have HQ:=zx hq;clear hq
   go_wp2_with (go_at_fn g; refine hcall.mono ?_; rintro e w' ⟨rfl,hb'⟩)
   have h0:=E0.out;have h1:=E1.out;have h2:=E2.out;go_roundg (l0.length - (x.toNat + 1))
   case measure => omega
   case rel =>
    refine ⟨x + 1,by first | rfl | rw [HW.out],⟨by omega⟩,⟨by omega⟩,⟨by omega⟩,⟨below_then BW.out BW.out.size hb'⟩,⟨fun j hj hl => ?_⟩⟩
    by_cases e : (j : Int) = x
    case neg => exact AA.out j hj (by omega)
    have e' : j = x.toNat:=by omega
    subst e';rw [← B.out E3.out]; exact HQ.out
set_option maxHeartbeats 8000000 in
theorem slices_ContainsFunc_int_int.calls (p : Int → Bool) (g : Nat) (lb : Array Value) (eg : ∀ args w,(callFunc g args).run Try.prog w = .ok (.enter g args) w) (A0 : Option Addr) (c0 : Nat) (l0 : List Int) (w : World) (hr0 : Kd.C (Kd.int .i64) w A0 l0.length l0) (hc0 : l0.length ≤ c0)
  (hp : ∀ (W : World) (x : Int),x ∈ l0 → Below w.heap.size w W → Calls Try.prog g (#[.int .i64 x] ++ lb) W fun e w' => e = .returned (.bool (p x)) ∧ Below W.heap.size W w') :
  Calls Try.prog 120 #[.slice A0 l0.length c0,.func (.func g) #[] lb] w fun e w' => e = .returned (.bool (l0.any p)) ∧ Below w.heap.size w w':=by
 rw [← idxI_any];have hcall:=slices_IndexFunc_int_int.calls p g lb eg A0 c0 l0 w hr0 hc0 hp;clear hp eg hr0
 go_enter Try.func120,Try.ntmps120
 go_wp2_with (go_at_call 145; refine hcall.mono ?_; rintro e w' ⟨rfl,hb'⟩)
 go_ret;exact ⟨rfl,hb'⟩
def okN (n v : Int) : Bool:=decide (0 ≤ v) && decide (v ≤ n - 1)
theorem okN_within (n x : Int) : impl_within.f x 0 (n - 1) = some (okN n x):=by
 unfold impl_within.f okN
 by_cases h : x ≥ 0
 case pos => rw [if_pos h]; simp [show (0 : Int) ≤ x from h]
 rw [if_neg h]; simp [show ¬ (0 : Int) ≤ x from h]
def impl_Net_has.f (a0_0 : Int) (_l0_1 : List S58) (l1 : List Int) : Option Bool:=if -9223372036854775807 ≤ a0_0 then if a0_0 ≤ 9223372036854775807 then some (l1.all (okN a0_0)) else none else none
set_option maxHeartbeats 8000000 in
set_option maxRecDepth 100000 in
theorem has_closure (x n : Int) (g : Nat) (v : Value) (w : World) (hn : -9223372036854775807 ≤ n) (hn2 : n ≤ 9223372036854775807) (hb : w.heap[g]? = some (.cells #[.int .i64 n,v] 34 (0,0))) :
  Calls Try.prog 138 #[.int .i64 x,.pointer (some ⟨g,0,none⟩)] w fun e w' => e = .returned (.bool (!okN n x)) ∧ Below w.heap.size w w':=by
 have hcell : w.cell? ⟨g,0,none⟩ = some (.int .i64 n):=(blk_cell hb 0).trans rfl;have hcall:=impl_within.calls x 0 (n - 1) (okN n x) w (okN_within n x);have hu:=Try.underlying34;generalize okN n x = b at hcall;clear hb
 go_enter Try.func138,Try.ntmps138
 go_wp2_with (go_at_call 82; refine hcall.mono ?_; rintro e w' ⟨rfl,⟨nd,rfl⟩⟩)
 go_ret;exact ⟨rfl,pw_below_drewN (Below.refl _ _) _⟩
set_option maxHeartbeats 8000000 in
set_option maxRecDepth 100000 in
theorem impl_Net_has.calls (a0_0 : Int) (A0_1 : Option Addr) (c0_1 : Nat) (l0_1 : List S58) (A1 : Option Addr) (c1 : Nat) (l1 : List Int) (r : Bool) (w : World) (_hr0_1 : Kd.C k58 w A0_1 l0_1.length l0_1) (_hc0_1 : l0_1.length ≤ c0_1) (hr1 : Kd.C (Kd.int .i64) w A1 l1.length l1) (hc1 : l1.length ≤ c1) (h : impl_Net_has.f a0_0 l0_1 l1 = some r) :
  Calls Try.prog 109 #[.agg #[.int .i64 a0_0,.slice A0_1 l0_1.length c0_1],.slice A1 l1.length c1] w fun e w' => e = .returned (.bool r) ∧ Below w.heap.size w w':=by
 have hn : -9223372036854775807 ≤ a0_0:=by
  apply Decidable.byContradiction
  intro c
  unfold impl_Net_has.f at h
  rw [if_neg c] at h;exact absurd h (by simp)
 have hn2 : a0_0 ≤ 9223372036854775807:=by
  apply Decidable.byContradiction
  intro c
  unfold impl_Net_has.f at h
  rw [if_pos hn,if_neg c] at h;exact absurd h (by simp)
 have hr : l1.all (okN a0_0) = r:=by
  unfold impl_Net_has.f at h
  rw [if_pos hn,if_pos hn2] at h;exact Option.some.inj h
 clear h;have hr' : (!(l1.any fun v => !okN a0_0 v)) = r:=by
  rw [← hr,List.not_any_eq_all_not]
  congr 1
  funext v
  simp
 have hcall:=slices_ContainsFunc_int_int.calls (fun v => !okN a0_0 v) 138 #[.pointer (some ⟨w.heap.size,0,none⟩)] (enters_of Try.func138 (by kernel_rfl) rfl) A1 c1 l1 (w.alloc (.cells #[.int .i64 a0_0,.slice A0_1 l0_1.length c0_1] 34)) (Kd.C_below hr1 (below_alloc (Below.refl _ _) _)) hc1
  (fun W x _ hB => has_closure x a0_0 w.heap.size (.slice A0_1 l0_1.length c0_1) W hn hn2 ((hB.block w.heap.size (by simp)).trans (heap_alloc_new w _)))
 have HN:=zx hn;have HR:=zx hr';clear hr1 hr hr' hn hn2;generalize l1.any (fun v => !okN a0_0 v) = b at hcall HR
 go_enter Try.func109,Try.ntmps109
 go_wp2_with (go_at_call 120; refine hcall.mono ?_; rintro e w' ⟨rfl,hb'⟩)
 go_ret;exact ⟨by rw [← HR.out]; rfl,below_then (below_alloc (Below.refl _ _) _) (by simp) hb'⟩
def impl_costOk.f (a0 : Int) : Option (Bool):=(impl_within.f a0 0 99).bind fun t182 => (some t182)
set_option maxHeartbeats 8000000 in
set_option maxRecDepth 100000 in
theorem impl_costOk.calls (a0 : Int) (r : Bool) (w : World) (h : impl_costOk.f a0 = some r) :
  Calls Try.prog 81 #[.int .i64 a0] w fun e w' => e = .returned (.bool r) ∧ Drawn0 w w':=by
 have H : ((impl_within.f a0 0 99).bind fun t182 => (some t182)) = some r:=h;clear h;replace H:=Option.bind_eq_some_iff.mp H;obtain ⟨t182,A20,H⟩:=H;replace H : (some t182) = some r:=H;have A2:=zx A20;clear A20;obtain rfl:=Option.some.inj H
 go_enter Try.func81,Try.ntmps81
 go_wp2_with (first | ((with_reducible refine gate_callee (f:=82) rfl ?_); refine goesL_ (some 4) rfl rfl Try.func82 (by kernel_rfl) rfl #[.int .i64 a0,.int .i64 0,.int .i64 99] rfl (by (try simp only [List.map_toArray,List.map_cons,List.map_nil]); first | done | rfl | (simp only [List.length_drop,List.length_take]; rfl)) ?_; (with_reducible refine (impl_within.calls a0 0 99 t182 _ A2.out).mono ?_); rintro e w' ⟨rfl,⟨nd,rfl⟩⟩; refine ⟨_,rfl,?_⟩))
 go_ret;exact ⟨by first | rfl | (simp; done) | (simp [*]; done),by repeat (first | exact Drawn0.refl _ | apply Drawn0.step)⟩
def okC (c : Int) : Bool:=decide (0 ≤ c) && decide (c ≤ 99)
theorem okC_costOk (c : Int) : impl_costOk.f c = some (okC c):=by
 unfold impl_costOk.f impl_within.f okC
 by_cases h : c ≥ 0
 case pos => rw [if_pos h]; simp [show (0 : Int) ≤ c from h]
 rw [if_neg h]; simp [show ¬ (0 : Int) ≤ c from h]
theorem rd_at_T {l : List S58} {k : Int} (h : k.toNat < l.length) : rd_T58 l k = l[k.toNat]:=by
 simp [rd_T58,h]
def encA (x : S58) : Value:=.agg #[.int .i64 x.f0,.int .i64 x.f1,.int .i64 x.f2,.int .i64 x.f3,.int .i64 x.f4]
set_option maxHeartbeats 8000000 in
set_option maxRecDepth 100000 in
theorem slices_IndexFunc_Arc.calls (p : S58 → Bool) (g : Nat) (lb : Array Value) (eg : ∀ args w,(callFunc g args).run Try.prog w = .ok (.enter g args) w) (A0 : Option Addr) (c0 : Nat) (l0 : List S58) (w : World) (hr0 : Kd.C k58 w A0 l0.length l0) (_hc0 : l0.length ≤ c0)
  (hp : ∀ (W : World) (x : S58),x ∈ l0 → Below w.heap.size w W → Calls Try.prog g (#[encA x] ++ lb) W fun e w' => e = .returned (.bool (p x)) ∧ Below W.heap.size W w') :
  Calls Try.prog 137 #[.slice A0 l0.length c0,.func (.func g) #[] lb] w fun e w' => e = .returned (.int .i64 (idxI p l0)) ∧ Below w.heap.size w w':=by
 have HR0:=zx hr0;have hlen:=hr0.2.1;clear hr0;have hu:=Try.underlying58
 go_enter Try.func137,Try.ntmps137
 go_wp2
 go_loopg [5,8] l0.length (fun gg _ s8 wr => ∃ x : Int,s8 = .int .i64 x ∧ Aside0 (0 ≤ x) ∧ Aside0 (x ≤ (l0.length : Int)) ∧ Aside0 ((l0.length : Int) - x ≤ gg) ∧ Aside0 (Below w.heap.size w wr) ∧ Aside0 (∀ j (hl : j < l0.length),(j : Int) < x → p l0[j] = false))
 case atStart => exact ⟨0,rfl,⟨by omega⟩,⟨by omega⟩,⟨by omega⟩,⟨Below.refl _ w⟩,⟨fun j hj h => absurd h (by omega)⟩⟩
 case round =>
  obtain ⟨x,rfl,X0,X1,X2,BW,AA⟩:=hrel
  by_cases c2 : x < (l0.length : Int)
  case neg =>
   have c2b0 : decide (x < (l0.length : Int)) = false:=decide_eq_false c2;have E1:=zx c2;clear c2 hp
   go_wp2
   go_ret;refine ⟨?_,BW.out⟩;rw [idxI_miss (fun y hy => by
    obtain ⟨j,hj,rfl⟩:=List.getElem_of_mem hy;have h1:=E1.out;exact AA.out j hj (by omega))]
   rfl
  have c2b0 : decide (x < (l0.length : Int)) = true:=decide_eq_true c2;have h0:=X0.out;have hg:=X2.out;have hlt : x.toNat < l0.length:=by omega
  obtain ⟨ad,e,hx0,hx1,hx2,hx3,hx4⟩:=at_T58 (Kd.C_below HR0.out BW.out) x h0 c2;cases e;have hw : wrap64 (x + 1) = x + 1:=by unfold wrap64; omega
  have HW:=zx hw;clear hw;have hcall:=hp wr l0[x.toNat] (List.getElem_mem hlt) BW.out;clear hp;have hrd : rd_T58 l0 x = l0[x.toNat]:=rd_at_T hlt;rw [← hrd] at hcall;have B : Aside0 (∀ h : x.toNat < l0.length,rd_T58 l0 x = l0[x.toNat]):=⟨fun _ => hrd⟩
  clear hrd;generalize hy : rd_T58 l0 x = y at hx0 hx1 hx2 hx3 hx4 hcall B;clear hy
  unfold encA at hcall
  have p108:=eq_true h0;have q108:=eq_true c2;have E0:=zx h0;have E1:=zx c2;have E2:=zx hg;have E3:=zx hlt;clear h0 hg hlt c2;cases hq : p y with
  | true =>
   rw [hq] at hcall;have HQ:=zx hq;clear hq
   go_wp2_with (go_at_fn g; refine hcall.mono ?_; rintro e w' ⟨rfl,hb'⟩)
   go_ret;refine ⟨?_,below_then BW.out BW.out.size hb'⟩;have h0:=E0.out;rw [idxI_hit x.toNat E3.out (by rw [← B.out E3.out]; exact HQ.out) (fun j hj => AA.out j _ (by omega))];rw [Int.toNat_of_nonneg h0];rfl
  | false =>
   rw [hq] at hcall;have HQ:=zx hq;clear hq
   go_wp2_with (go_at_fn g; refine hcall.mono ?_; rintro e w' ⟨rfl,hb'⟩)
   have h0:=E0.out;have h1:=E1.out;have h2:=E2.out;go_roundg (l0.length - (x.toNat + 1))
   case measure => omega
   case rel =>
    refine ⟨x + 1,by first | rfl | rw [HW.out],⟨by omega⟩,⟨by omega⟩,⟨by omega⟩,⟨below_then BW.out BW.out.size hb'⟩,⟨fun j hj hl => ?_⟩⟩
    by_cases e : (j : Int) = x
    case neg => exact AA.out j hj (by omega)
    have e' : j = x.toNat:=by omega
    subst e';rw [← B.out E3.out]; exact HQ.out
set_option maxHeartbeats 8000000 in
theorem slices_ContainsFunc_Arc.calls (p : S58 → Bool) (g : Nat) (lb : Array Value) (eg : ∀ args w,(callFunc g args).run Try.prog w = .ok (.enter g args) w) (A0 : Option Addr) (c0 : Nat) (l0 : List S58) (w : World) (hr0 : Kd.C k58 w A0 l0.length l0) (hc0 : l0.length ≤ c0)
  (hp : ∀ (W : World) (x : S58),x ∈ l0 → Below w.heap.size w W → Calls Try.prog g (#[encA x] ++ lb) W fun e w' => e = .returned (.bool (p x)) ∧ Below W.heap.size W w') :
  Calls Try.prog 107 #[.slice A0 l0.length c0,.func (.func g) #[] lb] w fun e w' => e = .returned (.bool (l0.any p)) ∧ Below w.heap.size w w':=by
 rw [← idxI_any];have hcall:=slices_IndexFunc_Arc.calls p g lb eg A0 c0 l0 w hr0 hc0 hp;clear hp eg hr0;have hu:=Try.underlying58
 go_enter Try.func107,Try.ntmps107
 go_wp2_with (go_at_call 137; refine hcall.mono ?_; rintro e w' ⟨rfl,hb'⟩)
 go_ret;exact ⟨rfl,hb'⟩
def okArc (n : Int) (a : S58) : Bool:=okN n a.f0 && okN n a.f1 && !(a.f0 == a.f1) && okC a.f2 && okC a.f3 && okN 10 a.f4
def netOkB (n : Int) (l : List S58) : Bool:=decide (1 ≤ n) && decide (n ≤ 8) && decide ((l.length : Int) ≤ 16) && l.all (okArc n)
def impl_NetOk.f (a0_0 : Int) (l0_1 : List S58) : Option Bool:=some (decide (1 ≤ a0_0) && decide (a0_0 ≤ 8) && decide ((l0_1.length : Int) ≤ 16) && l0_1.all (okArc a0_0))
theorem heap_alloc_at {W : World} {o : Obj} {k : Nat} (h : k = W.heap.size) : (W.alloc o).heap[k]? = some o:=by subst h; exact heap_alloc_new W o
theorem two_reads (W : World) (b : Nat) (x y : Int) (h : W.heap[b]? = some (.cells #[.int .i64 x,.int .i64 y] 3 (0,0))) : Kd.C (Kd.int .i64) W (some ⟨b,0,none⟩) [x,y].length [x,y] :=
 Kd.C_of_reads (d:=(0 : Int)) (h1:=fun _ => rfl) ⟨rfl,by simp,fun _ => ⟨_,rfl,fun j hj => by
  have h0 : W.cell? ⟨b,0,none⟩ = some (.int .i64 x):=(blk_cell h 0).trans rfl;have h1 : W.cell? ⟨b,1,none⟩ = some (.int .i64 y):=(blk_cell h 1).trans rfl
  match j,hj with
  | 0,_ => rw [add_plain]; exact h0
  | 1,_ => rw [add_plain]; exact h1⟩⟩
set_option maxHeartbeats 8000000 in
set_option maxRecDepth 100000 in
theorem NetOk_closure (x : S58) (n : Int) (g : Nat) (A : Option Addr) (c : Nat) (l : List S58) (w : World) (hn : 1 ≤ n) (hn2 : n ≤ 8) (hr : Kd.C k58 w A l.length l) (hc : l.length ≤ c) (hb : w.heap[g]? = some (.cells #[.int .i64 n,.slice A l.length c] 34 (0,0))) :
  Calls Try.prog 108 #[encA x,.pointer (some ⟨g,0,none⟩)] w fun e w' => e = .returned (.bool (!okArc n x)) ∧ Below w.heap.size w w':=by
 have hcell : w.cell? ⟨g,0,none⟩ = some (.int .i64 n):=(blk_cell hb 0).trans rfl;have hcell1 : w.cell? ⟨g,1,none⟩ = some (.slice A l.length c):=(blk_cell hb 1).trans rfl;have hhas:=fun (W : World) (a0 : Nat) (h1 : Below w.heap.size w W) (h2 : W.heap[a0]? = some (.cells #[.int .i64 x.f0,.int .i64 x.f1] 3 (0,0))) => impl_Net_has.calls n A c l (some ⟨a0,0,none⟩) 2 [x.f0,x.f1] ([x.f0,x.f1].all (okN n)) W (Kd.C_below hr h1) hc (two_reads W a0 x.f0 x.f1 h2) (by simp) (by unfold impl_Net_has.f; rw [if_pos (by omega),if_pos (by omega)])
 have hbl:=World.block_lt_of_cell? _ _ hcell;have hu:=Try.underlying34;have hu2:=Try.underlying58;have hc2:=fun (W : World) => impl_costOk.calls x.f2 (okC x.f2) W (okC_costOk x.f2)
 have hc3:=fun (W : World) => impl_costOk.calls x.f3 (okC x.f3) W (okC_costOk x.f3)
 have hload:=fun (W : World) => impl_within.calls x.f4 0 9 (okN 10 x.f4) W (okN_within 10 x.f4)
 clear hb hr
 unfold encA
 have hall : [x.f0,x.f1].all (okN n) = (okN n x.f0 && okN n x.f1):=by simp
 rw [hall] at hhas;clear hall
 unfold okArc
 generalize hA : (okN n x.f0 && okN n x.f1) = b1 at hhas;clear hA;generalize okN 10 x.f4 = b5 at hload;generalize okC x.f2 = b2 at hc2;generalize okC x.f3 = b3 at hc3;have HB:=zx (Below.refl w.heap.size w);have HN:=zx hn;have HC:=zx hc;clear hn hn2 hc;have bcell : ∀ {W w1 : World},Below W.heap.size W w1 → (∀ b o,b < W.heap.size → w1.cell? ⟨b,o,none⟩ = W.cell? ⟨b,o,none⟩):=fun hb b o h => hb.cell (p:=⟨b,o,none⟩) h
 have HCELL:=zx @bcell;clear bcell;have hcN:=hbl;cases b1 with
 | false =>
  go_enter Try.func108,Try.ntmps108
  go_wp2_with (go_at_call 109; refine (hhas _ _ ?h1 ?h2).mono ?_; (case h1 => repeat (first | exact Below.refl _ _ | apply below_alloc)); (case h2 => exact heap_alloc_at (by simp)); rintro e w1 ⟨rfl,hb'⟩)
  go_ret;exact ⟨rfl,below_then (below_alloc (below_alloc (Below.refl _ _) _) _) (by simp; omega) hb'⟩
 | true =>
  by_cases hft : x.f0 = x.f1
  case pos =>
   have e1 : (x.f0 == x.f1) = true:=by simpa using hft
   clear hft;rw [e1]
   go_enter Try.func108,Try.ntmps108
   go_wp2_with (go_at_call 109; refine (hhas _ _ ?h1 ?h2).mono ?_; (case h1 => repeat (first | exact Below.refl _ _ | apply below_alloc)); (case h2 => exact heap_alloc_at (by simp)); rintro e w1 ⟨rfl,hb'⟩; have hc1:=HCELL.out hb'; have HB1:=zx hb'; clear hb')
   go_ret;exact ⟨rfl,by repeat (first | apply pw_below_drewN | exact below_then (below_alloc (below_alloc (Below.refl _ _) _) _) (by simp; omega) HB1.out)⟩
  have e1 : (x.f0 == x.f1) = false:=by simpa using hft
  clear hft;rw [e1];cases b2 with
  | false =>
   go_enter Try.func108,Try.ntmps108
   go_wp2_with (first | (go_at_call 109; refine (hhas _ _ ?h1 ?h2).mono ?_; (case h1 => repeat (first | exact Below.refl _ _ | apply below_alloc)); (case h2 => exact heap_alloc_at (by simp)); rintro e w1 ⟨rfl,hb'⟩; have hc1:=HCELL.out hb'; have HB1:=zx hb'; clear hb') | (go_at_call 81; (with_reducible refine (hc2 _).mono ?_); rintro e w2 ⟨rfl,⟨nd2,rfl⟩⟩))
   go_ret;exact ⟨rfl,by repeat (first | apply pw_below_drewN | exact below_then (below_alloc (below_alloc (Below.refl _ _) _) _) (by simp; omega) HB1.out)⟩
  | true =>
   cases b3 with
   | false =>
    go_enter Try.func108,Try.ntmps108
    go_wp2_with (first | (go_at_call 109; refine (hhas _ _ ?h1 ?h2).mono ?_; (case h1 => repeat (first | exact Below.refl _ _ | apply below_alloc)); (case h2 => exact heap_alloc_at (by simp)); rintro e w1 ⟨rfl,hb'⟩; have hc1:=HCELL.out hb'; have HB1:=zx hb'; clear hb') | (go_at_call 81; (with_reducible refine (hc2 _).mono ?_); rintro e w2 ⟨rfl,⟨nd2,rfl⟩⟩) | (go_at_call 81; (with_reducible refine (hc3 _).mono ?_); rintro e w3 ⟨rfl,⟨nd3,rfl⟩⟩))
    go_ret;exact ⟨rfl,by repeat (first | apply pw_below_drewN | exact below_then (below_alloc (below_alloc (Below.refl _ _) _) _) (by simp; omega) HB1.out)⟩
   | true =>
    go_enter Try.func108,Try.ntmps108
    go_wp2_with (first | (go_at_call 109; refine (hhas _ _ ?h1 ?h2).mono ?_; (case h1 => repeat (first | exact Below.refl _ _ | apply below_alloc)); (case h2 => exact heap_alloc_at (by simp)); rintro e w1 ⟨rfl,hb'⟩; have hc1:=HCELL.out hb'; have HB1:=zx hb'; clear hb') | (go_at_call 81; (with_reducible refine (hc2 _).mono ?_); rintro e w2 ⟨rfl,⟨nd2,rfl⟩⟩) | (go_at_call 81; (with_reducible refine (hc3 _).mono ?_); rintro e w3 ⟨rfl,⟨nd3,rfl⟩⟩) | (go_at_call 82; refine (hload _).mono ?_; rintro e w4 ⟨rfl,⟨nd4,rfl⟩⟩))
    go_ret;exact ⟨by cases b5 <;> rfl,by repeat (first | apply pw_below_drewN | exact below_then (below_alloc (below_alloc (Below.refl _ _) _) _) (by simp; omega) HB1.out)⟩
set_option maxHeartbeats 8000000 in
set_option maxRecDepth 100000 in
theorem impl_NetOk.calls (a0_0 : Int) (A0_1 : Option Addr) (c0_1 : Nat) (l0_1 : List S58) (r : Bool) (w : World) (p0 : Kd.C k58 w A0_1 l0_1.length l0_1) (p1 : l0_1.length ≤ c0_1) (h : impl_NetOk.f a0_0 l0_1 = some r) :
  Calls Try.prog 51 #[.agg #[.int .i64 a0_0,.slice A0_1 l0_1.length c0_1]] w fun e w' => e = .returned (.bool r) ∧ Below w.heap.size w w':=by
 have hw1:=fun (W : World) => impl_within.calls a0_0 1 8 (decide (1 ≤ a0_0) && decide (a0_0 ≤ 8)) W (by
  unfold impl_within.f
  by_cases h : a0_0 ≥ 1
  case pos => rw [if_pos h]; simp [show (1 : Int) ≤ a0_0 from h]
  rw [if_neg h]; simp [show ¬ (1 : Int) ≤ a0_0 from h])
 obtain rfl:=Option.some.inj h;clear h;have hu:=Try.underlying34
 by_cases hn : 1 ≤ a0_0 ∧ a0_0 ≤ 8
 case neg =>
  have e0 : (decide (1 ≤ a0_0) && decide (a0_0 ≤ 8)) = false:=by
   rw [Bool.and_eq_false_iff]
   by_cases h1 : 1 ≤ a0_0
   case neg => exact .inl (decide_eq_false h1)
   exact .inr (decide_eq_false (fun h2 => hn ⟨h1,h2⟩))
  rw [e0] at hw1 ⊢;clear hn e0
  go_enter Try.func51,Try.ntmps51
  go_wp2_with (first | (go_at_call 82; refine (hw1 _).mono ?_; rintro e w1 ⟨rfl,⟨nd,rfl⟩⟩))
  go_ret;exact ⟨by simp,pw_below_drewN (below_alloc (Below.refl _ _) _) _⟩
 obtain ⟨hn1,hn2⟩:=hn;rw [decide_eq_true hn1,decide_eq_true hn2] at hw1;rw [decide_eq_true hn1,decide_eq_true hn2];have hbox:=fun (nd : Nat) => slices_ContainsFunc_Arc.calls (fun v => !okArc a0_0 v) 108 #[.pointer (some ⟨w.heap.size,0,none⟩)] (enters_of Try.func108 (by kernel_rfl) rfl) A0_1 c0_1 l0_1 ((w.alloc (.cells #[.int .i64 a0_0,.slice A0_1 l0_1.length c0_1] 34)).drewN nd) (Kd.C_below p0 (pw_below_drewN (below_alloc (Below.refl _ _) _) nd)) p1
  (fun W x _ hB => NetOk_closure x a0_0 w.heap.size A0_1 c0_1 l0_1 W hn1 hn2 (Kd.C_below p0 (below_then (pw_below_drewN (below_alloc (Below.refl _ _) _) nd) (by simp) hB)) p1 ((hB.block w.heap.size (by simp)).trans (heap_alloc_new w _)))
 have hall : (!(l0_1.any fun v => !okArc a0_0 v)) = l0_1.all (okArc a0_0):=by
  rw [List.not_any_eq_all_not]
  congr 1
  funext v
  simp
 rw [← hall];clear hall p0 p1 hn1 hn2;generalize (l0_1.any fun v => !okArc a0_0 v) = b at hbox
 by_cases hl : (l0_1.length : Int) ≤ 16
 case neg =>
  have e1 : decide ((l0_1.length : Int) ≤ 16) = false:=decide_eq_false hl;have e2 : decide (l0_1.length ≤ 16) = false:=decide_eq_false (by omega);rw [e1];clear hl
  go_enter Try.func51,Try.ntmps51
  go_wp2_with (first | (go_at_call 82; refine (hw1 _).mono ?_; rintro e w1 ⟨rfl,⟨nd,rfl⟩⟩))
  go_ret;exact ⟨rfl,pw_below_drewN (below_alloc (Below.refl _ _) _) _⟩
 have e1 : decide ((l0_1.length : Int) ≤ 16) = true:=decide_eq_true hl;have e2 : decide (l0_1.length ≤ 16) = true:=decide_eq_true (by omega);rw [e1];clear hl
 go_enter Try.func51,Try.ntmps51
 go_wp2_with (first | (go_at_call 82; refine (hw1 _).mono ?_; rintro e w1 ⟨rfl,⟨nd,rfl⟩⟩) | (go_at_call 107; refine (hbox _).mono ?_; rintro e w2 ⟨rfl,hb'⟩))
 go_ret;exact ⟨by cases b <;> rfl,below_then (pw_below_drewN (below_alloc (Below.refl _ _) _) _) (by simp) hb'⟩
def impl_nodesIn.f (a0_0 : Int) (l0_1 : List (S58)) (l1 : List Int) : Option (Bool):=(impl_NetOk.f a0_0 l0_1).bind fun t725 => (if t725 = true then ((impl_Net_has.f a0_0 l0_1 l1).bind fun t726 => (some t726)) else (some false))
set_option maxHeartbeats 8000000 in
set_option maxRecDepth 100000 in
theorem impl_nodesIn.calls (a0_0 : Int) (A0_1 : Option Addr) (c0_1 : Nat) (l0_1 : List (S58)) (A1 : Option Addr) (c1 : Nat) (l1 : List Int) (r : Bool) (w : World) (hr0_1 : Kd.C k58 w A0_1 l0_1.length l0_1) (hc0_1 : l0_1.length ≤ c0_1) (hr1 : Kd.C (Kd.int .i64) w A1 l1.length l1) (hc1 : l1.length ≤ c1) (h : impl_nodesIn.f a0_0 l0_1 l1 = some r) :
  Calls Try.prog 99 #[.agg #[.int .i64 a0_0,.slice A0_1 l0_1.length c0_1],.slice A1 l1.length c1] w fun e w' => e = .returned (.bool r) ∧ Below w.heap.size w w':=by
 have hu34:=Try.underlying34;have p2:=zx hr0_1;have p3:=zx hc0_1;clear hr0_1 hc0_1;have HR1:=zx hr1;have HC1:=zx hc1;clear hr1 hc1;have HB:=zx (Below.refl w.heap.size w);have H : ((impl_NetOk.f a0_0 l0_1).bind fun t725 => (if t725 = true then ((impl_Net_has.f a0_0 l0_1 l1).bind fun t726 => (some t726)) else (some false))) = some r:=h;clear h;replace H:=Option.bind_eq_some_iff.mp H;obtain ⟨t725,A30,H⟩:=H;replace H : (if t725 = true then ((impl_Net_has.f a0_0 l0_1 l1).bind fun t726 => (some t726)) else (some false)) = some r:=H;have A3:=zx A30;clear A30
 by_cases c4 : t725 = true
 case neg =>
  replace c4:=Bool.eq_false_iff.mpr c4;subst c4;have H1 : (some false) = some r:=by rw [if_neg (show ¬ (false = true) by decide)] at H; exact H
  clear H;have H:=H1;clear H1;obtain rfl:=Option.some.inj H
  go_enter Try.func99,Try.ntmps99
  go_wp2_with (first | ((with_reducible refine gate_dst (N:=2) rfl ?_); refine box_event ?hg (N:=2) ?hd (cs:=#[.int .i64 a0_0,.slice A0_1 l0_1.length c0_1]) (t:=34) ?hr ?_; (case hd => rfl); (case hg => rfl); (case hr => first | (go_simp; done) | (go_simp; rfl)); intro p1 hg w11 hbox hb; have n0_:=zx (below_step HB.out hb); have n1_:=zx (hbox); have n2_:=zx ((by rw [hg]; exact (below_size HB.out) : w.heap.size ≤ p1)); have n3_:=zx ((by rw [hg]; exact (below_size HB.out) : w.heap.size ≤ p1)); clear HB; have HB:=n0_; have p0:=n1_; have GW724:=n2_; have p4:=n3_; clear n0_ n1_ n2_ n3_; clear hb hbox hg; have hcz12_0 : w11.cell? ⟨p1,0,none⟩ = some (.int .i64 a0_0):=(blk_cell p0.out 0).trans rfl; have hcz12_1 : w11.cell? ⟨p1,1,none⟩ = some (.slice A0_1 l0_1.length c0_1):=(blk_cell p0.out 1).trans rfl; have hfz12_0:=blk_frozen p0.out 0; have hfz12_1:=blk_frozen p0.out 1) | ((with_reducible refine gate_callee (f:=51) rfl ?_); refine goesL_ (some 6) rfl rfl Try.func51 (by kernel_rfl) rfl #[.agg #[.int .i64 a0_0,.slice A0_1 l0_1.length c0_1]] rfl (by (try simp only [List.map_toArray,List.map_cons,List.map_nil]); first | done | rfl | (simp only [List.length_drop,List.length_take]; rfl)) ?_; (with_reducible refine (impl_NetOk.calls a0_0 _ _ l0_1 false _ ?side1 ?side2 A3.out).mono ?_); (case side1 => repeat (first | exact (Kd.C_below p2.out HB.out) | (with_reducible refine Kd.C_alloc ?_ _) | (with_reducible refine Kd.C_drewN ?_ _) | (with_reducible refine Kd.C_drew ?_))); (case side2 => exact p3.out); rintro e w13 ⟨rfl,hb⟩; refine ⟨_,rfl,?_⟩; have n0_:=zx (blk_below (g:=p1) (o:=.cells #[.int .i64 a0_0,.slice A0_1 l0_1.length c0_1] 34 (0,0)) p0.out hb); have n1_:=zx (below_step HB.out hb); clear p0; clear HB; have p0:=n0_; have HB:=n1_; clear n0_ n1_; (try clear hb); (try clear hb2); (try clear hk); (try clear hi)))
  go_ret;exact ⟨by first | rfl | (simp [errW_none,errW_some] <;> rfl) | (simp [*,errW_none,errW_some] <;> rfl),by repeat (first | (with_reducible first | exact HB.out | apply below_alloc | apply pw_below_drewN | apply below_drew1 | refine below_set ?_ p4.out) | exact HB.out)⟩
 subst c4;have H1 : ((impl_Net_has.f a0_0 l0_1 l1).bind fun t726 => (some t726)) = some r:=by rw [if_pos rfl] at H; exact H
 clear H;have H:=H1;clear H1;replace H:=Option.bind_eq_some_iff.mp H;obtain ⟨t726,A50,H⟩:=H;replace H : (some t726) = some r:=H;have A5:=zx A50;clear A50;obtain rfl:=Option.some.inj H
 go_enter Try.func99,Try.ntmps99
 go_wp2_with (first | ((with_reducible refine gate_dst (N:=2) rfl ?_); refine box_event ?hg (N:=2) ?hd (cs:=#[.int .i64 a0_0,.slice A0_1 l0_1.length c0_1]) (t:=34) ?hr ?_; (case hd => rfl); (case hg => rfl); (case hr => first | (go_simp; done) | (go_simp; rfl)); intro p1 hg w6 hbox hb; have n0_:=zx (below_step HB.out hb); have n1_:=zx (hbox); have n2_:=zx ((by rw [hg]; exact (below_size HB.out) : w.heap.size ≤ p1)); have n3_:=zx ((by rw [hg]; exact (below_size HB.out) : w.heap.size ≤ p1)); clear HB; have HB:=n0_; have p0:=n1_; have GW724:=n2_; have p4:=n3_; clear n0_ n1_ n2_ n3_; clear hb hbox hg; have hcz7_0 : w6.cell? ⟨p1,0,none⟩ = some (.int .i64 a0_0):=(blk_cell p0.out 0).trans rfl; have hcz7_1 : w6.cell? ⟨p1,1,none⟩ = some (.slice A0_1 l0_1.length c0_1):=(blk_cell p0.out 1).trans rfl; have hfz7_0:=blk_frozen p0.out 0; have hfz7_1:=blk_frozen p0.out 1) | ((with_reducible refine gate_callee (f:=51) rfl ?_); refine goesL_ (some 6) rfl rfl Try.func51 (by kernel_rfl) rfl #[.agg #[.int .i64 a0_0,.slice A0_1 l0_1.length c0_1]] rfl (by (try simp only [List.map_toArray,List.map_cons,List.map_nil]); first | done | rfl | (simp only [List.length_drop,List.length_take]; rfl)) ?_; (with_reducible refine (impl_NetOk.calls a0_0 _ _ l0_1 true _ ?side1 ?side2 A3.out).mono ?_); (case side1 => repeat (first | exact (Kd.C_below p2.out HB.out) | (with_reducible refine Kd.C_alloc ?_ _) | (with_reducible refine Kd.C_drewN ?_ _) | (with_reducible refine Kd.C_drew ?_))); (case side2 => exact p3.out); rintro e w8 ⟨rfl,hb⟩; refine ⟨_,rfl,?_⟩; have n0_:=zx (blk_below (g:=p1) (o:=.cells #[.int .i64 a0_0,.slice A0_1 l0_1.length c0_1] 34 (0,0)) p0.out hb); have n1_:=zx (below_step HB.out hb); clear p0; clear HB; have p0:=n0_; have HB:=n1_; clear n0_ n1_; (try clear hb); (try clear hb2); (try clear hk); (try clear hi); have hcz9_0 : w8.cell? ⟨p1,0,none⟩ = some (.int .i64 a0_0):=(blk_cell p0.out 0).trans rfl; have hcz9_1 : w8.cell? ⟨p1,1,none⟩ = some (.slice A0_1 l0_1.length c0_1):=(blk_cell p0.out 1).trans rfl; have hfz9_0:=blk_frozen p0.out 0; have hfz9_1:=blk_frozen p0.out 1) | (go_at_call 109; (with_reducible refine (impl_Net_has.calls a0_0 _ _ l0_1 _ _ l1 t726 _ ?side1 ?side2 ?side3 ?side4 A5.out).mono ?_); (case side1 => repeat (first | exact (Kd.C_below p2.out HB.out) | (with_reducible refine Kd.C_alloc ?_ _) | (with_reducible refine Kd.C_drewN ?_ _) | (with_reducible refine Kd.C_drew ?_))); (case side2 => exact p3.out); (case side3 => repeat (first | exact (Kd.C_below HR1.out HB.out) | (with_reducible refine Kd.C_alloc ?_ _) | (with_reducible refine Kd.C_drewN ?_ _) | (with_reducible refine Kd.C_drew ?_))); (case side4 => exact HC1.out); rintro e w10 ⟨rfl,hb⟩; have n0_:=zx (blk_below (g:=p1) (o:=.cells #[.int .i64 a0_0,.slice A0_1 l0_1.length c0_1] 34 (0,0)) p0.out hb); have n1_:=zx (below_step HB.out hb); clear p0; clear HB; have p0:=n0_; have HB:=n1_; clear n0_ n1_; (try clear hb); (try clear hb2); (try clear hk); (try clear hi)))
 go_ret;exact ⟨by first | rfl | (simp [errW_none,errW_some] <;> rfl) | (simp [*,errW_none,errW_some] <;> rfl),by repeat (first | (with_reducible first | exact HB.out | apply below_alloc | apply pw_below_drewN | apply below_drew1 | refine below_set ?_ p4.out) | exact HB.out)⟩
def impl_apart.f (a0_0 : Int) (l0_1 : List (S58)) (a1 : Int) (a2 : Int) : Option (Bool):=(impl_nodesIn.f a0_0 l0_1 (([a1,a2] : List Int))).bind fun t731 => (if t731 = true then (some (a1 != a2)) else (some false))
set_option maxHeartbeats 8000000 in
set_option maxRecDepth 100000 in
theorem impl_apart.calls (a0_0 : Int) (A0_1 : Option Addr) (c0_1 : Nat) (l0_1 : List (S58)) (a1 : Int) (a2 : Int) (r : Bool) (w : World) (hr0_1 : Kd.C k58 w A0_1 l0_1.length l0_1) (hc0_1 : l0_1.length ≤ c0_1) (h : impl_apart.f a0_0 l0_1 a1 a2 = some r) :
  Calls Try.prog 89 #[.agg #[.int .i64 a0_0,.slice A0_1 l0_1.length c0_1],.int .i64 a1,.int .i64 a2] w fun e w' => e = .returned (.bool r) ∧ Below w.heap.size w w':=by
 have hu34:=Try.underlying34;have HR0_1:=zx hr0_1;have HC0_1:=zx hc0_1;clear hr0_1 hc0_1;have HB:=zx (Below.refl w.heap.size w);have H : ((impl_nodesIn.f a0_0 l0_1 (([a1,a2] : List Int))).bind fun t731 => (if t731 = true then (some (a1 != a2)) else (some false))) = some r:=h;clear h;obtain ⟨y728,hy728⟩ : ∃ y_ : List Int,y_ = (([a1,a2] : List Int)):=⟨_,rfl⟩
 replace H : ((impl_nodesIn.f a0_0 l0_1 y728).bind fun t731 => (if t731 = true then (some (a1 != a2)) else (some false))) = some r:=by first | (rw [hy728]; with_reducible exact H) | (have H2_:=(Option.bind_some _ _).symm.trans H; rw [hy728]; with_reducible exact H2_) | (have H2_:=(Option.bind_some _ _).symm.trans H; with_reducible exact H2_) | with_reducible exact H | (rw [hy728]; exact H) | exact H
 have p2:=zx hy728;clear hy728;replace H:=Option.bind_eq_some_iff.mp H;obtain ⟨t731,A40,H⟩:=H;replace H : (if t731 = true then (some (a1 != a2)) else (some false)) = some r:=H;have A4:=zx A40;clear A40
 by_cases c5 : t731 = true
 case pos =>
  subst c5;have H1 : (some (a1 != a2)) = some r:=by rw [if_pos rfl] at H; exact H
  clear H;have H:=H1;clear H1;obtain rfl:=Option.some.inj H
  go_enter Try.func89,Try.ntmps89
  go_wp2_with (first | ((with_reducible refine gate_dst (N:=3) rfl ?_); refine box_event ?hg (N:=3) ?hd (cs:=#[.int .i64 a0_0,.slice A0_1 l0_1.length c0_1]) (t:=34) ?hr ?_; (case hd => rfl); (case hg => rfl); (case hr => first | (go_simp; done) | (go_simp; rfl)); intro p1 hg w6 hbox hb; have n0_:=zx (below_step HB.out hb); have n1_:=zx (hbox); have n2_:=zx ((by rw [hg]; exact (below_size HB.out) : w.heap.size ≤ p1)); have n3_:=zx ((by rw [hg]; exact (below_size HB.out) : w.heap.size ≤ p1)); clear HB; have HB:=n0_; have p0:=n1_; have GW727:=n2_; have p3:=n3_; clear n0_ n1_ n2_ n3_; clear hb hbox hg; have hcz7_0 : w6.cell? ⟨p1,0,none⟩ = some (.int .i64 a0_0):=(blk_cell p0.out 0).trans rfl; have hcz7_1 : w6.cell? ⟨p1,1,none⟩ = some (.slice A0_1 l0_1.length c0_1):=(blk_cell p0.out 1).trans rfl; have hfz7_0:=blk_frozen p0.out 0; have hfz7_1:=blk_frozen p0.out 1) | ((with_reducible refine gate_dst (N:=10) rfl ?_); refine Kd.R_lit (Kd.int .i64) _ 3 ?hg (N:=10) ?hd (xs:=([a1,a2] : List Int)) (inner:=[.int .i64 a1,.int .i64 a2]) (ok:=fun _ => True) (okp:=fun _ => True) ?hr ?hp (fun _ hk => hk) trivial (Below.refl _ _) (Nat.le_refl _) (by simp) ?_; (case hd => rfl); (case hg => rfl); (case hr => first | (go_simp; done) | (go_simp; rfl)); (case hp => exact (Reps.one (show Kd.M (Kd.int .i64) _ _ _ a1 [.int .i64 a1] from rfl) (Reps.one (show Kd.M (Kd.int .i64) _ _ _ a2 [.int .i64 a2] from rfl) (Reps.none _ _)))); intro v729 w8 ho9 hb hg_ hnew_; clear hg_ hnew_; (first | rw [← p2.out] at ho9 | (simp only [Int.reduceToNat] at ho9; rw [← p2.out] at ho9)); have n0_:=zx (Kd.R_lower ho9 (below_size HB.out)); have n1_:=zx (blk_below (g:=p1) (o:=.cells #[.int .i64 a0_0,.slice A0_1 l0_1.length c0_1] 34 (0,0)) p0.out hb); have n2_:=zx (below_step HB.out hb); clear p0; clear HB; have HO730:=n0_; have p0:=n1_; have HB:=n2_; clear n0_ n1_ n2_; clear hb ho9; obtain ⟨Ao10,co10,eo10⟩:=Kd.R_slice HO730.out; subst eo10) | ((with_reducible refine gate_callee (f:=99) rfl ?_); refine goesL_ (some 11) rfl rfl Try.func99 (by kernel_rfl) rfl #[.agg #[.int .i64 a0_0,.slice A0_1 l0_1.length c0_1],.slice Ao10 y728.length co10] rfl (by (try simp only [List.map_toArray,List.map_cons,List.map_nil]); first | done | rfl | (simp only [List.length_drop,List.length_take]; rfl)) ?_; (with_reducible refine (impl_nodesIn.calls a0_0 _ _ l0_1 _ _ y728 true _ ?side1 ?side2 ?side3 ?side4 A4.out).mono ?_); (case side1 => repeat (first | exact (Kd.C_below HR0_1.out HB.out) | (with_reducible refine Kd.C_alloc ?_ _) | (with_reducible refine Kd.C_drewN ?_ _) | (with_reducible refine Kd.C_drew ?_))); (case side2 => exact HC0_1.out); (case side3 => repeat (first | exact (Kd.R_reads' HO730.out).2.2 | (with_reducible refine Kd.C_alloc ?_ _) | (with_reducible refine Kd.C_drewN ?_ _) | (with_reducible refine Kd.C_drew ?_))); (case side4 => exact (Kd.R_reads' HO730.out).2.1); rintro e w11 ⟨rfl,hb⟩; refine ⟨_,rfl,?_⟩; have n0_:=zx (Kd.R_below HO730.out hb); have n1_:=zx (blk_below (g:=p1) (o:=.cells #[.int .i64 a0_0,.slice A0_1 l0_1.length c0_1] 34 (0,0)) p0.out hb); have n2_:=zx (below_step HB.out hb); clear HO730; clear p0; clear HB; have HO730:=n0_; have p0:=n1_; have HB:=n2_; clear n0_ n1_ n2_; (try clear hb); (try clear hb2); (try clear hk); (try clear hi)))
  go_ret;exact ⟨by first | rfl | (simp [errW_none,errW_some] <;> rfl) | (simp [*,errW_none,errW_some] <;> rfl),by repeat (first | (with_reducible first | exact HB.out | apply below_alloc | apply pw_below_drewN | apply below_drew1 | refine below_set ?_ p3.out) | exact HB.out)⟩
 replace c5:=Bool.eq_false_iff.mpr c5;subst c5;have H1 : (some false) = some r:=by rw [if_neg (show ¬ (false = true) by decide)] at H; exact H
 clear H;have H:=H1;clear H1;obtain rfl:=Option.some.inj H
 go_enter Try.func89,Try.ntmps89
 go_wp2_with (first | ((with_reducible refine gate_dst (N:=3) rfl ?_); refine box_event ?hg (N:=3) ?hd (cs:=#[.int .i64 a0_0,.slice A0_1 l0_1.length c0_1]) (t:=34) ?hr ?_; (case hd => rfl); (case hg => rfl); (case hr => first | (go_simp; done) | (go_simp; rfl)); intro p1 hg w12 hbox hb; have n0_:=zx (below_step HB.out hb); have n1_:=zx (hbox); have n2_:=zx ((by rw [hg]; exact (below_size HB.out) : w.heap.size ≤ p1)); have n3_:=zx ((by rw [hg]; exact (below_size HB.out) : w.heap.size ≤ p1)); clear HB; have HB:=n0_; have p0:=n1_; have GW727:=n2_; have p3:=n3_; clear n0_ n1_ n2_ n3_; clear hb hbox hg; have hcz13_0 : w12.cell? ⟨p1,0,none⟩ = some (.int .i64 a0_0):=(blk_cell p0.out 0).trans rfl; have hcz13_1 : w12.cell? ⟨p1,1,none⟩ = some (.slice A0_1 l0_1.length c0_1):=(blk_cell p0.out 1).trans rfl; have hfz13_0:=blk_frozen p0.out 0; have hfz13_1:=blk_frozen p0.out 1) | ((with_reducible refine gate_dst (N:=10) rfl ?_); refine Kd.R_lit (Kd.int .i64) _ 3 ?hg (N:=10) ?hd (xs:=([a1,a2] : List Int)) (inner:=[.int .i64 a1,.int .i64 a2]) (ok:=fun _ => True) (okp:=fun _ => True) ?hr ?hp (fun _ hk => hk) trivial (Below.refl _ _) (Nat.le_refl _) (by simp) ?_; (case hd => rfl); (case hg => rfl); (case hr => first | (go_simp; done) | (go_simp; rfl)); (case hp => exact (Reps.one (show Kd.M (Kd.int .i64) _ _ _ a1 [.int .i64 a1] from rfl) (Reps.one (show Kd.M (Kd.int .i64) _ _ _ a2 [.int .i64 a2] from rfl) (Reps.none _ _)))); intro v729 w14 ho15 hb hg_ hnew_; clear hg_ hnew_; (first | rw [← p2.out] at ho15 | (simp only [Int.reduceToNat] at ho15; rw [← p2.out] at ho15)); have n0_:=zx (Kd.R_lower ho15 (below_size HB.out)); have n1_:=zx (blk_below (g:=p1) (o:=.cells #[.int .i64 a0_0,.slice A0_1 l0_1.length c0_1] 34 (0,0)) p0.out hb); have n2_:=zx (below_step HB.out hb); clear p0; clear HB; have HO730:=n0_; have p0:=n1_; have HB:=n2_; clear n0_ n1_ n2_; clear hb ho15; obtain ⟨Ao16,co16,eo16⟩:=Kd.R_slice HO730.out; subst eo16) | ((with_reducible refine gate_callee (f:=99) rfl ?_); refine goesL_ (some 11) rfl rfl Try.func99 (by kernel_rfl) rfl #[.agg #[.int .i64 a0_0,.slice A0_1 l0_1.length c0_1],.slice Ao16 y728.length co16] rfl (by (try simp only [List.map_toArray,List.map_cons,List.map_nil]); first | done | rfl | (simp only [List.length_drop,List.length_take]; rfl)) ?_; (with_reducible refine (impl_nodesIn.calls a0_0 _ _ l0_1 _ _ y728 false _ ?side1 ?side2 ?side3 ?side4 A4.out).mono ?_); (case side1 => repeat (first | exact (Kd.C_below HR0_1.out HB.out) | (with_reducible refine Kd.C_alloc ?_ _) | (with_reducible refine Kd.C_drewN ?_ _) | (with_reducible refine Kd.C_drew ?_))); (case side2 => exact HC0_1.out); (case side3 => repeat (first | exact (Kd.R_reads' HO730.out).2.2 | (with_reducible refine Kd.C_alloc ?_ _) | (with_reducible refine Kd.C_drewN ?_ _) | (with_reducible refine Kd.C_drew ?_))); (case side4 => exact (Kd.R_reads' HO730.out).2.1); rintro e w17 ⟨rfl,hb⟩; refine ⟨_,rfl,?_⟩; have n0_:=zx (Kd.R_below HO730.out hb); have n1_:=zx (blk_below (g:=p1) (o:=.cells #[.int .i64 a0_0,.slice A0_1 l0_1.length c0_1] 34 (0,0)) p0.out hb); have n2_:=zx (below_step HB.out hb); clear HO730; clear p0; clear HB; have HO730:=n0_; have p0:=n1_; have HB:=n2_; clear n0_ n1_ n2_; (try clear hb); (try clear hb2); (try clear hk); (try clear hi)))
 go_ret;exact ⟨by first | rfl | (simp [errW_none,errW_some] <;> rfl) | (simp [*,errW_none,errW_some] <;> rfl),by repeat (first | (with_reducible first | exact HB.out | apply below_alloc | apply pw_below_drewN | apply below_drew1 | refine below_set ?_ p3.out) | exact HB.out)⟩
mutual
def impl_FlowValue.j0 : Nat → List Int → Int → Int → Bool → Int → List (S58) → Option (Int × Bool)
 | 0,_,_,_,_,_,_ => none
 | k + 1,x1,x2,x3,x27,t1,t3 => if x27 = true then (some (0,false)) else (if 0 ≤ t1 then (if (t1 : Int).toNat ≤ 35184372088832 then (impl_FlowValue.l0 k x1 x2 x3 (List.replicate (t1 : Int).toNat 0) t3 (t3.length : Int) 0) else (none)) else (none))
def impl_FlowValue.l0 : Nat → List Int → Int → Int → List Int → List (S58) → Int → Int → Option (Int × Bool)
 | 0,_,_,_,_,_,_,_ => none
 | k + 1,x1,x2,x3,x10,x32,x33,x34 => if x34 < x33 then (if 0 ≤ x34 then (if x34 < (x32.length : Int) then (if x34 < (x1.length : Int) then ((impl_within.f (rd x1 x34) 0 ((rd_T58 x32 x34).f4)).bind fun t740 => (if t740 = true then (if 0 ≤ ((rd_T58 x32 x34).f0) then (if ((rd_T58 x32 x34).f0) < (x10.length : Int) then ((some (x10.set (((rd_T58 x32 x34).f0) : Int).toNat (wrap64 ((rd x10 ((rd_T58 x32 x34).f0)) + (rd x1 x34))) : List Int)).bind fun y743 => (if 0 ≤ ((rd_T58 x32 x34).f1) then (if ((rd_T58 x32 x34).f1) < (x10.length : Int) then (impl_FlowValue.l0 k x1 x2 x3 (y743.set (((rd_T58 x32 x34).f1) : Int).toNat (wrap64 ((rd y743 ((rd_T58 x32 x34).f1)) - (rd x1 x34)))) x32 x33 (wrap64 (x34 + 1))) else (none)) else (none))) else (none)) else (none)) else (some (0,false)))) else (none)) else (none)) else (none)) else (impl_FlowValue.l1 k x2 x3 x10 (x10.length : Int) 0)
def impl_FlowValue.l1 : Nat → Int → Int → List Int → Int → Int → Option (Int × Bool)
 | 0,_,_,_,_,_ => none
 | k + 1,x2,x3,x10,x71,x72 => if x72 < x71 then (if 0 ≤ x72 then (if x72 < (x10.length : Int) then (if (rd x10 x72) = 0 then (impl_FlowValue.l1 k x2 x3 x10 x71 (wrap64 (x72 + 1))) else (if x72 = x2 then (impl_FlowValue.l1 k x2 x3 x10 x71 (wrap64 (x72 + 1))) else (if x72 = x3 then (impl_FlowValue.l1 k x2 x3 x10 x71 (wrap64 (x72 + 1))) else (some (0,false))))) else (none)) else (none)) else (if 0 ≤ x2 then (if x2 < (x10.length : Int) then (some (rd x10 x2,true)) else (none)) else (none))
end
def impl_FlowValue.f (k : Nat) (a0_0 : Int) (l0_1 : List (S58)) (l1 : List Int) (a2 : Int) (a3 : Int) : Option (Int × Bool):=(impl_apart.f a0_0 l0_1 a2 a3).bind fun t733 => (if t733 = true then (impl_FlowValue.j0 k l1 a2 a3 ((l1.length : Int) != (l0_1.length : Int)) a0_0 l0_1) else (impl_FlowValue.j0 k l1 a2 a3 true a0_0 l0_1))
def impl_FlowValue.T7 : Bool × List (List Nat × List Nat):=(true,[([],[]),([],[]),([0,1],[0,1]),([2],[2]),([],[]),([4],[4]),([3,5],[3,5]),([6],[6])])
def impl_FlowValue.B7 : List Nat:=[0,0,3,7,0,16,63,127]
theorem impl_FlowValue.tab7 : rtab .any (opsOf Try.f34 7) = impl_FlowValue.T7:=by kernel_rfl
theorem impl_FlowValue.bits7 : waitsOk impl_FlowValue.T7.2 impl_FlowValue.B7 = true:=by kernel_rfl
def impl_FlowValue.T9 : Bool × List (List Nat × List Nat):=(true,[([],[]),([],[]),([1],[1]),([0,2],[0,2]),([3],[3]),([],[]),([],[]),([5,6],[5,6]),([7],[7]),([4,8],[4,8]),([0,2,0,1,2,3,4,5,6,7,8,9],[0,2]),([10,9,0,1,2,3,4,5,6,7,8,9],[9,10])])
def impl_FlowValue.B9 : List Nat:=[0,0,2,7,15,0,0,96,224,511,1023,2047]
theorem impl_FlowValue.tab9 : rtab .any (opsOf Try.f34 9) = impl_FlowValue.T9:=by kernel_rfl
theorem impl_FlowValue.bits9 : waitsOk impl_FlowValue.T9.2 impl_FlowValue.B9 = true:=by kernel_rfl
def impl_FlowValue.T10 : Bool × List (List Nat × List Nat):=(true,[([],[]),([],[]),([1],[1]),([0,2],[0,2]),([3],[3]),([],[]),([],[]),([5,6],[5,6]),([7],[7]),([4,8],[4,8]),([0,2,0,1,2,3,4,5,6,7,8,9],[0,2]),([10,9,0,1,2,3,4,5,6,7,8,9],[9,10])])
def impl_FlowValue.B10 : List Nat:=[0,0,2,7,15,0,0,96,224,511,1023,2047]
theorem impl_FlowValue.tab10 : rtab .any (opsOf Try.f34 10) = impl_FlowValue.T10:=by kernel_rfl
theorem impl_FlowValue.bits10 : waitsOk impl_FlowValue.T10.2 impl_FlowValue.B10 = true:=by kernel_rfl
set_option maxHeartbeats 8000000 in
set_option maxRecDepth 100000 in
theorem impl_FlowValue.calls (k : Nat) (a0_0 : Int) (A0_1 : Option Addr) (c0_1 : Nat) (l0_1 : List (S58)) (A1 : Option Addr) (c1 : Nat) (l1 : List Int) (a2 : Int) (a3 : Int) (r1 : Int) (r2 : Bool) (w : World) (hr0_1 : Kd.C k58 w A0_1 l0_1.length l0_1) (hc0_1 : l0_1.length ≤ c0_1) (hr1 : Kd.C (Kd.int .i64) w A1 l1.length l1) (hc1 : l1.length ≤ c1) (h : impl_FlowValue.f k a0_0 l0_1 l1 a2 a3 = some (r1,r2)) :
  Calls Try.prog 34 #[.agg #[.int .i64 a0_0,.slice A0_1 l0_1.length c0_1],.slice A1 l1.length c1,.int .i64 a2,.int .i64 a3] w fun e w' => e = .returned (.tuple #[.int .i64 r1,.bool r2]) ∧ Below w.heap.size w w':=by
 have hu34:=Try.underlying34;have hu58:=Try.underlying58;have t4:=zx hr0_1;have HC0_1:=zx hc0_1;clear hr0_1 hc0_1;have HR1:=zx hr1;have HC1:=zx hc1;clear hr1 hc1;have HB:=zx (Below.refl w.heap.size w);have H : ((impl_apart.f a0_0 l0_1 a2 a3).bind fun t733 => (if t733 = true then (impl_FlowValue.j0 k l1 a2 a3 ((l1.length : Int) != (l0_1.length : Int)) a0_0 l0_1) else (impl_FlowValue.j0 k l1 a2 a3 true a0_0 l0_1))) = some (r1,r2):=h;clear h;have HC5:=zx H;clear H
 go_enter Try.func34,Try.ntmps34
 go_upto_region 1 with (first | ((with_reducible refine gate_dst (N:=4) rfl ?_); (try (refine gate_guard (by rfl) ?_; dsimp only)); refine box_event ?hg (N:=4) ?hd (cs:=#[.int .i64 a0_0,.slice A0_1 l0_1.length c0_1]) (t:=34) ?hr ?_; (case hd => rfl); (case hg => rfl); (case hr => first | (go_simp; done) | (go_simp; rfl)); intro q1 hg w6 hbox hb; have n0_:=zx (below_step HB.out hb); have n1_:=zx (hbox); have n2_:=zx ((by rw [hg]; exact (below_size HB.out) : w.heap.size ≤ q1)); have n3_:=zx ((by rw [hg]; exact (below_size HB.out) : w.heap.size ≤ q1)); clear HB; have HB:=n0_; have p5:=n1_; have GW732:=n2_; have q6:=n3_; clear n0_ n1_ n2_ n3_; clear hb hbox hg))
 (try simp only [Act.put,U,V,Z])
 go_cut [27] (fun v27 wc => ∃ (kq : Nat) (t5 : Bool),v27 = .bool t5 ∧ Aside0 (impl_FlowValue.j0 kq l1 a2 a3 t5 a0_0 l0_1 = some (r1,r2)) ∧ Aside0 (kq ≤ k) ∧ Aside0 (wc.heap[q1]? = some (.cells #[.int .i64 a0_0,(.slice A0_1 l0_1.length c0_1)] 34 (0,0))) ∧ Aside0 (Below w.heap.size w wc))
 case first =>
  have H:=HC5.out;clear HC5;replace H:=Option.bind_eq_some_iff.mp H;obtain ⟨t733,A70,H⟩:=H;replace H : (if t733 = true then (impl_FlowValue.j0 k l1 a2 a3 ((l1.length : Int) != (l0_1.length : Int)) a0_0 l0_1) else (impl_FlowValue.j0 k l1 a2 a3 true a0_0 l0_1)) = some (r1,r2):=H;have A7:=zx A70;clear A70
  by_cases c8 : t733 = true
  case neg =>
   replace c8:=Bool.eq_false_iff.mpr c8;subst c8;have H1 : (impl_FlowValue.j0 k l1 a2 a3 true a0_0 l0_1) = some (r1,r2):=by rw [if_neg (show ¬ (false = true) by decide)] at H; exact H
   clear H;have H:=H1;clear H1;have H':=zx H;clear H;have u0 : w6.cell? ⟨q1,0,none⟩ = some (.int .i64 a0_0):=(blk_cell p5.out 0).trans rfl;have u1 : w6.cell? ⟨q1,1,none⟩ = some (.slice A0_1 l0_1.length c0_1):=(blk_cell p5.out 1).trans rfl;have u2:=blk_frozen p5.out 0;have u3:=blk_frozen p5.out 1
   go_wp2_with (first | ((with_reducible refine gate_callee (f:=89) rfl ?_); refine goesL_ (some 18) rfl rfl Try.func89 (by kernel_rfl) rfl #[.agg #[.int .i64 a0_0,.slice A0_1 l0_1.length c0_1],.int .i64 a2,.int .i64 a3] rfl (by (try simp only [List.map_toArray,List.map_cons,List.map_nil]); first | done | rfl | (simp only [List.length_drop,List.length_take]; rfl)) ?_; (with_reducible refine (impl_apart.calls a0_0 _ _ l0_1 a2 a3 false _ ?side1 ?side2 A7.out).mono ?_); (case side1 => repeat (first | exact (Kd.C_below t4.out HB.out) | (with_reducible refine Kd.C_alloc ?_ _) | (with_reducible refine Kd.C_drewN ?_ _) | (with_reducible refine Kd.C_drew ?_))); (case side2 => exact HC0_1.out); rintro e w13 ⟨rfl,hb⟩; refine ⟨_,rfl,?_⟩; have n0_:=zx (blk_below (g:=q1) (o:=.cells #[.int .i64 a0_0,.slice A0_1 l0_1.length c0_1] 34 (0,0)) p5.out hb); have n1_:=zx (below_step HB.out hb); clear p5; clear HB; have p5:=n0_; have HB:=n1_; clear n0_ n1_; (try clear hb); (try clear hb2); (try clear hk); (try clear hi)))
   go_meet
   case rel => exact ⟨_,(true),(by first | rfl | (simp; done) | (simp [*]; done)),H',⟨by first | omega | exact Nat.le_refl _⟩,⟨by (with_reducible repeat (first | refine blk_drewN ?_ _ | refine blk_drew ?_ | refine blk_alloc ?_ _)); exact p5.out⟩,⟨by repeat (first | (with_reducible first | exact HB.out | apply below_alloc | apply pw_below_drewN | apply below_drew1 | refine below_set ?_ q6.out) | exact HB.out)⟩⟩
  subst c8;have H1 : (impl_FlowValue.j0 k l1 a2 a3 ((l1.length : Int) != (l0_1.length : Int)) a0_0 l0_1) = some (r1,r2):=by rw [if_pos rfl] at H; exact H
  clear H;have H:=H1;clear H1;have H':=zx H;clear H;have u6 : w6.cell? ⟨q1,0,none⟩ = some (.int .i64 a0_0):=(blk_cell p5.out 0).trans rfl;have u7 : w6.cell? ⟨q1,1,none⟩ = some (.slice A0_1 l0_1.length c0_1):=(blk_cell p5.out 1).trans rfl;have u8:=blk_frozen p5.out 0;have u9:=blk_frozen p5.out 1
  go_wp2_with (first | ((with_reducible refine gate_callee (f:=89) rfl ?_); refine goesL_ (some 18) rfl rfl Try.func89 (by kernel_rfl) rfl #[.agg #[.int .i64 a0_0,.slice A0_1 l0_1.length c0_1],.int .i64 a2,.int .i64 a3] rfl (by (try simp only [List.map_toArray,List.map_cons,List.map_nil]); first | done | rfl | (simp only [List.length_drop,List.length_take]; rfl)) ?_; (with_reducible refine (impl_apart.calls a0_0 _ _ l0_1 a2 a3 true _ ?side1 ?side2 A7.out).mono ?_); (case side1 => repeat (first | exact (Kd.C_below t4.out HB.out) | (with_reducible refine Kd.C_alloc ?_ _) | (with_reducible refine Kd.C_drewN ?_ _) | (with_reducible refine Kd.C_drew ?_))); (case side2 => exact HC0_1.out); rintro e w10 ⟨rfl,hb⟩; refine ⟨_,rfl,?_⟩; have n0_:=zx (blk_below (g:=q1) (o:=.cells #[.int .i64 a0_0,.slice A0_1 l0_1.length c0_1] 34 (0,0)) p5.out hb); have n1_:=zx (below_step HB.out hb); clear p5; clear HB; have p5:=n0_; have HB:=n1_; clear n0_ n1_; (try clear hb); (try clear hb2); (try clear hk); (try clear hi); have t6 : w10.cell? ⟨q1,0,none⟩ = some (.int .i64 a0_0):=(blk_cell p5.out 0).trans rfl; have t7 : w10.cell? ⟨q1,1,none⟩ = some (.slice A0_1 l0_1.length c0_1):=(blk_cell p5.out 1).trans rfl; have t8:=blk_frozen p5.out 0; have t9:=blk_frozen p5.out 1))
  go_meet
  case rel => exact ⟨_,(((l1.length : Int) != (l0_1.length : Int))),(by first | rfl | (simp; done) | (simp [*]; done)),H',⟨by first | omega | exact Nat.le_refl _⟩,⟨by (with_reducible repeat (first | refine blk_drewN ?_ _ | refine blk_drew ?_ | refine blk_alloc ?_ _)); exact p5.out⟩,⟨by repeat (first | (with_reducible first | exact HB.out | apply below_alloc | apply pw_below_drewN | apply below_drew1 | refine below_set ?_ q6.out) | exact HB.out)⟩⟩
 case rest =>
  clear HC5
  try clear c1
  try clear p2
  try clear c3
  try clear c8
  try clear t6
  try clear t7
  try clear u0
  try clear u1
  try clear u6
  try clear u7
  try clear t8
  try clear t9
  try clear u2
  try clear u3
  try clear u8
  try clear u9
  obtain ⟨kq,t5,rfl,HA,HJ4,p5,HB⟩:=hcut;cases kq with
  | zero => exact absurd HA.out (by simp [impl_FlowValue.j0])
  | succ kj4 =>
   have H:=HA.out;clear HA;simp only [impl_FlowValue.j0] at H
   by_cases c14 : t5 = true
   case pos =>
    subst c14;have H1 : (some (0,false)) = some (r1,r2):=by rw [if_pos rfl] at H; exact H
    clear H;have H:=H1;clear H1;simp only [Option.some.injEq,Prod.mk.injEq] at H;obtain ⟨rfl,rfl⟩:=H
    go_wp2
    go_ret2;exact ⟨by first | rfl | (simp [errW_none,errW_some] <;> rfl) | (simp [*,errW_none,errW_some] <;> rfl),by repeat (first | (with_reducible first | exact HB.out | apply below_alloc | apply pw_below_drewN | apply below_drew1 | refine below_set ?_ q6.out) | exact HB.out)⟩
   replace c14:=Bool.eq_false_iff.mpr c14;subst c14;have H1 : (if 0 ≤ a0_0 then (if (a0_0 : Int).toNat ≤ 35184372088832 then (impl_FlowValue.l0 kj4 l1 a2 a3 (List.replicate (a0_0 : Int).toNat 0) l0_1 (l0_1.length : Int) 0) else (none)) else (none)) = some (r1,r2):=by rw [if_neg (show ¬ (false = true) by decide)] at H; exact H
   clear H;have H:=H1;clear H1
   by_cases c15 : 0 ≤ a0_0
   case neg =>
    rw [if_neg c15] at H;exact absurd H (by simp)
   rw [if_pos c15] at H;have c15b0:=eq_true c15;have c15b1 : decide (0 ≤ a0_0) = true:=decide_eq_true c15;clear c15
   by_cases c16 : (a0_0 : Int).toNat ≤ 35184372088832
   case neg =>
    rw [if_neg c16] at H;exact absurd H (by simp)
   rw [if_pos c16] at H;have c16b0:=eq_true c16;have c16b1 : decide ((a0_0 : Int).toNat ≤ 35184372088832) = true:=decide_eq_true c16;clear c16;obtain ⟨y734,hy734⟩ : ∃ y_ : List Int,y_ = (List.replicate (a0_0 : Int).toNat 0):=⟨_,rfl⟩
   replace H : (impl_FlowValue.l0 kj4 l1 a2 a3 y734 l0_1 (l0_1.length : Int) 0) = some (r1,r2):=by first | (rw [hy734]; with_reducible exact H) | (have H2_:=(Option.bind_some _ _).symm.trans H; rw [hy734]; with_reducible exact H2_) | (have H2_:=(Option.bind_some _ _).symm.trans H; with_reducible exact H2_) | with_reducible exact H | (rw [hy734]; exact H) | exact H
   have Ny734:=zx hy734;clear hy734;have H':=zx H;clear H;have v3 : wc.cell? ⟨q1,0,none⟩ = some (.int .i64 a0_0):=(blk_cell p5.out 0).trans rfl;have v4 : wc.cell? ⟨q1,1,none⟩ = some (.slice A0_1 l0_1.length c0_1):=(blk_cell p5.out 1).trans rfl;have v5:=blk_frozen p5.out 0;have v6:=blk_frozen p5.out 1
   go_wp2_with (first | ((with_reducible refine gate_dst (N:=30) rfl ?_); (try (refine gate_guard (by rfl) ?_; dsimp only)); refine Kd.R_make (Kd.int .i64) _ 3 rfl (N:=30) rfl 23 _ _ rfl a0_0 (by first | rfl | (go_simp; done) | (go_simp; rfl)) (by first | rfl | (go_simp; done) | (go_simp; rfl)) Try.underlying23 (.int .i64 0) 8 info3 rfl (by decide) (by omega) 0 (ok:=fun _ => True) (okp:=fun _ => True) rfl (fun _ hk => hk) trivial (of_decide_eq_true (by first | (with_reducible assumption) | assumption)) (Nat.le_trans (Nat.mul_le_mul_right _ (of_decide_eq_true (by first | (with_reducible assumption) | assumption) : a0_0.toNat ≤ 35184372088832)) (by omega)) (Below.refl _ _) (Nat.le_refl _) ?_; intro v735 w18 ho19 hb hg_ hnew_; clear hg_ hnew_; (first | rw [← Ny734.out] at ho19 | (simp only [Int.reduceToNat] at ho19; rw [← Ny734.out] at ho19)); have n0_:=zx (Kd.R_lower ho19 (below_size HB.out)); have n1_:=zx (blk_below (g:=q1) (o:=.cells #[.int .i64 a0_0,.slice A0_1 l0_1.length c0_1] 34 (0,0)) p5.out hb); have n2_:=zx (below_step HB.out hb); clear p5; clear HB; have HO736:=n0_; have p5:=n1_; have HB:=n2_; clear n0_ n1_ n2_; clear hb ho19; have v7 : w18.cell? ⟨q1,0,none⟩ = some (.int .i64 a0_0):=(blk_cell p5.out 0).trans rfl; have v8 : w18.cell? ⟨q1,1,none⟩ = some (.slice A0_1 l0_1.length c0_1):=(blk_cell p5.out 1).trans rfl; have v9:=blk_frozen p5.out 0; have y7:=blk_frozen p5.out 1))
   go_loopg [34] kj4 (fun kq v34 w' => ∃ (p9 : List Int) (p0 : Int),v34 = .int .i64 p0 ∧ Aside0 (impl_FlowValue.l0 kq l1 a2 a3 p9 l0_1 (l0_1.length : Int) p0 = some (r1,r2)) ∧ Aside0 (kq ≤ kj4) ∧ Aside0 (Kd.R (Kd.int .i64) 3 w' w.heap.size (fun _ => True) v735 p9) ∧ Aside0 (w'.heap[q1]? = some (.cells #[.int .i64 a0_0,(.slice A0_1 l0_1.length c0_1)] 34 (0,0))) ∧ Aside0 (Below w.heap.size w w'))
   case atStart => exact ⟨(y734),(0),(by first | rfl | (simp; done) | (simp [*]; done)),H',⟨Nat.le_refl _⟩,⟨by (with_reducible repeat (first | apply Kd.R_alloc | apply Kd.R_drewN | apply Kd.R_drew)); exact HO736.out⟩,⟨by (with_reducible repeat (first | refine blk_drewN ?_ _ | refine blk_drew ?_ | refine blk_alloc ?_ _)); exact p5.out⟩,⟨by repeat (first | (with_reducible first | exact HB.out | apply below_alloc | apply pw_below_drewN | apply below_drew1 | refine below_set ?_ q6.out) | exact HB.out)⟩⟩
   case round =>
    clear H'
    try clear c1
    try clear p2
    try clear c3
    try clear c8
    try clear c14
    try clear c15
    try clear c15b0
    try clear c15b1
    try clear c16
    try clear c16b0
    try clear c16b1
    try clear t6
    try clear t7
    try clear u0
    try clear u1
    try clear v3
    try clear v4
    try clear v7
    try clear v8
    try clear u6
    try clear u7
    try clear t8
    try clear t9
    try clear u2
    try clear u3
    try clear v5
    try clear v6
    try clear v9
    try clear y7
    try clear u8
    try clear u9
    try clear p2
    obtain ⟨p9,p0,rfl,HA,HK2,p8,p5,HB⟩:=hrel;cases gk with
    | zero => exact absurd HA.out (by simp [impl_FlowValue.l0])
    | succ k2 =>
     have H:=HA.out;clear HA;simp only [impl_FlowValue.l0] at H
     by_cases c21 : p0 < (l0_1.length : Int)
     case neg =>
      rw [if_neg c21] at H;have c21b0 : decide (p0 < (l0_1.length : Int)) = false:=decide_eq_false c21;clear c21;have H':=zx H;clear H;obtain ⟨Ao49,co49,eo49⟩:=Kd.R_slice p8.out;subst eo49
      go_wp2
      go_loopg [72] k2 (fun kq v72 w' => ∃ (q0 : Int),v72 = .int .i64 q0 ∧ Aside0 (impl_FlowValue.l1 kq a2 a3 p9 (p9.length : Int) q0 = some (r1,r2)) ∧ Aside0 (kq ≤ k2) ∧ Aside0 (Kd.R (Kd.int .i64) 3 w' w.heap.size (fun _ => True) (.slice Ao49 p9.length co49) p9) ∧ Aside0 (w'.heap[q1]? = some (.cells #[.int .i64 a0_0,(.slice A0_1 l0_1.length c0_1)] 34 (0,0))) ∧ Aside0 (Below w.heap.size w w'))
      case atStart => exact ⟨(0),(by first | rfl | (simp; done) | (simp [*]; done)),H',⟨Nat.le_refl _⟩,⟨by (with_reducible repeat (first | apply Kd.R_alloc | apply Kd.R_drewN | apply Kd.R_drew)); exact p8.out⟩,⟨by (with_reducible repeat (first | refine blk_drewN ?_ _ | refine blk_drew ?_ | refine blk_alloc ?_ _)); exact p5.out⟩,⟨by repeat (first | (with_reducible first | exact HB.out | apply below_alloc | apply pw_below_drewN | apply below_drew1 | refine below_set ?_ q6.out) | exact HB.out)⟩⟩
      case round =>
       clear H'
       try clear c2
       try clear p2
       try clear q2
       try clear hx2
       try clear c3
       try clear p3
       try clear q3
       try clear hx3
       try clear c4
       try clear p6
       try clear p7
       try clear q7
       try clear hx7
       try clear c8
       try clear c21
       try clear c21b0
       try clear c22
       try clear c23
       try clear c24
       try clear c26
       try clear c27
       try clear c27b0
       try clear c28
       try clear c28b0
       try clear p29
       try clear q29
       try clear hx29
       try clear hf29
       try clear c30
       try clear c30b0
       try clear c31
       try clear c31b0
       try clear p32
       try clear q32
       try clear hx32
       try clear hf32
       try clear c34
       try clear c45
       try clear y8
       try clear y9
       try clear z0
       try clear z1
       try clear z2
       try clear z8
       try clear z9
       try clear m0
       try clear m1
       try clear m2
       try clear z3
       try clear z4
       try clear z5
       try clear z6
       try clear z7
       try clear m3
       try clear m4
       try clear m5
       try clear m6
       try clear m7
       try clear v0
       try clear v1
       try clear q9
       try clear r0
       try clear r3
       try clear r4
       try clear r5
       try clear q5
       try clear s8
       try clear r7
       try clear r8
       try clear r9
       try clear p29
       try clear p32
       try clear p737
       try clear p739
       try clear p741
       try clear p742
       try clear p744
       try clear p745
       try clear q29
       try clear q32
       try clear q737
       try clear q739
       try clear q741
       try clear q742
       try clear q744
       try clear q745
       obtain ⟨q0,rfl,HA,HK3,p8,p5,HB⟩:=hrel;cases gk with
       | zero => exact absurd HA.out (by simp [impl_FlowValue.l1])
       | succ k3 =>
        have H:=HA.out;clear HA;simp only [impl_FlowValue.l1] at H
        by_cases c50 : q0 < (p9.length : Int)
        case neg =>
         rw [if_neg c50] at H;have c50b0 : decide (q0 < (p9.length : Int)) = false:=decide_eq_false c50;clear c50
         by_cases c56 : 0 ≤ a2
         case neg =>
          rw [if_neg c56] at H;exact absurd H (by simp)
         rw [if_pos c56] at H;have c56b0 : decide (0 ≤ a2) = true:=decide_eq_true c56;clear c56
         by_cases c57 : a2 < (p9.length : Int)
         case neg =>
          rw [if_neg c57] at H;exact absurd H (by simp)
         rw [if_pos c57] at H;have c57b0 : decide (a2 < (p9.length : Int)) = true:=decide_eq_true c57;clear c57;simp only [Option.some.injEq,Prod.mk.injEq] at H;obtain ⟨rfl,rfl⟩:=H;have p748 : 0 ≤ (a2 : Int):=of_decide_eq_true (by first | (with_reducible assumption) | assumption);have q748 : a2 < (p9.length : Int):=of_decide_eq_true (by first | (with_reducible assumption) | assumption);obtain ⟨ad748,e748,hx748_0⟩:=Kd.at_int (Kd.R_reads' p8.out).2.2 a2 p748 q748;cases e748;replace p748:=eq_true p748;replace q748:=eq_true q748
         go_wp2
         go_ret2;exact ⟨by first | rfl | (simp [errW_none,errW_some] <;> rfl) | (simp [*,errW_none,errW_some] <;> rfl),by repeat (first | (with_reducible first | exact HB.out | apply below_alloc | apply pw_below_drewN | apply below_drew1 | refine below_set ?_ q6.out) | exact HB.out)⟩
        rw [if_pos c50] at H;have c50b0 : decide (q0 < (p9.length : Int)) = true:=decide_eq_true c50;clear c50
        by_cases c51 : 0 ≤ q0
        case neg =>
         rw [if_neg c51] at H;exact absurd H (by simp)
        rw [if_pos c51] at H;have c51b0 : decide (0 ≤ q0) = true:=decide_eq_true c51;clear c51
        by_cases c52 : q0 < (p9.length : Int)
        case neg =>
         rw [if_neg c52] at H;exact absurd H (by simp)
        rw [if_pos c52] at H;have c52b0 : decide (q0 < (p9.length : Int)) = true:=decide_eq_true c52;clear c52
        by_cases c53 : (rd p9 q0) = 0
        case pos =>
         rw [if_pos c53] at H;have c53b0 : ((rd p9 q0) == 0) = true:=beq_iff_eq.mpr c53;have c53b1 : ((rd p9 q0) != 0) = false:=bne_eq_false_iff_eq.mpr c53;clear c53;have H':=zx H;clear H;have p747 : 0 ≤ (q0 : Int):=of_decide_eq_true (by first | (with_reducible assumption) | assumption);have q747 : q0 < (p9.length : Int):=of_decide_eq_true (by first | (with_reducible assumption) | assumption);obtain ⟨v2,e747,t2⟩:=Kd.at_int (Kd.R_reads' p8.out).2.2 q0 p747 q747;cases e747;replace p747:=eq_true p747;replace q747:=eq_true q747
         go_wp2
         go_roundg k3
         case measure => have:=HJ4.out; have:=HK2.out; have:=HK3.out; omega
         case rel => exact ⟨(wrap64 (q0 + 1)),(by first | rfl | (simp; done) | (simp [*]; done)),H',⟨by have:=HJ4.out; have:=HK2.out; have:=HK3.out; omega⟩,⟨by (with_reducible repeat (first | apply Kd.R_alloc | apply Kd.R_drewN | apply Kd.R_drew)); exact p8.out⟩,⟨by (with_reducible repeat (first | refine blk_drewN ?_ _ | refine blk_drew ?_ | refine blk_alloc ?_ _)); exact p5.out⟩,⟨by repeat (first | (with_reducible first | exact HB.out | apply below_alloc | apply pw_below_drewN | apply below_drew1 | refine below_set ?_ q6.out) | exact HB.out)⟩⟩
        rw [if_neg c53] at H;have c53b0 : ((rd p9 q0) == 0) = false:=beq_eq_false_iff_ne.mpr c53;have c53b1 : ((rd p9 q0) != 0) = true:=bne_iff_ne.mpr c53
        by_cases c54 : q0 = a2
        case pos =>
         rw [if_pos c54] at H;have c54b0 : (q0 == a2) = true:=beq_iff_eq.mpr c54;have c54b1 : (q0 != a2) = false:=bne_eq_false_iff_eq.mpr c54;clear c54;have H':=zx H;clear H;have p747 : 0 ≤ (q0 : Int):=of_decide_eq_true (by first | (with_reducible assumption) | assumption);have q747 : q0 < (p9.length : Int):=of_decide_eq_true (by first | (with_reducible assumption) | assumption);obtain ⟨v2,e747,t2⟩:=Kd.at_int (Kd.R_reads' p8.out).2.2 q0 p747 q747;cases e747;replace p747:=eq_true p747;replace q747:=eq_true q747
         go_wp2
         go_roundg k3
         case measure => have:=HJ4.out; have:=HK2.out; have:=HK3.out; omega
         case rel => exact ⟨(wrap64 (q0 + 1)),(by first | rfl | (simp; done) | (simp [*]; done)),H',⟨by have:=HJ4.out; have:=HK2.out; have:=HK3.out; omega⟩,⟨by (with_reducible repeat (first | apply Kd.R_alloc | apply Kd.R_drewN | apply Kd.R_drew)); exact p8.out⟩,⟨by (with_reducible repeat (first | refine blk_drewN ?_ _ | refine blk_drew ?_ | refine blk_alloc ?_ _)); exact p5.out⟩,⟨by repeat (first | (with_reducible first | exact HB.out | apply below_alloc | apply pw_below_drewN | apply below_drew1 | refine below_set ?_ q6.out) | exact HB.out)⟩⟩
        rw [if_neg c54] at H;have c54b0 : (q0 == a2) = false:=beq_eq_false_iff_ne.mpr c54;have c54b1 : (q0 != a2) = true:=bne_iff_ne.mpr c54
        by_cases c55 : q0 = a3
        case neg =>
         rw [if_neg c55] at H;have c55b0 : (q0 == a3) = false:=beq_eq_false_iff_ne.mpr c55;have c55b1 : (q0 != a3) = true:=bne_iff_ne.mpr c55;simp only [Option.some.injEq,Prod.mk.injEq] at H;obtain ⟨rfl,rfl⟩:=H;have p747 : 0 ≤ (q0 : Int):=of_decide_eq_true (by first | (with_reducible assumption) | assumption);have q747 : q0 < (p9.length : Int):=of_decide_eq_true (by first | (with_reducible assumption) | assumption);obtain ⟨v2,e747,t2⟩:=Kd.at_int (Kd.R_reads' p8.out).2.2 q0 p747 q747;cases e747;replace p747:=eq_true p747;replace q747:=eq_true q747
         go_wp2
         go_ret2;exact ⟨by first | rfl | (simp [errW_none,errW_some] <;> rfl) | (simp [*,errW_none,errW_some] <;> rfl),by repeat (first | (with_reducible first | exact HB.out | apply below_alloc | apply pw_below_drewN | apply below_drew1 | refine below_set ?_ q6.out) | exact HB.out)⟩
        rw [if_pos c55] at H;have c55b0 : (q0 == a3) = true:=beq_iff_eq.mpr c55;have c55b1 : (q0 != a3) = false:=bne_eq_false_iff_eq.mpr c55;clear c55;have H':=zx H;clear H;have p747 : 0 ≤ (q0 : Int):=of_decide_eq_true (by first | (with_reducible assumption) | assumption);have q747 : q0 < (p9.length : Int):=of_decide_eq_true (by first | (with_reducible assumption) | assumption);obtain ⟨v2,e747,t2⟩:=Kd.at_int (Kd.R_reads' p8.out).2.2 q0 p747 q747;cases e747;replace p747:=eq_true p747;replace q747:=eq_true q747
        go_wp2
        go_roundg k3
        case measure => have:=HJ4.out; have:=HK2.out; have:=HK3.out; omega
        case rel => exact ⟨(wrap64 (q0 + 1)),(by first | rfl | (simp; done) | (simp [*]; done)),H',⟨by have:=HJ4.out; have:=HK2.out; have:=HK3.out; omega⟩,⟨by (with_reducible repeat (first | apply Kd.R_alloc | apply Kd.R_drewN | apply Kd.R_drew)); exact p8.out⟩,⟨by (with_reducible repeat (first | refine blk_drewN ?_ _ | refine blk_drew ?_ | refine blk_alloc ?_ _)); exact p5.out⟩,⟨by repeat (first | (with_reducible first | exact HB.out | apply below_alloc | apply pw_below_drewN | apply below_drew1 | refine below_set ?_ q6.out) | exact HB.out)⟩⟩
     rw [if_pos c21] at H;have c21b0 : decide (p0 < (l0_1.length : Int)) = true:=decide_eq_true c21;clear c21
     by_cases c22 : 0 ≤ p0
     case neg =>
      rw [if_neg c22] at H;exact absurd H (by simp)
     rw [if_pos c22] at H;have c22b0 : decide (0 ≤ p0) = true:=decide_eq_true c22;clear c22
     by_cases c23 : p0 < (l0_1.length : Int)
     case neg =>
      rw [if_neg c23] at H;exact absurd H (by simp)
     rw [if_pos c23] at H;have c23b0 : decide (p0 < (l0_1.length : Int)) = true:=decide_eq_true c23;clear c23
     by_cases c24 : p0 < (l1.length : Int)
     case neg =>
      rw [if_neg c24] at H;exact absurd H (by simp)
     rw [if_pos c24] at H;have c24b0 : decide (p0 < (l1.length : Int)) = true:=decide_eq_true c24;clear c24;replace H:=Option.bind_eq_some_iff.mp H;obtain ⟨t740,A250,H⟩:=H;replace H : (if t740 = true then (if 0 ≤ ((rd_T58 l0_1 p0).f0) then (if ((rd_T58 l0_1 p0).f0) < (p9.length : Int) then ((some (p9.set (((rd_T58 l0_1 p0).f0) : Int).toNat (wrap64 ((rd p9 ((rd_T58 l0_1 p0).f0)) + (rd l1 p0))) : List Int)).bind fun y743 => (if 0 ≤ ((rd_T58 l0_1 p0).f1) then (if ((rd_T58 l0_1 p0).f1) < (p9.length : Int) then (impl_FlowValue.l0 k2 l1 a2 a3 (y743.set (((rd_T58 l0_1 p0).f1) : Int).toNat (wrap64 ((rd y743 ((rd_T58 l0_1 p0).f1)) - (rd l1 p0)))) l0_1 (l0_1.length : Int) (wrap64 (p0 + 1))) else (none)) else (none))) else (none)) else (none)) else (some (0,false))) = some (r1,r2):=H;have A25:=zx A250;clear A250
     by_cases c26 : t740 = true
     case neg =>
      replace c26:=Bool.eq_false_iff.mpr c26;subst c26;have H1 : (some (0,false)) = some (r1,r2):=by rw [if_neg (show ¬ (false = true) by decide)] at H; exact H
      clear H;have H:=H1;clear H1;simp only [Option.some.injEq,Prod.mk.injEq] at H;obtain ⟨rfl,rfl⟩:=H;have p737 : 0 ≤ (p0 : Int):=of_decide_eq_true (by first | (with_reducible assumption) | assumption);have q737 : p0 < (l0_1.length : Int):=of_decide_eq_true (by first | (with_reducible assumption) | assumption);obtain ⟨r6,e737,q9,r0,r3,r4,r5⟩:=at_T58 t4.out p0 p737 q737;cases e737;replace q9:=(HB.out.cell (World.block_lt_of_cell? w _ q9)).trans q9;replace r0:=(HB.out.cell (World.block_lt_of_cell? w _ r0)).trans r0;replace r3:=(HB.out.cell (World.block_lt_of_cell? w _ r3)).trans r3;replace r4:=(HB.out.cell (World.block_lt_of_cell? w _ r4)).trans r4;replace r5:=(HB.out.cell (World.block_lt_of_cell? w _ r5)).trans r5;replace p737:=eq_true p737;replace q737:=eq_true q737
      try go_wp2_with (first | ((with_reducible refine gate_dst (N:=12) rfl ?_); (try (refine gate_guard (by rfl) ?_; dsimp only)); refine box_event ?hg (N:=12) ?hd (cs:=#[.int .i64 0,.int .i64 0,.int .i64 0,.int .i64 0,.int .i64 0]) (t:=58) ?hr ?_; (case hd => rfl); (case hg => rfl); (case hr => first | (go_simp; done) | (go_simp; rfl)); intro p1 hg w44 hbox hb; have n0_:=zx (Kd.R_below p8.out hb); have n1_:=zx (blk_below (g:=q1) (o:=.cells #[.int .i64 a0_0,.slice (some r6) l0_1.length c0_1] 34 (0,0)) p5.out hb); have n2_:=zx (below_step HB.out hb); have n3_:=zx (hbox); have n4_:=zx ((by rw [hg]; exact (below_size HB.out) : w.heap.size ≤ p1)); have n5_:=zx ((by rw [hg]; exact (below_size HB.out) : w.heap.size ≤ p1)); have n6_:=zx ((by rw [hg]; exact Nat.ne_of_lt (blk_lt (g:=q1) (o:=.cells #[.int .i64 a0_0,.slice (some r6) l0_1.length c0_1] 34 (0,0)) p5.out) : q1 ≠ p1)); have n7_:=zx ((by rw [hg]; exact Nat.ne_of_gt (blk_lt (g:=q1) (o:=.cells #[.int .i64 a0_0,.slice (some r6) l0_1.length c0_1] 34 (0,0)) p5.out) : p1 ≠ q1)); clear p8; clear p5; clear HB; have p8:=n0_; have p5:=n1_; have HB:=n2_; have p4:=n3_; have GW738:=n4_; have s9:=n5_; have q4:=n6_; have s7:=n7_; clear n0_ n1_ n2_ n3_ n4_ n5_ n6_ n7_; clear hb hbox hg; have hnb45:=s7.out; have hnc45:=q4.out; have z8 : w44.cell? ⟨p1,0,none⟩ = some (.int .i64 0):=(blk_cell p4.out 0).trans rfl; have z9 : w44.cell? ⟨p1,1,none⟩ = some (.int .i64 0):=(blk_cell p4.out 1).trans rfl; have m0 : w44.cell? ⟨p1,2,none⟩ = some (.int .i64 0):=(blk_cell p4.out 2).trans rfl; have m1 : w44.cell? ⟨p1,3,none⟩ = some (.int .i64 0):=(blk_cell p4.out 3).trans rfl; have m2 : w44.cell? ⟨p1,4,none⟩ = some (.int .i64 0):=(blk_cell p4.out 4).trans rfl; have m3:=blk_frozen p4.out 0; have m4:=blk_frozen p4.out 1; have m5:=blk_frozen p4.out 2; have m6:=blk_frozen p4.out 3; have m7:=blk_frozen p4.out 4))
      have n0_ : Aside0 (Kd.R (Kd.int .i64) 3 (((((w44.setCell ⟨p1,0,none⟩ (.int .i64 ((rd_T58 l0_1 p0).f0))).setCell ⟨p1,1,none⟩ (.int .i64 ((rd_T58 l0_1 p0).f1))).setCell ⟨p1,2,none⟩ (.int .i64 ((rd_T58 l0_1 p0).f2))).setCell ⟨p1,3,none⟩ (.int .i64 ((rd_T58 l0_1 p0).f3))).setCell ⟨p1,4,none⟩ (.int .i64 ((rd_T58 l0_1 p0).f4))) w.heap.size (fun _ => True) v735 p9):=⟨by (with_reducible repeat (first | apply Kd.R_alloc | apply Kd.R_drewN | apply Kd.R_drew)); exact Kd.R_mono (Kd.R_far (p:=⟨p1,4,none⟩) (Kd.R_far (p:=⟨p1,3,none⟩) (Kd.R_far (p:=⟨p1,2,none⟩) (Kd.R_far (p:=⟨p1,1,none⟩) (Kd.R_far (p:=⟨p1,0,none⟩) (Kd.R_types p8.out p4.out (by decide)) (fun _ hk => hk.2) (.int .i64 ((rd_T58 l0_1 p0).f0))) (fun _ hk => hk.2) (.int .i64 ((rd_T58 l0_1 p0).f1))) (fun _ hk => hk.2) (.int .i64 ((rd_T58 l0_1 p0).f2))) (fun _ hk => hk.2) (.int .i64 ((rd_T58 l0_1 p0).f3))) (fun _ hk => hk.2) (.int .i64 ((rd_T58 l0_1 p0).f4))) (fun _ hk => trivial)⟩
      have n1_ : Aside0 ((((((w44.setCell ⟨p1,0,none⟩ (.int .i64 ((rd_T58 l0_1 p0).f0))).setCell ⟨p1,1,none⟩ (.int .i64 ((rd_T58 l0_1 p0).f1))).setCell ⟨p1,2,none⟩ (.int .i64 ((rd_T58 l0_1 p0).f2))).setCell ⟨p1,3,none⟩ (.int .i64 ((rd_T58 l0_1 p0).f3))).setCell ⟨p1,4,none⟩ (.int .i64 ((rd_T58 l0_1 p0).f4))).heap[q1]? = some (.cells #[.int .i64 a0_0,.slice (some r6) l0_1.length c0_1] 34 (0,0))):=⟨by (with_reducible repeat (first | refine blk_drewN ?_ _ | refine blk_drew ?_ | refine blk_alloc ?_ _)); refine blk_far ?_ q4.out _; (with_reducible repeat (first | refine blk_drewN ?_ _ | refine blk_drew ?_ | refine blk_alloc ?_ _)); refine blk_far ?_ q4.out _; (with_reducible repeat (first | refine blk_drewN ?_ _ | refine blk_drew ?_ | refine blk_alloc ?_ _)); refine blk_far ?_ q4.out _; (with_reducible repeat (first | refine blk_drewN ?_ _ | refine blk_drew ?_ | refine blk_alloc ?_ _)); refine blk_far ?_ q4.out _; (with_reducible repeat (first | refine blk_drewN ?_ _ | refine blk_drew ?_ | refine blk_alloc ?_ _)); refine blk_far ?_ q4.out _; (with_reducible repeat (first | refine blk_drewN ?_ _ | refine blk_drew ?_ | refine blk_alloc ?_ _)); exact p5.out⟩
      have n2_ : Aside0 ((((((w44.setCell ⟨p1,0,none⟩ (.int .i64 ((rd_T58 l0_1 p0).f0))).setCell ⟨p1,1,none⟩ (.int .i64 ((rd_T58 l0_1 p0).f1))).setCell ⟨p1,2,none⟩ (.int .i64 ((rd_T58 l0_1 p0).f2))).setCell ⟨p1,3,none⟩ (.int .i64 ((rd_T58 l0_1 p0).f3))).setCell ⟨p1,4,none⟩ (.int .i64 ((rd_T58 l0_1 p0).f4))).heap[p1]? = some (.cells #[.int .i64 ((rd_T58 l0_1 p0).f0),.int .i64 ((rd_T58 l0_1 p0).f1),.int .i64 ((rd_T58 l0_1 p0).f2),.int .i64 ((rd_T58 l0_1 p0).f3),.int .i64 ((rd_T58 l0_1 p0).f4)] 58 (0,0))):=⟨by (with_reducible repeat (first | refine blk_drewN ?_ _ | refine blk_drew ?_ | refine blk_alloc ?_ _)); refine blk_put (cs:=#[.int .i64 ((rd_T58 l0_1 p0).f0),.int .i64 ((rd_T58 l0_1 p0).f1),.int .i64 ((rd_T58 l0_1 p0).f2),.int .i64 ((rd_T58 l0_1 p0).f3),.int .i64 0]) ?_ 4 _ rfl; (with_reducible repeat (first | refine blk_drewN ?_ _ | refine blk_drew ?_ | refine blk_alloc ?_ _)); refine blk_put (cs:=#[.int .i64 ((rd_T58 l0_1 p0).f0),.int .i64 ((rd_T58 l0_1 p0).f1),.int .i64 ((rd_T58 l0_1 p0).f2),.int .i64 0,.int .i64 0]) ?_ 3 _ rfl; (with_reducible repeat (first | refine blk_drewN ?_ _ | refine blk_drew ?_ | refine blk_alloc ?_ _)); refine blk_put (cs:=#[.int .i64 ((rd_T58 l0_1 p0).f0),.int .i64 ((rd_T58 l0_1 p0).f1),.int .i64 0,.int .i64 0,.int .i64 0]) ?_ 2 _ rfl; (with_reducible repeat (first | refine blk_drewN ?_ _ | refine blk_drew ?_ | refine blk_alloc ?_ _)); refine blk_put (cs:=#[.int .i64 ((rd_T58 l0_1 p0).f0),.int .i64 0,.int .i64 0,.int .i64 0,.int .i64 0]) ?_ 1 _ rfl; (with_reducible repeat (first | refine blk_drewN ?_ _ | refine blk_drew ?_ | refine blk_alloc ?_ _)); refine blk_put (cs:=#[.int .i64 0,.int .i64 0,.int .i64 0,.int .i64 0,.int .i64 0]) ?_ 0 _ rfl; (with_reducible repeat (first | refine blk_drewN ?_ _ | refine blk_drew ?_ | refine blk_alloc ?_ _)); exact p4.out⟩
      have n3_ : Aside0 (Below w.heap.size w (((((w44.setCell ⟨p1,0,none⟩ (.int .i64 ((rd_T58 l0_1 p0).f0))).setCell ⟨p1,1,none⟩ (.int .i64 ((rd_T58 l0_1 p0).f1))).setCell ⟨p1,2,none⟩ (.int .i64 ((rd_T58 l0_1 p0).f2))).setCell ⟨p1,3,none⟩ (.int .i64 ((rd_T58 l0_1 p0).f3))).setCell ⟨p1,4,none⟩ (.int .i64 ((rd_T58 l0_1 p0).f4)))):=⟨by repeat (first | (with_reducible first | exact HB.out | apply below_alloc | apply pw_below_drewN | apply below_drew1 | refine below_set ?_ q6.out | refine below_set ?_ s9.out) | exact HB.out)⟩
      (try clear p8)
      (try clear p5)
      (try clear p4)
      (try clear HB)
      generalize (((((w44.setCell ⟨p1,0,none⟩ (.int .i64 ((rd_T58 l0_1 p0).f0))).setCell ⟨p1,1,none⟩ (.int .i64 ((rd_T58 l0_1 p0).f1))).setCell ⟨p1,2,none⟩ (.int .i64 ((rd_T58 l0_1 p0).f2))).setCell ⟨p1,3,none⟩ (.int .i64 ((rd_T58 l0_1 p0).f3))).setCell ⟨p1,4,none⟩ (.int .i64 ((rd_T58 l0_1 p0).f4))) = w47 at n0_ n1_ n2_ n3_ ⊢;have p8:=n0_;have p5:=n1_;have p4:=n2_;have HB:=n3_;clear n0_ n1_ n2_ n3_;have n0_:=zx (Kd.R_drew p8.out);have n1_:=zx (blk_drew p5.out);have n2_:=zx (blk_drew p4.out);have n3_:=zx (below_drew1 HB.out);clear p8;clear p5;clear p4;clear HB;have p8:=n0_;have p5:=n1_;have p4:=n2_;have HB:=n3_;clear n0_ n1_ n2_ n3_;have p739 : 0 ≤ (p0 : Int):=of_decide_eq_true (by first | (with_reducible assumption) | assumption);have q739 : p0 < (l1.length : Int):=of_decide_eq_true (by first | (with_reducible assumption) | assumption);obtain ⟨t0,e739,q5⟩:=Kd.at_int HR1.out p0 p739 q739;have q8:=q5;cases e739;replace q5:=(HB.out.cell (World.block_lt_of_cell? w _ q5)).trans q5;replace p739:=eq_true p739;replace q739:=eq_true q739;refine start_ (n:=8) (S:=fun w' => w'.cell? ⟨p1,0,none⟩ = some (.int .i64 ((rd_T58 l0_1 p0).f0)) ∧ w'.cell? ⟨p1,1,none⟩ = some (.int .i64 ((rd_T58 l0_1 p0).f1)) ∧ w'.cell? ⟨p1,2,none⟩ = some (.int .i64 ((rd_T58 l0_1 p0).f2)) ∧ w'.cell? ⟨p1,3,none⟩ = some (.int .i64 ((rd_T58 l0_1 p0).f3)) ∧ w'.cell? ⟨p1,4,none⟩ = some (.int .i64 ((rd_T58 l0_1 p0).f4)) ∧ w'.cell? (t0.add (p0).toNat) = some (.int .i64 (rd l1 p0))) (ds:=[]) #[J,J,J,J,J,J,J,J] (by kernel_rfl) rfl rfl ⟨(blk_cell p4.out 0).trans rfl,(blk_cell p4.out 1).trans rfl,(blk_cell p4.out 2).trans rfl,(blk_cell p4.out 3).trans rfl,(blk_cell p4.out 4).trans rfl,((HB.out.cell (World.block_lt_of_cell? w _ q8)).trans q8)⟩ (fun hHeld => ?_); refine with_tabW impl_FlowValue.tab7 impl_FlowValue.bits7 (fun HT_ HW_ => ?_);generalize w47.drew = w48 at p8 p5 p4 HB q5 hHeld ⊢;refine pure_ (i:=0) (N:=some 39) (v:=?_) (a':=?_) #[Y,J,J,J,J,J,J,J] rfl rfl (any_of HT_.out (by kernel_rfl)) (fun _ _ _ h => h) (Or.inl ⟨by rfl,?_⟩) ?_ ?_;rotate_left
      ·intro w';go_simp;with_reducible rfl
      rotate_left
      ·simp only [Act.put,U,V,Z,i64_w,i32_w];rfl
      refine pure_ (i:=1) (N:=some 40) (v:=?_) (a':=?_) #[Y,Y,J,J,J,J,J,J] rfl rfl (any_of HT_.out (by kernel_rfl)) (fun _ _ _ h => h) (Or.inl ⟨by rfl,?_⟩) ?_ ?_;rotate_left
      ·intro w';go_simp;with_reducible rfl
      rotate_left
      ·simp only [Act.put,U,V,Z,i64_w,i32_w];rfl
      refine pure_ (i:=2) (N:=some 41) (v:=?_) (a':=?_) #[Y,Y,Y,J,J,J,J,J] rfl rfl (any_of HT_.out (by kernel_rfl)) (fun _ _ _ h => h) (Or.inl ⟨by rfl,?_⟩) ?_ ?_;rotate_left
      ·intro w';go_simp;with_reducible rfl
      rotate_left
      ·simp only [Act.put,U,V,Z,i64_w,i32_w];rfl
      refine pure_ (i:=4) (N:=some 43) (v:=?_) (a':=?_) #[Y,Y,Y,J,Y,J,J,J] rfl rfl (any_of HT_.out (by kernel_rfl)) (fun _ _ _ h => h) (Or.inl ⟨by rfl,?_⟩) ?_ ?_;rotate_left
      ·intro w';go_simp;with_reducible rfl
      rotate_left
      ·simp only [Act.put,U,V,Z,i64_w,i32_w];rfl
      refine take_ (i:=3) (N:=some 42) (v:=?_) (a':=?_) #[Y,Y,Y,Y,Y,J,J,J] rfl rfl (take_ofW HT_.out HW_.out (by kernel_rfl)) (fun _ _ _ h => h) (Or.inl ⟨by rfl,?_⟩) hHeld ?_ ?_;rotate_left
      ·rintro w' ⟨s0,s1,s2,s3,s4,s5⟩;go_simp;with_reducible rfl
      rotate_left
      ·simp only [Act.put,U,V,Z,i64_w,i32_w];rfl
      refine take_ (i:=5) (N:=some 44) (v:=?_) (a':=?_) #[Y,Y,Y,Y,Y,Y,J,J] rfl rfl (take_ofW HT_.out HW_.out (by kernel_rfl)) (fun _ _ _ h => h) (Or.inl ⟨by rfl,?_⟩) hHeld ?_ ?_;rotate_left
      ·rintro w' ⟨s0,s1,s2,s3,s4,s5⟩;go_simp;with_reducible rfl
      rotate_left
      ·simp only [Act.put,U,V,Z,i64_w,i32_w];rfl
      refine one_ (i:=6) (N:=some 45) #[Y,Y,Y,Y,Y,Y,Y,J] rfl rfl (one_of HT_.out (by kernel_rfl)) (by decide) (fun K hK => ?_);refine goes_ Try.func82 (by kernel_rfl) rfl #[.int .i64 (rd l1 p0),.int .i64 0,.int .i64 ((rd_T58 l0_1 p0).f4)] (by rfl) rfl rfl (by (try simp only [List.map_toArray,List.map_cons,List.map_nil]); first | done | rfl | (simp only [List.length_drop,List.length_take]; rfl)) ?_;with_reducible refine (impl_within.calls (rd l1 p0) 0 ((rd_T58 l0_1 p0).f4) false _ A25.out).mono ?_
      rintro e w' ⟨rfl,⟨nd,rfl⟩⟩;refine ⟨_,rfl,?_⟩;refine hK.out _ _ ⟨(blk_cell p4.out 0).trans rfl,(blk_cell p4.out 1).trans rfl,(blk_cell p4.out 2).trans rfl,(blk_cell p4.out 3).trans rfl,(blk_cell p4.out 4).trans rfl,((HB.out.cell (World.block_lt_of_cell? w _ q8)).trans q8)⟩ (fun hHeld => ?_);clear hK K;refine norm_ (a':=?_) ?_ ?_;rotate_left
      ·show Act.put _ (some 45) _ = _
       simp only [Act.put,U,V,Z,i64_w,i32_w];rfl
      refine pure_ (i:=7) (N:=some 46) (v:=?_) (a':=?_) #[Y,Y,Y,Y,Y,Y,Y,Y] rfl rfl (any_of HT_.out (by kernel_rfl)) (fun _ _ _ h => h) (Or.inl ⟨by rfl,?_⟩) ?_ ?_;rotate_left
      ·intro w';go_simp;with_reducible rfl
      rotate_left
      ·simp only [Act.put,U,V,Z,i64_w,i32_w];rfl
      refine done_ (done_of HT_.out (by kernel_rfl)) ?_
      try go_wp2
      go_ret2;exact ⟨by first | rfl | (simp [errW_none,errW_some] <;> rfl) | (simp [*,errW_none,errW_some] <;> rfl),by repeat (first | (with_reducible first | exact HB.out | apply below_alloc | apply pw_below_drewN | apply below_drew1 | refine below_set ?_ q6.out | refine below_set ?_ s9.out) | exact HB.out)⟩
     subst c26;have H1 : (if 0 ≤ ((rd_T58 l0_1 p0).f0) then (if ((rd_T58 l0_1 p0).f0) < (p9.length : Int) then ((some (p9.set (((rd_T58 l0_1 p0).f0) : Int).toNat (wrap64 ((rd p9 ((rd_T58 l0_1 p0).f0)) + (rd l1 p0))) : List Int)).bind fun y743 => (if 0 ≤ ((rd_T58 l0_1 p0).f1) then (if ((rd_T58 l0_1 p0).f1) < (p9.length : Int) then (impl_FlowValue.l0 k2 l1 a2 a3 (y743.set (((rd_T58 l0_1 p0).f1) : Int).toNat (wrap64 ((rd y743 ((rd_T58 l0_1 p0).f1)) - (rd l1 p0)))) l0_1 (l0_1.length : Int) (wrap64 (p0 + 1))) else (none)) else (none))) else (none)) else (none)) = some (r1,r2):=by rw [if_pos rfl] at H; exact H
     clear H;have H:=H1;clear H1
     by_cases c27 : 0 ≤ ((rd_T58 l0_1 p0).f0)
     case neg =>
      rw [if_neg c27] at H;exact absurd H (by simp)
     rw [if_pos c27] at H;have c27b0 : decide (0 ≤ ((rd_T58 l0_1 p0).f0)) = true:=decide_eq_true c27;clear c27
     by_cases c28 : ((rd_T58 l0_1 p0).f0) < (p9.length : Int)
     case neg =>
      rw [if_neg c28] at H;exact absurd H (by simp)
     rw [if_pos c28] at H;have c28b0 : decide (((rd_T58 l0_1 p0).f0) < (p9.length : Int)) = true:=decide_eq_true c28;clear c28;obtain ⟨y743,hy743⟩ : ∃ y_ : List Int,y_ = (p9.set (((rd_T58 l0_1 p0).f0) : Int).toNat (wrap64 ((rd p9 ((rd_T58 l0_1 p0).f0)) + (rd l1 p0)))):=⟨_,rfl⟩
     replace H : (if 0 ≤ ((rd_T58 l0_1 p0).f1) then (if ((rd_T58 l0_1 p0).f1) < (p9.length : Int) then (impl_FlowValue.l0 k2 l1 a2 a3 (y743.set (((rd_T58 l0_1 p0).f1) : Int).toNat (wrap64 ((rd y743 ((rd_T58 l0_1 p0).f1)) - (rd l1 p0)))) l0_1 (l0_1.length : Int) (wrap64 (p0 + 1))) else (none)) else (none)) = some (r1,r2):=by first | (rw [hy743]; with_reducible exact H) | (have H2_:=(Option.bind_some _ _).symm.trans H; rw [hy743]; with_reducible exact H2_) | (have H2_:=(Option.bind_some _ _).symm.trans H; with_reducible exact H2_) | with_reducible exact H | (rw [hy743]; exact H) | exact H
     have Ny743:=zx hy743;clear hy743
     by_cases c30 : 0 ≤ ((rd_T58 l0_1 p0).f1)
     case neg =>
      rw [if_neg c30] at H;exact absurd H (by simp)
     rw [if_pos c30] at H;have c30b0 : decide (0 ≤ ((rd_T58 l0_1 p0).f1)) = true:=decide_eq_true c30;clear c30
     by_cases c31 : ((rd_T58 l0_1 p0).f1) < (p9.length : Int)
     case neg =>
      rw [if_neg c31] at H;exact absurd H (by simp)
     rw [if_pos c31] at H;have c31b0 : decide (((rd_T58 l0_1 p0).f1) < (p9.length : Int)) = true:=decide_eq_true c31;clear c31;obtain ⟨y746,hy746⟩ : ∃ y_ : List Int,y_ = (y743.set (((rd_T58 l0_1 p0).f1) : Int).toNat (wrap64 ((rd y743 ((rd_T58 l0_1 p0).f1)) - (rd l1 p0)))):=⟨_,rfl⟩
     replace H : (impl_FlowValue.l0 k2 l1 a2 a3 y746 l0_1 (l0_1.length : Int) (wrap64 (p0 + 1))) = some (r1,r2):=by first | (rw [hy746]; with_reducible exact H) | (have H2_:=(Option.bind_some _ _).symm.trans H; rw [hy746]; with_reducible exact H2_) | (have H2_:=(Option.bind_some _ _).symm.trans H; with_reducible exact H2_) | with_reducible exact H | (rw [hy746]; exact H) | exact H
     have Ny746:=zx hy746;clear hy746;have H':=zx H;clear H;have p737 : 0 ≤ (p0 : Int):=of_decide_eq_true (by first | (with_reducible assumption) | assumption);have q737 : p0 < (l0_1.length : Int):=of_decide_eq_true (by first | (with_reducible assumption) | assumption);obtain ⟨r6,e737,q9,r0,r3,r4,r5⟩:=at_T58 t4.out p0 p737 q737;cases e737;replace q9:=(HB.out.cell (World.block_lt_of_cell? w _ q9)).trans q9;replace r0:=(HB.out.cell (World.block_lt_of_cell? w _ r0)).trans r0;replace r3:=(HB.out.cell (World.block_lt_of_cell? w _ r3)).trans r3;replace r4:=(HB.out.cell (World.block_lt_of_cell? w _ r4)).trans r4;replace r5:=(HB.out.cell (World.block_lt_of_cell? w _ r5)).trans r5;replace p737:=eq_true p737;replace q737:=eq_true q737
     try go_wp2_with (first | ((with_reducible refine gate_dst (N:=12) rfl ?_); (try (refine gate_guard (by rfl) ?_; dsimp only)); refine box_event ?hg (N:=12) ?hd (cs:=#[.int .i64 0,.int .i64 0,.int .i64 0,.int .i64 0,.int .i64 0]) (t:=58) ?hr ?_; (case hd => rfl); (case hg => rfl); (case hr => first | (go_simp; done) | (go_simp; rfl)); intro p1 hg w33 hbox hb; have n0_:=zx (Kd.R_below p8.out hb); have n1_:=zx (blk_below (g:=q1) (o:=.cells #[.int .i64 a0_0,.slice (some r6) l0_1.length c0_1] 34 (0,0)) p5.out hb); have n2_:=zx (below_step HB.out hb); have n3_:=zx (hbox); have n4_:=zx ((by rw [hg]; exact (below_size HB.out) : w.heap.size ≤ p1)); have n5_:=zx ((by rw [hg]; exact (below_size HB.out) : w.heap.size ≤ p1)); have n6_:=zx ((by rw [hg]; exact Nat.ne_of_lt (blk_lt (g:=q1) (o:=.cells #[.int .i64 a0_0,.slice (some r6) l0_1.length c0_1] 34 (0,0)) p5.out) : q1 ≠ p1)); have n7_:=zx ((by rw [hg]; exact Nat.ne_of_gt (blk_lt (g:=q1) (o:=.cells #[.int .i64 a0_0,.slice (some r6) l0_1.length c0_1] 34 (0,0)) p5.out) : p1 ≠ q1)); clear p8; clear p5; clear HB; have p8:=n0_; have p5:=n1_; have HB:=n2_; have p4:=n3_; have GW738:=n4_; have s9:=n5_; have q4:=n6_; have s7:=n7_; clear n0_ n1_ n2_ n3_ n4_ n5_ n6_ n7_; clear hb hbox hg; have hnb34:=s7.out; have hnc34:=q4.out; have y8 : w33.cell? ⟨p1,0,none⟩ = some (.int .i64 0):=(blk_cell p4.out 0).trans rfl; have y9 : w33.cell? ⟨p1,1,none⟩ = some (.int .i64 0):=(blk_cell p4.out 1).trans rfl; have z0 : w33.cell? ⟨p1,2,none⟩ = some (.int .i64 0):=(blk_cell p4.out 2).trans rfl; have z1 : w33.cell? ⟨p1,3,none⟩ = some (.int .i64 0):=(blk_cell p4.out 3).trans rfl; have z2 : w33.cell? ⟨p1,4,none⟩ = some (.int .i64 0):=(blk_cell p4.out 4).trans rfl; have z3:=blk_frozen p4.out 0; have z4:=blk_frozen p4.out 1; have z5:=blk_frozen p4.out 2; have z6:=blk_frozen p4.out 3; have z7:=blk_frozen p4.out 4))
     have n0_ : Aside0 (Kd.R (Kd.int .i64) 3 (((((w33.setCell ⟨p1,0,none⟩ (.int .i64 ((rd_T58 l0_1 p0).f0))).setCell ⟨p1,1,none⟩ (.int .i64 ((rd_T58 l0_1 p0).f1))).setCell ⟨p1,2,none⟩ (.int .i64 ((rd_T58 l0_1 p0).f2))).setCell ⟨p1,3,none⟩ (.int .i64 ((rd_T58 l0_1 p0).f3))).setCell ⟨p1,4,none⟩ (.int .i64 ((rd_T58 l0_1 p0).f4))) w.heap.size (fun _ => True) v735 p9):=⟨by (with_reducible repeat (first | apply Kd.R_alloc | apply Kd.R_drewN | apply Kd.R_drew)); exact Kd.R_mono (Kd.R_far (p:=⟨p1,4,none⟩) (Kd.R_far (p:=⟨p1,3,none⟩) (Kd.R_far (p:=⟨p1,2,none⟩) (Kd.R_far (p:=⟨p1,1,none⟩) (Kd.R_far (p:=⟨p1,0,none⟩) (Kd.R_types p8.out p4.out (by decide)) (fun _ hk => hk.2) (.int .i64 ((rd_T58 l0_1 p0).f0))) (fun _ hk => hk.2) (.int .i64 ((rd_T58 l0_1 p0).f1))) (fun _ hk => hk.2) (.int .i64 ((rd_T58 l0_1 p0).f2))) (fun _ hk => hk.2) (.int .i64 ((rd_T58 l0_1 p0).f3))) (fun _ hk => hk.2) (.int .i64 ((rd_T58 l0_1 p0).f4))) (fun _ hk => trivial)⟩
     have n1_ : Aside0 ((((((w33.setCell ⟨p1,0,none⟩ (.int .i64 ((rd_T58 l0_1 p0).f0))).setCell ⟨p1,1,none⟩ (.int .i64 ((rd_T58 l0_1 p0).f1))).setCell ⟨p1,2,none⟩ (.int .i64 ((rd_T58 l0_1 p0).f2))).setCell ⟨p1,3,none⟩ (.int .i64 ((rd_T58 l0_1 p0).f3))).setCell ⟨p1,4,none⟩ (.int .i64 ((rd_T58 l0_1 p0).f4))).heap[q1]? = some (.cells #[.int .i64 a0_0,.slice (some r6) l0_1.length c0_1] 34 (0,0))):=⟨by (with_reducible repeat (first | refine blk_drewN ?_ _ | refine blk_drew ?_ | refine blk_alloc ?_ _)); refine blk_far ?_ q4.out _; (with_reducible repeat (first | refine blk_drewN ?_ _ | refine blk_drew ?_ | refine blk_alloc ?_ _)); refine blk_far ?_ q4.out _; (with_reducible repeat (first | refine blk_drewN ?_ _ | refine blk_drew ?_ | refine blk_alloc ?_ _)); refine blk_far ?_ q4.out _; (with_reducible repeat (first | refine blk_drewN ?_ _ | refine blk_drew ?_ | refine blk_alloc ?_ _)); refine blk_far ?_ q4.out _; (with_reducible repeat (first | refine blk_drewN ?_ _ | refine blk_drew ?_ | refine blk_alloc ?_ _)); refine blk_far ?_ q4.out _; (with_reducible repeat (first | refine blk_drewN ?_ _ | refine blk_drew ?_ | refine blk_alloc ?_ _)); exact p5.out⟩
     have n2_ : Aside0 ((((((w33.setCell ⟨p1,0,none⟩ (.int .i64 ((rd_T58 l0_1 p0).f0))).setCell ⟨p1,1,none⟩ (.int .i64 ((rd_T58 l0_1 p0).f1))).setCell ⟨p1,2,none⟩ (.int .i64 ((rd_T58 l0_1 p0).f2))).setCell ⟨p1,3,none⟩ (.int .i64 ((rd_T58 l0_1 p0).f3))).setCell ⟨p1,4,none⟩ (.int .i64 ((rd_T58 l0_1 p0).f4))).heap[p1]? = some (.cells #[.int .i64 ((rd_T58 l0_1 p0).f0),.int .i64 ((rd_T58 l0_1 p0).f1),.int .i64 ((rd_T58 l0_1 p0).f2),.int .i64 ((rd_T58 l0_1 p0).f3),.int .i64 ((rd_T58 l0_1 p0).f4)] 58 (0,0))):=⟨by (with_reducible repeat (first | refine blk_drewN ?_ _ | refine blk_drew ?_ | refine blk_alloc ?_ _)); refine blk_put (cs:=#[.int .i64 ((rd_T58 l0_1 p0).f0),.int .i64 ((rd_T58 l0_1 p0).f1),.int .i64 ((rd_T58 l0_1 p0).f2),.int .i64 ((rd_T58 l0_1 p0).f3),.int .i64 0]) ?_ 4 _ rfl; (with_reducible repeat (first | refine blk_drewN ?_ _ | refine blk_drew ?_ | refine blk_alloc ?_ _)); refine blk_put (cs:=#[.int .i64 ((rd_T58 l0_1 p0).f0),.int .i64 ((rd_T58 l0_1 p0).f1),.int .i64 ((rd_T58 l0_1 p0).f2),.int .i64 0,.int .i64 0]) ?_ 3 _ rfl; (with_reducible repeat (first | refine blk_drewN ?_ _ | refine blk_drew ?_ | refine blk_alloc ?_ _)); refine blk_put (cs:=#[.int .i64 ((rd_T58 l0_1 p0).f0),.int .i64 ((rd_T58 l0_1 p0).f1),.int .i64 0,.int .i64 0,.int .i64 0]) ?_ 2 _ rfl; (with_reducible repeat (first | refine blk_drewN ?_ _ | refine blk_drew ?_ | refine blk_alloc ?_ _)); refine blk_put (cs:=#[.int .i64 ((rd_T58 l0_1 p0).f0),.int .i64 0,.int .i64 0,.int .i64 0,.int .i64 0]) ?_ 1 _ rfl; (with_reducible repeat (first | refine blk_drewN ?_ _ | refine blk_drew ?_ | refine blk_alloc ?_ _)); refine blk_put (cs:=#[.int .i64 0,.int .i64 0,.int .i64 0,.int .i64 0,.int .i64 0]) ?_ 0 _ rfl; (with_reducible repeat (first | refine blk_drewN ?_ _ | refine blk_drew ?_ | refine blk_alloc ?_ _)); exact p4.out⟩
     have n3_ : Aside0 (Below w.heap.size w (((((w33.setCell ⟨p1,0,none⟩ (.int .i64 ((rd_T58 l0_1 p0).f0))).setCell ⟨p1,1,none⟩ (.int .i64 ((rd_T58 l0_1 p0).f1))).setCell ⟨p1,2,none⟩ (.int .i64 ((rd_T58 l0_1 p0).f2))).setCell ⟨p1,3,none⟩ (.int .i64 ((rd_T58 l0_1 p0).f3))).setCell ⟨p1,4,none⟩ (.int .i64 ((rd_T58 l0_1 p0).f4)))):=⟨by repeat (first | (with_reducible first | exact HB.out | apply below_alloc | apply pw_below_drewN | apply below_drew1 | refine below_set ?_ q6.out | refine below_set ?_ s9.out) | exact HB.out)⟩
     (try clear p8)
     (try clear p5)
     (try clear p4)
     (try clear HB)
     generalize (((((w33.setCell ⟨p1,0,none⟩ (.int .i64 ((rd_T58 l0_1 p0).f0))).setCell ⟨p1,1,none⟩ (.int .i64 ((rd_T58 l0_1 p0).f1))).setCell ⟨p1,2,none⟩ (.int .i64 ((rd_T58 l0_1 p0).f2))).setCell ⟨p1,3,none⟩ (.int .i64 ((rd_T58 l0_1 p0).f3))).setCell ⟨p1,4,none⟩ (.int .i64 ((rd_T58 l0_1 p0).f4))) = w36 at n0_ n1_ n2_ n3_ ⊢;have p8:=n0_;have p5:=n1_;have p4:=n2_;have HB:=n3_;clear n0_ n1_ n2_ n3_;have n0_:=zx (Kd.R_drew p8.out);have n1_:=zx (blk_drew p5.out);have n2_:=zx (blk_drew p4.out);have n3_:=zx (below_drew1 HB.out);clear p8;clear p5;clear p4;clear HB;have p8:=n0_;have p5:=n1_;have p4:=n2_;have HB:=n3_;clear n0_ n1_ n2_ n3_;have p739 : 0 ≤ (p0 : Int):=of_decide_eq_true (by first | (with_reducible assumption) | assumption);have q739 : p0 < (l1.length : Int):=of_decide_eq_true (by first | (with_reducible assumption) | assumption);obtain ⟨t0,e739,q5⟩:=Kd.at_int HR1.out p0 p739 q739;have q8:=q5;cases e739;replace q5:=(HB.out.cell (World.block_lt_of_cell? w _ q5)).trans q5;replace p739:=eq_true p739;replace q739:=eq_true q739;refine start_ (n:=8) (S:=fun w' => w'.cell? ⟨p1,0,none⟩ = some (.int .i64 ((rd_T58 l0_1 p0).f0)) ∧ w'.cell? ⟨p1,1,none⟩ = some (.int .i64 ((rd_T58 l0_1 p0).f1)) ∧ w'.cell? ⟨p1,2,none⟩ = some (.int .i64 ((rd_T58 l0_1 p0).f2)) ∧ w'.cell? ⟨p1,3,none⟩ = some (.int .i64 ((rd_T58 l0_1 p0).f3)) ∧ w'.cell? ⟨p1,4,none⟩ = some (.int .i64 ((rd_T58 l0_1 p0).f4)) ∧ w'.cell? (t0.add (p0).toNat) = some (.int .i64 (rd l1 p0))) (ds:=[]) #[J,J,J,J,J,J,J,J] (by kernel_rfl) rfl rfl ⟨(blk_cell p4.out 0).trans rfl,(blk_cell p4.out 1).trans rfl,(blk_cell p4.out 2).trans rfl,(blk_cell p4.out 3).trans rfl,(blk_cell p4.out 4).trans rfl,((HB.out.cell (World.block_lt_of_cell? w _ q8)).trans q8)⟩ (fun hHeld => ?_); refine with_tabW impl_FlowValue.tab7 impl_FlowValue.bits7 (fun HT_ HW_ => ?_);generalize w36.drew = w37 at p8 p5 p4 HB q5 hHeld ⊢;refine pure_ (i:=0) (N:=some 39) (v:=?_) (a':=?_) #[Y,J,J,J,J,J,J,J] rfl rfl (any_of HT_.out (by kernel_rfl)) (fun _ _ _ h => h) (Or.inl ⟨by rfl,?_⟩) ?_ ?_;rotate_left
     ·intro w';go_simp;with_reducible rfl
     rotate_left
     ·simp only [Act.put,U,V,Z,i64_w,i32_w];rfl
     refine pure_ (i:=1) (N:=some 40) (v:=?_) (a':=?_) #[Y,Y,J,J,J,J,J,J] rfl rfl (any_of HT_.out (by kernel_rfl)) (fun _ _ _ h => h) (Or.inl ⟨by rfl,?_⟩) ?_ ?_;rotate_left
     ·intro w';go_simp;with_reducible rfl
     rotate_left
     ·simp only [Act.put,U,V,Z,i64_w,i32_w];rfl
     refine pure_ (i:=2) (N:=some 41) (v:=?_) (a':=?_) #[Y,Y,Y,J,J,J,J,J] rfl rfl (any_of HT_.out (by kernel_rfl)) (fun _ _ _ h => h) (Or.inl ⟨by rfl,?_⟩) ?_ ?_;rotate_left
     ·intro w';go_simp;with_reducible rfl
     rotate_left
     ·simp only [Act.put,U,V,Z,i64_w,i32_w];rfl
     refine pure_ (i:=4) (N:=some 43) (v:=?_) (a':=?_) #[Y,Y,Y,J,Y,J,J,J] rfl rfl (any_of HT_.out (by kernel_rfl)) (fun _ _ _ h => h) (Or.inl ⟨by rfl,?_⟩) ?_ ?_;rotate_left
     ·intro w';go_simp;with_reducible rfl
     rotate_left
     ·simp only [Act.put,U,V,Z,i64_w,i32_w];rfl
     refine take_ (i:=3) (N:=some 42) (v:=?_) (a':=?_) #[Y,Y,Y,Y,Y,J,J,J] rfl rfl (take_ofW HT_.out HW_.out (by kernel_rfl)) (fun _ _ _ h => h) (Or.inl ⟨by rfl,?_⟩) hHeld ?_ ?_;rotate_left
     ·rintro w' ⟨s0,s1,s2,s3,s4,s5⟩;go_simp;with_reducible rfl
     rotate_left
     ·simp only [Act.put,U,V,Z,i64_w,i32_w];rfl
     refine take_ (i:=5) (N:=some 44) (v:=?_) (a':=?_) #[Y,Y,Y,Y,Y,Y,J,J] rfl rfl (take_ofW HT_.out HW_.out (by kernel_rfl)) (fun _ _ _ h => h) (Or.inl ⟨by rfl,?_⟩) hHeld ?_ ?_;rotate_left
     ·rintro w' ⟨s0,s1,s2,s3,s4,s5⟩;go_simp;with_reducible rfl
     rotate_left
     ·simp only [Act.put,U,V,Z,i64_w,i32_w];rfl
     refine one_ (i:=6) (N:=some 45) #[Y,Y,Y,Y,Y,Y,Y,J] rfl rfl (one_of HT_.out (by kernel_rfl)) (by decide) (fun K hK => ?_);refine goes_ Try.func82 (by kernel_rfl) rfl #[.int .i64 (rd l1 p0),.int .i64 0,.int .i64 ((rd_T58 l0_1 p0).f4)] (by rfl) rfl rfl (by (try simp only [List.map_toArray,List.map_cons,List.map_nil]); first | done | rfl | (simp only [List.length_drop,List.length_take]; rfl)) ?_;with_reducible refine (impl_within.calls (rd l1 p0) 0 ((rd_T58 l0_1 p0).f4) true _ A25.out).mono ?_
     rintro e w' ⟨rfl,⟨nd,rfl⟩⟩;refine ⟨_,rfl,?_⟩;refine hK.out _ _ ⟨(blk_cell p4.out 0).trans rfl,(blk_cell p4.out 1).trans rfl,(blk_cell p4.out 2).trans rfl,(blk_cell p4.out 3).trans rfl,(blk_cell p4.out 4).trans rfl,((HB.out.cell (World.block_lt_of_cell? w _ q8)).trans q8)⟩ (fun hHeld => ?_);clear hK K;refine norm_ (a':=?_) ?_ ?_;rotate_left
     ·show Act.put _ (some 45) _ = _
      simp only [Act.put,U,V,Z,i64_w,i32_w];rfl
     refine pure_ (i:=7) (N:=some 46) (v:=?_) (a':=?_) #[Y,Y,Y,Y,Y,Y,Y,Y] rfl rfl (any_of HT_.out (by kernel_rfl)) (fun _ _ _ h => h) (Or.inl ⟨by rfl,?_⟩) ?_ ?_;rotate_left
     ·intro w';go_simp;with_reducible rfl
     rotate_left
     ·simp only [Act.put,U,V,Z,i64_w,i32_w];rfl
     refine done_ (done_of HT_.out (by kernel_rfl)) ?_
     try go_wp2
     (try (rw [drewN_self w37]; generalize hq_ : World.drewN w37 _ = w37; have n0_ : Aside0 (Kd.R (Kd.int .i64) 3 w37 w.heap.size (fun _ => True) v735 p9):=⟨by rw [← hq_]; exact (by (with_reducible repeat (first | apply Kd.R_alloc | apply Kd.R_drewN | apply Kd.R_drew)); exact p8.out)⟩; have n1_ : Aside0 (w37.heap[q1]? = some (.cells #[.int .i64 a0_0,.slice (some r6) l0_1.length c0_1] 34 (0,0))):=⟨by rw [← hq_]; exact (by (with_reducible repeat (first | refine blk_drewN ?_ _ | refine blk_drew ?_ | refine blk_alloc ?_ _)); exact p5.out)⟩; have n2_ : Aside0 (w37.heap[p1]? = some (.cells #[.int .i64 ((rd_T58 l0_1 p0).f0),.int .i64 ((rd_T58 l0_1 p0).f1),.int .i64 ((rd_T58 l0_1 p0).f2),.int .i64 ((rd_T58 l0_1 p0).f3),.int .i64 ((rd_T58 l0_1 p0).f4)] 58 (0,0))):=⟨by rw [← hq_]; exact (by (with_reducible repeat (first | refine blk_drewN ?_ _ | refine blk_drew ?_ | refine blk_alloc ?_ _)); exact p4.out)⟩; have n3_ : Aside0 (Below w.heap.size w w37):=⟨by rw [← hq_]; exact (by repeat (first | (with_reducible first | exact HB.out | apply below_alloc | apply pw_below_drewN | apply below_drew1 | refine below_set ?_ q6.out | refine below_set ?_ s9.out) | exact HB.out))⟩; clear p8 p5 p4 HB hq_; have p8:=n0_; have p5:=n1_; have p4:=n2_; have HB:=n3_; clear n0_ n1_ n2_ n3_))
     have n0_:=zx (Kd.R_drew p8.out);have n1_:=zx (blk_drew p5.out);have n2_:=zx (blk_drew p4.out);have n3_:=zx (below_drew1 HB.out);clear p8;clear p5;clear p4;clear HB;have p8:=n0_;have p5:=n1_;have p4:=n2_;have HB:=n3_;clear n0_ n1_ n2_ n3_;obtain ⟨Ao39,co39,eo39⟩:=Kd.R_slice p8.out
     (first | subst eo39 | (injection eo39 with f1_ f2_ f3_; have f4_:=f1_.symm; have f5_:=f3_.symm; clear f1_ f2_ f3_; subst f4_; subst f5_))
     have p741 : 0 ≤ (((rd_T58 l0_1 p0).f0) : Int):=of_decide_eq_true (by first | (with_reducible assumption) | assumption);have q741 : ((rd_T58 l0_1 p0).f0) < (p9.length : Int):=of_decide_eq_true (by first | (with_reducible assumption) | assumption);obtain ⟨ad741,e741,s8⟩:=Kd.at_int (Kd.R_reads' p8.out).2.2 ((rd_T58 l0_1 p0).f0) p741 q741;cases e741;replace p741:=eq_true p741;replace q741:=eq_true q741;have p742 : 0 ≤ (p0 : Int):=of_decide_eq_true (by first | (with_reducible assumption) | assumption);have q742 : p0 < (l1.length : Int):=of_decide_eq_true (by first | (with_reducible assumption) | assumption);obtain ⟨ad742,e742,r7⟩:=Kd.at_int HR1.out p0 p742 q742;have u4:=r7;obtain rfl : t0 = ad742:=(by injection e742)
     replace r7:=(HB.out.cell (World.block_lt_of_cell? w _ r7)).trans r7;replace p742:=eq_true p742;replace q742:=eq_true q742;have p29 : 0 ≤ (((rd_T58 l0_1 p0).f0) : Int):=of_decide_eq_true (by first | (with_reducible assumption) | assumption);have q29 : (((rd_T58 l0_1 p0).f0) : Int) < ((p9.length : Int) : Int):=of_decide_eq_true (by first | (with_reducible assumption) | assumption);obtain ⟨go29,co29,eo29,gb29,gl29,cl29,HG29⟩:=Kd.R_form p8.out (by omega)
     (first | cases eo29 | (injection eo29 with ea_ en_ ec_; (first | subst ea_ | (injection ea_ with ea_; subst ea_)); subst ec_; clear en_))
     have GB29:=zx gb29;have GG29:=zx HG29;clear gb29 gl29 HG29
     (first | simp only [add_plain] at s8 | skip)
     obtain ⟨v0,hf29_0⟩:=Kd.R_celln 0 p8.out (((rd_T58 l0_1 p0).f0) : Int) p29 q29;replace p29:=eq_true p29;replace q29:=eq_true q29;have HP40:=Kd.R_putn p8.out (((rd_T58 l0_1 p0).f0) : Int) (wrap64 ((rd p9 ((rd_T58 l0_1 p0).f0)) + (rd l1 p0)));rw [← Ny743.out] at HP40;have HQ40:=zx HP40;clear HP40;refine start_ (n:=12) (S:=fun w' => w'.cell? ⟨p1,0,none⟩ = some (.int .i64 ((rd_T58 l0_1 p0).f0)) ∧ w'.cell? ⟨p1,1,none⟩ = some (.int .i64 ((rd_T58 l0_1 p0).f1)) ∧ w'.cell? ⟨p1,2,none⟩ = some (.int .i64 ((rd_T58 l0_1 p0).f2)) ∧ w'.cell? ⟨p1,3,none⟩ = some (.int .i64 ((rd_T58 l0_1 p0).f3)) ∧ w'.cell? ⟨p1,4,none⟩ = some (.int .i64 ((rd_T58 l0_1 p0).f4)) ∧ w'.cell? ⟨go29,(((rd_T58 l0_1 p0).f0)).toNat,none⟩ = some (.int .i64 (rd p9 ((rd_T58 l0_1 p0).f0))) ∧ w'.cell? (t0.add (p0).toNat) = some (.int .i64 (rd l1 p0))) (ds:=[11]) #[J,J,J,J,J,J,J,J,J,J,J,J] (by kernel_rfl) rfl rfl ⟨(blk_cell p4.out 0).trans rfl,(blk_cell p4.out 1).trans rfl,(blk_cell p4.out 2).trans rfl,(blk_cell p4.out 3).trans rfl,(blk_cell p4.out 4).trans rfl,s8,((HB.out.cell (World.block_lt_of_cell? w _ u4)).trans u4)⟩ (fun hHeld => ?_); refine with_tabW impl_FlowValue.tab9 impl_FlowValue.bits9 (fun HT_ HW_ => ?_);generalize w37.drew = w38 at p8 p5 p4 HB GG29 HQ40 hf29_0 v0 s8 r7 hHeld ⊢;refine pure_ (i:=0) (N:=some 47) (v:=?_) (a':=?_) #[Y,J,J,J,J,J,J,J,J,J,J,J] rfl rfl (any_of HT_.out (by kernel_rfl)) (fun _ _ _ h => h) (Or.inl ⟨by rfl,?_⟩) ?_ ?_;rotate_left
     ·intro w';go_simp;with_reducible rfl
     rotate_left
     ·simp only [Act.put,U,V,Z,i64_w,i32_w];rfl
     refine pure_ (i:=1) (N:=some 48) (v:=?_) (a':=?_) #[Y,Y,J,J,J,J,J,J,J,J,J,J] rfl rfl (any_of HT_.out (by kernel_rfl)) (fun _ _ _ h => h) (Or.inl ⟨by rfl,?_⟩) ?_ ?_;rotate_left
     ·intro w';go_simp;with_reducible rfl
     rotate_left
     ·simp only [Act.put,U,V,Z,i64_w,i32_w];rfl
     refine pure_ (i:=5) (N:=some 52) (v:=?_) (a':=?_) #[Y,Y,J,J,J,Y,J,J,J,J,J,J] rfl rfl (any_of HT_.out (by kernel_rfl)) (fun _ _ _ h => h) (Or.inl ⟨by rfl,?_⟩) ?_ ?_;rotate_left
     ·intro w';go_simp;with_reducible rfl
     rotate_left
     ·simp only [Act.put,U,V,Z,i64_w,i32_w];rfl
     refine pure_ (i:=6) (N:=some 53) (v:=?_) (a':=?_) #[Y,Y,J,J,J,Y,Y,J,J,J,J,J] rfl rfl (any_of HT_.out (by kernel_rfl)) (fun _ _ _ h => h) (Or.inl ⟨by rfl,?_⟩) ?_ ?_;rotate_left
     ·intro w';go_simp;with_reducible rfl
     rotate_left
     ·simp only [Act.put,U,V,Z,i64_w,i32_w];rfl
     refine pure_ (i:=7) (N:=some 54) (v:=?_) (a':=?_) #[Y,Y,J,J,J,Y,Y,Y,J,J,J,J] rfl rfl (any_of HT_.out (by kernel_rfl)) (fun _ _ _ h => h) (Or.inl ⟨by rfl,?_⟩) ?_ ?_;rotate_left
     ·intro w';go_simp;with_reducible rfl
     rotate_left
     ·simp only [Act.put,U,V,Z,i64_w,i32_w];rfl
     refine take_ (i:=2) (N:=some 49) (v:=?_) (a':=?_) #[Y,Y,Y,J,J,Y,Y,Y,J,J,J,J] rfl rfl (take_ofW HT_.out HW_.out (by kernel_rfl)) (fun _ _ _ h => h) (Or.inl ⟨by rfl,?_⟩) hHeld ?_ ?_;rotate_left
     ·rintro w' ⟨s0,s1,s2,s3,s4,s5,s6⟩;go_simp;with_reducible rfl
     rotate_left
     ·simp only [Act.put,U,V,Z,i64_w,i32_w];rfl
     refine pure_ (i:=3) (N:=some 50) (v:=?_) (a':=?_) #[Y,Y,Y,Y,J,Y,Y,Y,J,J,J,J] rfl rfl (any_of HT_.out (by kernel_rfl)) (fun _ _ _ h => h) (Or.inl ⟨by rfl,?_⟩) ?_ ?_;rotate_left
     ·intro w';go_simp;with_reducible rfl
     rotate_left
     ·simp only [Act.put,U,V,Z,i64_w,i32_w];rfl
     refine take_ (i:=4) (N:=some 51) (v:=?_) (a':=?_) #[Y,Y,Y,Y,Y,Y,Y,Y,J,J,J,J] rfl rfl (take_ofW HT_.out HW_.out (by kernel_rfl)) (fun _ _ _ h => h) (Or.inl ⟨by rfl,?_⟩) hHeld ?_ ?_;rotate_left
     ·rintro w' ⟨s0,s1,s2,s3,s4,s5,s6⟩;go_simp;with_reducible rfl
     rotate_left
     ·simp only [Act.put,U,V,Z,i64_w,i32_w];rfl
     refine take_ (i:=8) (N:=some 55) (v:=?_) (a':=?_) #[Y,Y,Y,Y,Y,Y,Y,Y,Y,J,J,J] rfl rfl (take_ofW HT_.out HW_.out (by kernel_rfl)) (fun _ _ _ h => h) (Or.inl ⟨by rfl,?_⟩) hHeld ?_ ?_;rotate_left
     ·rintro w' ⟨s0,s1,s2,s3,s4,s5,s6⟩;go_simp;with_reducible rfl
     rotate_left
     ·simp only [Act.put,U,V,Z,i64_w,i32_w];rfl
     refine pure_ (i:=9) (N:=some 56) (v:=?_) (a':=?_) #[Y,Y,Y,Y,Y,Y,Y,Y,Y,Y,J,J] rfl rfl (any_of HT_.out (by kernel_rfl)) (fun _ _ _ h => h) (Or.inl ⟨by rfl,?_⟩) ?_ ?_;rotate_left
     ·intro w';go_simp;with_reducible rfl
     rotate_left
     ·simp only [Act.put,U,V,Z,i64_w,i32_w];rfl
     refine pure_ (i:=10) (N:=some 57) (v:=?_) (a':=?_) #[Y,Y,Y,Y,Y,Y,Y,Y,Y,Y,Y,J] rfl rfl (any_of HT_.out (by kernel_rfl)) (fun _ _ _ h => h) (Or.inl ⟨by rfl,?_⟩) ?_ ?_;rotate_left
     ·intro w';go_simp;with_reducible rfl
     rotate_left
     ·simp only [Act.put,U,V,Z,i64_w,i32_w];rfl
     refine last_ (i:=11) (N:=none) #[true,true,true,true,true,true,true,true,true,true,true,true] rfl rfl (one_of HT_.out (by kernel_rfl)) (by decide) (fun K hK => ?_);refine skip_ (w1:=?_) (by rfl) rfl ?_ ?_;rotate_left
     ·go_simp;rfl
     refine hK.out _ _ ?_;clear hK K;refine done_ (done_of HT_.out (by kernel_rfl)) ?_
     try go_wp2
     have n0_ : Aside0 (Kd.R (Kd.int .i64) 3 (w38.setCell ⟨go29,(((rd_T58 l0_1 p0).f0) : Int).toNat,none⟩ (.int .i64 (wrap64 ((rd p9 ((rd_T58 l0_1 p0).f0)) + (rd l1 p0))))) w.heap.size (fun _ => True) (.slice (some ⟨go29,0,none⟩) p9.length co39) y743):=⟨by (with_reducible repeat (first | apply Kd.R_alloc | apply Kd.R_drewN | apply Kd.R_drew)); exact HQ40.out⟩
     have n1_ : Aside0 ((w38.setCell ⟨go29,(((rd_T58 l0_1 p0).f0) : Int).toNat,none⟩ (.int .i64 (wrap64 ((rd p9 ((rd_T58 l0_1 p0).f0)) + (rd l1 p0))))).heap[q1]? = some (.cells #[.int .i64 a0_0,.slice (some r6) l0_1.length c0_1] 34 (0,0))):=⟨by (with_reducible repeat (first | refine blk_drewN ?_ _ | refine blk_drew ?_ | refine blk_alloc ?_ _)); refine blk_far ?_ (by have h_:=Kd.R_ne p8.out p5.out (by decide); intro e_; exact h_ (by rw [e_]; rfl)) _; (with_reducible repeat (first | refine blk_drewN ?_ _ | refine blk_drew ?_ | refine blk_alloc ?_ _)); exact p5.out⟩
     have n2_ : Aside0 ((w38.setCell ⟨go29,(((rd_T58 l0_1 p0).f0) : Int).toNat,none⟩ (.int .i64 (wrap64 ((rd p9 ((rd_T58 l0_1 p0).f0)) + (rd l1 p0))))).heap[p1]? = some (.cells #[.int .i64 ((rd_T58 l0_1 p0).f0),.int .i64 ((rd_T58 l0_1 p0).f1),.int .i64 ((rd_T58 l0_1 p0).f2),.int .i64 ((rd_T58 l0_1 p0).f3),.int .i64 ((rd_T58 l0_1 p0).f4)] 58 (0,0))):=⟨by (with_reducible repeat (first | refine blk_drewN ?_ _ | refine blk_drew ?_ | refine blk_alloc ?_ _)); refine blk_far ?_ (by have h_:=Kd.R_ne p8.out p4.out (by decide); intro e_; exact h_ (by rw [e_]; rfl)) _; (with_reducible repeat (first | refine blk_drewN ?_ _ | refine blk_drew ?_ | refine blk_alloc ?_ _)); exact p4.out⟩
     have n3_ : Aside0 (Below w.heap.size w (w38.setCell ⟨go29,(((rd_T58 l0_1 p0).f0) : Int).toNat,none⟩ (.int .i64 (wrap64 ((rd p9 ((rd_T58 l0_1 p0).f0)) + (rd l1 p0)))))):=⟨by repeat (first | (with_reducible first | exact HB.out | apply below_alloc | apply pw_below_drewN | apply below_drew1 | refine below_set ?_ GB29.out | refine below_set ?_ q6.out | refine below_set ?_ s9.out) | exact HB.out)⟩
     (try clear p8)
     (try clear p5)
     (try clear p4)
     (try clear HB)
     generalize (w38.setCell ⟨go29,(((rd_T58 l0_1 p0).f0) : Int).toNat,none⟩ (.int .i64 (wrap64 ((rd p9 ((rd_T58 l0_1 p0).f0)) + (rd l1 p0))))) = w41 at n0_ n1_ n2_ n3_ ⊢;have p8:=n0_;have p5:=n1_;have p4:=n2_;have HB:=n3_;clear n0_ n1_ n2_ n3_;have n0_:=zx (Kd.R_drew p8.out);have n1_:=zx (blk_drew p5.out);have n2_:=zx (blk_drew p4.out);have n3_:=zx (below_drew1 HB.out);clear p8;clear p5;clear p4;clear HB;have p8:=n0_;have p5:=n1_;have p4:=n2_;have HB:=n3_;clear n0_ n1_ n2_ n3_;have p744 : 0 ≤ (((rd_T58 l0_1 p0).f1) : Int):=of_decide_eq_true (by first | (with_reducible assumption) | assumption);have q744 : ((rd_T58 l0_1 p0).f1) < (y743.length : Int):=(by have h_ : (((rd_T58 l0_1 p0).f1) : Int) < ((p9.length : Int) : Int):=of_decide_eq_true (by first | (with_reducible assumption) | assumption); first | (have e_:=(Kd.R_reads' p8.out).1; omega) | simpa only [Ny743.out,List.length_set] using h_)
     have ql744 : ((((rd_T58 l0_1 p0).f1) : Int) < ((p9.length : Int) : Int)) = True:=eq_true (of_decide_eq_true (by first | (with_reducible assumption) | assumption));obtain ⟨ad744,e744,r8⟩:=Kd.at_int (Kd.R_reads' p8.out).2.2 ((rd_T58 l0_1 p0).f1) p744 q744;obtain rfl : (⟨go29,0,none⟩ : Addr) = ad744:=(by injection e744)
     (first | simp only [add_plain] at r8 | simp only [add_at] at r8 | simp only [Addr.add,Nat.zero_add] at r8 | skip)
     replace p744:=eq_true p744;replace q744:=eq_true q744;have p745 : 0 ≤ (p0 : Int):=of_decide_eq_true (by first | (with_reducible assumption) | assumption);have q745 : p0 < (l1.length : Int):=of_decide_eq_true (by first | (with_reducible assumption) | assumption);obtain ⟨ad745,e745,r9⟩:=Kd.at_int HR1.out p0 p745 q745;have u5:=r9;obtain rfl : t0 = ad745:=(by injection e745)
     replace r9:=(HB.out.cell (World.block_lt_of_cell? w _ r9)).trans r9;replace p745:=eq_true p745;replace q745:=eq_true q745;have p32 : 0 ≤ (((rd_T58 l0_1 p0).f1) : Int):=of_decide_eq_true (by first | (with_reducible assumption) | assumption);have q32 : (((rd_T58 l0_1 p0).f1) : Int) < ((p9.length : Int) : Int):=of_decide_eq_true (by first | (with_reducible assumption) | assumption);obtain ⟨v1,hf32_0⟩:=Kd.R_celln 0 p8.out (((rd_T58 l0_1 p0).f1) : Int) p32 q32;replace p32:=eq_true p32;replace q32:=eq_true q32;have HP43:=Kd.R_putn p8.out (((rd_T58 l0_1 p0).f1) : Int) (wrap64 ((rd y743 ((rd_T58 l0_1 p0).f1)) - (rd l1 p0)));rw [← Ny746.out] at HP43;have HQ43:=zx HP43;clear HP43;refine start_ (n:=12) (S:=fun w' => w'.cell? ⟨p1,0,none⟩ = some (.int .i64 ((rd_T58 l0_1 p0).f0)) ∧ w'.cell? ⟨p1,1,none⟩ = some (.int .i64 ((rd_T58 l0_1 p0).f1)) ∧ w'.cell? ⟨p1,2,none⟩ = some (.int .i64 ((rd_T58 l0_1 p0).f2)) ∧ w'.cell? ⟨p1,3,none⟩ = some (.int .i64 ((rd_T58 l0_1 p0).f3)) ∧ w'.cell? ⟨p1,4,none⟩ = some (.int .i64 ((rd_T58 l0_1 p0).f4)) ∧ w'.cell? ⟨go29,(((rd_T58 l0_1 p0).f1)).toNat,none⟩ = some (.int .i64 (rd y743 ((rd_T58 l0_1 p0).f1))) ∧ w'.cell? (t0.add (p0).toNat) = some (.int .i64 (rd l1 p0))) (ds:=[11]) #[J,J,J,J,J,J,J,J,J,J,J,J] (by kernel_rfl) rfl rfl ⟨(blk_cell p4.out 0).trans rfl,(blk_cell p4.out 1).trans rfl,(blk_cell p4.out 2).trans rfl,(blk_cell p4.out 3).trans rfl,(blk_cell p4.out 4).trans rfl,r8,((HB.out.cell (World.block_lt_of_cell? w _ u5)).trans u5)⟩ (fun hHeld => ?_); refine with_tabW impl_FlowValue.tab10 impl_FlowValue.bits10 (fun HT_ HW_ => ?_);generalize w41.drew = w42 at p8 p5 p4 HB HQ40 HQ43 hf32_0 v1 r8 r9 hHeld ⊢;refine pure_ (i:=0) (N:=some 58) (v:=?_) (a':=?_) #[Y,J,J,J,J,J,J,J,J,J,J,J] rfl rfl (any_of HT_.out (by kernel_rfl)) (fun _ _ _ h => h) (Or.inl ⟨by rfl,?_⟩) ?_ ?_;rotate_left
     ·intro w';go_simp;with_reducible rfl
     rotate_left
     ·simp only [Act.put,U,V,Z,i64_w,i32_w];rfl
     refine pure_ (i:=1) (N:=some 59) (v:=?_) (a':=?_) #[Y,Y,J,J,J,J,J,J,J,J,J,J] rfl rfl (any_of HT_.out (by kernel_rfl)) (fun _ _ _ h => h) (Or.inl ⟨by rfl,?_⟩) ?_ ?_;rotate_left
     ·intro w';go_simp;with_reducible rfl
     rotate_left
     ·simp only [Act.put,U,V,Z,i64_w,i32_w];rfl
     refine pure_ (i:=5) (N:=some 63) (v:=?_) (a':=?_) #[Y,Y,J,J,J,Y,J,J,J,J,J,J] rfl rfl (any_of HT_.out (by kernel_rfl)) (fun _ _ _ h => h) (Or.inl ⟨by rfl,?_⟩) ?_ ?_;rotate_left
     ·intro w';go_simp;with_reducible rfl
     rotate_left
     ·simp only [Act.put,U,V,Z,i64_w,i32_w];rfl
     refine pure_ (i:=6) (N:=some 64) (v:=?_) (a':=?_) #[Y,Y,J,J,J,Y,Y,J,J,J,J,J] rfl rfl (any_of HT_.out (by kernel_rfl)) (fun _ _ _ h => h) (Or.inl ⟨by rfl,?_⟩) ?_ ?_;rotate_left
     ·intro w';go_simp;with_reducible rfl
     rotate_left
     ·simp only [Act.put,U,V,Z,i64_w,i32_w];rfl
     refine pure_ (i:=7) (N:=some 65) (v:=?_) (a':=?_) #[Y,Y,J,J,J,Y,Y,Y,J,J,J,J] rfl rfl (any_of HT_.out (by kernel_rfl)) (fun _ _ _ h => h) (Or.inl ⟨by rfl,?_⟩) ?_ ?_;rotate_left
     ·intro w';go_simp;with_reducible rfl
     rotate_left
     ·simp only [Act.put,U,V,Z,i64_w,i32_w];rfl
     refine take_ (i:=2) (N:=some 60) (v:=?_) (a':=?_) #[Y,Y,Y,J,J,Y,Y,Y,J,J,J,J] rfl rfl (take_ofW HT_.out HW_.out (by kernel_rfl)) (fun _ _ _ h => h) (Or.inl ⟨by rfl,?_⟩) hHeld ?_ ?_;rotate_left
     ·rintro w' ⟨s0,s1,s2,s3,s4,s5,s6⟩;go_simp;with_reducible rfl
     rotate_left
     ·simp only [Act.put,U,V,Z,i64_w,i32_w];rfl
     refine pure_ (i:=3) (N:=some 61) (v:=?_) (a':=?_) #[Y,Y,Y,Y,J,Y,Y,Y,J,J,J,J] rfl rfl (any_of HT_.out (by kernel_rfl)) (fun _ _ _ h => h) (Or.inl ⟨by rfl,?_⟩) ?_ ?_;rotate_left
     ·intro w';go_simp;with_reducible rfl
     rotate_left
     ·simp only [Act.put,U,V,Z,i64_w,i32_w];rfl
     refine take_ (i:=4) (N:=some 62) (v:=?_) (a':=?_) #[Y,Y,Y,Y,Y,Y,Y,Y,J,J,J,J] rfl rfl (take_ofW HT_.out HW_.out (by kernel_rfl)) (fun _ _ _ h => h) (Or.inl ⟨by rfl,?_⟩) hHeld ?_ ?_;rotate_left
     ·rintro w' ⟨s0,s1,s2,s3,s4,s5,s6⟩;go_simp;with_reducible rfl
     rotate_left
     ·simp only [Act.put,U,V,Z,i64_w,i32_w];rfl
     refine take_ (i:=8) (N:=some 66) (v:=?_) (a':=?_) #[Y,Y,Y,Y,Y,Y,Y,Y,Y,J,J,J] rfl rfl (take_ofW HT_.out HW_.out (by kernel_rfl)) (fun _ _ _ h => h) (Or.inl ⟨by rfl,?_⟩) hHeld ?_ ?_;rotate_left
     ·rintro w' ⟨s0,s1,s2,s3,s4,s5,s6⟩;go_simp;with_reducible rfl
     rotate_left
     ·simp only [Act.put,U,V,Z,i64_w,i32_w];rfl
     refine pure_ (i:=9) (N:=some 67) (v:=?_) (a':=?_) #[Y,Y,Y,Y,Y,Y,Y,Y,Y,Y,J,J] rfl rfl (any_of HT_.out (by kernel_rfl)) (fun _ _ _ h => h) (Or.inl ⟨by rfl,?_⟩) ?_ ?_;rotate_left
     ·intro w';go_simp;with_reducible rfl
     rotate_left
     ·simp only [Act.put,U,V,Z,i64_w,i32_w];rfl
     refine pure_ (i:=10) (N:=some 68) (v:=?_) (a':=?_) #[Y,Y,Y,Y,Y,Y,Y,Y,Y,Y,Y,J] rfl rfl (any_of HT_.out (by kernel_rfl)) (fun _ _ _ h => h) (Or.inl ⟨by rfl,?_⟩) ?_ ?_;rotate_left
     ·intro w';go_simp;with_reducible rfl
     rotate_left
     ·simp only [Act.put,U,V,Z,i64_w,i32_w];rfl
     refine last_ (i:=11) (N:=none) #[true,true,true,true,true,true,true,true,true,true,true,true] rfl rfl (one_of HT_.out (by kernel_rfl)) (by decide) (fun K hK => ?_);refine skip_ (w1:=?_) (by rfl) rfl ?_ ?_;rotate_left
     ·go_simp;rfl
     refine hK.out _ _ ?_;clear hK K;refine done_ (done_of HT_.out (by kernel_rfl)) ?_
     try go_wp2
     go_roundg k2
     case measure => have:=HJ4.out; have:=HK2.out; omega
     case rel => exact ⟨(y746),(wrap64 (p0 + 1)),(by first | rfl | (simp; done) | (simp [*]; done)),H',⟨by have:=HJ4.out; have:=HK2.out; omega⟩,⟨by (with_reducible repeat (first | apply Kd.R_alloc | apply Kd.R_drewN | apply Kd.R_drew)); exact HQ43.out⟩,⟨by (with_reducible repeat (first | refine blk_drewN ?_ _ | refine blk_drew ?_ | refine blk_alloc ?_ _)); refine blk_far ?_ (by have h_:=Kd.R_ne p8.out p5.out (by decide); intro e_; exact h_ (by rw [e_]; rfl)) _; (with_reducible repeat (first | refine blk_drewN ?_ _ | refine blk_drew ?_ | refine blk_alloc ?_ _)); exact p5.out⟩,⟨by repeat (first | (with_reducible first | exact HB.out | apply below_alloc | apply pw_below_drewN | apply below_drew1 | refine below_set ?_ GB29.out | refine below_set ?_ q6.out | refine below_set ?_ s9.out) | exact HB.out)⟩⟩
end Go.Proofs.Ytlhmljngjdfbpaa.Pr
end
