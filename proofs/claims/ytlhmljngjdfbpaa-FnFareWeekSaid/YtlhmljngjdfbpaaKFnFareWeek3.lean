/- For the statement FnFareWeek of this seat: it is proved here, with no further conditions (part 4 of its texts: words, walks of the functions, the plain law, the row). -/
import Derived.Test.YtlhmljngjdfbpaaKFnFareWeek2
section
namespace Go.Proofs.Ytlhmljngjdfbpaa.Pr
open Go.RowKit Go.Proofs.YtlhmljngjdfbpaaW.PrintWords Go.Proofs.YtlhmljngjdfbpaaW.PrintLast Go.Proofs.YtlhmljngjdfbpaaW.PrintMore
attribute [local go_sem] max2_int min2_int max_two min_two max_three min_three max_four min_four
set_option linter.unusedVariables false
set_option linter.unusedSimpArgs false
open List renaming setIfInBounds_toArray → U,set_cons_zero → O,set_cons_succ → I
open Go.Proofs.YtlhmljngjdfbpaaW.PrintWords.Aside0 renaming mk → G
def spec_l30Rides.l0 : Nat → List Int → Int → List Int → Int → Option (List Int × Int)
 | 0,_,_,_,_ => none
 | k + 1,x3,x4,x1000,x1001 => if x4 > 0 then ((spec_l30Rd_pick.f k x1000 x1001 15).bind fun bt144 => (if x3.length < 17592186044416 then (spec_l30Rides.l0 k (x3 ++ [bt144.1]) (wrap64 (x4 - 1)) x1000 bt144.2) else (none))) else ((spec_l30Rd_pick.f k x1000 x1001 14).bind fun bt149 => (if bt149.1 = 0 then ((spec_l30Rd_one.f k x1000 bt149.2 (([(-1),100] : List Int))).bind fun bt154 => (if x3.length < 17592186044416 then (some ((x3 ++ [bt154.1]),bt154.2)) else (none))) else (some (x3,bt149.2))))
def spec_l30Rides.f (k : Nat) (s0_0 : List Int) (s0_1 : Int) : Option (List Int × Int):=(spec_l30Rd_pick.f k s0_0 s0_1 6).bind fun bt142 => (spec_l30Rides.l0 k (([] : List Int)) bt142.1 s0_0 bt142.2)
theorem spec_l30Rides.mono_l : ∀ k,(∀ y0 y1 y2 y3,LeO (spec_l30Rides.l0 k y0 y1 y2 y3) (spec_l30Rides.l0 (k + 1) y0 y1 y2 y3))
 | 0 => fun _ _ _ _ r h => by simp [spec_l30Rides.l0] at h
 | k + 1 => by
  have ih0:=spec_l30Rides.mono_l k
  ·intro y0 y1 y2 y3
   unfold spec_l30Rides.l0
   repeat' first
   | (with_reducible exact ih0 _ _ _ _)
   | (with_reducible exact spec_l30Rd_one.mono _ _ _ _)
   | (with_reducible exact spec_l30Rd_pick.mono _ _ _ _)
   | (with_reducible exact LeO.refl _)
   | (with_reducible exact LeO.none _)
   | (with_reducible refine LeO.ite ?_ ?_)
   | (with_reducible refine LeO.bind ?_ (fun _ => ?_))
   | exact ih0 _ _ _ _
   | exact spec_l30Rd_one.mono _ _ _ _
   | exact spec_l30Rd_pick.mono _ _ _ _
   | exact LeO.none _
   | refine LeO.ite ?_ ?_
   | refine LeO.bind ?_ (fun _ => ?_)
theorem spec_l30Rides.mono : ∀ a0 a1 k,LeO (spec_l30Rides.f k a0 a1) (spec_l30Rides.f (k + 1) a0 a1):=by
 intro a0 a1 k;have ih0:=spec_l30Rides.mono_l k
 unfold spec_l30Rides.f
 repeat' first
   | (with_reducible exact ih0 _ _ _ _)
   | (with_reducible exact spec_l30Rd_one.mono _ _ _ _)
   | (with_reducible exact spec_l30Rd_pick.mono _ _ _ _)
   | (with_reducible exact LeO.refl _)
   | (with_reducible exact LeO.none _)
   | (with_reducible refine LeO.ite ?_ ?_)
   | (with_reducible refine LeO.bind ?_ (fun _ => ?_))
   | exact ih0 _ _ _ _
   | exact spec_l30Rd_one.mono _ _ _ _
   | exact spec_l30Rd_pick.mono _ _ _ _
   | exact LeO.none _
   | refine LeO.ite ?_ ?_
   | refine LeO.bind ?_ (fun _ => ?_)
set_option maxHeartbeats 8000000 in
set_option maxRecDepth 100000 in
theorem spec_l30Rides.calls (k : Nat) (g : Nat) (s0_0 : List Int) (s0_1 : Int) (r1 : List Int) (r2 : Int) (w0 w : World) (hI : IsS122 w0 w g s0_0 s0_1) (hB : Below w0.heap.size w0 w) (h : spec_l30Rides.f k s0_0 s0_1 = some (r1,r2)) :
  Calls Try.prog 65 #[.pointer (some ⟨g,0,none⟩)] w fun e w' => ∃ v0_ : Value,e = .returned (v0_) ∧ Kd.R (Kd.int .i64) 3 w' w.heap.size (fun _ => True) v0_ r1 ∧ IsS122 w0 w' g s0_0 r2 ∧ Below w0.heap.size w0 w' ∧ KeepBut w w' g none:=by
 have HI0:=G hI;have HK:=G (KeepBut.refl w g none);have HL:=G hB.size;clear hI;have HW0:=G hB.size;have HB:=G hB;clear hB;have H : ((spec_l30Rd_pick.f k s0_0 s0_1 6).bind fun bt142 => (spec_l30Rides.l0 k (([] : List Int)) bt142.1 s0_0 bt142.2)) = some (r1,r2):=h;clear h;obtain ⟨y139,hy139⟩ : ∃ y_ : List Int,y_ = (([] : List Int)):=⟨_,rfl⟩
 replace H : ((spec_l30Rd_pick.f k s0_0 s0_1 6).bind fun bt142 => (spec_l30Rides.l0 k y139 bt142.1 s0_0 bt142.2)) = some (r1,r2):=by first | (rw [hy139]; with_reducible exact H) | (have H2_:=(Option.bind_some _ _).symm.trans H; rw [hy139]; with_reducible exact H2_) | (have H2_:=(Option.bind_some _ _).symm.trans H; with_reducible exact H2_) | with_reducible exact H | (rw [hy139]; exact H) | exact H
 have Ny139:=G hy139;clear hy139;replace H:=Option.bind_eq_some_iff.mp H;obtain ⟨⟨t142,t143⟩,A20,H⟩:=H;replace H : (spec_l30Rides.l0 k y139 t142 s0_0 t143) = some (r1,r2):=H;have A2:=G A20;clear A20;have H':=G H;clear H
 go_enter Try.func65,Try.ntmps65
 go_wp2_with (first | ((with_reducible refine gate_dst (N:=5) rfl ?_); refine Kd.R_lit (Kd.int .i64) _ 3 ?hg (N:=5) ?hd (xs:=([] : List Int)) (inner:=[]) (ok:=fun _ => True) (okp:=fun _ => True) ?hr ?hp (fun _ hk => hk) trivial (Below.refl _ _) (Nat.le_refl _) (by simp) ?_; (case hd => rfl); (case hg => rfl); (case hr => first | (go_simp; done) | (go_simp; rfl)); (case hp => exact (Reps.none _ _)); intro v140 w3 ho4 hb hg_ hnew_; clear hg_ hnew_; (first | rw [← Ny139.out] at ho4 | (simp only [Int.reduceToNat] at ho4; rw [← Ny139.out] at ho4)); have n0_:=G (Kd.R_lower ho4 (keep_size (w:=w) (g:=g) (row:=none) (by repeat (first | (with_reducible first | exact HK.out | apply KeepBut.set_ | apply keep_drewN | apply keep_drew | apply keep_alloc) | exact HK.out)))); have n1_:=G (IsS122.below (by repeat (first | (with_reducible first | exact HI0.out | apply IsS122.alloc | apply IsS122.drewN | apply IsS122.drew | apply IsS122.set_1) | exact HI0.out)) hb); have n2_:=G (KeepBut.trans (by repeat (first | (with_reducible first | exact HK.out | apply KeepBut.set_ | apply keep_drewN | apply keep_drew | apply keep_alloc) | exact HK.out)) (KeepBut.of_below hb g none) (.inl rfl)); have n3_:=G (below_step (by repeat (first | (with_reducible first | exact HB.out | apply below_alloc | apply pw_below_drewN | apply below_drew1 | refine below_set ?_ (IsS122.ge HI0.out)) | exact HB.out)) hb); clear HI0; clear HK; clear HB; have HO141:=n0_; have HI0:=n1_; have HK:=n2_; have HB:=n3_; clear n0_ n1_ n2_ n3_; clear hb ho4) | ((with_reducible refine gate_callee (f:=64) rfl ?_); refine goesL_ (some 7) rfl rfl Try.func64 (by kernel_rfl) rfl #[.pointer (some ⟨g,0,none⟩),.int .i64 6] rfl (by (try simp only [List.map_toArray,List.map_cons,List.map_nil]); first | done | rfl | (simp only [List.length_drop,List.length_take]; rfl)) ?_; (with_reducible refine (spec_l30Rd_pick.calls k g s0_0 s0_1 6 t142 t143 w0 _ ?side1 ?side2 A2.out).mono ?_); (case side1 => repeat (first | (with_reducible first | exact HI0.out | apply IsS122.alloc | apply IsS122.drewN | apply IsS122.drew | apply IsS122.set_1) | exact HI0.out)); (case side2 => repeat (first | (with_reducible first | exact HB.out | apply below_alloc | apply pw_below_drewN | apply below_drew1 | refine below_set ?_ (IsS122.ge HI0.out)) | exact HB.out)); rintro e w5 ⟨rfl,hi,hb,hk⟩; refine ⟨_,rfl,?_⟩; have n0_:=G (Kd.R_mono (Kd.R_keep (IsS122.apart (show IsS122 w0 _ g s0_0 s0_1 from by repeat (first | (with_reducible first | exact HI0.out | apply IsS122.alloc | apply IsS122.drewN | apply IsS122.drew | apply IsS122.set_1) | exact HI0.out)) (by (with_reducible repeat (first | apply Kd.R_alloc | apply Kd.R_drewN | apply Kd.R_drew)); exact HO141.out) (by decide)) hk (fun _ h => h.2)) (fun _ h => h.1)); have n1_:=G (KeepBut.trans (by repeat (first | (with_reducible first | exact HK.out | apply KeepBut.set_ | apply keep_drewN | apply keep_drew | apply keep_alloc) | exact HK.out)) hk (.inl rfl)); have n2_:=G (hb); have n3_:=G (hi); clear HO141; clear HK; clear HB; clear HI0; have HO141:=n0_; have HK:=n1_; have HB:=n2_; have HI0:=n3_; clear n0_ n1_ n2_ n3_; (try clear hb); (try clear hb2); (try clear hk); (try clear hi)))
 go_loopg [3,4] k (fun kq v3 v4 w' => ∃ (x3_1 : List Int) (x4_1 : Int) (x1001_1 : Int),v4 = .int .i64 x4_1 ∧ Aside0 (spec_l30Rides.l0 kq x3_1 x4_1 s0_0 x1001_1 = some (r1,r2)) ∧ Aside0 (kq ≤ k) ∧ Aside0 (Kd.R (Kd.int .i64) 3 w' w.heap.size (fun _ => True) v3 x3_1) ∧ Aside0 (IsS122 w0 w' g s0_0 x1001_1) ∧ Aside0 (KeepBut w w' g none) ∧ Aside0 (Below w0.heap.size w0 w'))
 case atStart => exact ⟨(y139),(t142),(t143),(by first | rfl | (simp; done) | (simp [*]; done)),H',⟨Nat.le_refl _⟩,⟨by (with_reducible repeat (first | apply Kd.R_alloc | apply Kd.R_drewN | apply Kd.R_drew)); exact HO141.out⟩,⟨by repeat (first | (with_reducible first | exact HI0.out | apply IsS122.alloc | apply IsS122.drewN | apply IsS122.drew | apply IsS122.set_1) | exact HI0.out)⟩,⟨by repeat (first | (with_reducible first | exact HK.out | apply KeepBut.set_ | apply keep_drewN | apply keep_drew | apply keep_alloc) | exact HK.out)⟩,⟨by repeat (first | (with_reducible first | exact HB.out | apply below_alloc | apply pw_below_drewN | apply below_drew1 | refine below_set ?_ (IsS122.ge HI0.out)) | exact HB.out)⟩⟩
 case round =>
  clear H'
  try clear p2
  obtain ⟨x3_1,x4_1,x1001_1,rfl,HA,HK1,HO_3,HI0,HK,HB⟩:=hrel;cases gk with
  | zero => exact absurd HA.out (by simp [spec_l30Rides.l0])
  | succ k1 =>
   have H:=HA.out;clear HA;simp only [spec_l30Rides.l0] at H
   by_cases c6 : x4_1 > 0
   case pos =>
    rw [if_pos c6] at H;have c6b0 : decide (0 < x4_1) = true:=decide_eq_true c6;clear c6;replace H:=Option.bind_eq_some_iff.mp H;obtain ⟨⟨t144,t145⟩,A70,H⟩:=H;replace H : (if x3_1.length < 17592186044416 then (spec_l30Rides.l0 k1 (x3_1 ++ [t144]) (wrap64 (x4_1 - 1)) s0_0 t145) else (none)) = some (r1,r2):=H;have A7:=G A70;clear A70
    by_cases c8 : x3_1.length < 17592186044416
    case neg =>
     rw [if_neg c8] at H;exact absurd H (by simp)
    rw [if_pos c8] at H;have LMc8:=G c8;clear c8;obtain ⟨y146,hy146⟩ : ∃ y_ : List Int,y_ = (x3_1 ++ [t144]):=⟨_,rfl⟩
    replace H : (spec_l30Rides.l0 k1 y146 (wrap64 (x4_1 - 1)) s0_0 t145) = some (r1,r2):=by first | (rw [hy146]; with_reducible exact H) | (have H2_:=(Option.bind_some _ _).symm.trans H; rw [hy146]; with_reducible exact H2_) | (have H2_:=(Option.bind_some _ _).symm.trans H; with_reducible exact H2_) | with_reducible exact H | (rw [hy146]; exact H) | exact H
    have Ny146:=G hy146;clear hy146;have H':=G H;clear H
    go_wp2_with (first | ((with_reducible refine gate_callee (f:=64) rfl ?_); refine goesL_ (some 14) rfl rfl Try.func64 (by kernel_rfl) rfl #[.pointer (some ⟨g,0,none⟩),.int .i64 15] rfl (by (try simp only [List.map_toArray,List.map_cons,List.map_nil]); first | done | rfl | (simp only [List.length_drop,List.length_take]; rfl)) ?_; (with_reducible refine (spec_l30Rd_pick.calls k1 g s0_0 x1001_1 15 t144 t145 w0 _ ?side1 ?side2 A7.out).mono ?_); (case side1 => repeat (first | (with_reducible first | exact HI0.out | apply IsS122.alloc | apply IsS122.drewN | apply IsS122.drew | apply IsS122.set_1) | exact HI0.out)); (case side2 => repeat (first | (with_reducible first | exact HB.out | apply below_alloc | apply pw_below_drewN | apply below_drew1 | refine below_set ?_ (IsS122.ge HI0.out)) | exact HB.out)); rintro e w9 ⟨rfl,hi,hb,hk⟩; refine ⟨_,rfl,?_⟩; have n0_:=G (Kd.R_mono (Kd.R_keep (IsS122.apart (show IsS122 w0 _ g s0_0 x1001_1 from by repeat (first | (with_reducible first | exact HI0.out | apply IsS122.alloc | apply IsS122.drewN | apply IsS122.drew | apply IsS122.set_1) | exact HI0.out)) (by (with_reducible repeat (first | apply Kd.R_alloc | apply Kd.R_drewN | apply Kd.R_drew)); exact HO_3.out) (by decide)) hk (fun _ h => h.2)) (fun _ h => h.1)); have n1_:=G (KeepBut.trans (by repeat (first | (with_reducible first | exact HK.out | apply KeepBut.set_ | apply keep_drewN | apply keep_drew | apply keep_alloc) | exact HK.out)) hk (.inl rfl)); have n2_:=G (hb); have n3_:=G (hi); clear HO_3; clear HK; clear HB; clear HI0; have HO_3:=n0_; have HK:=n1_; have HB:=n2_; have HI0:=n3_; clear n0_ n1_ n2_ n3_; (try clear hb); (try clear hb2); (try clear hk); (try clear hi)) | ((with_reducible refine gate_builtin (b:=.append) (xs:=#[.tmp 12,.tmp 15]) rfl ?_); at_builtin; refine Kd.R_append (Kd.int .i64) w.heap.size rfl (.tmp 12) (.tmp 15) 23 3 (.int .i64 0) 8 rfl Try.underlying23 info3 rfl (by decide) (by omega) u3 x3_1 t144 [.int .i64 t144] (fun _ => True) (fun _ => False) rfl rfl ?aP (fun _ hk => hk.elim) ?aF ?aO (Below.refl _ _) ?aS ?aL ?_; (case aP => exact rfl); (case aF => exact (fun _ _ => trivial)); (case aO => exact (by (with_reducible repeat (first | apply Kd.R_alloc | apply Kd.R_drewN | apply Kd.R_drew)); exact HO_3.out)); (case aS => exact (keep_size (w:=w) (g:=g) (row:=none) (by repeat (first | (with_reducible first | exact HK.out | apply KeepBut.set_ | apply keep_drewN | apply keep_drew | apply keep_alloc) | exact HK.out)))); (case aL => have:=LMc8.out; omega); intro v147 w10 ho hb hg hat; rw [← Ny146.out] at ho; have n0_:=G (IsS122.grown2 HI0.out (by repeat (first | (with_reducible first | exact HI0.out | apply IsS122.alloc | apply IsS122.drewN | apply IsS122.drew | apply IsS122.set_1) | exact HI0.out)) hg (IsS122.own_ne HI0.out HO_3.out (by decide))); have n1_:=G (below_weaken (by repeat (first | (with_reducible first | exact HB.out | apply below_alloc | apply pw_below_drewN | apply below_drew1 | refine below_set ?_ (IsS122.ge HI0.out)) | exact HB.out)) HL.out hb); have n2_:=G (KeepBut.trans (by repeat (first | (with_reducible first | exact HK.out | apply KeepBut.set_ | apply keep_drewN | apply keep_drew | apply keep_alloc) | exact HK.out)) (KeepBut.of_grown hg g) (Kd.R_base2 HO_3.out)); have n3_:=G (ho); clear HI0; clear HB; clear HK; clear HO_3; have HI0:=n0_; have HB:=n1_; have HK:=n2_; have HO148:=n3_; clear n0_ n1_ n2_ n3_; clear ho hb hg hat))
    go_roundg k1
    case measure => have:=HK1.out; omega
    case rel => exact ⟨(y146),(wrap64 (x4_1 - 1)),(t145),(by first | rfl | (simp; done) | (simp [*]; done)),H',⟨by have:=HK1.out; omega⟩,⟨by (with_reducible repeat (first | apply Kd.R_alloc | apply Kd.R_drewN | apply Kd.R_drew)); exact HO148.out⟩,⟨by repeat (first | (with_reducible first | exact HI0.out | apply IsS122.alloc | apply IsS122.drewN | apply IsS122.drew | apply IsS122.set_1) | exact HI0.out)⟩,⟨by repeat (first | (with_reducible first | exact HK.out | apply KeepBut.set_ | apply keep_drewN | apply keep_drew | apply keep_alloc) | exact HK.out)⟩,⟨by repeat (first | (with_reducible first | exact HB.out | apply below_alloc | apply pw_below_drewN | apply below_drew1 | refine below_set ?_ (IsS122.ge HI0.out)) | exact HB.out)⟩⟩
   rw [if_neg c6] at H;have c6b0 : decide (0 < x4_1) = false:=decide_eq_false c6;clear c6;replace H:=Option.bind_eq_some_iff.mp H;obtain ⟨⟨t149,t150⟩,A110,H⟩:=H;replace H : (if t149 = 0 then ((spec_l30Rd_one.f k1 s0_0 t150 (([(-1),100] : List Int))).bind fun bt154 => (if x3_1.length < 17592186044416 then (some ((x3_1 ++ [bt154.1]),bt154.2)) else (none))) else (some (x3_1,t150))) = some (r1,r2):=H;have A11:=G A110;clear A110
   by_cases c12 : t149 = 0
   case neg =>
    rw [if_neg c12] at H;have c12b0 : (t149 == 0) = false:=beq_eq_false_iff_ne.mpr c12;have c12b1 : (t149 != 0) = true:=bne_iff_ne.mpr c12;simp only [Option.some.injEq,Prod.mk.injEq] at H;obtain ⟨rfl,rfl⟩:=H
    go_wp2_with (first | ((with_reducible refine gate_callee (f:=64) rfl ?_); refine goesL_ (some 18) rfl rfl Try.func64 (by kernel_rfl) rfl #[.pointer (some ⟨g,0,none⟩),.int .i64 14] rfl (by (try simp only [List.map_toArray,List.map_cons,List.map_nil]); first | done | rfl | (simp only [List.length_drop,List.length_take]; rfl)) ?_; (with_reducible refine (spec_l30Rd_pick.calls k1 g s0_0 x1001_1 14 t149 t150 w0 _ ?side1 ?side2 A11.out).mono ?_); (case side1 => repeat (first | (with_reducible first | exact HI0.out | apply IsS122.alloc | apply IsS122.drewN | apply IsS122.drew | apply IsS122.set_1) | exact HI0.out)); (case side2 => repeat (first | (with_reducible first | exact HB.out | apply below_alloc | apply pw_below_drewN | apply below_drew1 | refine below_set ?_ (IsS122.ge HI0.out)) | exact HB.out)); rintro e w21 ⟨rfl,hi,hb,hk⟩; refine ⟨_,rfl,?_⟩; have n0_:=G (Kd.R_mono (Kd.R_keep (IsS122.apart (show IsS122 w0 _ g s0_0 x1001_1 from by repeat (first | (with_reducible first | exact HI0.out | apply IsS122.alloc | apply IsS122.drewN | apply IsS122.drew | apply IsS122.set_1) | exact HI0.out)) (by (with_reducible repeat (first | apply Kd.R_alloc | apply Kd.R_drewN | apply Kd.R_drew)); exact HO_3.out) (by decide)) hk (fun _ h => h.2)) (fun _ h => h.1)); have n1_:=G (KeepBut.trans (by repeat (first | (with_reducible first | exact HK.out | apply KeepBut.set_ | apply keep_drewN | apply keep_drew | apply keep_alloc) | exact HK.out)) hk (.inl rfl)); have n2_:=G (hb); have n3_:=G (hi); clear HO_3; clear HK; clear HB; clear HI0; have HO_3:=n0_; have HK:=n1_; have HB:=n2_; have HI0:=n3_; clear n0_ n1_ n2_ n3_; (try clear hb); (try clear hb2); (try clear hk); (try clear hi)))
    go_ret;exact ⟨_,by first | rfl | (simp [errW_none,errW_some] <;> rfl) | (simp [*,errW_none,errW_some] <;> rfl),by (with_reducible repeat (first | apply Kd.R_alloc | apply Kd.R_drewN | apply Kd.R_drew)); exact HO_3.out,by repeat (first | (with_reducible first | exact HI0.out | apply IsS122.alloc | apply IsS122.drewN | apply IsS122.drew | apply IsS122.set_1) | exact HI0.out),by repeat (first | (with_reducible first | exact HB.out | apply below_alloc | apply pw_below_drewN | apply below_drew1 | refine below_set ?_ (IsS122.ge HI0.out)) | exact HB.out),by repeat (first | (with_reducible first | exact HK.out | apply KeepBut.set_ | apply keep_drewN | apply keep_drew | apply keep_alloc) | exact HK.out)⟩
   rw [if_pos c12] at H;have c12b0 : (t149 == 0) = true:=beq_iff_eq.mpr c12;have c12b1 : (t149 != 0) = false:=bne_eq_false_iff_eq.mpr c12;clear c12;obtain ⟨y151,hy151⟩ : ∃ y_ : List Int,y_ = (([(-1),100] : List Int)):=⟨_,rfl⟩
   replace H : ((spec_l30Rd_one.f k1 s0_0 t150 y151).bind fun bt154 => (if x3_1.length < 17592186044416 then (some ((x3_1 ++ [bt154.1]),bt154.2)) else (none))) = some (r1,r2):=by first | (rw [hy151]; with_reducible exact H) | (have H2_:=(Option.bind_some _ _).symm.trans H; rw [hy151]; with_reducible exact H2_) | (have H2_:=(Option.bind_some _ _).symm.trans H; with_reducible exact H2_) | with_reducible exact H | (rw [hy151]; exact H) | exact H
   have Ny151:=G hy151;clear hy151;replace H:=Option.bind_eq_some_iff.mp H;obtain ⟨⟨t154,t155⟩,A130,H⟩:=H;replace H : (if x3_1.length < 17592186044416 then (some ((x3_1 ++ [t154]),t155)) else (none)) = some (r1,r2):=H;have A13:=G A130;clear A130
   by_cases c14 : x3_1.length < 17592186044416
   case neg =>
    rw [if_neg c14] at H;exact absurd H (by simp)
   rw [if_pos c14] at H;have LMc14:=G c14;clear c14;obtain ⟨y156,hy156⟩ : ∃ y_ : List Int,y_ = (x3_1 ++ [t154]):=⟨_,rfl⟩
   replace H : (some (y156,t155)) = some (r1,r2):=by first | (rw [hy156]; with_reducible exact H) | (have H2_:=(Option.bind_some _ _).symm.trans H; rw [hy156]; with_reducible exact H2_) | (have H2_:=(Option.bind_some _ _).symm.trans H; with_reducible exact H2_) | with_reducible exact H | (rw [hy156]; exact H) | exact H
   have Ny156:=G hy156;clear hy156;simp only [Option.some.injEq,Prod.mk.injEq] at H;obtain ⟨rfl,rfl⟩:=H
   go_wp2_with (first | ((with_reducible refine gate_callee (f:=64) rfl ?_); refine goesL_ (some 18) rfl rfl Try.func64 (by kernel_rfl) rfl #[.pointer (some ⟨g,0,none⟩),.int .i64 14] rfl (by (try simp only [List.map_toArray,List.map_cons,List.map_nil]); first | done | rfl | (simp only [List.length_drop,List.length_take]; rfl)) ?_; (with_reducible refine (spec_l30Rd_pick.calls k1 g s0_0 x1001_1 14 t149 t150 w0 _ ?side1 ?side2 A11.out).mono ?_); (case side1 => repeat (first | (with_reducible first | exact HI0.out | apply IsS122.alloc | apply IsS122.drewN | apply IsS122.drew | apply IsS122.set_1) | exact HI0.out)); (case side2 => repeat (first | (with_reducible first | exact HB.out | apply below_alloc | apply pw_below_drewN | apply below_drew1 | refine below_set ?_ (IsS122.ge HI0.out)) | exact HB.out)); rintro e w15 ⟨rfl,hi,hb,hk⟩; refine ⟨_,rfl,?_⟩; have n0_:=G (Kd.R_mono (Kd.R_keep (IsS122.apart (show IsS122 w0 _ g s0_0 x1001_1 from by repeat (first | (with_reducible first | exact HI0.out | apply IsS122.alloc | apply IsS122.drewN | apply IsS122.drew | apply IsS122.set_1) | exact HI0.out)) (by (with_reducible repeat (first | apply Kd.R_alloc | apply Kd.R_drewN | apply Kd.R_drew)); exact HO_3.out) (by decide)) hk (fun _ h => h.2)) (fun _ h => h.1)); have n1_:=G (KeepBut.trans (by repeat (first | (with_reducible first | exact HK.out | apply KeepBut.set_ | apply keep_drewN | apply keep_drew | apply keep_alloc) | exact HK.out)) hk (.inl rfl)); have n2_:=G (hb); have n3_:=G (hi); clear HO_3; clear HK; clear HB; clear HI0; have HO_3:=n0_; have HK:=n1_; have HB:=n2_; have HI0:=n3_; clear n0_ n1_ n2_ n3_; (try clear hb); (try clear hb2); (try clear hk); (try clear hi)) | ((with_reducible refine gate_dst (N:=22) rfl ?_); refine Kd.R_lit (Kd.int .i64) _ 3 ?hg (N:=22) ?hd (xs:=([(-1),100] : List Int)) (inner:=[.int .i64 (-1),.int .i64 100]) (ok:=fun _ => True) (okp:=fun _ => True) ?hr ?hp (fun _ hk => hk) trivial (Below.refl _ _) (Nat.le_refl _) (by simp) ?_; (case hd => rfl); (case hg => rfl); (case hr => first | (go_simp; done) | (go_simp; rfl)); (case hp => exact (Reps.one (show Kd.M (Kd.int .i64) _ _ _ (-1) [.int .i64 (-1)] from rfl) (Reps.one (show Kd.M (Kd.int .i64) _ _ _ 100 [.int .i64 100] from rfl) (Reps.none _ _)))); intro v152 w16 ho17 hb hg_ hnew_; clear hg_ hnew_; (first | rw [← Ny151.out] at ho17 | (simp only [Int.reduceToNat] at ho17; rw [← Ny151.out] at ho17)); have n0_:=G (Kd.R_elder' (by (with_reducible repeat (first | apply Kd.R_alloc | apply Kd.R_drewN | apply Kd.R_drew)); exact HO_3.out) (Kd.R_base ho17) hb); have n1_:=G (Kd.R_lower (Kd.R_new' ho17 (Kd.R_lt (by (with_reducible repeat (first | apply Kd.R_alloc | apply Kd.R_drewN | apply Kd.R_drew)); exact HO_3.out))) (keep_size (w:=w) (g:=g) (row:=none) (by repeat (first | (with_reducible first | exact HK.out | apply KeepBut.set_ | apply keep_drewN | apply keep_drew | apply keep_alloc) | exact HK.out)))); have n2_:=G (IsS122.below (by repeat (first | (with_reducible first | exact HI0.out | apply IsS122.alloc | apply IsS122.drewN | apply IsS122.drew | apply IsS122.set_1) | exact HI0.out)) hb); have n3_:=G (KeepBut.trans (by repeat (first | (with_reducible first | exact HK.out | apply KeepBut.set_ | apply keep_drewN | apply keep_drew | apply keep_alloc) | exact HK.out)) (KeepBut.of_below hb g none) (.inl rfl)); have n4_:=G (below_step (by repeat (first | (with_reducible first | exact HB.out | apply below_alloc | apply pw_below_drewN | apply below_drew1 | refine below_set ?_ (IsS122.ge HI0.out)) | exact HB.out)) hb); clear HO_3; clear HI0; clear HK; clear HB; have HO_3:=n0_; have HO153:=n1_; have HI0:=n2_; have HK:=n3_; have HB:=n4_; clear n0_ n1_ n2_ n3_ n4_; clear hb ho17; obtain ⟨Ao18,co18,eo18⟩:=Kd.R_slice HO153.out; subst eo18) | ((with_reducible refine gate_callee (f:=88) rfl ?_); refine goesL_ (some 23) rfl rfl Try.func88 (by kernel_rfl) rfl #[.pointer (some ⟨g,0,none⟩),.slice Ao18 y151.length co18] rfl (by (try simp only [List.map_toArray,List.map_cons,List.map_nil]); first | done | rfl | (simp only [List.length_drop,List.length_take]; rfl)) ?_; (with_reducible refine (spec_l30Rd_one.calls k1 g s0_0 t150 _ _ y151 t154 t155 w0 _ ?side1 ?side2 ?side3 ?side4 ?side5 A13.out).mono ?_); (case side1 => repeat (first | (with_reducible first | exact HI0.out | apply IsS122.alloc | apply IsS122.drewN | apply IsS122.drew | apply IsS122.set_1) | exact HI0.out)); (case side2 => repeat (first | (with_reducible first | exact HB.out | apply below_alloc | apply pw_below_drewN | apply below_drew1 | refine below_set ?_ (IsS122.ge HI0.out)) | exact HB.out)); (case side3 => repeat (first | exact (Kd.R_reads' HO153.out).2.2 | (with_reducible refine Kd.C_alloc ?_ _) | (with_reducible refine Kd.C_drewN ?_ _) | (with_reducible refine Kd.C_drew ?_))); (case side4 => exact (Kd.R_reads' HO153.out).2.1); (case side5 => exact far_slice (IsS122.own_ne HI0.out HO153.out (by decide))); rintro e w19 ⟨rfl,hi,hb,hk⟩; refine ⟨_,rfl,?_⟩; have n0_:=G (Kd.R_mono (Kd.R_keep (IsS122.apart (show IsS122 w0 _ g s0_0 t150 from by repeat (first | (with_reducible first | exact HI0.out | apply IsS122.alloc | apply IsS122.drewN | apply IsS122.drew | apply IsS122.set_1) | exact HI0.out)) (by (with_reducible repeat (first | apply Kd.R_alloc | apply Kd.R_drewN | apply Kd.R_drew)); exact HO_3.out) (by decide)) hk (fun _ h => h.2)) (fun _ h => h.1)); have n1_:=G (Kd.R_mono (Kd.R_keep (IsS122.apart (show IsS122 w0 _ g s0_0 t150 from by repeat (first | (with_reducible first | exact HI0.out | apply IsS122.alloc | apply IsS122.drewN | apply IsS122.drew | apply IsS122.set_1) | exact HI0.out)) (by (with_reducible repeat (first | apply Kd.R_alloc | apply Kd.R_drewN | apply Kd.R_drew)); exact HO153.out) (by decide)) hk (fun _ h => h.2)) (fun _ h => h.1)); have n2_:=G (KeepBut.trans (by repeat (first | (with_reducible first | exact HK.out | apply KeepBut.set_ | apply keep_drewN | apply keep_drew | apply keep_alloc) | exact HK.out)) hk (.inl rfl)); have n3_:=G (hb); have n4_:=G (hi); clear HO_3; clear HO153; clear HK; clear HB; clear HI0; have HO_3:=n0_; have HO153:=n1_; have HK:=n2_; have HB:=n3_; have HI0:=n4_; clear n0_ n1_ n2_ n3_ n4_; (try clear hb); (try clear hb2); (try clear hk); (try clear hi)) | ((with_reducible refine gate_builtin (b:=.append) (xs:=#[.tmp 20,.tmp 24]) rfl ?_); at_builtin; refine Kd.R_append (Kd.int .i64) w.heap.size rfl (.tmp 20) (.tmp 24) 23 3 (.int .i64 0) 8 rfl Try.underlying23 info3 rfl (by decide) (by omega) u3 x3_1 t154 [.int .i64 t154] (fun k_ => some k_ ≠ (.slice Ao18 y151.length co18 : Value).ownBlock) (fun _ => False) rfl rfl ?aP (fun _ hk => hk.elim) ?aF ?aO (Below.refl _ _) ?aS ?aL ?_; (case aP => exact rfl); (case aF => exact (fun k_ hk => Kd.fresh' (Kd.R_lt (by (with_reducible repeat (first | apply Kd.R_alloc | apply Kd.R_drewN | apply Kd.R_drew)); exact HO153.out)) k_ hk)); (case aO => exact (by (with_reducible repeat (first | apply Kd.R_alloc | apply Kd.R_drewN | apply Kd.R_drew)); exact Kd.R_mono HO_3.out (fun _ hk => hk.2))); (case aS => exact (keep_size (w:=w) (g:=g) (row:=none) (by repeat (first | (with_reducible first | exact HK.out | apply KeepBut.set_ | apply keep_drewN | apply keep_drew | apply keep_alloc) | exact HK.out)))); (case aL => have:=LMc14.out; omega); intro v157 w20 ho hb hg hat; rw [← Ny156.out] at ho; have n0_:=G (IsS122.grown2 HI0.out (by repeat (first | (with_reducible first | exact HI0.out | apply IsS122.alloc | apply IsS122.drewN | apply IsS122.drew | apply IsS122.set_1) | exact HI0.out)) hg (IsS122.own_ne HI0.out HO_3.out (by decide))); have n1_:=G (Kd.R_after (ok:=(fun _ => True)) (by (with_reducible repeat (first | apply Kd.R_alloc | apply Kd.R_drewN | apply Kd.R_drew)); exact HO153.out) hg hat); have n2_:=G (below_weaken (by repeat (first | (with_reducible first | exact HB.out | apply below_alloc | apply pw_below_drewN | apply below_drew1 | refine below_set ?_ (IsS122.ge HI0.out)) | exact HB.out)) HL.out hb); have n3_:=G (KeepBut.trans (by repeat (first | (with_reducible first | exact HK.out | apply KeepBut.set_ | apply keep_drewN | apply keep_drew | apply keep_alloc) | exact HK.out)) (KeepBut.of_grown hg g) (Kd.R_base2 HO_3.out)); have n4_:=G (ho); clear HI0; clear HO153; clear HB; clear HK; clear HO_3; have HI0:=n0_; have HO153:=n1_; have HB:=n2_; have HK:=n3_; have HO158:=n4_; clear n0_ n1_ n2_ n3_ n4_; clear ho hb hg hat))
   go_ret;exact ⟨_,by first | rfl | (simp [errW_none,errW_some] <;> rfl) | (simp [*,errW_none,errW_some] <;> rfl),by (with_reducible repeat (first | apply Kd.R_alloc | apply Kd.R_drewN | apply Kd.R_drew)); exact Kd.R_mono HO158.out (fun _ hk => trivial),by repeat (first | (with_reducible first | exact HI0.out | apply IsS122.alloc | apply IsS122.drewN | apply IsS122.drew | apply IsS122.set_1) | exact HI0.out),by repeat (first | (with_reducible first | exact HB.out | apply below_alloc | apply pw_below_drewN | apply below_drew1 | refine below_set ?_ (IsS122.ge HI0.out)) | exact HB.out),by repeat (first | (with_reducible first | exact HK.out | apply KeepBut.set_ | apply keep_drewN | apply keep_drew | apply keep_alloc) | exact HK.out)⟩
def spec_DrawFareWeek.l0 : Nat → List (List Int) → Int → List Int → Int → List Int → Int → Int → Option (List Int × Int × Int × (List (List Int)))
 | 0,_,_,_,_,_,_,_ => none
 | k + 1,x6,x7,x163000,x163001,x170000,x170001,x170002 => if x7 > 0 then ((spec_l30Rides.f k x163000 x163001).bind fun bt175 => (if x6.length < 5864062014805 then (spec_DrawFareWeek.l0 k (x6 ++ [bt175.1]) (wrap64 (x7 - 1)) x163000 bt175.2 x170000 x170001 x170002) else (none))) else (some (x170000,x170001,x170002,x6))
def spec_DrawFareWeek.f (k : Nat) (l0 : List Int) : Option (List Int × Int × Int × (List (List Int))):=(spec_l30Open.f l0).bind fun bt160 => ((spec_l30Fare.f k bt160.1 bt160.2).bind fun bt163 => ((spec_l30Rd_pick.f k bt160.1 bt163.2.2.2 9).bind fun bt173 => (spec_DrawFareWeek.l0 k (([] : List (List Int))) bt173.1 bt160.1 bt173.2 bt163.1 bt163.2.1 bt163.2.2.1)))
theorem spec_DrawFareWeek.mono_l : ∀ k,(∀ y0 y1 y2 y3 y4 y5 y6,LeO (spec_DrawFareWeek.l0 k y0 y1 y2 y3 y4 y5 y6) (spec_DrawFareWeek.l0 (k + 1) y0 y1 y2 y3 y4 y5 y6))
 | 0 => fun _ _ _ _ _ _ _ r h => by simp [spec_DrawFareWeek.l0] at h
 | k + 1 => by
  have ih0:=spec_DrawFareWeek.mono_l k
  ·intro y0 y1 y2 y3 y4 y5 y6
   unfold spec_DrawFareWeek.l0
   repeat' first
   | (with_reducible exact ih0 _ _ _ _ _ _ _)
   | (with_reducible exact spec_l30Fare.mono _ _ _)
   | (with_reducible exact spec_l30Rd_pick.mono _ _ _ _)
   | (with_reducible exact spec_l30Rides.mono _ _ _)
   | (with_reducible exact LeO.refl _)
   | (with_reducible exact LeO.none _)
   | (with_reducible refine LeO.ite ?_ ?_)
   | (with_reducible refine LeO.bind ?_ (fun _ => ?_))
   | exact ih0 _ _ _ _ _ _ _
   | exact spec_l30Fare.mono _ _ _
   | exact spec_l30Rd_pick.mono _ _ _ _
   | exact spec_l30Rides.mono _ _ _
   | exact LeO.none _
   | refine LeO.ite ?_ ?_
   | refine LeO.bind ?_ (fun _ => ?_)
theorem spec_DrawFareWeek.mono : ∀ a0 k,LeO (spec_DrawFareWeek.f k a0) (spec_DrawFareWeek.f (k + 1) a0):=by
 intro a0 k;have ih0:=spec_DrawFareWeek.mono_l k
 unfold spec_DrawFareWeek.f
 repeat' first
   | (with_reducible exact ih0 _ _ _ _ _ _ _)
   | (with_reducible exact spec_l30Fare.mono _ _ _)
   | (with_reducible exact spec_l30Rd_pick.mono _ _ _ _)
   | (with_reducible exact spec_l30Rides.mono _ _ _)
   | (with_reducible exact LeO.refl _)
   | (with_reducible exact LeO.none _)
   | (with_reducible refine LeO.ite ?_ ?_)
   | (with_reducible refine LeO.bind ?_ (fun _ => ?_))
   | exact ih0 _ _ _ _ _ _ _
   | exact spec_l30Fare.mono _ _ _
   | exact spec_l30Rd_pick.mono _ _ _ _
   | exact spec_l30Rides.mono _ _ _
   | exact LeO.none _
   | refine LeO.ite ?_ ?_
   | refine LeO.bind ?_ (fun _ => ?_)
set_option maxHeartbeats 8000000 in
set_option maxRecDepth 100000 in
theorem spec_DrawFareWeek.calls (k : Nat) (A0 : Option Addr) (c0 : Nat) (l0 : List Int) (r1 : List Int) (r2 : Int) (r3 : Int) (r4 : List (List Int)) (w : World) (hr0 : Kd.C (Kd.int .u8) w A0 l0.length l0) (hc0 : l0.length ≤ c0) (h : spec_DrawFareWeek.f k l0 = some (r1,r2,r3,r4)) :
  Calls Try.prog 16 #[.slice A0 l0.length c0] w fun e w' => ∃ v0_ v3_ : Value,e = .returned (.tuple #[.agg #[v0_,.int .i64 r2,.int .i64 r3],v3_]) ∧ Kd.Q (Kd.int .i64) 3 w' w.heap.size (fun _ => True) v0_ r1 ∧ Kd.S (Kd.slice 3 (Kd.int .i64)) 23 w' w.heap.size (fun k_ => some k_ ≠ (v0_ : Value).ownBlock) v3_ r4 ∧ Below w.heap.size w w':=by
 have hu25:=Try.underlying25;have HR0:=G hr0;have HC0:=G hc0;clear hr0 hc0;have HB:=G (Below.refl w.heap.size w);have H : ((spec_l30Open.f l0).bind fun bt160 => ((spec_l30Fare.f k bt160.1 bt160.2).bind fun bt163 => ((spec_l30Rd_pick.f k bt160.1 bt163.2.2.2 9).bind fun bt173 => (spec_DrawFareWeek.l0 k (([] : List (List Int))) bt173.1 bt160.1 bt173.2 bt163.1 bt163.2.1 bt163.2.2.1)))) = some (r1,r2,r3,r4):=h;clear h;replace H:=Option.bind_eq_some_iff.mp H;obtain ⟨⟨t160,t161⟩,A20,H⟩:=H;replace H : ((spec_l30Fare.f k t160 t161).bind fun bt163 => ((spec_l30Rd_pick.f k t160 bt163.2.2.2 9).bind fun bt173 => (spec_DrawFareWeek.l0 k (([] : List (List Int))) bt173.1 t160 bt173.2 bt163.1 bt163.2.1 bt163.2.2.1))) = some (r1,r2,r3,r4):=H;have A2:=G A20;clear A20;replace H:=Option.bind_eq_some_iff.mp H;obtain ⟨⟨t163,t166,t167,t168⟩,A30,H⟩:=H;replace H : ((spec_l30Rd_pick.f k t160 t168 9).bind fun bt173 => (spec_DrawFareWeek.l0 k (([] : List (List Int))) bt173.1 t160 bt173.2 t163 t166 t167)) = some (r1,r2,r3,r4):=H;have A3:=G A30;clear A30;obtain ⟨y170,hy170⟩ : ∃ y_ : List (List Int),y_ = (([] : List (List Int))):=⟨_,rfl⟩
 replace H : ((spec_l30Rd_pick.f k t160 t168 9).bind fun bt173 => (spec_DrawFareWeek.l0 k y170 bt173.1 t160 bt173.2 t163 t166 t167)) = some (r1,r2,r3,r4):=by first | (rw [hy170]; with_reducible exact H) | (have H2_:=(Option.bind_some _ _).symm.trans H; rw [hy170]; with_reducible exact H2_) | (have H2_:=(Option.bind_some _ _).symm.trans H; with_reducible exact H2_) | with_reducible exact H | (rw [hy170]; exact H) | exact H
 have Ny170:=G hy170;clear hy170;replace H:=Option.bind_eq_some_iff.mp H;obtain ⟨⟨t173,t174⟩,A40,H⟩:=H;replace H : (spec_DrawFareWeek.l0 k y170 t173 t160 t174 t163 t166 t167) = some (r1,r2,r3,r4):=H;have A4:=G A40;clear A40;have H':=G H;clear H
 go_enter Try.func16,Try.ntmps16
 go_wp2_with (first | ((with_reducible refine gate_dst (N:=2) rfl ?_); refine box_event ?hg (N:=2) ?hd (cs:=#[.slice none 0 0,.int .i64 0,.int .i64 0]) (t:=25) ?hr ?_; (case hd => rfl); (case hg => rfl); (case hr => first | (go_simp; done) | (go_simp; rfl)); intro gb159 hg w5 hbox hb; have n0_:=G (below_step (by repeat (first | (with_reducible first | exact HB.out | apply below_alloc | apply pw_below_drewN | apply below_drew1) | exact HB.out)) hb); have n1_:=G (hbox); have n2_:=G ((by rw [hg]; exact (below_size (by repeat (first | (with_reducible first | exact HB.out | apply below_alloc | apply pw_below_drewN | apply below_drew1) | exact HB.out))) : w.heap.size ≤ gb159)); have n3_:=G ((by rw [hg]; exact (below_size (by repeat (first | (with_reducible first | exact HB.out | apply below_alloc | apply pw_below_drewN | apply below_drew1) | exact HB.out))) : w.heap.size ≤ gb159)); clear HB; have HB:=n0_; have BK159:=n1_; have GW159:=n2_; have GE159:=n3_; clear n0_ n1_ n2_ n3_; clear hb hbox hg) | ((with_reducible refine gate_callee (f:=62) rfl ?_); refine goesL_ (some 9) rfl rfl Try.func62 (by kernel_rfl) rfl #[.slice A0 l0.length c0] rfl (by (try simp only [List.map_toArray,List.map_cons,List.map_nil]); first | done | rfl | (simp only [List.length_drop,List.length_take]; rfl)) ?_; (with_reducible refine (spec_l30Open.calls _ _ l0 t160 t161 w _ ?side1 ?side2 ?side3 A2.out).mono ?_); (case side1 => repeat (first | (with_reducible first | exact HB.out | apply below_alloc | apply pw_below_drewN | apply below_drew1 | refine below_set ?_ GE159.out) | exact HB.out)); (case side2 => exact HR0.out); (case side3 => exact HC0.out); rintro e w6 ⟨g162,rfl,hi,hb,hb2⟩; refine ⟨_,rfl,?_⟩; have n0_:=G (blk_below (g:=gb159) (o:=.cells #[.slice none 0 0,.int .i64 0,.int .i64 0] 25 (0,0)) (by (with_reducible repeat (first | refine blk_drewN ?_ _ | refine blk_drew ?_ | refine blk_alloc ?_ _)); exact BK159.out) hb2); have n1_:=G (hb); have n2_:=G (hi); have n3_:=G (IsS122.ne_blk hi (blk_below (g:=gb159) (o:=.cells #[.slice none 0 0,.int .i64 0,.int .i64 0] 25 (0,0)) (by (with_reducible repeat (first | refine blk_drewN ?_ _ | refine blk_drew ?_ | refine blk_alloc ?_ _)); exact BK159.out) hb2) (by decide)); have n4_:=G (Ne.symm (IsS122.ne_blk hi (blk_below (g:=gb159) (o:=.cells #[.slice none 0 0,.int .i64 0,.int .i64 0] 25 (0,0)) (by (with_reducible repeat (first | refine blk_drewN ?_ _ | refine blk_drew ?_ | refine blk_alloc ?_ _)); exact BK159.out) hb2) (by decide))); clear BK159; clear HB; have BK159:=n0_; have HB:=n1_; have HI162:=n2_; have NB162_159:=n3_; have NB159_162:=n4_; clear n0_ n1_ n2_ n3_ n4_; (try clear hb); (try clear hb2); (try clear hk); (try clear hi)) | ((with_reducible refine gate_callee (f:=63) rfl ?_); refine goesL_ (some 11) rfl rfl Try.func63 (by kernel_rfl) rfl #[.pointer (some ⟨g162,0,none⟩)] rfl (by (try simp only [List.map_toArray,List.map_cons,List.map_nil]); first | done | rfl | (simp only [List.length_drop,List.length_take]; rfl)) ?_; (with_reducible refine (spec_l30Fare.calls k g162 t160 t161 t163 t166 t167 t168 w _ ?side1 ?side2 A3.out).mono ?_); (case side1 => repeat (first | (with_reducible first | exact HI162.out | apply IsS122.alloc | apply IsS122.drewN | apply IsS122.drew | apply IsS122.set_1 | refine IsS122.far ?_ NB162_159.out _) | exact HI162.out)); (case side2 => repeat (first | (with_reducible first | exact HB.out | apply below_alloc | apply pw_below_drewN | apply below_drew1 | refine below_set ?_ (IsS122.ge HI162.out) | refine below_set ?_ GE159.out) | exact HB.out)); rintro e w7 ⟨v164,rfl,ho0,hi,hb,hk⟩; refine ⟨_,rfl,?_⟩; have n0_:=G (KeepBut.blk hk (g':=gb159) (o:=.cells #[.slice none 0 0,.int .i64 0,.int .i64 0] 25 (0,0)) (by (with_reducible repeat (first | refine blk_drewN ?_ _ | refine blk_drew ?_ | refine blk_alloc ?_ _)); exact BK159.out) NB159_162.out (by simp)); have n1_:=G (Kd.Q_lower ho0 (below_size (by repeat (first | (with_reducible first | exact HB.out | apply below_alloc | apply pw_below_drewN | apply below_drew1 | refine below_set ?_ (IsS122.ge HI162.out) | refine below_set ?_ GE159.out) | exact HB.out)))); have n2_:=G (hb); have n3_:=G (hi); clear BK159; clear HB; clear HI162; have BK159:=n0_; have HO165:=n1_; have HB:=n2_; have HI162:=n3_; clear n0_ n1_ n2_ n3_; (try clear hb); (try clear hb2); (try clear hk); (try clear hi); (try clear ho0)) | ((with_reducible refine gate_dst (N:=5) rfl ?_); refine box_event ?hg (N:=5) ?hd (cs:=#[.slice none 0 0,.int .i64 0,.int .i64 0]) (t:=25) ?hr ?_; (case hd => rfl); (case hg => rfl); (case hr => first | (go_simp; done) | (go_simp; rfl)); intro gb169 hg w8 hbox hb; have n0_:=G (Kd.Q_below (by (with_reducible repeat (first | apply Kd.Q_alloc | apply Kd.Q_drewN | apply Kd.Q_drew)); exact HO165.out) hb); have n1_:=G (blk_below (g:=gb159) (o:=.cells #[.slice none 0 0,.int .i64 0,.int .i64 0] 25 (0,0)) (by (with_reducible repeat (first | refine blk_drewN ?_ _ | refine blk_drew ?_ | refine blk_alloc ?_ _)); exact BK159.out) hb); have n2_:=G (IsS122.below (by repeat (first | (with_reducible first | exact HI162.out | apply IsS122.alloc | apply IsS122.drewN | apply IsS122.drew | apply IsS122.set_1 | refine IsS122.far ?_ NB162_159.out _) | exact HI162.out)) hb); have n3_:=G (below_step (by repeat (first | (with_reducible first | exact HB.out | apply below_alloc | apply pw_below_drewN | apply below_drew1 | refine below_set ?_ (IsS122.ge HI162.out) | refine below_set ?_ GE159.out) | exact HB.out)) hb); have n4_:=G (hbox); have n5_:=G ((by rw [hg]; exact (below_size (by repeat (first | (with_reducible first | exact HB.out | apply below_alloc | apply pw_below_drewN | apply below_drew1 | refine below_set ?_ (IsS122.ge HI162.out) | refine below_set ?_ GE159.out) | exact HB.out))) : w.heap.size ≤ gb169)); have n6_:=G ((by rw [hg]; exact (below_size (by repeat (first | (with_reducible first | exact HB.out | apply below_alloc | apply pw_below_drewN | apply below_drew1 | refine below_set ?_ (IsS122.ge HI162.out) | refine below_set ?_ GE159.out) | exact HB.out))) : w.heap.size ≤ gb169)); have n7_:=G ((by rw [hg]; exact Nat.ne_of_lt (blk_lt (g:=gb159) (o:=.cells #[.slice none 0 0,.int .i64 0,.int .i64 0] 25 (0,0)) (by (with_reducible repeat (first | refine blk_drewN ?_ _ | refine blk_drew ?_ | refine blk_alloc ?_ _)); exact BK159.out)) : gb159 ≠ gb169)); have n8_:=G ((by rw [hg]; exact Nat.ne_of_gt (blk_lt (g:=gb159) (o:=.cells #[.slice none 0 0,.int .i64 0,.int .i64 0] 25 (0,0)) (by (with_reducible repeat (first | refine blk_drewN ?_ _ | refine blk_drew ?_ | refine blk_alloc ?_ _)); exact BK159.out)) : gb169 ≠ gb159)); have n9_:=G ((by rw [hg]; exact Nat.ne_of_lt (IsS122.lt (show IsS122 w _ g162 t160 t168 from by repeat (first | (with_reducible first | exact HI162.out | apply IsS122.alloc | apply IsS122.drewN | apply IsS122.drew | apply IsS122.set_1 | refine IsS122.far ?_ NB162_159.out _) | exact HI162.out))) : g162 ≠ gb169)); have n10_:=G ((by rw [hg]; exact Nat.ne_of_gt (IsS122.lt (show IsS122 w _ g162 t160 t168 from by repeat (first | (with_reducible first | exact HI162.out | apply IsS122.alloc | apply IsS122.drewN | apply IsS122.drew | apply IsS122.set_1 | refine IsS122.far ?_ NB162_159.out _) | exact HI162.out))) : gb169 ≠ g162)); clear HO165; clear BK159; clear HI162; clear HB; have HO165:=n0_; have BK159:=n1_; have HI162:=n2_; have HB:=n3_; have BK169:=n4_; have GW169:=n5_; have GE169:=n6_; have NB159_169:=n7_; have NB169_159:=n8_; have NB162_169:=n9_; have NB169_162:=n10_; clear n0_ n1_ n2_ n3_ n4_ n5_ n6_ n7_ n8_ n9_ n10_; clear hb hbox hg; obtain ⟨Ao9,co9,eo9,_⟩:=Kd.Q_slice HO165.out; subst eo9; have hnb10:=NB169_159.out; have hnc10:=NB159_169.out; have hnb11:=NB169_162.out; have hnc11:=NB162_169.out; have hcz12_0 : w8.cell? ⟨gb169,0,none⟩ = some (.slice none 0 0):=(blk_cell BK169.out 0).trans rfl; have hcz12_1 : w8.cell? ⟨gb169,1,none⟩ = some (.int .i64 0):=(blk_cell BK169.out 1).trans rfl; have hcz12_2 : w8.cell? ⟨gb169,2,none⟩ = some (.int .i64 0):=(blk_cell BK169.out 2).trans rfl; have hfz12_0:=blk_frozen BK169.out 0; have hfz12_1:=blk_frozen BK169.out 1; have hfz12_2:=blk_frozen BK169.out 2) | ((with_reducible refine gate_dst (N:=12) rfl ?_); refine Kd.S_lit (Kd.slice 3 (Kd.int .i64)) _ 23 ?hg (N:=12) ?hd (xs:=([] : List (List Int))) (inner:=[]) (ok:=fun _ => True) (okp:=fun _ => True) ?hr ?hp (fun _ hk => hk) trivial (Below.refl _ _) (Nat.le_refl _) (by simp) ?_; (case hd => rfl); (case hg => rfl); (case hr => first | (go_simp; done) | (go_simp; rfl)); (case hp => exact (Reps.none _ _)); intro v171 w13 ho14 hb hg_ hnew_; clear hg_ hnew_; (first | rw [← Ny170.out] at ho14 | (simp only [Int.reduceToNat] at ho14; rw [← Ny170.out] at ho14)); have n0_:=G (Kd.Q_below (by (with_reducible repeat (first | apply Kd.Q_alloc | apply Kd.Q_drewN | apply Kd.Q_drew)); exact (Kd.Q_mono (Kd.Q_far (p:=⟨gb169,2,none⟩) (Kd.Q_far (p:=⟨gb169,1,none⟩) (Kd.Q_far (p:=⟨gb169,0,none⟩) (Kd.Q_types HO165.out BK169.out (by decide)) (fun _ hk => hk.2) (.slice Ao9 t163.length co9)) (fun _ hk => hk.2) (.int .i64 t166)) (fun _ hk => hk.2) (.int .i64 t167)) (fun _ h_ => h_.1))) hb); have n1_:=G (Kd.S_lower (Kd.S_new' ho14 (Kd.Q_lt (by (with_reducible repeat (first | apply Kd.Q_alloc | apply Kd.Q_drewN | apply Kd.Q_drew)); exact (Kd.Q_mono (Kd.Q_far (p:=⟨gb169,2,none⟩) (Kd.Q_far (p:=⟨gb169,1,none⟩) (Kd.Q_far (p:=⟨gb169,0,none⟩) (Kd.Q_types HO165.out BK169.out (by decide)) (fun _ hk => hk.2) (.slice Ao9 t163.length co9)) (fun _ hk => hk.2) (.int .i64 t166)) (fun _ hk => hk.2) (.int .i64 t167)) (fun _ h_ => h_.1))))) (below_size (by repeat (first | (with_reducible first | exact HB.out | apply below_alloc | apply pw_below_drewN | apply below_drew1 | refine below_set ?_ (IsS122.ge HI162.out) | refine below_set ?_ GE159.out | refine below_set ?_ GE169.out) | exact HB.out)))); have n2_:=G (blk_below (g:=gb159) (o:=.cells #[.slice none 0 0,.int .i64 0,.int .i64 0] 25 (0,0)) (by (with_reducible repeat (first | refine blk_drewN ?_ _ | refine blk_drew ?_ | refine blk_alloc ?_ _)); refine blk_far ?_ NB159_169.out _; (with_reducible repeat (first | refine blk_drewN ?_ _ | refine blk_drew ?_ | refine blk_alloc ?_ _)); refine blk_far ?_ NB159_169.out _; (with_reducible repeat (first | refine blk_drewN ?_ _ | refine blk_drew ?_ | refine blk_alloc ?_ _)); refine blk_far ?_ NB159_169.out _; (with_reducible repeat (first | refine blk_drewN ?_ _ | refine blk_drew ?_ | refine blk_alloc ?_ _)); exact BK159.out) hb); have n3_:=G (IsS122.below (show IsS122 w (((w8.setCell ⟨gb169,0,none⟩ (.slice Ao9 t163.length co9)).setCell ⟨gb169,1,none⟩ (.int .i64 t166)).setCell ⟨gb169,2,none⟩ (.int .i64 t167)) g162 t160 t168 from by repeat (first | (with_reducible first | exact HI162.out | apply IsS122.alloc | apply IsS122.drewN | apply IsS122.drew | apply IsS122.set_1 | refine IsS122.far ?_ NB162_159.out _ | refine IsS122.far ?_ NB162_169.out _) | exact HI162.out)) hb); have n4_:=G (blk_below (g:=gb169) (o:=.cells #[.slice Ao9 t163.length co9,.int .i64 t166,.int .i64 t167] 25 (0,0)) (by (with_reducible repeat (first | refine blk_drewN ?_ _ | refine blk_drew ?_ | refine blk_alloc ?_ _)); refine blk_put (cs:=#[.slice Ao9 t163.length co9,.int .i64 t166,.int .i64 0]) ?_ 2 _ rfl; (with_reducible repeat (first | refine blk_drewN ?_ _ | refine blk_drew ?_ | refine blk_alloc ?_ _)); refine blk_put (cs:=#[.slice Ao9 t163.length co9,.int .i64 0,.int .i64 0]) ?_ 1 _ rfl; (with_reducible repeat (first | refine blk_drewN ?_ _ | refine blk_drew ?_ | refine blk_alloc ?_ _)); refine blk_put (cs:=#[.slice none 0 0,.int .i64 0,.int .i64 0]) ?_ 0 _ rfl; (with_reducible repeat (first | refine blk_drewN ?_ _ | refine blk_drew ?_ | refine blk_alloc ?_ _)); exact BK169.out) hb); have n5_:=G (below_step (by repeat (first | (with_reducible first | exact HB.out | apply below_alloc | apply pw_below_drewN | apply below_drew1 | refine below_set ?_ (IsS122.ge HI162.out) | refine below_set ?_ GE159.out | refine below_set ?_ GE169.out) | exact HB.out)) hb); clear HO165; clear BK159; clear HI162; clear BK169; clear HB; have HO165:=n0_; have HO172:=n1_; have BK159:=n2_; have HI162:=n3_; have BK169:=n4_; have HB:=n5_; clear n0_ n1_ n2_ n3_ n4_ n5_; clear hb ho14) | ((with_reducible refine gate_callee (f:=64) rfl ?_); refine goesL_ (some 14) rfl rfl Try.func64 (by kernel_rfl) rfl #[.pointer (some ⟨g162,0,none⟩),.int .i64 9] rfl (by (try simp only [List.map_toArray,List.map_cons,List.map_nil]); first | done | rfl | (simp only [List.length_drop,List.length_take]; rfl)) ?_; (with_reducible refine (spec_l30Rd_pick.calls k g162 t160 t168 9 t173 t174 w _ ?side1 ?side2 A4.out).mono ?_); (case side1 => repeat (first | (with_reducible first | exact HI162.out | apply IsS122.alloc | apply IsS122.drewN | apply IsS122.drew | apply IsS122.set_1 | refine IsS122.far ?_ NB162_159.out _ | refine IsS122.far ?_ NB162_169.out _) | exact HI162.out)); (case side2 => repeat (first | (with_reducible first | exact HB.out | apply below_alloc | apply pw_below_drewN | apply below_drew1 | refine below_set ?_ (IsS122.ge HI162.out) | refine below_set ?_ GE159.out | refine below_set ?_ GE169.out) | exact HB.out)); rintro e w15 ⟨rfl,hi,hb,hk⟩; refine ⟨_,rfl,?_⟩; have n0_:=G (KeepBut.blk hk (g':=gb159) (o:=.cells #[.slice none 0 0,.int .i64 0,.int .i64 0] 25 (0,0)) (by (with_reducible repeat (first | refine blk_drewN ?_ _ | refine blk_drew ?_ | refine blk_alloc ?_ _)); exact BK159.out) NB159_162.out (by simp)); have n1_:=G (Kd.Q_mono (Kd.Q_keep (IsS122.apartQ (show IsS122 w _ g162 t160 t168 from by repeat (first | (with_reducible first | exact HI162.out | apply IsS122.alloc | apply IsS122.drewN | apply IsS122.drew | apply IsS122.set_1 | refine IsS122.far ?_ NB162_159.out _ | refine IsS122.far ?_ NB162_169.out _) | exact HI162.out)) (by (with_reducible repeat (first | apply Kd.Q_alloc | apply Kd.Q_drewN | apply Kd.Q_drew)); exact HO165.out) (by decide)) hk (fun _ h => h.2)) (fun _ h => h.1)); have n2_:=G (KeepBut.blk hk (g':=gb169) (o:=.cells #[.slice Ao9 t163.length co9,.int .i64 t166,.int .i64 t167] 25 (0,0)) (by (with_reducible repeat (first | refine blk_drewN ?_ _ | refine blk_drew ?_ | refine blk_alloc ?_ _)); exact BK169.out) NB169_162.out (by simp)); have n3_:=G (Kd.S_mono (Kd.S_keep (IsS122.apartS (show IsS122 w _ g162 t160 t168 from by repeat (first | (with_reducible first | exact HI162.out | apply IsS122.alloc | apply IsS122.drewN | apply IsS122.drew | apply IsS122.set_1 | refine IsS122.far ?_ NB162_159.out _ | refine IsS122.far ?_ NB162_169.out _) | exact HI162.out)) (by (with_reducible repeat (first | apply Kd.S_alloc | apply Kd.S_drewN | apply Kd.S_drew)); exact HO172.out) (by decide)) hk (fun _ h => h.2)) (fun _ h => h.1)); have n4_:=G (hb); have n5_:=G (hi); clear BK159; clear HO165; clear BK169; clear HO172; clear HB; clear HI162; have BK159:=n0_; have HO165:=n1_; have BK169:=n2_; have HO172:=n3_; have HB:=n4_; have HI162:=n5_; clear n0_ n1_ n2_ n3_ n4_ n5_; (try clear hb); (try clear hb2); (try clear hk); (try clear hi)))
 go_loopg [6,7] k (fun kq v6 v7 w' => ∃ (x6_1 : List (List Int)) (x7_1 : Int) (x163001_1 : Int),v7 = .int .i64 x7_1 ∧ Aside0 (spec_DrawFareWeek.l0 kq x6_1 x7_1 t160 x163001_1 t163 t166 t167 = some (r1,r2,r3,r4)) ∧ Aside0 (kq ≤ k) ∧ Aside0 (Kd.S (Kd.slice 3 (Kd.int .i64)) 23 w' w.heap.size (fun k_ => some k_ ≠ ((.slice Ao9 t163.length co9) : Value).ownBlock) v6 x6_1) ∧ Aside0 (Kd.Q (Kd.int .i64) 3 w' w.heap.size (fun _ => True) (.slice Ao9 t163.length co9) t163) ∧ Aside0 (w'.heap[gb159]? = some (.cells #[(.slice none 0 0),.int .i64 0,.int .i64 0] 25 (0,0))) ∧ Aside0 (w'.heap[gb169]? = some (.cells #[(.slice Ao9 t163.length co9),.int .i64 t166,.int .i64 t167] 25 (0,0))) ∧ Aside0 (IsS122 w w' g162 t160 x163001_1) ∧ Aside0 (Below w.heap.size w w'))
 case atStart => exact ⟨(y170),(t173),(t174),(by first | rfl | (simp; done) | (simp [*]; done)),H',⟨Nat.le_refl _⟩,⟨by (with_reducible repeat (first | apply Kd.S_alloc | apply Kd.S_drewN | apply Kd.S_drew)); exact Kd.S_mono HO172.out (fun _ hk => hk.2)⟩,⟨by (with_reducible repeat (first | apply Kd.Q_alloc | apply Kd.Q_drewN | apply Kd.Q_drew)); exact HO165.out⟩,⟨by (with_reducible repeat (first | refine blk_drewN ?_ _ | refine blk_drew ?_ | refine blk_alloc ?_ _)); exact BK159.out⟩,⟨by (with_reducible repeat (first | refine blk_drewN ?_ _ | refine blk_drew ?_ | refine blk_alloc ?_ _)); exact BK169.out⟩,⟨by repeat (first | (with_reducible first | exact HI162.out | apply IsS122.alloc | apply IsS122.drewN | apply IsS122.drew | apply IsS122.set_1 | refine IsS122.far ?_ NB162_159.out _ | refine IsS122.far ?_ NB162_169.out _) | exact HI162.out)⟩,⟨by repeat (first | (with_reducible first | exact HB.out | apply below_alloc | apply pw_below_drewN | apply below_drew1 | refine below_set ?_ (IsS122.ge HI162.out) | refine below_set ?_ GE159.out | refine below_set ?_ GE169.out) | exact HB.out)⟩⟩
 case round =>
  clear H'
  try clear c1
  try clear p2
  try clear c6
  try clear c10
  try clear c11
  try clear hcz12_0
  try clear hcz12_1
  try clear hcz12_2
  try clear hfz12_0
  try clear hfz12_1
  try clear hfz12_2
  obtain ⟨x6_1,x7_1,x163001_1,rfl,HA,HK1,HO_6,HO_170000,BK159,BK169,HI162,HB⟩:=hrel;cases gk with
  | zero => exact absurd HA.out (by simp [spec_DrawFareWeek.l0])
  | succ k1 =>
   have H:=HA.out;clear HA;simp only [spec_DrawFareWeek.l0] at H
   by_cases c16 : x7_1 > 0
   case neg =>
    rw [if_neg c16] at H;have c16b0 : decide (0 < x7_1) = false:=decide_eq_false c16;clear c16;simp only [Option.some.injEq,Prod.mk.injEq] at H;obtain ⟨rfl,rfl,rfl,rfl⟩:=H;have hnb22:=NB169_159.out;have hnc22:=NB159_169.out;have hnb23:=NB169_162.out;have hnc23:=NB162_169.out;have hcz24_0 : wr.cell? ⟨gb169,0,none⟩ = some (.slice Ao9 t163.length co9):=(blk_cell BK169.out 0).trans rfl;have hcz24_1 : wr.cell? ⟨gb169,1,none⟩ = some (.int .i64 t166):=(blk_cell BK169.out 1).trans rfl;have hcz24_2 : wr.cell? ⟨gb169,2,none⟩ = some (.int .i64 t167):=(blk_cell BK169.out 2).trans rfl;have hfz24_0:=blk_frozen BK169.out 0;have hfz24_1:=blk_frozen BK169.out 1;have hfz24_2:=blk_frozen BK169.out 2;have hnb25:=NB159_162.out;have hnc25:=NB162_159.out;have hcz26_0 : wr.cell? ⟨gb159,0,none⟩ = some (.slice none 0 0):=(blk_cell BK159.out 0).trans rfl;have hcz26_1 : wr.cell? ⟨gb159,1,none⟩ = some (.int .i64 0):=(blk_cell BK159.out 1).trans rfl;have hcz26_2 : wr.cell? ⟨gb159,2,none⟩ = some (.int .i64 0):=(blk_cell BK159.out 2).trans rfl;have hfz26_0:=blk_frozen BK159.out 0;have hfz26_1:=blk_frozen BK159.out 1;have hfz26_2:=blk_frozen BK159.out 2
    go_wp2
    refine bodyPost_ret (results_ct rfl _ _ gb159 25 #[.slice Ao9 t163.length co9,.int .i64 t166,.int .i64 t167] (0,0) _ rfl (by (with_reducible repeat (first | refine blk_drewN ?_ _ | refine blk_drew ?_ | refine blk_alloc ?_ _)); refine blk_put (cs:=#[.slice Ao9 t163.length co9,.int .i64 t166,.int .i64 0]) ?_ 2 _ rfl; (with_reducible repeat (first | refine blk_drewN ?_ _ | refine blk_drew ?_ | refine blk_alloc ?_ _)); refine blk_put (cs:=#[.slice Ao9 t163.length co9,.int .i64 0,.int .i64 0]) ?_ 1 _ rfl; (with_reducible repeat (first | refine blk_drewN ?_ _ | refine blk_drew ?_ | refine blk_alloc ?_ _)); refine blk_put (cs:=#[.slice none 0 0,.int .i64 0,.int .i64 0]) ?_ 0 _ rfl; (with_reducible repeat (first | refine blk_drewN ?_ _ | refine blk_drew ?_ | refine blk_alloc ?_ _)); exact BK159.out) Try.underlying25 rfl (by kernel_rfl)) rfl ?_;exact ⟨_,_,by first | rfl | (simp [errW_none,errW_some] <;> rfl) | (simp [*,errW_none,errW_some] <;> rfl),by (with_reducible repeat (first | apply Kd.Q_alloc | apply Kd.Q_drewN | apply Kd.Q_drew)); exact Kd.Q_mono (Kd.Q_far (p:=⟨gb159,2,none⟩) (Kd.Q_far (p:=⟨gb159,1,none⟩) (Kd.Q_far (p:=⟨gb159,0,none⟩) (Kd.Q_types HO_170000.out BK159.out (by decide)) (fun _ hk => hk.2) (.slice Ao9 t163.length co9)) (fun _ hk => hk.2) (.int .i64 t166)) (fun _ hk => hk.2) (.int .i64 t167)) (fun _ hk => trivial),by (with_reducible repeat (first | apply Kd.S_alloc | apply Kd.S_drewN | apply Kd.S_drew)); exact Kd.S_mono (Kd.S_far (p:=⟨gb159,2,none⟩) (Kd.S_far (p:=⟨gb159,1,none⟩) (Kd.S_far (p:=⟨gb159,0,none⟩) (Kd.S_types HO_6.out BK159.out (by decide)) (fun _ hk => hk.2) (.slice Ao9 t163.length co9)) (fun _ hk => hk.2) (.int .i64 t166)) (fun _ hk => hk.2) (.int .i64 t167)) (fun _ hk => hk.1),by repeat (first | (with_reducible first | exact HB.out | apply below_alloc | apply pw_below_drewN | apply below_drew1 | refine below_set ?_ (IsS122.ge HI162.out) | refine below_set ?_ GE159.out | refine below_set ?_ GE169.out) | exact HB.out)⟩
   rw [if_pos c16] at H;have c16b0 : decide (0 < x7_1) = true:=decide_eq_true c16;clear c16;replace H:=Option.bind_eq_some_iff.mp H;obtain ⟨⟨t175,t178⟩,A170,H⟩:=H;replace H : (if x6_1.length < 5864062014805 then (spec_DrawFareWeek.l0 k1 (x6_1 ++ [t175]) (wrap64 (x7_1 - 1)) t160 t178 t163 t166 t167) else (none)) = some (r1,r2,r3,r4):=H;have A17:=G A170;clear A170
   by_cases c18 : x6_1.length < 5864062014805
   case neg =>
    rw [if_neg c18] at H;exact absurd H (by simp)
   rw [if_pos c18] at H;have LMc18:=G c18;clear c18;obtain ⟨y179,hy179⟩ : ∃ y_ : List (List Int),y_ = (x6_1 ++ [t175]):=⟨_,rfl⟩
   replace H : (spec_DrawFareWeek.l0 k1 y179 (wrap64 (x7_1 - 1)) t160 t178 t163 t166 t167) = some (r1,r2,r3,r4):=by first | (rw [hy179]; with_reducible exact H) | (have H2_:=(Option.bind_some _ _).symm.trans H; rw [hy179]; with_reducible exact H2_) | (have H2_:=(Option.bind_some _ _).symm.trans H; with_reducible exact H2_) | with_reducible exact H | (rw [hy179]; exact H) | exact H
   have Ny179:=G hy179;clear hy179;have H':=G H;clear H
   go_wp2_with (first | ((with_reducible refine gate_callee (f:=65) rfl ?_); refine goesL_ (some 21) rfl rfl Try.func65 (by kernel_rfl) rfl #[.pointer (some ⟨g162,0,none⟩)] rfl (by (try simp only [List.map_toArray,List.map_cons,List.map_nil]); first | done | rfl | (simp only [List.length_drop,List.length_take]; rfl)) ?_; (with_reducible refine (spec_l30Rides.calls k1 g162 t160 x163001_1 t175 t178 w _ ?side1 ?side2 A17.out).mono ?_); (case side1 => repeat (first | (with_reducible first | exact HI162.out | apply IsS122.alloc | apply IsS122.drewN | apply IsS122.drew | apply IsS122.set_1 | refine IsS122.far ?_ NB162_159.out _ | refine IsS122.far ?_ NB162_169.out _) | exact HI162.out)); (case side2 => repeat (first | (with_reducible first | exact HB.out | apply below_alloc | apply pw_below_drewN | apply below_drew1 | refine below_set ?_ (IsS122.ge HI162.out) | refine below_set ?_ GE159.out | refine below_set ?_ GE169.out) | exact HB.out)); rintro e w19 ⟨v176,rfl,ho0,hi,hb,hk⟩; refine ⟨_,rfl,?_⟩; have n0_:=G (Kd.S_mono (Kd.S_told (Kd.S_oldK (IsS122.apartS (show IsS122 w _ g162 t160 x163001_1 from by repeat (first | (with_reducible first | exact HI162.out | apply IsS122.alloc | apply IsS122.drewN | apply IsS122.drew | apply IsS122.set_1 | refine IsS122.far ?_ NB162_159.out _ | refine IsS122.far ?_ NB162_169.out _) | exact HI162.out)) (by (with_reducible repeat (first | apply Kd.S_alloc | apply Kd.S_drewN | apply Kd.S_drew)); exact HO_6.out) (by decide)) hk) (Kd.R_base ho0)) (fun _ h_ => h_.1)); have n1_:=G (Kd.Q_mono (Kd.Q_told (Kd.Q_oldK (IsS122.apartQ (show IsS122 w _ g162 t160 x163001_1 from by repeat (first | (with_reducible first | exact HI162.out | apply IsS122.alloc | apply IsS122.drewN | apply IsS122.drew | apply IsS122.set_1 | refine IsS122.far ?_ NB162_159.out _ | refine IsS122.far ?_ NB162_169.out _) | exact HI162.out)) (by (with_reducible repeat (first | apply Kd.Q_alloc | apply Kd.Q_drewN | apply Kd.Q_drew)); exact HO_170000.out) (by decide)) hk) (Kd.R_base ho0)) (fun _ h_ => h_.1)); have n2_:=G (KeepBut.blk hk (g':=gb159) (o:=.cells #[.slice none 0 0,.int .i64 0,.int .i64 0] 25 (0,0)) (by (with_reducible repeat (first | refine blk_drewN ?_ _ | refine blk_drew ?_ | refine blk_alloc ?_ _)); exact BK159.out) NB159_162.out (by simp)); have n3_:=G (KeepBut.blk hk (g':=gb169) (o:=.cells #[.slice Ao9 t163.length co9,.int .i64 t166,.int .i64 t167] 25 (0,0)) (by (with_reducible repeat (first | refine blk_drewN ?_ _ | refine blk_drew ?_ | refine blk_alloc ?_ _)); exact BK169.out) NB169_162.out (by simp)); have n4_:=G (Kd.R_lower (Kd.R_new' ho0 (Kd.Q_lt (by (with_reducible repeat (first | apply Kd.Q_alloc | apply Kd.Q_drewN | apply Kd.Q_drew)); exact HO_170000.out))) (below_size (by repeat (first | (with_reducible first | exact HB.out | apply below_alloc | apply pw_below_drewN | apply below_drew1 | refine below_set ?_ (IsS122.ge HI162.out) | refine below_set ?_ GE159.out | refine below_set ?_ GE169.out) | exact HB.out)))); have n5_:=G (hb); have n6_:=G (hi); clear HO_6; clear HO_170000; clear BK159; clear BK169; clear HB; clear HI162; have HO_6:=n0_; have HO_170000:=n1_; have BK159:=n2_; have BK169:=n3_; have HO177:=n4_; have HB:=n5_; have HI162:=n6_; clear n0_ n1_ n2_ n3_ n4_ n5_ n6_; (try clear hb); (try clear hb2); (try clear hk); (try clear hi); (try clear ho0); obtain ⟨Ao21,co21,eo21⟩:=Kd.R_slice HO177.out; subst eo21) | ((with_reducible refine gate_builtin (b:=.append) (xs:=#[.tmp 19,.tmp 22]) rfl ?_); at_builtin; refine Kd.S_append (Kd.slice 3 (Kd.int .i64)) (w0:=w) w.heap.size rfl (.tmp 19) (.tmp 22) 26 23 (.slice none 0 0) 24 rfl Try.underlying26 info23 rfl (by decide) (by omega) u6 x6_1 t175 [.slice Ao21 t175.length co21] (fun k_ => some k_ ≠ (.slice Ao9 t163.length co9 : Value).ownBlock) (fun k_ => some k_ = (.slice Ao21 t175.length co21 : Value).ownBlock) rfl rfl ?aP (fun k_ hk_ => ((Kd.R_mono (ok':=fun k_ => ((fun k_ => some k_ ≠ (.slice Ao9 t163.length co9 : Value).ownBlock)) k_ ∧ some k_ ≠ (u6 : Value).ownBlock) (Kd.R_apart' (HO177.out) (Kd.S_typed HO_6.out) (by decide)) (fun k_ hk => ⟨hk.1.2,hk.2⟩))).1 k_ hk_.symm) ?aF ?aO ?aB ?aS ?aL ?_; (case aP => exact Kd.M_row (Kd.R_mono (Kd.R_tight rfl (Kd.R_mono (ok':=fun k_ => ((fun k_ => some k_ ≠ (.slice Ao9 t163.length co9 : Value).ownBlock)) k_ ∧ some k_ ≠ (u6 : Value).ownBlock) (Kd.R_apart' (HO177.out) (Kd.S_typed HO_6.out) (by decide)) (fun k_ hk => ⟨hk.1.2,hk.2⟩))) (fun _ h_ => h_))); (case aB => exact (by repeat (first | (with_reducible first | exact HB.out | apply below_alloc | apply pw_below_drewN | apply below_drew1 | refine below_set ?_ (IsS122.ge HI162.out) | refine below_set ?_ GE159.out | refine below_set ?_ GE169.out) | exact HB.out))); (case aF => exact (fun k_ hk => Kd.fresh' (Kd.Q_lt (by (with_reducible repeat (first | apply Kd.Q_alloc | apply Kd.Q_drewN | apply Kd.Q_drew)); exact HO_170000.out)) k_ hk)); (case aO => exact (by (with_reducible repeat (first | apply Kd.S_alloc | apply Kd.S_drewN | apply Kd.S_drew)); exact Kd.S_mono HO_6.out (fun k_ hk => ⟨hk.1,fun e_ => hk.2 e_⟩))); (case aS => exact (below_size (by repeat (first | (with_reducible first | exact HB.out | apply below_alloc | apply pw_below_drewN | apply below_drew1 | refine below_set ?_ (IsS122.ge HI162.out) | refine below_set ?_ GE159.out | refine below_set ?_ GE169.out) | exact HB.out)))); (case aL => have:=LMc18.out; omega); intro v180 w20 ho hb hg hat; rw [← Ny179.out] at ho; have n0_:=G (Kd.Q_over' (by (with_reducible repeat (first | apply Kd.Q_alloc | apply Kd.Q_drewN | apply Kd.Q_drew)); exact HO_170000.out) (Kd.S_typed (by (with_reducible repeat (first | apply Kd.S_alloc | apply Kd.S_drewN | apply Kd.S_drew)); exact HO_6.out)) (by decide) hg); have n1_:=G (blk_grown (g:=gb159) (o:=.cells #[.slice none 0 0,.int .i64 0,.int .i64 0] 25 (0,0)) (by (with_reducible repeat (first | refine blk_drewN ?_ _ | refine blk_drew ?_ | refine blk_alloc ?_ _)); exact BK159.out) hg (Kd.S_ne HO_6.out BK159.out (by decide))); have n2_:=G (blk_grown (g:=gb169) (o:=.cells #[.slice Ao9 t163.length co9,.int .i64 t166,.int .i64 t167] 25 (0,0)) (by (with_reducible repeat (first | refine blk_drewN ?_ _ | refine blk_drew ?_ | refine blk_alloc ?_ _)); exact BK169.out) hg (Kd.S_ne HO_6.out BK169.out (by decide))); have n3_:=G (IsS122.grown2 HI162.out (by repeat (first | (with_reducible first | exact HI162.out | apply IsS122.alloc | apply IsS122.drewN | apply IsS122.drew | apply IsS122.set_1 | refine IsS122.far ?_ NB162_159.out _ | refine IsS122.far ?_ NB162_169.out _) | exact HI162.out)) hg (IsS122.own_neS HI162.out HO_6.out (by decide))); have n4_:=G (hb); have n5_:=G (ho); clear HO_170000; clear BK159; clear BK169; clear HI162; clear HB; clear HO_6; clear HO177; have HO_170000:=n0_; have BK159:=n1_; have BK169:=n2_; have HI162:=n3_; have HB:=n4_; have HO181:=n5_; clear n0_ n1_ n2_ n3_ n4_ n5_; clear ho hb hg hat))
   go_roundg k1
   case measure => have:=HK1.out; omega
   case rel => exact ⟨(y179),(wrap64 (x7_1 - 1)),(t178),(by first | rfl | (simp; done) | (simp [*]; done)),H',⟨by have:=HK1.out; omega⟩,⟨by (with_reducible repeat (first | apply Kd.S_alloc | apply Kd.S_drewN | apply Kd.S_drew)); exact HO181.out⟩,⟨by (with_reducible repeat (first | apply Kd.Q_alloc | apply Kd.Q_drewN | apply Kd.Q_drew)); exact Kd.Q_mono HO_170000.out (fun _ hk => trivial)⟩,⟨by (with_reducible repeat (first | refine blk_drewN ?_ _ | refine blk_drew ?_ | refine blk_alloc ?_ _)); exact BK159.out⟩,⟨by (with_reducible repeat (first | refine blk_drewN ?_ _ | refine blk_drew ?_ | refine blk_alloc ?_ _)); exact BK169.out⟩,⟨by repeat (first | (with_reducible first | exact HI162.out | apply IsS122.alloc | apply IsS122.drewN | apply IsS122.drew | apply IsS122.set_1 | refine IsS122.far ?_ NB162_159.out _ | refine IsS122.far ?_ NB162_169.out _) | exact HI162.out)⟩,⟨by repeat (first | (with_reducible first | exact HB.out | apply below_alloc | apply pw_below_drewN | apply below_drew1 | refine below_set ?_ (IsS122.ge HI162.out) | refine below_set ?_ GE159.out | refine below_set ?_ GE169.out) | exact HB.out)⟩⟩
def impl_within.f (a0 : Int) (a1 : Int) (a2 : Int) : Option (Bool):=if a0 ≥ a1 then (some (decide (a0 ≤ a2))) else (some false)
set_option maxHeartbeats 8000000 in
set_option maxRecDepth 100000 in
theorem impl_within.calls (a0 : Int) (a1 : Int) (a2 : Int) (r : Bool) (w : World) (h : impl_within.f a0 a1 a2 = some r) :
  Calls Try.prog 82 #[.int .i64 a0,.int .i64 a1,.int .i64 a2] w fun e w' => e = .returned (.bool r) ∧ Drawn0 w w':=by
 have H : (if a0 ≥ a1 then (some (decide (a0 ≤ a2))) else (some false)) = some r:=h;clear h
 by_cases c4 : a0 ≥ a1
 case pos =>
  rw [if_pos c4] at H;have c4b0 : decide (a1 ≤ a0) = true:=decide_eq_true c4;clear c4;obtain rfl:=Option.some.inj H
  go_enter Try.func82,Try.ntmps82
  go_wp2
  go_ret;exact ⟨by first | rfl | (simp; done) | (simp [*]; done),by repeat (first | exact Drawn0.refl _ | apply Drawn0.step)⟩
 rw [if_neg c4] at H;have c4b0 : decide (a1 ≤ a0) = false:=decide_eq_false c4;clear c4;obtain rfl:=Option.some.inj H
 go_enter Try.func82,Try.ntmps82
 go_wp2
 go_ret;exact ⟨by first | rfl | (simp; done) | (simp [*]; done),by repeat (first | exact Drawn0.refl _ | apply Drawn0.step)⟩
def impl_costOk.f (a0 : Int) : Option (Bool):=(impl_within.f a0 0 99).bind fun t182 => (some t182)
set_option maxHeartbeats 8000000 in
set_option maxRecDepth 100000 in
theorem impl_costOk.calls (a0 : Int) (r : Bool) (w : World) (h : impl_costOk.f a0 = some r) :
  Calls Try.prog 81 #[.int .i64 a0] w fun e w' => e = .returned (.bool r) ∧ Drawn0 w w':=by
 have H : ((impl_within.f a0 0 99).bind fun t182 => (some t182)) = some r:=h;clear h;replace H:=Option.bind_eq_some_iff.mp H;obtain ⟨t182,A20,H⟩:=H;replace H : (some t182) = some r:=H;have A2:=G A20;clear A20;obtain rfl:=Option.some.inj H
 go_enter Try.func81,Try.ntmps81
 go_wp2_with (first | ((with_reducible refine gate_callee (f:=82) rfl ?_); refine goesL_ (some 4) rfl rfl Try.func82 (by kernel_rfl) rfl #[.int .i64 a0,.int .i64 0,.int .i64 99] rfl (by (try simp only [List.map_toArray,List.map_cons,List.map_nil]); first | done | rfl | (simp only [List.length_drop,List.length_take]; rfl)) ?_; (with_reducible refine (impl_within.calls a0 0 99 t182 _ A2.out).mono ?_); rintro e w' ⟨rfl,⟨nd,rfl⟩⟩; refine ⟨_,rfl,?_⟩))
 go_ret;exact ⟨by first | rfl | (simp; done) | (simp [*]; done),by repeat (first | exact Drawn0.refl _ | apply Drawn0.step)⟩
def idxI {α : Type} (p : α → Bool) (l : List α) : Int:=match l.findIdx? p with | some i => (i : Int) | none => -1
theorem idxI_hit {α : Type} {p : α → Bool} {l : List α} (k : Nat) (hk : k < l.length) (h : p l[k] = true) (hne : ∀ j (hj : j < k),p (l[j]'(by omega)) = false) : idxI p l = k:=by
 have : l.findIdx? p = some k:=by
  rw [List.findIdx?_eq_some_iff_getElem];exact ⟨hk,h,fun j hj => by rw [hne j hj]; simp⟩
 simp [idxI,this]
theorem idxI_miss {α : Type} {p : α → Bool} {l : List α} (h : ∀ x ∈ l,p x = false) : idxI p l = -1:=by
 have : l.findIdx? p = none:=by
  rw [List.findIdx?_eq_none_iff];exact h
 simp [idxI,this]
theorem idxI_any {α : Type} (p : α → Bool) (l : List α) : decide (idxI p l ≥ 0) = l.any p:=by
 cases h : l.findIdx? p with
 | none =>
  rw [List.findIdx?_eq_none_iff] at h;simp only [idxI,List.findIdx?_eq_none_iff.2 h];rw [eq_comm]
  simpa using h
 | some i =>
  have h':=h;rw [List.findIdx?_eq_some_iff_getElem] at h';obtain ⟨hi,hp,_⟩:=h';simp only [idxI,h];have : l.any p = true:=List.any_eq_true.2 ⟨_,List.getElem_mem hi,hp⟩;rw [this];simp
set_option maxHeartbeats 8000000 in
set_option maxRecDepth 100000 in
theorem slices_IndexFunc_int_int.calls (p : Int → Bool) (g : Nat) (lb : Array Value) (eg : ∀ args w,(callFunc g args).run Try.prog w = .ok (.enter g args) w) (A0 : Option Addr) (c0 : Nat) (l0 : List Int) (w : World) (hr0 : Kd.C (Kd.int .i64) w A0 l0.length l0) (_hc0 : l0.length ≤ c0)
  (hp : ∀ (W : World) (x : Int),x ∈ l0 → Below w.heap.size w W → Calls Try.prog g (#[.int .i64 x] ++ lb) W fun e w' => e = .returned (.bool (p x)) ∧ Below W.heap.size W w') :
  Calls Try.prog 145 #[.slice A0 l0.length c0,.func (.func g) #[] lb] w fun e w' => e = .returned (.int .i64 (idxI p l0)) ∧ Below w.heap.size w w':=by
 have HR0:=G hr0;have hlen:=hr0.2.1;clear hr0
 go_enter Try.func145,Try.ntmps145
 go_wp2
 go_loopg [5,8] l0.length (fun gg _ s8 wr => ∃ x : Int,s8 = .int .i64 x ∧ Aside0 (0 ≤ x) ∧ Aside0 (x ≤ (l0.length : Int)) ∧ Aside0 ((l0.length : Int) - x ≤ gg) ∧ Aside0 (Below w.heap.size w wr) ∧ Aside0 (∀ j (hl : j < l0.length),(j : Int) < x → p l0[j] = false))
 case atStart => exact ⟨0,rfl,⟨by omega⟩,⟨by omega⟩,⟨by omega⟩,⟨Below.refl _ w⟩,⟨fun j hj h => absurd h (by omega)⟩⟩
 case round =>
  obtain ⟨x,rfl,X0,X1,X2,BW,AA⟩:=hrel
  by_cases c2 : x < (l0.length : Int)
  case neg =>
   have c2b0 : decide (x < (l0.length : Int)) = false:=decide_eq_false c2;have E1:=G c2;clear c2 hp
   go_wp2
   go_ret;refine ⟨?_,BW.out⟩;rw [idxI_miss (fun y hy => by
    obtain ⟨j,hj,rfl⟩:=List.getElem_of_mem hy;have h1:=E1.out;exact AA.out j hj (by omega))]
   rfl
  have c2b0 : decide (x < (l0.length : Int)) = true:=decide_eq_true c2;have h0:=X0.out;have hg:=X2.out;have hlt : x.toNat < l0.length:=by omega
  obtain ⟨ad,e,hx⟩:=Kd.at_int (Kd.C_below HR0.out BW.out) x h0 c2;cases e;have hw : wrap64 (x + 1) = x + 1:=by unfold wrap64; omega
  have HW:=G hw;clear hw;have hcall:=hp wr l0[x.toNat] (List.getElem_mem hlt) BW.out;clear hp;have hrd : rd l0 x = l0[x.toNat]:=by simp [rd,hlt]
  rw [← hrd] at hcall;have B : Aside0 (∀ h : x.toNat < l0.length,rd l0 x = l0[x.toNat]):=⟨fun _ => hrd⟩
  clear hrd;generalize hy : rd l0 x = y at hx hcall B;clear hy;have p108:=eq_true h0;have q108:=eq_true c2;have E0:=G h0;have E1:=G c2;have E2:=G hg;have E3:=G hlt;clear h0 hg hlt c2;cases hq : p y with
  | true =>
   rw [hq] at hcall;have HQ:=G hq;clear hq
   go_wp2_with (go_at_fn g; refine hcall.mono ?_; rintro e w' ⟨rfl,hb'⟩)
   go_ret;refine ⟨?_,below_then BW.out BW.out.size hb'⟩;have h0:=E0.out;rw [idxI_hit x.toNat E3.out (by rw [← B.out E3.out]; exact HQ.out) (fun j hj => AA.out j _ (by omega))];rw [Int.toNat_of_nonneg h0];rfl
  | false =>
   rw [hq] at hcall;have HQ:=G hq;clear hq
   go_wp2_with (go_at_fn g; refine hcall.mono ?_; rintro e w' ⟨rfl,hb'⟩)
   have h0:=E0.out;have h1:=E1.out;have h2:=E2.out;go_roundg (l0.length - (x.toNat + 1))
   case measure => omega
   case rel =>
    refine ⟨x + 1,by first | rfl | rw [HW.out],⟨by omega⟩,⟨by omega⟩,⟨by omega⟩,⟨below_then BW.out BW.out.size hb'⟩,⟨fun j hj hl => ?_⟩⟩
    by_cases e : (j : Int) = x
    case neg => exact AA.out j hj (by omega)
    have e' : j = x.toNat:=by omega
    subst e';rw [← B.out E3.out]; exact HQ.out
set_option maxHeartbeats 8000000 in
theorem slices_ContainsFunc_int_int.calls (p : Int → Bool) (g : Nat) (lb : Array Value) (eg : ∀ args w,(callFunc g args).run Try.prog w = .ok (.enter g args) w) (A0 : Option Addr) (c0 : Nat) (l0 : List Int) (w : World) (hr0 : Kd.C (Kd.int .i64) w A0 l0.length l0) (hc0 : l0.length ≤ c0)
  (hp : ∀ (W : World) (x : Int),x ∈ l0 → Below w.heap.size w W → Calls Try.prog g (#[.int .i64 x] ++ lb) W fun e w' => e = .returned (.bool (p x)) ∧ Below W.heap.size W w') :
  Calls Try.prog 120 #[.slice A0 l0.length c0,.func (.func g) #[] lb] w fun e w' => e = .returned (.bool (l0.any p)) ∧ Below w.heap.size w w':=by
 rw [← idxI_any];have hcall:=slices_IndexFunc_int_int.calls p g lb eg A0 c0 l0 w hr0 hc0 hp;clear hp eg hr0
 go_enter Try.func120,Try.ntmps120
 go_wp2_with (go_at_call 145; refine hcall.mono ?_; rintro e w' ⟨rfl,hb'⟩)
 go_ret;exact ⟨rfl,hb'⟩
def impl_pricesOk_1.f (a0 : Int) : Option (Bool):=(impl_costOk.f a0).bind fun t183 => (some (!t183))
set_option maxHeartbeats 8000000 in
set_option maxRecDepth 100000 in
theorem impl_pricesOk_1.calls (a0 : Int) (r : Bool) (w : World) (h : impl_pricesOk_1.f a0 = some r) :
  Calls Try.prog 121 #[.int .i64 a0] w fun e w' => e = .returned (.bool r) ∧ Drawn0 w w':=by
 have H : ((impl_costOk.f a0).bind fun t183 => (some (!t183))) = some r:=h;clear h;replace H:=Option.bind_eq_some_iff.mp H;obtain ⟨t183,A20,H⟩:=H;replace H : (some (!t183)) = some r:=H;have A2:=G A20;clear A20;obtain rfl:=Option.some.inj H
 go_enter Try.func121,Try.ntmps121
 go_wp2_with (first | ((with_reducible refine gate_callee (f:=81) rfl ?_); refine goesL_ (some 4) rfl rfl Try.func81 (by kernel_rfl) rfl #[.int .i64 a0] rfl (by (try simp only [List.map_toArray,List.map_cons,List.map_nil]); first | done | rfl | (simp only [List.length_drop,List.length_take]; rfl)) ?_; (with_reducible refine (impl_costOk.calls a0 t183 _ A2.out).mono ?_); rintro e w' ⟨rfl,⟨nd,rfl⟩⟩; refine ⟨_,rfl,?_⟩))
 go_ret;exact ⟨by first | rfl | (simp; done) | (simp [*]; done),by repeat (first | exact Drawn0.refl _ | apply Drawn0.step)⟩
def okC (c : Int) : Bool:=decide (0 ≤ c) && decide (c ≤ 99)
theorem okC_costOk (c : Int) : impl_costOk.f c = some (okC c):=by
 unfold impl_costOk.f impl_within.f okC
 by_cases h : c ≥ 0
 case pos => rw [if_pos h]; simp [show (0 : Int) ≤ c from h]
 rw [if_neg h]; simp [show ¬ (0 : Int) ≤ c from h]
def impl_pricesOk.f (l0 : List Int) : Option Bool:=some (!(l0.any fun c => !okC c))
set_option maxHeartbeats 8000000 in
theorem impl_pricesOk.calls (A0 : Option Addr) (c0 : Nat) (l0 : List Int) (r : Bool) (w : World) (hr0 : Kd.C (Kd.int .i64) w A0 l0.length l0) (hc0 : l0.length ≤ c0) (h : impl_pricesOk.f l0 = some r) :
  Calls Try.prog 69 #[.slice A0 l0.length c0] w fun e w' => e = .returned (.bool r) ∧ Below w.heap.size w w':=by
 obtain rfl:=Option.some.inj h;clear h;have hcall:=slices_ContainsFunc_int_int.calls (fun c => !okC c) 121 #[] (enters_of Try.func121 (by kernel_rfl) rfl) A0 c0 l0 w hr0 hc0 (fun W x _ _ => (impl_pricesOk_1.calls x (!okC x) W (by unfold impl_pricesOk_1.f; rw [okC_costOk]; rfl)).mono fun e w' ⟨he,hb⟩ => ⟨he,hb.below⟩);clear hr0;generalize l0.any (fun c => !okC c) = b at hcall
 go_enter Try.func69,Try.ntmps69
 go_wp2_with (go_at_call 120; refine hcall.mono ?_; rintro e w' ⟨rfl,hb'⟩)
 go_ret;exact ⟨rfl,hb'⟩
def cmp_isNaN_int.f (a0 : Int) : Option (Bool):=some (a0 != a0)
set_option maxHeartbeats 8000000 in
set_option maxRecDepth 100000 in
theorem cmp_isNaN_int.calls (a0 : Int) (r : Bool) (w : World) (h : cmp_isNaN_int.f a0 = some r) :
  Calls Try.prog 135 #[.int .i64 a0] w fun e w' => e = .returned (.bool r) ∧ Drawn0 w w':=by
 have H : (some (a0 != a0)) = some r:=h;clear h;obtain rfl:=Option.some.inj H
 go_enter Try.func135,Try.ntmps135
 go_wp2
 go_ret;exact ⟨by first | rfl | (simp; done) | (simp [*]; done),by repeat (first | exact Drawn0.refl _ | apply Drawn0.step)⟩
def cmp_Less_int.f (a0 : Int) (a1 : Int) : Option (Bool):=(cmp_isNaN_int.f a0).bind fun t184 => (if t184 = true then ((cmp_isNaN_int.f a1).bind fun t185 => (if t185 = true then (some (decide (a0 < a1))) else (some true))) else (some (decide (a0 < a1))))
set_option maxHeartbeats 8000000 in
set_option maxRecDepth 100000 in
theorem cmp_Less_int.calls (a0 : Int) (a1 : Int) (r : Bool) (w : World) (h : cmp_Less_int.f a0 a1 = some r) :
  Calls Try.prog 126 #[.int .i64 a0,.int .i64 a1] w fun e w' => e = .returned (.bool r) ∧ Drawn0 w w':=by
 have H : ((cmp_isNaN_int.f a0).bind fun t184 => (if t184 = true then ((cmp_isNaN_int.f a1).bind fun t185 => (if t185 = true then (some (decide (a0 < a1))) else (some true))) else (some (decide (a0 < a1))))) = some r:=h;clear h;replace H:=Option.bind_eq_some_iff.mp H;obtain ⟨t184,A30,H⟩:=H;replace H : (if t184 = true then ((cmp_isNaN_int.f a1).bind fun t185 => (if t185 = true then (some (decide (a0 < a1))) else (some true))) else (some (decide (a0 < a1)))) = some r:=H;have A3:=G A30;clear A30
 by_cases c4 : t184 = true
 case neg =>
  replace c4:=Bool.eq_false_iff.mpr c4;subst c4;have H1 : (some (decide (a0 < a1))) = some r:=by rw [if_neg (show ¬ (false = true) by decide)] at H; exact H
  clear H;have H:=H1;clear H1;obtain rfl:=Option.some.inj H
  go_enter Try.func126,Try.ntmps126
  go_wp2_with (first | ((with_reducible refine gate_callee (f:=135) rfl ?_); refine goesL_ (some 6) rfl rfl Try.func135 (by kernel_rfl) rfl #[.int .i64 a0] rfl (by (try simp only [List.map_toArray,List.map_cons,List.map_nil]); first | done | rfl | (simp only [List.length_drop,List.length_take]; rfl)) ?_; (with_reducible refine (cmp_isNaN_int.calls a0 false _ A3.out).mono ?_); rintro e w' ⟨rfl,⟨nd,rfl⟩⟩; refine ⟨_,rfl,?_⟩))
  go_ret;exact ⟨by first | rfl | (simp; done) | (simp [*]; done),by repeat (first | exact Drawn0.refl _ | apply Drawn0.step)⟩
 subst c4;have H1 : ((cmp_isNaN_int.f a1).bind fun t185 => (if t185 = true then (some (decide (a0 < a1))) else (some true))) = some r:=by rw [if_pos rfl] at H; exact H
 clear H;have H:=H1;clear H1;replace H:=Option.bind_eq_some_iff.mp H;obtain ⟨t185,A50,H⟩:=H;replace H : (if t185 = true then (some (decide (a0 < a1))) else (some true)) = some r:=H;have A5:=G A50;clear A50
 by_cases c6 : t185 = true
 case pos =>
  subst c6;have H1 : (some (decide (a0 < a1))) = some r:=by rw [if_pos rfl] at H; exact H
  clear H;have H:=H1;clear H1;obtain rfl:=Option.some.inj H
  go_enter Try.func126,Try.ntmps126
  go_wp2_with (first | ((with_reducible refine gate_callee (f:=135) rfl ?_); refine goesL_ (some 6) rfl rfl Try.func135 (by kernel_rfl) rfl #[.int .i64 a0] rfl (by (try simp only [List.map_toArray,List.map_cons,List.map_nil]); first | done | rfl | (simp only [List.length_drop,List.length_take]; rfl)) ?_; (with_reducible refine (cmp_isNaN_int.calls a0 true _ A3.out).mono ?_); rintro e w' ⟨rfl,⟨nd,rfl⟩⟩; refine ⟨_,rfl,?_⟩) | (go_at_call 135; (with_reducible refine (cmp_isNaN_int.calls a1 true _ A5.out).mono ?_); rintro e w' ⟨rfl,⟨nd,rfl⟩⟩))
  go_ret;exact ⟨by first | rfl | (simp; done) | (simp [*]; done),by repeat (first | exact Drawn0.refl _ | apply Drawn0.step)⟩
 replace c6:=Bool.eq_false_iff.mpr c6;subst c6;have H1 : (some true) = some r:=by rw [if_neg (show ¬ (false = true) by decide)] at H; exact H
 clear H;have H:=H1;clear H1;obtain rfl:=Option.some.inj H
 go_enter Try.func126,Try.ntmps126
 go_wp2_with (first | ((with_reducible refine gate_callee (f:=135) rfl ?_); refine goesL_ (some 6) rfl rfl Try.func135 (by kernel_rfl) rfl #[.int .i64 a0] rfl (by (try simp only [List.map_toArray,List.map_cons,List.map_nil]); first | done | rfl | (simp only [List.length_drop,List.length_take]; rfl)) ?_; (with_reducible refine (cmp_isNaN_int.calls a0 true _ A3.out).mono ?_); rintro e w' ⟨rfl,⟨nd,rfl⟩⟩; refine ⟨_,rfl,?_⟩) | (go_at_call 135; (with_reducible refine (cmp_isNaN_int.calls a1 false _ A5.out).mono ?_); rintro e w' ⟨rfl,⟨nd,rfl⟩⟩))
 go_ret;exact ⟨by first | rfl | (simp; done) | (simp [*]; done),by repeat (first | exact Drawn0.refl _ | apply Drawn0.step)⟩
def slices_IsSorted_int_int.l0 : Nat → List Int → Int → Option (Bool)
 | 0,_,_ => none
 | k + 1,x0,x3 => if x3 > 0 then (if 0 ≤ x3 then (if x3 < (x0.length : Int) then (if 0 ≤ (wrap64 (x3 - 1)) then (if (wrap64 (x3 - 1)) < (x0.length : Int) then ((cmp_Less_int.f (rd x0 x3) (rd x0 (wrap64 (x3 - 1)))).bind fun t188 => (if t188 = true then (some false) else (slices_IsSorted_int_int.l0 k x0 (wrap64 (x3 - 1))))) else (none)) else (none)) else (none)) else (none)) else (some true)
def slices_IsSorted_int_int.f (k : Nat) (l0 : List Int) : Option (Bool):=slices_IsSorted_int_int.l0 k l0 (wrap64 ((l0.length : Int) - 1))
theorem slices_IsSorted_int_int.mono_l : ∀ k,(∀ y0 y1,LeO (slices_IsSorted_int_int.l0 k y0 y1) (slices_IsSorted_int_int.l0 (k + 1) y0 y1))
 | 0 => fun _ _ r h => by simp [slices_IsSorted_int_int.l0] at h
 | k + 1 => by
  have ih0:=slices_IsSorted_int_int.mono_l k
  ·intro y0 y1
   unfold slices_IsSorted_int_int.l0
   repeat' first
   | (with_reducible exact ih0 _ _)
   | (with_reducible exact LeO.refl _)
   | (with_reducible exact LeO.none _)
   | (with_reducible refine LeO.ite ?_ ?_)
   | (with_reducible refine LeO.bind ?_ (fun _ => ?_))
   | exact ih0 _ _
   | exact LeO.none _
   | refine LeO.ite ?_ ?_
   | refine LeO.bind ?_ (fun _ => ?_)
theorem slices_IsSorted_int_int.mono : ∀ a0 k,LeO (slices_IsSorted_int_int.f k a0) (slices_IsSorted_int_int.f (k + 1) a0):=by
 intro a0 k;have ih0:=slices_IsSorted_int_int.mono_l k
 unfold slices_IsSorted_int_int.f
 repeat' first
   | (with_reducible exact ih0 _ _)
   | (with_reducible exact LeO.refl _)
   | (with_reducible exact LeO.none _)
   | (with_reducible refine LeO.ite ?_ ?_)
   | (with_reducible refine LeO.bind ?_ (fun _ => ?_))
   | exact ih0 _ _
   | exact LeO.none _
   | refine LeO.ite ?_ ?_
   | refine LeO.bind ?_ (fun _ => ?_)
set_option maxHeartbeats 8000000 in
set_option maxRecDepth 100000 in
theorem slices_IsSorted_int_int.calls (k : Nat) (A0 : Option Addr) (c0 : Nat) (l0 : List Int) (r : Bool) (w : World) (hr0 : Kd.C (Kd.int .i64) w A0 l0.length l0) (hc0 : l0.length ≤ c0) (h : slices_IsSorted_int_int.f k l0 = some r) :
  Calls Try.prog 80 #[.slice A0 l0.length c0] w fun e w' => e = .returned (.bool r) ∧ Drawn0 w w':=by
 have HR0:=G hr0;have HC0:=G hc0;clear hr0 hc0;have H : (slices_IsSorted_int_int.l0 k l0 (wrap64 ((l0.length : Int) - 1))) = some r:=h;clear h;have H':=G H;clear H
 go_enter Try.func80,Try.ntmps80
 go_wp2
 repeat (go_quiet (fail); try go_wp2)
 go_loopg [3] k (fun kq v3 w' => ∃ (x3_1 : Int),v3 = .int .i64 x3_1 ∧ Aside0 (slices_IsSorted_int_int.l0 kq l0 x3_1 = some r) ∧ Aside0 (kq ≤ k) ∧ Drawn0 w w')
 case atStart => exact ⟨(wrap64 ((l0.length : Int) - 1)),(by first | rfl | (simp; done) | (simp [*]; done)),H',⟨Nat.le_refl _⟩,by repeat (first | exact Drawn0.refl _ | apply Drawn0.step)⟩
 case round =>
  clear H';obtain ⟨x3_1,rfl,HA,HK1,⟨m1,rfl⟩⟩:=hrel;cases gk with
  | zero => exact absurd HA.out (by simp [slices_IsSorted_int_int.l0])
  | succ k1 =>
   have H:=HA.out;clear HA;simp only [slices_IsSorted_int_int.l0] at H
   by_cases c2 : x3_1 > 0
   case neg =>
    rw [if_neg c2] at H;have c2b0 : decide (0 < x3_1) = false:=decide_eq_false c2;clear c2;obtain rfl:=Option.some.inj H
    go_wp2
    repeat (go_quiet (fail); try go_wp2)
    go_ret;exact ⟨by first | rfl | (simp; done) | (simp [*]; done),by repeat (first | exact Drawn0.refl _ | apply Drawn0.step)⟩
   rw [if_pos c2] at H;have c2b0 : decide (0 < x3_1) = true:=decide_eq_true c2;clear c2
   by_cases c3 : 0 ≤ x3_1
   case neg =>
    rw [if_neg c3] at H;exact absurd H (by simp)
   rw [if_pos c3] at H;have c3b0 : decide (0 ≤ x3_1) = true:=decide_eq_true c3;clear c3
   by_cases c4 : x3_1 < (l0.length : Int)
   case neg =>
    rw [if_neg c4] at H;exact absurd H (by simp)
   rw [if_pos c4] at H;have c4b0 : decide (x3_1 < (l0.length : Int)) = true:=decide_eq_true c4;clear c4;obtain ⟨ji5,hji5⟩ : ∃ j_ : Int,(wrap64 (x3_1 - 1)) = j_:=⟨_,rfl⟩
   replace H : (if 0 ≤ (ji5) then (if (ji5) < (l0.length : Int) then ((cmp_Less_int.f (rd l0 x3_1) (rd l0 (ji5))).bind fun t188 => (if t188 = true then (some false) else (slices_IsSorted_int_int.l0 k1 l0 ji5))) else (none)) else (none)) = some r:=by first | (rw [hji5] at H; exact H) | (simp only [hji5] at H ⊢; exact H)
   have hji5w : (IntKind.i64.wrap (x3_1 - 1)) = ji5:=(i64_w _).trans hji5
   by_cases c6 : 0 ≤ (ji5)
   case neg =>
    rw [if_neg c6] at H;exact absurd H (by simp)
   rw [if_pos c6] at H;have c6b0 : decide (0 ≤ (ji5)) = true:=decide_eq_true c6;clear c6
   by_cases c7 : (ji5) < (l0.length : Int)
   case neg =>
    rw [if_neg c7] at H;exact absurd H (by simp)
   rw [if_pos c7] at H;have c7b0 : decide ((ji5) < (l0.length : Int)) = true:=decide_eq_true c7;clear c7;replace H:=Option.bind_eq_some_iff.mp H;obtain ⟨t188,A80,H⟩:=H;replace H : (if t188 = true then (some false) else (slices_IsSorted_int_int.l0 k1 l0 ji5)) = some r:=H;have A8:=G A80;clear A80
   by_cases c9 : t188 = true
   case pos =>
    subst c9;have H1 : (some false) = some r:=by rw [if_pos rfl] at H; exact H
    clear H;have H:=H1;clear H1;obtain rfl:=Option.some.inj H;have p186 : 0 ≤ (x3_1 : Int):=of_decide_eq_true (by first | (with_reducible assumption) | assumption);have q186 : x3_1 < (l0.length : Int):=of_decide_eq_true (by first | (with_reducible assumption) | assumption);obtain ⟨ad186,e186,hx186_0⟩:=Kd.at_int HR0.out x3_1 p186 q186;cases e186;replace p186:=eq_true p186;replace q186:=eq_true q186;have p187 : 0 ≤ ((ji5) : Int):=of_decide_eq_true (by first | (with_reducible assumption) | assumption);have q187 : (ji5) < (l0.length : Int):=of_decide_eq_true (by first | (with_reducible assumption) | assumption);obtain ⟨ad187,e187,hx187_0⟩:=Kd.at_int HR0.out (ji5) p187 q187;obtain rfl : ad186 = ad187:=(by injection e187)
    replace p187:=eq_true p187;replace q187:=eq_true q187
    go_wp2_with (first | (go_at_call 126; (with_reducible refine (cmp_Less_int.calls (rd l0 x3_1) (rd l0 (ji5)) true _ A8.out).mono ?_); rintro e w' ⟨rfl,⟨nd,rfl⟩⟩; (try first | exact ⟨rfl,_,World.drewN_drewN _ _ _⟩ | exact ⟨rfl,_,Eq.trans (World.drewN_drewN _ _ _) (congrArg (World.drewN _) (Nat.add_assoc _ _ _))⟩)))
    repeat (go_quiet (first | (go_at_call 126; (with_reducible refine (cmp_Less_int.calls (rd l0 x3_1) (rd l0 (ji5)) true _ A8.out).mono ?_); rintro e w' ⟨rfl,⟨nd,rfl⟩⟩; (try first | exact ⟨rfl,_,World.drewN_drewN _ _ _⟩ | exact ⟨rfl,_,Eq.trans (World.drewN_drewN _ _ _) (congrArg (World.drewN _) (Nat.add_assoc _ _ _))⟩))); try go_wp2_with (first | (go_at_call 126; (with_reducible refine (cmp_Less_int.calls (rd l0 x3_1) (rd l0 (ji5)) true _ A8.out).mono ?_); rintro e w' ⟨rfl,⟨nd,rfl⟩⟩; (try first | exact ⟨rfl,_,World.drewN_drewN _ _ _⟩ | exact ⟨rfl,_,Eq.trans (World.drewN_drewN _ _ _) (congrArg (World.drewN _) (Nat.add_assoc _ _ _))⟩))))
    go_ret;exact ⟨by first | rfl | (simp; done) | (simp only [← hji5] <;> (first | rfl | simp)) | (simp [*]; done),by repeat (first | exact Drawn0.refl _ | apply Drawn0.step)⟩
   replace c9:=Bool.eq_false_iff.mpr c9;subst c9;have H1 : (slices_IsSorted_int_int.l0 k1 l0 ji5) = some r:=by rw [if_neg (show ¬ (false = true) by decide)] at H; exact H
   clear H;have H:=H1;clear H1;have H':=G H;clear H;have p186 : 0 ≤ (x3_1 : Int):=of_decide_eq_true (by first | (with_reducible assumption) | assumption);have q186 : x3_1 < (l0.length : Int):=of_decide_eq_true (by first | (with_reducible assumption) | assumption);obtain ⟨ad186,e186,hx186_0⟩:=Kd.at_int HR0.out x3_1 p186 q186;cases e186;replace p186:=eq_true p186;replace q186:=eq_true q186;have p187 : 0 ≤ ((ji5) : Int):=of_decide_eq_true (by first | (with_reducible assumption) | assumption);have q187 : (ji5) < (l0.length : Int):=of_decide_eq_true (by first | (with_reducible assumption) | assumption);obtain ⟨ad187,e187,hx187_0⟩:=Kd.at_int HR0.out (ji5) p187 q187;obtain rfl : ad186 = ad187:=(by injection e187)
   replace p187:=eq_true p187;replace q187:=eq_true q187
   go_wp2_with (first | (go_at_call 126; (with_reducible refine (cmp_Less_int.calls (rd l0 x3_1) (rd l0 (ji5)) false _ A8.out).mono ?_); rintro e w' ⟨rfl,⟨nd,rfl⟩⟩; (try first | exact ⟨rfl,_,World.drewN_drewN _ _ _⟩ | exact ⟨rfl,_,Eq.trans (World.drewN_drewN _ _ _) (congrArg (World.drewN _) (Nat.add_assoc _ _ _))⟩)))
   repeat (go_quiet (first | (go_at_call 126; (with_reducible refine (cmp_Less_int.calls (rd l0 x3_1) (rd l0 (ji5)) false _ A8.out).mono ?_); rintro e w' ⟨rfl,⟨nd,rfl⟩⟩; (try first | exact ⟨rfl,_,World.drewN_drewN _ _ _⟩ | exact ⟨rfl,_,Eq.trans (World.drewN_drewN _ _ _) (congrArg (World.drewN _) (Nat.add_assoc _ _ _))⟩))); try go_wp2_with (first | (go_at_call 126; (with_reducible refine (cmp_Less_int.calls (rd l0 x3_1) (rd l0 (ji5)) false _ A8.out).mono ?_); rintro e w' ⟨rfl,⟨nd,rfl⟩⟩; (try first | exact ⟨rfl,_,World.drewN_drewN _ _ _⟩ | exact ⟨rfl,_,Eq.trans (World.drewN_drewN _ _ _) (congrArg (World.drewN _) (Nat.add_assoc _ _ _))⟩))))
   go_roundg k1
   case measure => have:=HK1.out; omega
   case rel => exact ⟨(ji5),(by first | rfl | (simp; done) | (simp only [← hji5] <;> (first | rfl | simp)) | (simp [*]; done)),H',⟨by have:=HK1.out; omega⟩,by repeat (first | exact Drawn0.refl _ | apply Drawn0.step)⟩
def impl_FareOk.f (k : Nat) (l0_0 : List Int) (a0_1 : Int) (a0_2 : Int) : Option (Bool):=if (l0_0.length : Int) = 4 then ((impl_pricesOk.f l0_0).bind fun t190 => (if t190 = true then ((slices_IsSorted_int_int.f k l0_0).bind fun t191 => (if t191 = true then ((impl_costOk.f a0_1).bind fun t192 => (if t192 = true then ((impl_within.f a0_2 0 990).bind fun t193 => (some t193)) else (some false))) else (some false))) else (some false))) else (some false)
theorem impl_FareOk.mono : ∀ a0 a1 a2 k,LeO (impl_FareOk.f k a0 a1 a2) (impl_FareOk.f (k + 1) a0 a1 a2):=by
 intro a0 a1 a2 k
 unfold impl_FareOk.f
 repeat' first
   | (with_reducible exact slices_IsSorted_int_int.mono _ _)
   | (with_reducible exact LeO.refl _)
   | (with_reducible exact LeO.none _)
   | (with_reducible refine LeO.ite ?_ ?_)
   | (with_reducible refine LeO.bind ?_ (fun _ => ?_))
   | exact slices_IsSorted_int_int.mono _ _
   | exact LeO.none _
   | refine LeO.ite ?_ ?_
   | refine LeO.bind ?_ (fun _ => ?_)
set_option maxHeartbeats 8000000 in
set_option maxRecDepth 100000 in
theorem impl_FareOk.calls (k : Nat) (A0_0 : Option Addr) (c0_0 : Nat) (l0_0 : List Int) (a0_1 : Int) (a0_2 : Int) (r : Bool) (w : World) (hr0_0 : Kd.C (Kd.int .i64) w A0_0 l0_0.length l0_0) (hc0_0 : l0_0.length ≤ c0_0) (h : impl_FareOk.f k l0_0 a0_1 a0_2 = some r) :
  Calls Try.prog 23 #[.agg #[.slice A0_0 l0_0.length c0_0,.int .i64 a0_1,.int .i64 a0_2]] w fun e w' => e = .returned (.bool r) ∧ Below w.heap.size w w':=by
 have hu25:=Try.underlying25;have HR0_0:=G hr0_0;have HC0_0:=G hc0_0;clear hr0_0 hc0_0;have HB:=G (Below.refl w.heap.size w);have H : (if (l0_0.length : Int) = 4 then ((impl_pricesOk.f l0_0).bind fun t190 => (if t190 = true then ((slices_IsSorted_int_int.f k l0_0).bind fun t191 => (if t191 = true then ((impl_costOk.f a0_1).bind fun t192 => (if t192 = true then ((impl_within.f a0_2 0 990).bind fun t193 => (some t193)) else (some false))) else (some false))) else (some false))) else (some false)) = some r:=h;clear h
 by_cases c2 : (l0_0.length : Int) = 4
 case neg =>
  rw [if_neg c2] at H;have c2b0 : ((l0_0.length : Int) == 4) = false:=beq_eq_false_iff_ne.mpr c2;have c2b1 : ((l0_0.length : Int) != 4) = true:=bne_iff_ne.mpr c2;obtain rfl:=Option.some.inj H
  go_enter Try.func23,Try.ntmps23
  go_wp2_with (first | ((with_reducible refine gate_dst (N:=1) rfl ?_); refine box_event ?hg (N:=1) ?hd (cs:=#[.slice A0_0 l0_0.length c0_0,.int .i64 a0_1,.int .i64 a0_2]) (t:=25) ?hr ?_; (case hd => rfl); (case hg => rfl); (case hr => first | (go_simp; done) | (go_simp; rfl)); intro gb189 hg w25 hbox hb; have n0_:=G (below_step (by repeat (first | (with_reducible first | exact HB.out | apply below_alloc | apply pw_below_drewN | apply below_drew1) | exact HB.out)) hb); have n1_:=G (hbox); have n2_:=G ((by rw [hg]; exact (below_size (by repeat (first | (with_reducible first | exact HB.out | apply below_alloc | apply pw_below_drewN | apply below_drew1) | exact HB.out))) : w.heap.size ≤ gb189)); have n3_:=G ((by rw [hg]; exact (below_size (by repeat (first | (with_reducible first | exact HB.out | apply below_alloc | apply pw_below_drewN | apply below_drew1) | exact HB.out))) : w.heap.size ≤ gb189)); clear HB; have HB:=n0_; have BK189:=n1_; have GW189:=n2_; have GE189:=n3_; clear n0_ n1_ n2_ n3_; clear hb hbox hg; have hcz26_0 : w25.cell? ⟨gb189,0,none⟩ = some (.slice A0_0 l0_0.length c0_0):=(blk_cell BK189.out 0).trans rfl; have hcz26_1 : w25.cell? ⟨gb189,1,none⟩ = some (.int .i64 a0_1):=(blk_cell BK189.out 1).trans rfl; have hcz26_2 : w25.cell? ⟨gb189,2,none⟩ = some (.int .i64 a0_2):=(blk_cell BK189.out 2).trans rfl; have hfz26_0:=blk_frozen BK189.out 0; have hfz26_1:=blk_frozen BK189.out 1; have hfz26_2:=blk_frozen BK189.out 2))
  go_ret;exact ⟨by first | rfl | (simp [errW_none,errW_some] <;> rfl) | (simp [*,errW_none,errW_some] <;> rfl),by repeat (first | (with_reducible first | exact HB.out | apply below_alloc | apply pw_below_drewN | apply below_drew1 | refine below_set ?_ GE189.out) | exact HB.out)⟩
 rw [if_pos c2] at H;have c2b0 : ((l0_0.length : Int) == 4) = true:=beq_iff_eq.mpr c2;have c2b1 : ((l0_0.length : Int) != 4) = false:=bne_eq_false_iff_eq.mpr c2;clear c2;replace H:=Option.bind_eq_some_iff.mp H;obtain ⟨t190,A30,H⟩:=H;replace H : (if t190 = true then ((slices_IsSorted_int_int.f k l0_0).bind fun t191 => (if t191 = true then ((impl_costOk.f a0_1).bind fun t192 => (if t192 = true then ((impl_within.f a0_2 0 990).bind fun t193 => (some t193)) else (some false))) else (some false))) else (some false)) = some r:=H;have A3:=G A30;clear A30
 by_cases c4 : t190 = true
 case neg =>
  replace c4:=Bool.eq_false_iff.mpr c4;subst c4;have H1 : (some false) = some r:=by rw [if_neg (show ¬ (false = true) by decide)] at H; exact H
  clear H;have H:=H1;clear H1;obtain rfl:=Option.some.inj H
  go_enter Try.func23,Try.ntmps23
  go_wp2_with (first | ((with_reducible refine gate_dst (N:=1) rfl ?_); refine box_event ?hg (N:=1) ?hd (cs:=#[.slice A0_0 l0_0.length c0_0,.int .i64 a0_1,.int .i64 a0_2]) (t:=25) ?hr ?_; (case hd => rfl); (case hg => rfl); (case hr => first | (go_simp; done) | (go_simp; rfl)); intro gb189 hg w22 hbox hb; have n0_:=G (below_step (by repeat (first | (with_reducible first | exact HB.out | apply below_alloc | apply pw_below_drewN | apply below_drew1) | exact HB.out)) hb); have n1_:=G (hbox); have n2_:=G ((by rw [hg]; exact (below_size (by repeat (first | (with_reducible first | exact HB.out | apply below_alloc | apply pw_below_drewN | apply below_drew1) | exact HB.out))) : w.heap.size ≤ gb189)); have n3_:=G ((by rw [hg]; exact (below_size (by repeat (first | (with_reducible first | exact HB.out | apply below_alloc | apply pw_below_drewN | apply below_drew1) | exact HB.out))) : w.heap.size ≤ gb189)); clear HB; have HB:=n0_; have BK189:=n1_; have GW189:=n2_; have GE189:=n3_; clear n0_ n1_ n2_ n3_; clear hb hbox hg; have hcz23_0 : w22.cell? ⟨gb189,0,none⟩ = some (.slice A0_0 l0_0.length c0_0):=(blk_cell BK189.out 0).trans rfl; have hcz23_1 : w22.cell? ⟨gb189,1,none⟩ = some (.int .i64 a0_1):=(blk_cell BK189.out 1).trans rfl; have hcz23_2 : w22.cell? ⟨gb189,2,none⟩ = some (.int .i64 a0_2):=(blk_cell BK189.out 2).trans rfl; have hfz23_0:=blk_frozen BK189.out 0; have hfz23_1:=blk_frozen BK189.out 1; have hfz23_2:=blk_frozen BK189.out 2) | (go_at_call 69; (with_reducible refine (impl_pricesOk.calls _ _ l0_0 false _ ?side1 ?side2 A3.out).mono ?_); (case side1 => repeat (first | exact (Kd.C_below HR0_0.out HB.out) | (with_reducible refine Kd.C_alloc ?_ _) | (with_reducible refine Kd.C_drewN ?_ _) | (with_reducible refine Kd.C_drew ?_))); (case side2 => exact HC0_0.out); rintro e w24 ⟨rfl,hb⟩; have n0_:=G (blk_below (g:=gb189) (o:=.cells #[.slice A0_0 l0_0.length c0_0,.int .i64 a0_1,.int .i64 a0_2] 25 (0,0)) (by (with_reducible repeat (first | refine blk_drewN ?_ _ | refine blk_drew ?_ | refine blk_alloc ?_ _)); exact BK189.out) hb); have n1_:=G (below_step (by repeat (first | (with_reducible first | exact HB.out | apply below_alloc | apply pw_below_drewN | apply below_drew1 | refine below_set ?_ GE189.out) | exact HB.out)) hb); clear BK189; clear HB; have BK189:=n0_; have HB:=n1_; clear n0_ n1_; (try clear hb); (try clear hb2); (try clear hk); (try clear hi)))
  go_ret;exact ⟨by first | rfl | (simp [errW_none,errW_some] <;> rfl) | (simp [*,errW_none,errW_some] <;> rfl),by repeat (first | (with_reducible first | exact HB.out | apply below_alloc | apply pw_below_drewN | apply below_drew1 | refine below_set ?_ GE189.out) | exact HB.out)⟩
 subst c4;have H1 : ((slices_IsSorted_int_int.f k l0_0).bind fun t191 => (if t191 = true then ((impl_costOk.f a0_1).bind fun t192 => (if t192 = true then ((impl_within.f a0_2 0 990).bind fun t193 => (some t193)) else (some false))) else (some false))) = some r:=by rw [if_pos rfl] at H; exact H
 clear H;have H:=H1;clear H1;replace H:=Option.bind_eq_some_iff.mp H;obtain ⟨t191,A50,H⟩:=H;replace H : (if t191 = true then ((impl_costOk.f a0_1).bind fun t192 => (if t192 = true then ((impl_within.f a0_2 0 990).bind fun t193 => (some t193)) else (some false))) else (some false)) = some r:=H;have A5:=G A50;clear A50
 by_cases c6 : t191 = true
 case neg =>
  replace c6:=Bool.eq_false_iff.mpr c6;subst c6;have H1 : (some false) = some r:=by rw [if_neg (show ¬ (false = true) by decide)] at H; exact H
  clear H;have H:=H1;clear H1;obtain rfl:=Option.some.inj H
  go_enter Try.func23,Try.ntmps23
  go_wp2_with (first | ((with_reducible refine gate_dst (N:=1) rfl ?_); refine box_event ?hg (N:=1) ?hd (cs:=#[.slice A0_0 l0_0.length c0_0,.int .i64 a0_1,.int .i64 a0_2]) (t:=25) ?hr ?_; (case hd => rfl); (case hg => rfl); (case hr => first | (go_simp; done) | (go_simp; rfl)); intro gb189 hg w18 hbox hb; have n0_:=G (below_step (by repeat (first | (with_reducible first | exact HB.out | apply below_alloc | apply pw_below_drewN | apply below_drew1) | exact HB.out)) hb); have n1_:=G (hbox); have n2_:=G ((by rw [hg]; exact (below_size (by repeat (first | (with_reducible first | exact HB.out | apply below_alloc | apply pw_below_drewN | apply below_drew1) | exact HB.out))) : w.heap.size ≤ gb189)); have n3_:=G ((by rw [hg]; exact (below_size (by repeat (first | (with_reducible first | exact HB.out | apply below_alloc | apply pw_below_drewN | apply below_drew1) | exact HB.out))) : w.heap.size ≤ gb189)); clear HB; have HB:=n0_; have BK189:=n1_; have GW189:=n2_; have GE189:=n3_; clear n0_ n1_ n2_ n3_; clear hb hbox hg; have hcz19_0 : w18.cell? ⟨gb189,0,none⟩ = some (.slice A0_0 l0_0.length c0_0):=(blk_cell BK189.out 0).trans rfl; have hcz19_1 : w18.cell? ⟨gb189,1,none⟩ = some (.int .i64 a0_1):=(blk_cell BK189.out 1).trans rfl; have hcz19_2 : w18.cell? ⟨gb189,2,none⟩ = some (.int .i64 a0_2):=(blk_cell BK189.out 2).trans rfl; have hfz19_0:=blk_frozen BK189.out 0; have hfz19_1:=blk_frozen BK189.out 1; have hfz19_2:=blk_frozen BK189.out 2) | (go_at_call 69; (with_reducible refine (impl_pricesOk.calls _ _ l0_0 true _ ?side1 ?side2 A3.out).mono ?_); (case side1 => repeat (first | exact (Kd.C_below HR0_0.out HB.out) | (with_reducible refine Kd.C_alloc ?_ _) | (with_reducible refine Kd.C_drewN ?_ _) | (with_reducible refine Kd.C_drew ?_))); (case side2 => exact HC0_0.out); rintro e w20 ⟨rfl,hb⟩; have n0_:=G (blk_below (g:=gb189) (o:=.cells #[.slice A0_0 l0_0.length c0_0,.int .i64 a0_1,.int .i64 a0_2] 25 (0,0)) (by (with_reducible repeat (first | refine blk_drewN ?_ _ | refine blk_drew ?_ | refine blk_alloc ?_ _)); exact BK189.out) hb); have n1_:=G (below_step (by repeat (first | (with_reducible first | exact HB.out | apply below_alloc | apply pw_below_drewN | apply below_drew1 | refine below_set ?_ GE189.out) | exact HB.out)) hb); clear BK189; clear HB; have BK189:=n0_; have HB:=n1_; clear n0_ n1_; (try clear hb); (try clear hb2); (try clear hk); (try clear hi); have hcz21_0 : w20.cell? ⟨gb189,0,none⟩ = some (.slice A0_0 l0_0.length c0_0):=(blk_cell BK189.out 0).trans rfl; have hcz21_1 : w20.cell? ⟨gb189,1,none⟩ = some (.int .i64 a0_1):=(blk_cell BK189.out 1).trans rfl; have hcz21_2 : w20.cell? ⟨gb189,2,none⟩ = some (.int .i64 a0_2):=(blk_cell BK189.out 2).trans rfl; have hfz21_0:=blk_frozen BK189.out 0; have hfz21_1:=blk_frozen BK189.out 1; have hfz21_2:=blk_frozen BK189.out 2) | (go_at_call 80; (with_reducible refine (slices_IsSorted_int_int.calls k _ _ l0_0 false _ ?side1 ?side2 A5.out).mono ?_); (case side1 => repeat (first | exact (Kd.C_below HR0_0.out HB.out) | (with_reducible refine Kd.C_alloc ?_ _) | (with_reducible refine Kd.C_drewN ?_ _) | (with_reducible refine Kd.C_drew ?_))); (case side2 => exact HC0_0.out); rintro e w' ⟨rfl,⟨nd,rfl⟩⟩))
  go_ret;exact ⟨by first | rfl | (simp [errW_none,errW_some] <;> rfl) | (simp [*,errW_none,errW_some] <;> rfl),by repeat (first | (with_reducible first | exact HB.out | apply below_alloc | apply pw_below_drewN | apply below_drew1 | refine below_set ?_ GE189.out) | exact HB.out)⟩
 subst c6;have H1 : ((impl_costOk.f a0_1).bind fun t192 => (if t192 = true then ((impl_within.f a0_2 0 990).bind fun t193 => (some t193)) else (some false))) = some r:=by rw [if_pos rfl] at H; exact H
 clear H;have H:=H1;clear H1;replace H:=Option.bind_eq_some_iff.mp H;obtain ⟨t192,A70,H⟩:=H;replace H : (if t192 = true then ((impl_within.f a0_2 0 990).bind fun t193 => (some t193)) else (some false)) = some r:=H;have A7:=G A70;clear A70
 by_cases c8 : t192 = true
 case neg =>
  replace c8:=Bool.eq_false_iff.mpr c8;subst c8;have H1 : (some false) = some r:=by rw [if_neg (show ¬ (false = true) by decide)] at H; exact H
  clear H;have H:=H1;clear H1;obtain rfl:=Option.some.inj H
  go_enter Try.func23,Try.ntmps23
  go_wp2_with (first | ((with_reducible refine gate_dst (N:=1) rfl ?_); refine box_event ?hg (N:=1) ?hd (cs:=#[.slice A0_0 l0_0.length c0_0,.int .i64 a0_1,.int .i64 a0_2]) (t:=25) ?hr ?_; (case hd => rfl); (case hg => rfl); (case hr => first | (go_simp; done) | (go_simp; rfl)); intro gb189 hg w14 hbox hb; have n0_:=G (below_step (by repeat (first | (with_reducible first | exact HB.out | apply below_alloc | apply pw_below_drewN | apply below_drew1) | exact HB.out)) hb); have n1_:=G (hbox); have n2_:=G ((by rw [hg]; exact (below_size (by repeat (first | (with_reducible first | exact HB.out | apply below_alloc | apply pw_below_drewN | apply below_drew1) | exact HB.out))) : w.heap.size ≤ gb189)); have n3_:=G ((by rw [hg]; exact (below_size (by repeat (first | (with_reducible first | exact HB.out | apply below_alloc | apply pw_below_drewN | apply below_drew1) | exact HB.out))) : w.heap.size ≤ gb189)); clear HB; have HB:=n0_; have BK189:=n1_; have GW189:=n2_; have GE189:=n3_; clear n0_ n1_ n2_ n3_; clear hb hbox hg; have hcz15_0 : w14.cell? ⟨gb189,0,none⟩ = some (.slice A0_0 l0_0.length c0_0):=(blk_cell BK189.out 0).trans rfl; have hcz15_1 : w14.cell? ⟨gb189,1,none⟩ = some (.int .i64 a0_1):=(blk_cell BK189.out 1).trans rfl; have hcz15_2 : w14.cell? ⟨gb189,2,none⟩ = some (.int .i64 a0_2):=(blk_cell BK189.out 2).trans rfl; have hfz15_0:=blk_frozen BK189.out 0; have hfz15_1:=blk_frozen BK189.out 1; have hfz15_2:=blk_frozen BK189.out 2) | (go_at_call 69; (with_reducible refine (impl_pricesOk.calls _ _ l0_0 true _ ?side1 ?side2 A3.out).mono ?_); (case side1 => repeat (first | exact (Kd.C_below HR0_0.out HB.out) | (with_reducible refine Kd.C_alloc ?_ _) | (with_reducible refine Kd.C_drewN ?_ _) | (with_reducible refine Kd.C_drew ?_))); (case side2 => exact HC0_0.out); rintro e w16 ⟨rfl,hb⟩; have n0_:=G (blk_below (g:=gb189) (o:=.cells #[.slice A0_0 l0_0.length c0_0,.int .i64 a0_1,.int .i64 a0_2] 25 (0,0)) (by (with_reducible repeat (first | refine blk_drewN ?_ _ | refine blk_drew ?_ | refine blk_alloc ?_ _)); exact BK189.out) hb); have n1_:=G (below_step (by repeat (first | (with_reducible first | exact HB.out | apply below_alloc | apply pw_below_drewN | apply below_drew1 | refine below_set ?_ GE189.out) | exact HB.out)) hb); clear BK189; clear HB; have BK189:=n0_; have HB:=n1_; clear n0_ n1_; (try clear hb); (try clear hb2); (try clear hk); (try clear hi); have hcz17_0 : w16.cell? ⟨gb189,0,none⟩ = some (.slice A0_0 l0_0.length c0_0):=(blk_cell BK189.out 0).trans rfl; have hcz17_1 : w16.cell? ⟨gb189,1,none⟩ = some (.int .i64 a0_1):=(blk_cell BK189.out 1).trans rfl; have hcz17_2 : w16.cell? ⟨gb189,2,none⟩ = some (.int .i64 a0_2):=(blk_cell BK189.out 2).trans rfl; have hfz17_0:=blk_frozen BK189.out 0; have hfz17_1:=blk_frozen BK189.out 1; have hfz17_2:=blk_frozen BK189.out 2) | (go_at_call 80; (with_reducible refine (slices_IsSorted_int_int.calls k _ _ l0_0 true _ ?side1 ?side2 A5.out).mono ?_); (case side1 => repeat (first | exact (Kd.C_below HR0_0.out HB.out) | (with_reducible refine Kd.C_alloc ?_ _) | (with_reducible refine Kd.C_drewN ?_ _) | (with_reducible refine Kd.C_drew ?_))); (case side2 => exact HC0_0.out); rintro e w' ⟨rfl,⟨nd,rfl⟩⟩) | (go_at_call 81; (with_reducible refine (impl_costOk.calls a0_1 false _ A7.out).mono ?_); rintro e w' ⟨rfl,⟨nd,rfl⟩⟩))
  go_ret;exact ⟨by first | rfl | (simp [errW_none,errW_some] <;> rfl) | (simp [*,errW_none,errW_some] <;> rfl),by repeat (first | (with_reducible first | exact HB.out | apply below_alloc | apply pw_below_drewN | apply below_drew1 | refine below_set ?_ GE189.out) | exact HB.out)⟩
 subst c8;have H1 : ((impl_within.f a0_2 0 990).bind fun t193 => (some t193)) = some r:=by rw [if_pos rfl] at H; exact H
 clear H;have H:=H1;clear H1;replace H:=Option.bind_eq_some_iff.mp H;obtain ⟨t193,A90,H⟩:=H;replace H : (some t193) = some r:=H;have A9:=G A90;clear A90;obtain rfl:=Option.some.inj H
 go_enter Try.func23,Try.ntmps23
 go_wp2_with (first | ((with_reducible refine gate_dst (N:=1) rfl ?_); refine box_event ?hg (N:=1) ?hd (cs:=#[.slice A0_0 l0_0.length c0_0,.int .i64 a0_1,.int .i64 a0_2]) (t:=25) ?hr ?_; (case hd => rfl); (case hg => rfl); (case hr => first | (go_simp; done) | (go_simp; rfl)); intro gb189 hg w10 hbox hb; have n0_:=G (below_step (by repeat (first | (with_reducible first | exact HB.out | apply below_alloc | apply pw_below_drewN | apply below_drew1) | exact HB.out)) hb); have n1_:=G (hbox); have n2_:=G ((by rw [hg]; exact (below_size (by repeat (first | (with_reducible first | exact HB.out | apply below_alloc | apply pw_below_drewN | apply below_drew1) | exact HB.out))) : w.heap.size ≤ gb189)); have n3_:=G ((by rw [hg]; exact (below_size (by repeat (first | (with_reducible first | exact HB.out | apply below_alloc | apply pw_below_drewN | apply below_drew1) | exact HB.out))) : w.heap.size ≤ gb189)); clear HB; have HB:=n0_; have BK189:=n1_; have GW189:=n2_; have GE189:=n3_; clear n0_ n1_ n2_ n3_; clear hb hbox hg; have hcz11_0 : w10.cell? ⟨gb189,0,none⟩ = some (.slice A0_0 l0_0.length c0_0):=(blk_cell BK189.out 0).trans rfl; have hcz11_1 : w10.cell? ⟨gb189,1,none⟩ = some (.int .i64 a0_1):=(blk_cell BK189.out 1).trans rfl; have hcz11_2 : w10.cell? ⟨gb189,2,none⟩ = some (.int .i64 a0_2):=(blk_cell BK189.out 2).trans rfl; have hfz11_0:=blk_frozen BK189.out 0; have hfz11_1:=blk_frozen BK189.out 1; have hfz11_2:=blk_frozen BK189.out 2) | (go_at_call 69; (with_reducible refine (impl_pricesOk.calls _ _ l0_0 true _ ?side1 ?side2 A3.out).mono ?_); (case side1 => repeat (first | exact (Kd.C_below HR0_0.out HB.out) | (with_reducible refine Kd.C_alloc ?_ _) | (with_reducible refine Kd.C_drewN ?_ _) | (with_reducible refine Kd.C_drew ?_))); (case side2 => exact HC0_0.out); rintro e w12 ⟨rfl,hb⟩; have n0_:=G (blk_below (g:=gb189) (o:=.cells #[.slice A0_0 l0_0.length c0_0,.int .i64 a0_1,.int .i64 a0_2] 25 (0,0)) (by (with_reducible repeat (first | refine blk_drewN ?_ _ | refine blk_drew ?_ | refine blk_alloc ?_ _)); exact BK189.out) hb); have n1_:=G (below_step (by repeat (first | (with_reducible first | exact HB.out | apply below_alloc | apply pw_below_drewN | apply below_drew1 | refine below_set ?_ GE189.out) | exact HB.out)) hb); clear BK189; clear HB; have BK189:=n0_; have HB:=n1_; clear n0_ n1_; (try clear hb); (try clear hb2); (try clear hk); (try clear hi); have hcz13_0 : w12.cell? ⟨gb189,0,none⟩ = some (.slice A0_0 l0_0.length c0_0):=(blk_cell BK189.out 0).trans rfl; have hcz13_1 : w12.cell? ⟨gb189,1,none⟩ = some (.int .i64 a0_1):=(blk_cell BK189.out 1).trans rfl; have hcz13_2 : w12.cell? ⟨gb189,2,none⟩ = some (.int .i64 a0_2):=(blk_cell BK189.out 2).trans rfl; have hfz13_0:=blk_frozen BK189.out 0; have hfz13_1:=blk_frozen BK189.out 1; have hfz13_2:=blk_frozen BK189.out 2) | (go_at_call 80; (with_reducible refine (slices_IsSorted_int_int.calls k _ _ l0_0 true _ ?side1 ?side2 A5.out).mono ?_); (case side1 => repeat (first | exact (Kd.C_below HR0_0.out HB.out) | (with_reducible refine Kd.C_alloc ?_ _) | (with_reducible refine Kd.C_drewN ?_ _) | (with_reducible refine Kd.C_drew ?_))); (case side2 => exact HC0_0.out); rintro e w' ⟨rfl,⟨nd,rfl⟩⟩) | (go_at_call 81; (with_reducible refine (impl_costOk.calls a0_1 true _ A7.out).mono ?_); rintro e w' ⟨rfl,⟨nd,rfl⟩⟩) | (go_at_call 82; (with_reducible refine (impl_within.calls a0_2 0 990 t193 _ A9.out).mono ?_); rintro e w' ⟨rfl,⟨nd,rfl⟩⟩))
 go_ret;exact ⟨by first | rfl | (simp [errW_none,errW_some] <;> rfl) | (simp [*,errW_none,errW_some] <;> rfl),by repeat (first | (with_reducible first | exact HB.out | apply below_alloc | apply pw_below_drewN | apply below_drew1 | refine below_set ?_ GE189.out) | exact HB.out)⟩
mutual
def impl_FareDay.j0 : Nat → List Int → Bool → List Int → Int → Int → Option (Int)
 | 0,_,_,_,_,_ => none
 | k + 1,x1,x20,x195000,x195001,x195002 => if x20 = true then (some (-1)) else (impl_FareDay.l0 k 0 x1 (x1.length : Int) 0 x195000 x195001 x195002)
def impl_FareDay.l0 : Nat → Int → List Int → Int → Int → List Int → Int → Int → Option (Int)
 | 0,_,_,_,_,_,_,_ => none
 | k + 1,x5,x21,x22,x23,x195000,x195001,x195002 => if x23 < x22 then (if 0 ≤ x23 then (if x23 < (x21.length : Int) then (impl_FareDay.l0 k (wrap64 (x5 + (rd x21 x23))) x21 x22 (wrap64 (x23 + 1)) x195000 x195001 x195002) else (none)) else (none)) else (some (mn x5 x195001))
end
def impl_FareDay.f (k : Nat) (l0_0 : List Int) (a0_1 : Int) (a0_2 : Int) (l1 : List Int) : Option (Int):=(impl_FareOk.f k l0_0 a0_1 a0_2).bind fun t195 => (if t195 = true then (if (l1.length : Int) > 10 then (impl_FareDay.j0 k l1 true l0_0 a0_1 a0_2) else ((impl_pricesOk.f l1).bind fun t196 => (impl_FareDay.j0 k l1 (!t196) l0_0 a0_1 a0_2))) else (impl_FareDay.j0 k l1 true l0_0 a0_1 a0_2))
theorem impl_FareDay.mono_l : ∀ k,(∀ y0 y1 y2 y3 y4,LeO (impl_FareDay.j0 k y0 y1 y2 y3 y4) (impl_FareDay.j0 (k + 1) y0 y1 y2 y3 y4)) ∧ (∀ y0 y1 y2 y3 y4 y5 y6,LeO (impl_FareDay.l0 k y0 y1 y2 y3 y4 y5 y6) (impl_FareDay.l0 (k + 1) y0 y1 y2 y3 y4 y5 y6))
 | 0 => ⟨fun _ _ _ _ _ r h => by simp [impl_FareDay.j0] at h,fun _ _ _ _ _ _ _ r h => by simp [impl_FareDay.l0] at h⟩
 | k + 1 => by
  obtain ⟨ih0,ih1⟩:=impl_FareDay.mono_l k;refine ⟨?_,?_⟩
  ·intro y0 y1 y2 y3 y4
   unfold impl_FareDay.j0
   repeat' first
   | (with_reducible exact ih0 _ _ _ _ _)
   | (with_reducible exact ih1 _ _ _ _ _ _ _)
   | (with_reducible exact impl_FareOk.mono _ _ _ _)
   | (with_reducible exact LeO.refl _)
   | (with_reducible exact LeO.none _)
   | (with_reducible refine LeO.ite ?_ ?_)
   | (with_reducible refine LeO.bind ?_ (fun _ => ?_))
   | exact ih0 _ _ _ _ _
   | exact ih1 _ _ _ _ _ _ _
   | exact impl_FareOk.mono _ _ _ _
   | exact LeO.none _
   | refine LeO.ite ?_ ?_
   | refine LeO.bind ?_ (fun _ => ?_)
  ·intro y0 y1 y2 y3 y4 y5 y6
   unfold impl_FareDay.l0
   repeat' first
   | (with_reducible exact ih0 _ _ _ _ _)
   | (with_reducible exact ih1 _ _ _ _ _ _ _)
   | (with_reducible exact impl_FareOk.mono _ _ _ _)
   | (with_reducible exact LeO.refl _)
   | (with_reducible exact LeO.none _)
   | (with_reducible refine LeO.ite ?_ ?_)
   | (with_reducible refine LeO.bind ?_ (fun _ => ?_))
   | exact ih0 _ _ _ _ _
   | exact ih1 _ _ _ _ _ _ _
   | exact impl_FareOk.mono _ _ _ _
   | exact LeO.none _
   | refine LeO.ite ?_ ?_
   | refine LeO.bind ?_ (fun _ => ?_)
theorem impl_FareDay.mono : ∀ a0 a1 a2 a3 k,LeO (impl_FareDay.f k a0 a1 a2 a3) (impl_FareDay.f (k + 1) a0 a1 a2 a3):=by
 intro a0 a1 a2 a3 k;obtain ⟨ih0,ih1⟩:=impl_FareDay.mono_l k
 unfold impl_FareDay.f
 repeat' first
   | (with_reducible exact ih0 _ _ _ _ _)
   | (with_reducible exact ih1 _ _ _ _ _ _ _)
   | (with_reducible exact impl_FareOk.mono _ _ _ _)
   | (with_reducible exact LeO.refl _)
   | (with_reducible exact LeO.none _)
   | (with_reducible refine LeO.ite ?_ ?_)
   | (with_reducible refine LeO.bind ?_ (fun _ => ?_))
   | exact ih0 _ _ _ _ _
   | exact ih1 _ _ _ _ _ _ _
   | exact impl_FareOk.mono _ _ _ _
   | exact LeO.none _
   | refine LeO.ite ?_ ?_
   | refine LeO.bind ?_ (fun _ => ?_)
set_option maxHeartbeats 8000000 in
set_option maxRecDepth 100000 in
theorem impl_FareDay.calls (k : Nat) (A0_0 : Option Addr) (c0_0 : Nat) (l0_0 : List Int) (a0_1 : Int) (a0_2 : Int) (A1 : Option Addr) (c1 : Nat) (l1 : List Int) (r : Int) (w : World) (hr0_0 : Kd.C (Kd.int .i64) w A0_0 l0_0.length l0_0) (hc0_0 : l0_0.length ≤ c0_0) (hr1 : Kd.C (Kd.int .i64) w A1 l1.length l1) (hc1 : l1.length ≤ c1) (h : impl_FareDay.f k l0_0 a0_1 a0_2 l1 = some r) :
  Calls Try.prog 19 #[.agg #[.slice A0_0 l0_0.length c0_0,.int .i64 a0_1,.int .i64 a0_2],.slice A1 l1.length c1] w fun e w' => e = .returned (.int .i64 r) ∧ Below w.heap.size w w':=by
 have hu25:=Try.underlying25;have HR0_0:=G hr0_0;have HC0_0:=G hc0_0;clear hr0_0 hc0_0;have HR1:=G hr1;have HC1:=G hc1;clear hr1 hc1;have HB:=G (Below.refl w.heap.size w);have H : ((impl_FareOk.f k l0_0 a0_1 a0_2).bind fun t195 => (if t195 = true then (if (l1.length : Int) > 10 then (impl_FareDay.j0 k l1 true l0_0 a0_1 a0_2) else ((impl_pricesOk.f l1).bind fun t196 => (impl_FareDay.j0 k l1 (!t196) l0_0 a0_1 a0_2))) else (impl_FareDay.j0 k l1 true l0_0 a0_1 a0_2))) = some r:=h;clear h;have HC3:=G H;clear H
 go_enter Try.func19,Try.ntmps19
 go_upto_region 1 with (first | ((with_reducible refine gate_dst (N:=2) rfl ?_); (try (refine gate_guard (by rfl) ?_; dsimp only)); refine box_event ?hg (N:=2) ?hd (cs:=#[.slice A0_0 l0_0.length c0_0,.int .i64 a0_1,.int .i64 a0_2]) (t:=25) ?hr ?_; (case hd => rfl); (case hg => rfl); (case hr => first | (go_simp; done) | (go_simp; rfl)); intro gb194 hg w4 hbox hb; have n0_:=G (below_step (by repeat (first | (with_reducible first | exact HB.out | apply below_alloc | apply pw_below_drewN | apply below_drew1) | exact HB.out)) hb); have n1_:=G (hbox); have n2_:=G ((by rw [hg]; exact (below_size (by repeat (first | (with_reducible first | exact HB.out | apply below_alloc | apply pw_below_drewN | apply below_drew1) | exact HB.out))) : w.heap.size ≤ gb194)); have n3_:=G ((by rw [hg]; exact (below_size (by repeat (first | (with_reducible first | exact HB.out | apply below_alloc | apply pw_below_drewN | apply below_drew1) | exact HB.out))) : w.heap.size ≤ gb194)); clear HB; have HB:=n0_; have BK194:=n1_; have GW194:=n2_; have GE194:=n3_; clear n0_ n1_ n2_ n3_; clear hb hbox hg))
 (try simp only [Act.put,U,O,I])
 go_cut [20] (fun v20 wc => ∃ (kq : Nat) (x20_2 : Bool),v20 = .bool x20_2 ∧ Aside0 (impl_FareDay.j0 kq l1 x20_2 l0_0 a0_1 a0_2 = some r) ∧ Aside0 (kq ≤ k) ∧ Aside0 (wc.heap[gb194]? = some (.cells #[(.slice A0_0 l0_0.length c0_0),.int .i64 a0_1,.int .i64 a0_2] 25 (0,0))) ∧ Aside0 (Below w.heap.size w wc))
 case first =>
  have H:=HC3.out;clear HC3;replace H:=Option.bind_eq_some_iff.mp H;obtain ⟨t195,A50,H⟩:=H;replace H : (if t195 = true then (if (l1.length : Int) > 10 then (impl_FareDay.j0 k l1 true l0_0 a0_1 a0_2) else ((impl_pricesOk.f l1).bind fun t196 => (impl_FareDay.j0 k l1 (!t196) l0_0 a0_1 a0_2))) else (impl_FareDay.j0 k l1 true l0_0 a0_1 a0_2)) = some r:=H;have A5:=G A50;clear A50
  by_cases c6 : t195 = true
  case neg =>
   replace c6:=Bool.eq_false_iff.mpr c6;subst c6;have H1 : (impl_FareDay.j0 k l1 true l0_0 a0_1 a0_2) = some r:=by rw [if_neg (show ¬ (false = true) by decide)] at H; exact H
   clear H;have H:=H1;clear H1;have H':=G H;clear H;have hcz14_0 : w4.cell? ⟨gb194,0,none⟩ = some (.slice A0_0 l0_0.length c0_0):=(blk_cell BK194.out 0).trans rfl;have hcz14_1 : w4.cell? ⟨gb194,1,none⟩ = some (.int .i64 a0_1):=(blk_cell BK194.out 1).trans rfl;have hcz14_2 : w4.cell? ⟨gb194,2,none⟩ = some (.int .i64 a0_2):=(blk_cell BK194.out 2).trans rfl;have hfz14_0:=blk_frozen BK194.out 0;have hfz14_1:=blk_frozen BK194.out 1;have hfz14_2:=blk_frozen BK194.out 2
   go_wp2_with (first | ((with_reducible refine gate_callee (f:=23) rfl ?_); refine goesL_ (some 9) rfl rfl Try.func23 (by kernel_rfl) rfl #[.agg #[.slice A0_0 l0_0.length c0_0,.int .i64 a0_1,.int .i64 a0_2]] rfl (by (try simp only [List.map_toArray,List.map_cons,List.map_nil]); first | done | rfl | (simp only [List.length_drop,List.length_take]; rfl)) ?_; (with_reducible refine (impl_FareOk.calls k _ _ l0_0 a0_1 a0_2 false _ ?side1 ?side2 A5.out).mono ?_); (case side1 => repeat (first | exact (Kd.C_below HR0_0.out HB.out) | (with_reducible refine Kd.C_alloc ?_ _) | (with_reducible refine Kd.C_drewN ?_ _) | (with_reducible refine Kd.C_drew ?_))); (case side2 => exact HC0_0.out); rintro e w15 ⟨rfl,hb⟩; refine ⟨_,rfl,?_⟩; have n0_:=G (blk_below (g:=gb194) (o:=.cells #[.slice A0_0 l0_0.length c0_0,.int .i64 a0_1,.int .i64 a0_2] 25 (0,0)) (by (with_reducible repeat (first | refine blk_drewN ?_ _ | refine blk_drew ?_ | refine blk_alloc ?_ _)); exact BK194.out) hb); have n1_:=G (below_step (by repeat (first | (with_reducible first | exact HB.out | apply below_alloc | apply pw_below_drewN | apply below_drew1 | refine below_set ?_ GE194.out) | exact HB.out)) hb); clear BK194; clear HB; have BK194:=n0_; have HB:=n1_; clear n0_ n1_; (try clear hb); (try clear hb2); (try clear hk); (try clear hi)))
   go_meet
   case rel => exact ⟨_,(true),(by first | rfl | (simp; done) | (simp [*]; done)),H',⟨by first | omega | exact Nat.le_refl _⟩,⟨by (with_reducible repeat (first | refine blk_drewN ?_ _ | refine blk_drew ?_ | refine blk_alloc ?_ _)); exact BK194.out⟩,⟨by repeat (first | (with_reducible first | exact HB.out | apply below_alloc | apply pw_below_drewN | apply below_drew1 | refine below_set ?_ GE194.out) | exact HB.out)⟩⟩
  subst c6;have H1 : (if (l1.length : Int) > 10 then (impl_FareDay.j0 k l1 true l0_0 a0_1 a0_2) else ((impl_pricesOk.f l1).bind fun t196 => (impl_FareDay.j0 k l1 (!t196) l0_0 a0_1 a0_2))) = some r:=by rw [if_pos rfl] at H; exact H
  clear H;have H:=H1;clear H1
  by_cases c7 : (l1.length : Int) > 10
  case pos =>
   rw [if_pos c7] at H;have c7b0 : decide (10 < (l1.length : Int)) = true:=decide_eq_true c7;have c7b1 : decide (10 < l1.length) = true:=decide_eq_true (by omega);clear c7
   (first | rw [c7b0] | (simp only [i64_w,i32_w]; rw [c7b0]) | skip)
   have H':=G H;clear H;have hcz8_0 : w4.cell? ⟨gb194,0,none⟩ = some (.slice A0_0 l0_0.length c0_0):=(blk_cell BK194.out 0).trans rfl;have hcz8_1 : w4.cell? ⟨gb194,1,none⟩ = some (.int .i64 a0_1):=(blk_cell BK194.out 1).trans rfl;have hcz8_2 : w4.cell? ⟨gb194,2,none⟩ = some (.int .i64 a0_2):=(blk_cell BK194.out 2).trans rfl;have hfz8_0:=blk_frozen BK194.out 0;have hfz8_1:=blk_frozen BK194.out 1;have hfz8_2:=blk_frozen BK194.out 2
   go_wp2_with (first | ((with_reducible refine gate_callee (f:=23) rfl ?_); refine goesL_ (some 9) rfl rfl Try.func23 (by kernel_rfl) rfl #[.agg #[.slice A0_0 l0_0.length c0_0,.int .i64 a0_1,.int .i64 a0_2]] rfl (by (try simp only [List.map_toArray,List.map_cons,List.map_nil]); first | done | rfl | (simp only [List.length_drop,List.length_take]; rfl)) ?_; (with_reducible refine (impl_FareOk.calls k _ _ l0_0 a0_1 a0_2 true _ ?side1 ?side2 A5.out).mono ?_); (case side1 => repeat (first | exact (Kd.C_below HR0_0.out HB.out) | (with_reducible refine Kd.C_alloc ?_ _) | (with_reducible refine Kd.C_drewN ?_ _) | (with_reducible refine Kd.C_drew ?_))); (case side2 => exact HC0_0.out); rintro e w9 ⟨rfl,hb⟩; refine ⟨_,rfl,?_⟩; have n0_:=G (blk_below (g:=gb194) (o:=.cells #[.slice A0_0 l0_0.length c0_0,.int .i64 a0_1,.int .i64 a0_2] 25 (0,0)) (by (with_reducible repeat (first | refine blk_drewN ?_ _ | refine blk_drew ?_ | refine blk_alloc ?_ _)); exact BK194.out) hb); have n1_:=G (below_step (by repeat (first | (with_reducible first | exact HB.out | apply below_alloc | apply pw_below_drewN | apply below_drew1 | refine below_set ?_ GE194.out) | exact HB.out)) hb); clear BK194; clear HB; have BK194:=n0_; have HB:=n1_; clear n0_ n1_; (try clear hb); (try clear hb2); (try clear hk); (try clear hi)))
   go_meet
   case rel => exact ⟨_,(true),(by first | rfl | (simp; done) | (simp [*]; done)),H',⟨by first | omega | exact Nat.le_refl _⟩,⟨by (with_reducible repeat (first | refine blk_drewN ?_ _ | refine blk_drew ?_ | refine blk_alloc ?_ _)); exact BK194.out⟩,⟨by repeat (first | (with_reducible first | exact HB.out | apply below_alloc | apply pw_below_drewN | apply below_drew1 | refine below_set ?_ GE194.out) | exact HB.out)⟩⟩
  rw [if_neg c7] at H;have c7b0 : decide (10 < (l1.length : Int)) = false:=decide_eq_false c7;have c7b1 : decide (10 < l1.length) = false:=decide_eq_false (by omega);clear c7
  (first | rw [c7b0] | (simp only [i64_w,i32_w]; rw [c7b0]) | skip)
  replace H:=Option.bind_eq_some_iff.mp H;obtain ⟨t196,A100,H⟩:=H;replace H : (impl_FareDay.j0 k l1 (!t196) l0_0 a0_1 a0_2) = some r:=H;have A10:=G A100;clear A100;have H':=G H;clear H;have hcz11_0 : w4.cell? ⟨gb194,0,none⟩ = some (.slice A0_0 l0_0.length c0_0):=(blk_cell BK194.out 0).trans rfl;have hcz11_1 : w4.cell? ⟨gb194,1,none⟩ = some (.int .i64 a0_1):=(blk_cell BK194.out 1).trans rfl;have hcz11_2 : w4.cell? ⟨gb194,2,none⟩ = some (.int .i64 a0_2):=(blk_cell BK194.out 2).trans rfl;have hfz11_0:=blk_frozen BK194.out 0;have hfz11_1:=blk_frozen BK194.out 1;have hfz11_2:=blk_frozen BK194.out 2
  go_wp2_with (first | ((with_reducible refine gate_callee (f:=23) rfl ?_); refine goesL_ (some 9) rfl rfl Try.func23 (by kernel_rfl) rfl #[.agg #[.slice A0_0 l0_0.length c0_0,.int .i64 a0_1,.int .i64 a0_2]] rfl (by (try simp only [List.map_toArray,List.map_cons,List.map_nil]); first | done | rfl | (simp only [List.length_drop,List.length_take]; rfl)) ?_; (with_reducible refine (impl_FareOk.calls k _ _ l0_0 a0_1 a0_2 true _ ?side1 ?side2 A5.out).mono ?_); (case side1 => repeat (first | exact (Kd.C_below HR0_0.out HB.out) | (with_reducible refine Kd.C_alloc ?_ _) | (with_reducible refine Kd.C_drewN ?_ _) | (with_reducible refine Kd.C_drew ?_))); (case side2 => exact HC0_0.out); rintro e w12 ⟨rfl,hb⟩; refine ⟨_,rfl,?_⟩; have n0_:=G (blk_below (g:=gb194) (o:=.cells #[.slice A0_0 l0_0.length c0_0,.int .i64 a0_1,.int .i64 a0_2] 25 (0,0)) (by (with_reducible repeat (first | refine blk_drewN ?_ _ | refine blk_drew ?_ | refine blk_alloc ?_ _)); exact BK194.out) hb); have n1_:=G (below_step (by repeat (first | (with_reducible first | exact HB.out | apply below_alloc | apply pw_below_drewN | apply below_drew1 | refine below_set ?_ GE194.out) | exact HB.out)) hb); clear BK194; clear HB; have BK194:=n0_; have HB:=n1_; clear n0_ n1_; (try clear hb); (try clear hb2); (try clear hk); (try clear hi)) | (go_at_call 69; (with_reducible refine (impl_pricesOk.calls _ _ l1 t196 _ ?side1 ?side2 A10.out).mono ?_); (case side1 => repeat (first | exact (Kd.C_below HR1.out HB.out) | (with_reducible refine Kd.C_alloc ?_ _) | (with_reducible refine Kd.C_drewN ?_ _) | (with_reducible refine Kd.C_drew ?_))); (case side2 => exact HC1.out); rintro e w13 ⟨rfl,hb⟩; have n0_:=G (blk_below (g:=gb194) (o:=.cells #[.slice A0_0 l0_0.length c0_0,.int .i64 a0_1,.int .i64 a0_2] 25 (0,0)) (by (with_reducible repeat (first | refine blk_drewN ?_ _ | refine blk_drew ?_ | refine blk_alloc ?_ _)); exact BK194.out) hb); have n1_:=G (below_step (by repeat (first | (with_reducible first | exact HB.out | apply below_alloc | apply pw_below_drewN | apply below_drew1 | refine below_set ?_ GE194.out) | exact HB.out)) hb); clear BK194; clear HB; have BK194:=n0_; have HB:=n1_; clear n0_ n1_; (try clear hb); (try clear hb2); (try clear hk); (try clear hi)))
  go_meet
  case rel => exact ⟨_,(!t196),(by first | rfl | (simp; done) | (simp [*]; done)),H',⟨by first | omega | exact Nat.le_refl _⟩,⟨by (with_reducible repeat (first | refine blk_drewN ?_ _ | refine blk_drew ?_ | refine blk_alloc ?_ _)); exact BK194.out⟩,⟨by repeat (first | (with_reducible first | exact HB.out | apply below_alloc | apply pw_below_drewN | apply below_drew1 | refine below_set ?_ GE194.out) | exact HB.out)⟩⟩
 case rest =>
  clear HC3
  try clear c1
  try clear c2
  try clear p2
  try clear c6
  try clear c7
  try clear c7b0
  try clear c7b1
  try clear hcz11_0
  try clear hcz11_1
  try clear hcz11_2
  try clear hcz14_0
  try clear hcz14_1
  try clear hcz14_2
  try clear hcz8_0
  try clear hcz8_1
  try clear hcz8_2
  try clear hfz11_0
  try clear hfz11_1
  try clear hfz11_2
  try clear hfz14_0
  try clear hfz14_1
  try clear hfz14_2
  try clear hfz8_0
  try clear hfz8_1
  try clear hfz8_2
  obtain ⟨kq,x20_2,rfl,HA,HJ2,BK194,HB⟩:=hcut;cases kq with
  | zero => exact absurd HA.out (by simp [impl_FareDay.j0])
  | succ kj2 =>
   have H:=HA.out;clear HA;simp only [impl_FareDay.j0] at H
   by_cases c16 : x20_2 = true
   case pos =>
    subst c16;have H1 : (some (-1)) = some r:=by rw [if_pos rfl] at H; exact H
    clear H;have H:=H1;clear H1;obtain rfl:=Option.some.inj H
    go_wp2
    go_ret;exact ⟨by first | rfl | (simp [errW_none,errW_some] <;> rfl) | (simp [*,errW_none,errW_some] <;> rfl),by repeat (first | (with_reducible first | exact HB.out | apply below_alloc | apply pw_below_drewN | apply below_drew1 | refine below_set ?_ GE194.out) | exact HB.out)⟩
   replace c16:=Bool.eq_false_iff.mpr c16;subst c16;have H1 : (impl_FareDay.l0 kj2 0 l1 (l1.length : Int) 0 l0_0 a0_1 a0_2) = some r:=by rw [if_neg (show ¬ (false = true) by decide)] at H; exact H
   clear H;have H:=H1;clear H1;have H':=G H;clear H
   go_wp2
   go_loopg [5,23] kj2 (fun kq v5 v23 w' => ∃ (x5_2 : Int) (x23_2 : Int),v5 = .int .i64 x5_2 ∧ v23 = .int .i64 x23_2 ∧ Aside0 (impl_FareDay.l0 kq x5_2 l1 (l1.length : Int) x23_2 l0_0 a0_1 a0_2 = some r) ∧ Aside0 (kq ≤ kj2) ∧ Aside0 (w'.heap[gb194]? = some (.cells #[(.slice A0_0 l0_0.length c0_0),.int .i64 a0_1,.int .i64 a0_2] 25 (0,0))) ∧ Aside0 (Below w.heap.size w w'))
   case atStart => exact ⟨(0),(0),(by first | rfl | (simp; done) | (simp [*]; done)),(by first | rfl | (simp; done) | (simp [*]; done)),H',⟨Nat.le_refl _⟩,⟨by (with_reducible repeat (first | refine blk_drewN ?_ _ | refine blk_drew ?_ | refine blk_alloc ?_ _)); exact BK194.out⟩,⟨by repeat (first | (with_reducible first | exact HB.out | apply below_alloc | apply pw_below_drewN | apply below_drew1 | refine below_set ?_ GE194.out) | exact HB.out)⟩⟩
   case round =>
    clear H'
    try clear c1
    try clear c2
    try clear p2
    try clear c6
    try clear c7
    try clear c7b0
    try clear c7b1
    try clear c16
    try clear hcz11_0
    try clear hcz11_1
    try clear hcz11_2
    try clear hcz14_0
    try clear hcz14_1
    try clear hcz14_2
    try clear hcz8_0
    try clear hcz8_1
    try clear hcz8_2
    try clear hfz11_0
    try clear hfz11_1
    try clear hfz11_2
    try clear hfz14_0
    try clear hfz14_1
    try clear hfz14_2
    try clear hfz8_0
    try clear hfz8_1
    try clear hfz8_2
    try clear p2
    obtain ⟨x5_2,x23_2,rfl,rfl,HA,HK2,BK194,HB⟩:=hrel;cases gk with
    | zero => exact absurd HA.out (by simp [impl_FareDay.l0])
    | succ k2 =>
     have H:=HA.out;clear HA;simp only [impl_FareDay.l0] at H
     by_cases c17 : x23_2 < (l1.length : Int)
     case neg =>
      rw [if_neg c17] at H;have c17b0 : decide (x23_2 < (l1.length : Int)) = false:=decide_eq_false c17;clear c17;obtain ⟨ji20,hji20⟩ : ∃ j_ : Int,(mn x5_2 a0_1) = j_:=⟨_,rfl⟩
      replace H : (some ji20) = some r:=by first | (rw [hji20] at H; exact H) | (simp only [hji20] at H ⊢; exact H)
      have hji20_ : (if a0_1 < x5_2 then a0_1 else x5_2) = ji20:=hji20;obtain rfl:=Option.some.inj H;have hcz21_0 : wr.cell? ⟨gb194,0,none⟩ = some (.slice A0_0 l0_0.length c0_0):=(blk_cell BK194.out 0).trans rfl;have hcz21_1 : wr.cell? ⟨gb194,1,none⟩ = some (.int .i64 a0_1):=(blk_cell BK194.out 1).trans rfl;have hcz21_2 : wr.cell? ⟨gb194,2,none⟩ = some (.int .i64 a0_2):=(blk_cell BK194.out 2).trans rfl;have hfz21_0:=blk_frozen BK194.out 0;have hfz21_1:=blk_frozen BK194.out 1;have hfz21_2:=blk_frozen BK194.out 2
      go_wp2
      go_ret;exact ⟨by first | rfl | (simp [errW_none,errW_some] <;> rfl) | (simp only [← hji20]; first | rfl | (simp [errW_none,errW_some] <;> rfl)) | (simp [*,errW_none,errW_some] <;> rfl),by repeat (first | (with_reducible first | exact HB.out | apply below_alloc | apply pw_below_drewN | apply below_drew1 | refine below_set ?_ GE194.out) | exact HB.out)⟩
     rw [if_pos c17] at H;have c17b0 : decide (x23_2 < (l1.length : Int)) = true:=decide_eq_true c17;clear c17
     by_cases c18 : 0 ≤ x23_2
     case neg =>
      rw [if_neg c18] at H;exact absurd H (by simp)
     rw [if_pos c18] at H;have c18b0 : decide (0 ≤ x23_2) = true:=decide_eq_true c18;clear c18
     by_cases c19 : x23_2 < (l1.length : Int)
     case neg =>
      rw [if_neg c19] at H;exact absurd H (by simp)
     rw [if_pos c19] at H;have c19b0 : decide (x23_2 < (l1.length : Int)) = true:=decide_eq_true c19;clear c19;have H':=G H;clear H;have p197 : 0 ≤ (x23_2 : Int):=of_decide_eq_true (by first | (with_reducible assumption) | assumption);have q197 : x23_2 < (l1.length : Int):=of_decide_eq_true (by first | (with_reducible assumption) | assumption);obtain ⟨ad197,e197,hx197_0⟩:=Kd.at_int HR1.out x23_2 p197 q197;cases e197;replace hx197_0:=(HB.out.cell (World.block_lt_of_cell? w _ hx197_0)).trans hx197_0;replace p197:=eq_true p197;replace q197:=eq_true q197
     go_wp2
     go_roundg k2
     case measure => have:=HJ2.out; have:=HK2.out; omega
     case rel => exact ⟨(wrap64 (x5_2 + (rd l1 x23_2))),(wrap64 (x23_2 + 1)),(by first | rfl | (simp; done) | (simp [*]; done)),(by first | rfl | (simp; done) | (simp [*]; done)),H',⟨by have:=HJ2.out; have:=HK2.out; omega⟩,⟨by (with_reducible repeat (first | refine blk_drewN ?_ _ | refine blk_drew ?_ | refine blk_alloc ?_ _)); exact BK194.out⟩,⟨by repeat (first | (with_reducible first | exact HB.out | apply below_alloc | apply pw_below_drewN | apply below_drew1 | refine below_set ?_ GE194.out) | exact HB.out)⟩⟩
mutual
def impl_FareWeek.j0 : Nat → List (List Int) → Bool → List Int → Int → Int → Option (Int)
 | 0,_,_,_,_,_ => none
 | k + 1,x1,x16,x199000,x199001,x199002 => if x16 = true then (some (-1)) else (impl_FareWeek.l0 k 0 x1 (x1.length : Int) 0 x199000 x199001 x199002)
def impl_FareWeek.l0 : Nat → Int → List (List Int) → Int → Int → List Int → Int → Int → Option (Int)
 | 0,_,_,_,_,_,_,_ => none
 | k + 1,x5,x17,x18,x19,x199000,x199001,x199002 => if x19 < x18 then (if 0 ≤ x19 then (if x19 < (x17.length : Int) then ((impl_FareDay.f k x199000 x199001 x199002 (rd_L2 x17 x19)).bind fun t201 => (if t201 < 0 then (some (-1)) else (impl_FareWeek.l0 k (wrap64 (x5 + t201)) x17 x18 (wrap64 (x19 + 1)) x199000 x199001 x199002))) else (none)) else (none)) else (some (mn x5 x199002))
end
def impl_FareWeek.f (k : Nat) (l0_0 : List Int) (a0_1 : Int) (a0_2 : Int) (l1 : List (List Int)) : Option (Int):=(impl_FareOk.f k l0_0 a0_1 a0_2).bind fun t199 => (if t199 = true then (impl_FareWeek.j0 k l1 (decide ((l1.length : Int) > 7)) l0_0 a0_1 a0_2) else (impl_FareWeek.j0 k l1 true l0_0 a0_1 a0_2))
theorem impl_FareWeek.mono_l : ∀ k,(∀ y0 y1 y2 y3 y4,LeO (impl_FareWeek.j0 k y0 y1 y2 y3 y4) (impl_FareWeek.j0 (k + 1) y0 y1 y2 y3 y4)) ∧ (∀ y0 y1 y2 y3 y4 y5 y6,LeO (impl_FareWeek.l0 k y0 y1 y2 y3 y4 y5 y6) (impl_FareWeek.l0 (k + 1) y0 y1 y2 y3 y4 y5 y6))
 | 0 => ⟨fun _ _ _ _ _ r h => by simp [impl_FareWeek.j0] at h,fun _ _ _ _ _ _ _ r h => by simp [impl_FareWeek.l0] at h⟩
 | k + 1 => by
  obtain ⟨ih0,ih1⟩:=impl_FareWeek.mono_l k;refine ⟨?_,?_⟩
  ·intro y0 y1 y2 y3 y4
   unfold impl_FareWeek.j0
   repeat' first
   | (with_reducible exact ih0 _ _ _ _ _)
   | (with_reducible exact ih1 _ _ _ _ _ _ _)
   | (with_reducible exact impl_FareDay.mono _ _ _ _ _)
   | (with_reducible exact impl_FareOk.mono _ _ _ _)
   | (with_reducible exact LeO.refl _)
   | (with_reducible exact LeO.none _)
   | (with_reducible refine LeO.ite ?_ ?_)
   | (with_reducible refine LeO.bind ?_ (fun _ => ?_))
   | exact ih0 _ _ _ _ _
   | exact ih1 _ _ _ _ _ _ _
   | exact impl_FareDay.mono _ _ _ _ _
   | exact impl_FareOk.mono _ _ _ _
   | exact LeO.none _
   | refine LeO.ite ?_ ?_
   | refine LeO.bind ?_ (fun _ => ?_)
  ·intro y0 y1 y2 y3 y4 y5 y6
   unfold impl_FareWeek.l0
   repeat' first
   | (with_reducible exact ih0 _ _ _ _ _)
   | (with_reducible exact ih1 _ _ _ _ _ _ _)
   | (with_reducible exact impl_FareDay.mono _ _ _ _ _)
   | (with_reducible exact impl_FareOk.mono _ _ _ _)
   | (with_reducible exact LeO.refl _)
   | (with_reducible exact LeO.none _)
   | (with_reducible refine LeO.ite ?_ ?_)
   | (with_reducible refine LeO.bind ?_ (fun _ => ?_))
   | exact ih0 _ _ _ _ _
   | exact ih1 _ _ _ _ _ _ _
   | exact impl_FareDay.mono _ _ _ _ _
   | exact impl_FareOk.mono _ _ _ _
   | exact LeO.none _
   | refine LeO.ite ?_ ?_
   | refine LeO.bind ?_ (fun _ => ?_)
theorem impl_FareWeek.mono : ∀ a0 a1 a2 a3 k,LeO (impl_FareWeek.f k a0 a1 a2 a3) (impl_FareWeek.f (k + 1) a0 a1 a2 a3):=by
 intro a0 a1 a2 a3 k;obtain ⟨ih0,ih1⟩:=impl_FareWeek.mono_l k
 unfold impl_FareWeek.f
 repeat' first
   | (with_reducible exact ih0 _ _ _ _ _)
   | (with_reducible exact ih1 _ _ _ _ _ _ _)
   | (with_reducible exact impl_FareDay.mono _ _ _ _ _)
   | (with_reducible exact impl_FareOk.mono _ _ _ _)
   | (with_reducible exact LeO.refl _)
   | (with_reducible exact LeO.none _)
   | (with_reducible refine LeO.ite ?_ ?_)
   | (with_reducible refine LeO.bind ?_ (fun _ => ?_))
   | exact ih0 _ _ _ _ _
   | exact ih1 _ _ _ _ _ _ _
   | exact impl_FareDay.mono _ _ _ _ _
   | exact impl_FareOk.mono _ _ _ _
   | exact LeO.none _
   | refine LeO.ite ?_ ?_
   | refine LeO.bind ?_ (fun _ => ?_)
set_option maxHeartbeats 8000000 in
set_option maxRecDepth 100000 in
theorem impl_FareWeek.calls (k : Nat) (A0_0 : Option Addr) (c0_0 : Nat) (l0_0 : List Int) (a0_1 : Int) (a0_2 : Int) (A1 : Option Addr) (c1 : Nat) (l1 : List (List Int)) (r : Int) (w : World) (hr0_0 : Kd.C (Kd.int .i64) w A0_0 l0_0.length l0_0) (hc0_0 : l0_0.length ≤ c0_0) (hr1 : Kd.C (Kd.slice 3 (Kd.int .i64)) w A1 l1.length l1) (hc1 : l1.length ≤ c1) (h : impl_FareWeek.f k l0_0 a0_1 a0_2 l1 = some r) :
  Calls Try.prog 17 #[.agg #[.slice A0_0 l0_0.length c0_0,.int .i64 a0_1,.int .i64 a0_2],.slice A1 l1.length c1] w fun e w' => e = .returned (.int .i64 r) ∧ Below w.heap.size w w':=by
 have hu25:=Try.underlying25;have HR0_0:=G hr0_0;have HC0_0:=G hc0_0;clear hr0_0 hc0_0;have HR1:=G hr1;have HC1:=G hc1;clear hr1 hc1;have HB:=G (Below.refl w.heap.size w);have H : ((impl_FareOk.f k l0_0 a0_1 a0_2).bind fun t199 => (if t199 = true then (impl_FareWeek.j0 k l1 (decide ((l1.length : Int) > 7)) l0_0 a0_1 a0_2) else (impl_FareWeek.j0 k l1 true l0_0 a0_1 a0_2))) = some r:=h;clear h;have HC3:=G H;clear H
 go_enter Try.func17,Try.ntmps17
 go_upto_region 1 with (first | ((with_reducible refine gate_dst (N:=2) rfl ?_); (try (refine gate_guard (by rfl) ?_; dsimp only)); refine box_event ?hg (N:=2) ?hd (cs:=#[.slice A0_0 l0_0.length c0_0,.int .i64 a0_1,.int .i64 a0_2]) (t:=25) ?hr ?_; (case hd => rfl); (case hg => rfl); (case hr => first | (go_simp; done) | (go_simp; rfl)); intro gb198 hg w4 hbox hb; have n0_:=G (below_step (by repeat (first | (with_reducible first | exact HB.out | apply below_alloc | apply pw_below_drewN | apply below_drew1) | exact HB.out)) hb); have n1_:=G (hbox); have n2_:=G ((by rw [hg]; exact (below_size (by repeat (first | (with_reducible first | exact HB.out | apply below_alloc | apply pw_below_drewN | apply below_drew1) | exact HB.out))) : w.heap.size ≤ gb198)); have n3_:=G ((by rw [hg]; exact (below_size (by repeat (first | (with_reducible first | exact HB.out | apply below_alloc | apply pw_below_drewN | apply below_drew1) | exact HB.out))) : w.heap.size ≤ gb198)); clear HB; have HB:=n0_; have BK198:=n1_; have GW198:=n2_; have GE198:=n3_; clear n0_ n1_ n2_ n3_; clear hb hbox hg))
 (try simp only [Act.put,U,O,I])
 go_cut [16] (fun v16 wc => ∃ (kq : Nat) (x16_2 : Bool),v16 = .bool x16_2 ∧ Aside0 (impl_FareWeek.j0 kq l1 x16_2 l0_0 a0_1 a0_2 = some r) ∧ Aside0 (kq ≤ k) ∧ Aside0 (wc.heap[gb198]? = some (.cells #[(.slice A0_0 l0_0.length c0_0),.int .i64 a0_1,.int .i64 a0_2] 25 (0,0))) ∧ Aside0 (Below w.heap.size w wc))
 case first =>
  have H:=HC3.out;clear HC3;replace H:=Option.bind_eq_some_iff.mp H;obtain ⟨t199,A50,H⟩:=H;replace H : (if t199 = true then (impl_FareWeek.j0 k l1 (decide ((l1.length : Int) > 7)) l0_0 a0_1 a0_2) else (impl_FareWeek.j0 k l1 true l0_0 a0_1 a0_2)) = some r:=H;have A5:=G A50;clear A50
  by_cases c6 : t199 = true
  case pos =>
   subst c6;have H1 : (impl_FareWeek.j0 k l1 (decide ((l1.length : Int) > 7)) l0_0 a0_1 a0_2) = some r:=by rw [if_pos rfl] at H; exact H
   clear H;have H:=H1;clear H1;have H':=G H;clear H;have hcz7_0 : w4.cell? ⟨gb198,0,none⟩ = some (.slice A0_0 l0_0.length c0_0):=(blk_cell BK198.out 0).trans rfl;have hcz7_1 : w4.cell? ⟨gb198,1,none⟩ = some (.int .i64 a0_1):=(blk_cell BK198.out 1).trans rfl;have hcz7_2 : w4.cell? ⟨gb198,2,none⟩ = some (.int .i64 a0_2):=(blk_cell BK198.out 2).trans rfl;have hfz7_0:=blk_frozen BK198.out 0;have hfz7_1:=blk_frozen BK198.out 1;have hfz7_2:=blk_frozen BK198.out 2
   go_wp2_with (first | ((with_reducible refine gate_callee (f:=23) rfl ?_); refine goesL_ (some 10) rfl rfl Try.func23 (by kernel_rfl) rfl #[.agg #[.slice A0_0 l0_0.length c0_0,.int .i64 a0_1,.int .i64 a0_2]] rfl (by (try simp only [List.map_toArray,List.map_cons,List.map_nil]); first | done | rfl | (simp only [List.length_drop,List.length_take]; rfl)) ?_; (with_reducible refine (impl_FareOk.calls k _ _ l0_0 a0_1 a0_2 true _ ?side1 ?side2 A5.out).mono ?_); (case side1 => repeat (first | exact (Kd.C_below HR0_0.out HB.out) | (with_reducible refine Kd.C_alloc ?_ _) | (with_reducible refine Kd.C_drewN ?_ _) | (with_reducible refine Kd.C_drew ?_))); (case side2 => exact HC0_0.out); rintro e w8 ⟨rfl,hb⟩; refine ⟨_,rfl,?_⟩; have n0_:=G (blk_below (g:=gb198) (o:=.cells #[.slice A0_0 l0_0.length c0_0,.int .i64 a0_1,.int .i64 a0_2] 25 (0,0)) (by (with_reducible repeat (first | refine blk_drewN ?_ _ | refine blk_drew ?_ | refine blk_alloc ?_ _)); exact BK198.out) hb); have n1_:=G (below_step (by repeat (first | (with_reducible first | exact HB.out | apply below_alloc | apply pw_below_drewN | apply below_drew1 | refine below_set ?_ GE198.out) | exact HB.out)) hb); clear BK198; clear HB; have BK198:=n0_; have HB:=n1_; clear n0_ n1_; (try clear hb); (try clear hb2); (try clear hk); (try clear hi)))
   go_meet
   case rel => exact ⟨_,(decide ((l1.length : Int) > 7)),(by first | rfl | (simp; done) | (simp [*]; done)),H',⟨by first | omega | exact Nat.le_refl _⟩,⟨by (with_reducible repeat (first | refine blk_drewN ?_ _ | refine blk_drew ?_ | refine blk_alloc ?_ _)); exact BK198.out⟩,⟨by repeat (first | (with_reducible first | exact HB.out | apply below_alloc | apply pw_below_drewN | apply below_drew1 | refine below_set ?_ GE198.out) | exact HB.out)⟩⟩
  replace c6:=Bool.eq_false_iff.mpr c6;subst c6;have H1 : (impl_FareWeek.j0 k l1 true l0_0 a0_1 a0_2) = some r:=by rw [if_neg (show ¬ (false = true) by decide)] at H; exact H
  clear H;have H:=H1;clear H1;have H':=G H;clear H;have hcz9_0 : w4.cell? ⟨gb198,0,none⟩ = some (.slice A0_0 l0_0.length c0_0):=(blk_cell BK198.out 0).trans rfl;have hcz9_1 : w4.cell? ⟨gb198,1,none⟩ = some (.int .i64 a0_1):=(blk_cell BK198.out 1).trans rfl;have hcz9_2 : w4.cell? ⟨gb198,2,none⟩ = some (.int .i64 a0_2):=(blk_cell BK198.out 2).trans rfl;have hfz9_0:=blk_frozen BK198.out 0;have hfz9_1:=blk_frozen BK198.out 1;have hfz9_2:=blk_frozen BK198.out 2
  go_wp2_with (first | ((with_reducible refine gate_callee (f:=23) rfl ?_); refine goesL_ (some 10) rfl rfl Try.func23 (by kernel_rfl) rfl #[.agg #[.slice A0_0 l0_0.length c0_0,.int .i64 a0_1,.int .i64 a0_2]] rfl (by (try simp only [List.map_toArray,List.map_cons,List.map_nil]); first | done | rfl | (simp only [List.length_drop,List.length_take]; rfl)) ?_; (with_reducible refine (impl_FareOk.calls k _ _ l0_0 a0_1 a0_2 false _ ?side1 ?side2 A5.out).mono ?_); (case side1 => repeat (first | exact (Kd.C_below HR0_0.out HB.out) | (with_reducible refine Kd.C_alloc ?_ _) | (with_reducible refine Kd.C_drewN ?_ _) | (with_reducible refine Kd.C_drew ?_))); (case side2 => exact HC0_0.out); rintro e w10 ⟨rfl,hb⟩; refine ⟨_,rfl,?_⟩; have n0_:=G (blk_below (g:=gb198) (o:=.cells #[.slice A0_0 l0_0.length c0_0,.int .i64 a0_1,.int .i64 a0_2] 25 (0,0)) (by (with_reducible repeat (first | refine blk_drewN ?_ _ | refine blk_drew ?_ | refine blk_alloc ?_ _)); exact BK198.out) hb); have n1_:=G (below_step (by repeat (first | (with_reducible first | exact HB.out | apply below_alloc | apply pw_below_drewN | apply below_drew1 | refine below_set ?_ GE198.out) | exact HB.out)) hb); clear BK198; clear HB; have BK198:=n0_; have HB:=n1_; clear n0_ n1_; (try clear hb); (try clear hb2); (try clear hk); (try clear hi)))
  go_meet
  case rel => exact ⟨_,(true),(by first | rfl | (simp; done) | (simp [*]; done)),H',⟨by first | omega | exact Nat.le_refl _⟩,⟨by (with_reducible repeat (first | refine blk_drewN ?_ _ | refine blk_drew ?_ | refine blk_alloc ?_ _)); exact BK198.out⟩,⟨by repeat (first | (with_reducible first | exact HB.out | apply below_alloc | apply pw_below_drewN | apply below_drew1 | refine below_set ?_ GE198.out) | exact HB.out)⟩⟩
 case rest =>
  clear HC3
  try clear c1
  try clear c2
  try clear p2
  try clear c6
  try clear hcz7_0
  try clear hcz7_1
  try clear hcz7_2
  try clear hcz9_0
  try clear hcz9_1
  try clear hcz9_2
  try clear hfz7_0
  try clear hfz7_1
  try clear hfz7_2
  try clear hfz9_0
  try clear hfz9_1
  try clear hfz9_2
  obtain ⟨kq,x16_2,rfl,HA,HJ2,BK198,HB⟩:=hcut;cases kq with
  | zero => exact absurd HA.out (by simp [impl_FareWeek.j0])
  | succ kj2 =>
   have H:=HA.out;clear HA;simp only [impl_FareWeek.j0] at H
   by_cases c11 : x16_2 = true
   case pos =>
    subst c11;have H1 : (some (-1)) = some r:=by rw [if_pos rfl] at H; exact H
    clear H;have H:=H1;clear H1;obtain rfl:=Option.some.inj H
    go_wp2
    go_ret;exact ⟨by first | rfl | (simp [errW_none,errW_some] <;> rfl) | (simp [*,errW_none,errW_some] <;> rfl),by repeat (first | (with_reducible first | exact HB.out | apply below_alloc | apply pw_below_drewN | apply below_drew1 | refine below_set ?_ GE198.out) | exact HB.out)⟩
   replace c11:=Bool.eq_false_iff.mpr c11;subst c11;have H1 : (impl_FareWeek.l0 kj2 0 l1 (l1.length : Int) 0 l0_0 a0_1 a0_2) = some r:=by rw [if_neg (show ¬ (false = true) by decide)] at H; exact H
   clear H;have H:=H1;clear H1;have H':=G H;clear H
   go_wp2
   go_loopg [5,19] kj2 (fun kq v5 v19 w' => ∃ (x5_2 : Int) (x19_2 : Int),v5 = .int .i64 x5_2 ∧ v19 = .int .i64 x19_2 ∧ Aside0 (impl_FareWeek.l0 kq x5_2 l1 (l1.length : Int) x19_2 l0_0 a0_1 a0_2 = some r) ∧ Aside0 (kq ≤ kj2) ∧ Aside0 (w'.heap[gb198]? = some (.cells #[(.slice A0_0 l0_0.length c0_0),.int .i64 a0_1,.int .i64 a0_2] 25 (0,0))) ∧ Aside0 (Below w.heap.size w w'))
   case atStart => exact ⟨(0),(0),(by first | rfl | (simp; done) | (simp [*]; done)),(by first | rfl | (simp; done) | (simp [*]; done)),H',⟨Nat.le_refl _⟩,⟨by (with_reducible repeat (first | refine blk_drewN ?_ _ | refine blk_drew ?_ | refine blk_alloc ?_ _)); exact BK198.out⟩,⟨by repeat (first | (with_reducible first | exact HB.out | apply below_alloc | apply pw_below_drewN | apply below_drew1 | refine below_set ?_ GE198.out) | exact HB.out)⟩⟩
   case round =>
    clear H'
    try clear c1
    try clear c2
    try clear p2
    try clear c6
    try clear c11
    try clear hcz7_0
    try clear hcz7_1
    try clear hcz7_2
    try clear hcz9_0
    try clear hcz9_1
    try clear hcz9_2
    try clear hfz7_0
    try clear hfz7_1
    try clear hfz7_2
    try clear hfz9_0
    try clear hfz9_1
    try clear hfz9_2
    try clear p2
    obtain ⟨x5_2,x19_2,rfl,rfl,HA,HK2,BK198,HB⟩:=hrel;cases gk with
    | zero => exact absurd HA.out (by simp [impl_FareWeek.l0])
    | succ k2 =>
     have H:=HA.out;clear HA;simp only [impl_FareWeek.l0] at H
     by_cases c12 : x19_2 < (l1.length : Int)
     case neg =>
      rw [if_neg c12] at H;have c12b0 : decide (x19_2 < (l1.length : Int)) = false:=decide_eq_false c12;clear c12;obtain ⟨ji21,hji21⟩ : ∃ j_ : Int,(mn x5_2 a0_2) = j_:=⟨_,rfl⟩
      replace H : (some ji21) = some r:=by first | (rw [hji21] at H; exact H) | (simp only [hji21] at H ⊢; exact H)
      have hji21_ : (if a0_2 < x5_2 then a0_2 else x5_2) = ji21:=hji21;obtain rfl:=Option.some.inj H;have hcz22_0 : wr.cell? ⟨gb198,0,none⟩ = some (.slice A0_0 l0_0.length c0_0):=(blk_cell BK198.out 0).trans rfl;have hcz22_1 : wr.cell? ⟨gb198,1,none⟩ = some (.int .i64 a0_1):=(blk_cell BK198.out 1).trans rfl;have hcz22_2 : wr.cell? ⟨gb198,2,none⟩ = some (.int .i64 a0_2):=(blk_cell BK198.out 2).trans rfl;have hfz22_0:=blk_frozen BK198.out 0;have hfz22_1:=blk_frozen BK198.out 1;have hfz22_2:=blk_frozen BK198.out 2
      go_wp2
      go_ret;exact ⟨by first | rfl | (simp [errW_none,errW_some] <;> rfl) | (simp only [← hji21]; first | rfl | (simp [errW_none,errW_some] <;> rfl)) | (simp [*,errW_none,errW_some] <;> rfl),by repeat (first | (with_reducible first | exact HB.out | apply below_alloc | apply pw_below_drewN | apply below_drew1 | refine below_set ?_ GE198.out) | exact HB.out)⟩
     rw [if_pos c12] at H;have c12b0 : decide (x19_2 < (l1.length : Int)) = true:=decide_eq_true c12;clear c12
     by_cases c13 : 0 ≤ x19_2
     case neg =>
      rw [if_neg c13] at H;exact absurd H (by simp)
     rw [if_pos c13] at H;have c13b0 : decide (0 ≤ x19_2) = true:=decide_eq_true c13;clear c13
     by_cases c14 : x19_2 < (l1.length : Int)
     case neg =>
      rw [if_neg c14] at H;exact absurd H (by simp)
     rw [if_pos c14] at H;have c14b0 : decide (x19_2 < (l1.length : Int)) = true:=decide_eq_true c14;clear c14;replace H:=Option.bind_eq_some_iff.mp H;obtain ⟨t201,A150,H⟩:=H;replace H : (if t201 < 0 then (some (-1)) else (impl_FareWeek.l0 k2 (wrap64 (x5_2 + t201)) l1 (l1.length : Int) (wrap64 (x19_2 + 1)) l0_0 a0_1 a0_2)) = some r:=H;have A15:=G A150;clear A150
     by_cases c16 : t201 < 0
     case pos =>
      rw [if_pos c16] at H;have c16b0 : decide (t201 < 0) = true:=decide_eq_true c16;clear c16;obtain rfl:=Option.some.inj H;have p200 : 0 ≤ (x19_2 : Int):=of_decide_eq_true (by first | (with_reducible assumption) | assumption);have q200 : x19_2 < (l1.length : Int):=of_decide_eq_true (by first | (with_reducible assumption) | assumption);obtain ⟨ad200,A200_0,c200_0,e200,hx200_0,hl200_0,hi200_0⟩:=at_L2 HR1.out x19_2 p200 q200;cases e200;replace hx200_0:=(HB.out.cell (World.block_lt_of_cell? w _ hx200_0)).trans hx200_0;have HR200_0:=G hi200_0;have HC200_0:=G hl200_0;clear hi200_0 hl200_0;replace p200:=eq_true p200;replace q200:=eq_true q200;have hcz17_0 : wr.cell? ⟨gb198,0,none⟩ = some (.slice A0_0 l0_0.length c0_0):=(blk_cell BK198.out 0).trans rfl;have hcz17_1 : wr.cell? ⟨gb198,1,none⟩ = some (.int .i64 a0_1):=(blk_cell BK198.out 1).trans rfl;have hcz17_2 : wr.cell? ⟨gb198,2,none⟩ = some (.int .i64 a0_2):=(blk_cell BK198.out 2).trans rfl;have hfz17_0:=blk_frozen BK198.out 0;have hfz17_1:=blk_frozen BK198.out 1;have hfz17_2:=blk_frozen BK198.out 2
      go_wp2_with (first | ((with_reducible refine gate_callee (f:=19) rfl ?_); refine goesL_ (some 25) rfl rfl Try.func19 (by kernel_rfl) rfl #[.agg #[.slice A0_0 l0_0.length c0_0,.int .i64 a0_1,.int .i64 a0_2],.slice A200_0 (rd_L2 l1 x19_2).length c200_0] rfl (by (try simp only [List.map_toArray,List.map_cons,List.map_nil]); first | done | rfl | (simp only [List.length_drop,List.length_take]; rfl)) ?_; (with_reducible refine (impl_FareDay.calls k2 _ _ l0_0 a0_1 a0_2 _ _ (rd_L2 l1 x19_2) t201 _ ?side1 ?side2 ?side3 ?side4 A15.out).mono ?_); (case side1 => repeat (first | exact (Kd.C_below HR0_0.out HB.out) | (with_reducible refine Kd.C_alloc ?_ _) | (with_reducible refine Kd.C_drewN ?_ _) | (with_reducible refine Kd.C_drew ?_))); (case side2 => exact HC0_0.out); (case side3 => repeat (first | exact (Kd.C_below HR200_0.out HB.out) | (with_reducible refine Kd.C_alloc ?_ _) | (with_reducible refine Kd.C_drewN ?_ _) | (with_reducible refine Kd.C_drew ?_))); (case side4 => exact HC200_0.out); rintro e w18 ⟨rfl,hb⟩; refine ⟨_,rfl,?_⟩; have n0_:=G (blk_below (g:=gb198) (o:=.cells #[.slice A0_0 l0_0.length c0_0,.int .i64 a0_1,.int .i64 a0_2] 25 (0,0)) (by (with_reducible repeat (first | refine blk_drewN ?_ _ | refine blk_drew ?_ | refine blk_alloc ?_ _)); exact BK198.out) hb); have n1_:=G (below_step (by repeat (first | (with_reducible first | exact HB.out | apply below_alloc | apply pw_below_drewN | apply below_drew1 | refine below_set ?_ GE198.out) | exact HB.out)) hb); clear BK198; clear HB; have BK198:=n0_; have HB:=n1_; clear n0_ n1_; (try clear hb); (try clear hb2); (try clear hk); (try clear hi)))
      go_ret;exact ⟨by first | rfl | (simp [errW_none,errW_some] <;> rfl) | (simp [*,errW_none,errW_some] <;> rfl),by repeat (first | (with_reducible first | exact HB.out | apply below_alloc | apply pw_below_drewN | apply below_drew1 | refine below_set ?_ GE198.out) | exact HB.out)⟩
     rw [if_neg c16] at H;have c16b0 : decide (t201 < 0) = false:=decide_eq_false c16;clear c16;have H':=G H;clear H;have p200 : 0 ≤ (x19_2 : Int):=of_decide_eq_true (by first | (with_reducible assumption) | assumption);have q200 : x19_2 < (l1.length : Int):=of_decide_eq_true (by first | (with_reducible assumption) | assumption);obtain ⟨ad200,A200_0,c200_0,e200,hx200_0,hl200_0,hi200_0⟩:=at_L2 HR1.out x19_2 p200 q200;cases e200;replace hx200_0:=(HB.out.cell (World.block_lt_of_cell? w _ hx200_0)).trans hx200_0;have HR200_0:=G hi200_0;have HC200_0:=G hl200_0;clear hi200_0 hl200_0;replace p200:=eq_true p200;replace q200:=eq_true q200;have hcz19_0 : wr.cell? ⟨gb198,0,none⟩ = some (.slice A0_0 l0_0.length c0_0):=(blk_cell BK198.out 0).trans rfl;have hcz19_1 : wr.cell? ⟨gb198,1,none⟩ = some (.int .i64 a0_1):=(blk_cell BK198.out 1).trans rfl;have hcz19_2 : wr.cell? ⟨gb198,2,none⟩ = some (.int .i64 a0_2):=(blk_cell BK198.out 2).trans rfl;have hfz19_0:=blk_frozen BK198.out 0;have hfz19_1:=blk_frozen BK198.out 1;have hfz19_2:=blk_frozen BK198.out 2
     go_wp2_with (first | ((with_reducible refine gate_callee (f:=19) rfl ?_); refine goesL_ (some 25) rfl rfl Try.func19 (by kernel_rfl) rfl #[.agg #[.slice A0_0 l0_0.length c0_0,.int .i64 a0_1,.int .i64 a0_2],.slice A200_0 (rd_L2 l1 x19_2).length c200_0] rfl (by (try simp only [List.map_toArray,List.map_cons,List.map_nil]); first | done | rfl | (simp only [List.length_drop,List.length_take]; rfl)) ?_; (with_reducible refine (impl_FareDay.calls k2 _ _ l0_0 a0_1 a0_2 _ _ (rd_L2 l1 x19_2) t201 _ ?side1 ?side2 ?side3 ?side4 A15.out).mono ?_); (case side1 => repeat (first | exact (Kd.C_below HR0_0.out HB.out) | (with_reducible refine Kd.C_alloc ?_ _) | (with_reducible refine Kd.C_drewN ?_ _) | (with_reducible refine Kd.C_drew ?_))); (case side2 => exact HC0_0.out); (case side3 => repeat (first | exact (Kd.C_below HR200_0.out HB.out) | (with_reducible refine Kd.C_alloc ?_ _) | (with_reducible refine Kd.C_drewN ?_ _) | (with_reducible refine Kd.C_drew ?_))); (case side4 => exact HC200_0.out); rintro e w20 ⟨rfl,hb⟩; refine ⟨_,rfl,?_⟩; have n0_:=G (blk_below (g:=gb198) (o:=.cells #[.slice A0_0 l0_0.length c0_0,.int .i64 a0_1,.int .i64 a0_2] 25 (0,0)) (by (with_reducible repeat (first | refine blk_drewN ?_ _ | refine blk_drew ?_ | refine blk_alloc ?_ _)); exact BK198.out) hb); have n1_:=G (below_step (by repeat (first | (with_reducible first | exact HB.out | apply below_alloc | apply pw_below_drewN | apply below_drew1 | refine below_set ?_ GE198.out) | exact HB.out)) hb); clear BK198; clear HB; have BK198:=n0_; have HB:=n1_; clear n0_ n1_; (try clear hb); (try clear hb2); (try clear hk); (try clear hi)))
     go_roundg k2
     case measure => have:=HJ2.out; have:=HK2.out; omega
     case rel => exact ⟨(wrap64 (x5_2 + t201)),(wrap64 (x19_2 + 1)),(by first | rfl | (simp; done) | (simp [*]; done)),(by first | rfl | (simp; done) | (simp [*]; done)),H',⟨by have:=HJ2.out; have:=HK2.out; omega⟩,⟨by (with_reducible repeat (first | refine blk_drewN ?_ _ | refine blk_drew ?_ | refine blk_alloc ?_ _)); exact BK198.out⟩,⟨by repeat (first | (with_reducible first | exact HB.out | apply below_alloc | apply pw_below_drewN | apply below_drew1 | refine below_set ?_ GE198.out) | exact HB.out)⟩⟩
def spec_l1In.f (a0 : Int) (a1 : Int) (a2 : Int) : Option (Bool):=if a0 ≥ a1 then (some (decide (a0 ≤ a2))) else (some false)
set_option maxHeartbeats 8000000 in
set_option maxRecDepth 100000 in
theorem spec_l1In.calls (a0 : Int) (a1 : Int) (a2 : Int) (r : Bool) (w : World) (h : spec_l1In.f a0 a1 a2 = some r) :
  Calls Try.prog 90 #[.int .i64 a0,.int .i64 a1,.int .i64 a2] w fun e w' => e = .returned (.bool r) ∧ Drawn0 w w':=by
 have H : (if a0 ≥ a1 then (some (decide (a0 ≤ a2))) else (some false)) = some r:=h;clear h
 by_cases c4 : a0 ≥ a1
 case pos =>
  rw [if_pos c4] at H;have c4b0 : decide (a1 ≤ a0) = true:=decide_eq_true c4;clear c4;obtain rfl:=Option.some.inj H
  go_enter Try.func90,Try.ntmps90
  go_wp2
  go_ret;exact ⟨by first | rfl | (simp; done) | (simp [*]; done),by repeat (first | exact Drawn0.refl _ | apply Drawn0.step)⟩
 rw [if_neg c4] at H;have c4b0 : decide (a1 ≤ a0) = false:=decide_eq_false c4;clear c4;obtain rfl:=Option.some.inj H
 go_enter Try.func90,Try.ntmps90
 go_wp2
 go_ret;exact ⟨by first | rfl | (simp; done) | (simp [*]; done),by repeat (first | exact Drawn0.refl _ | apply Drawn0.step)⟩
def spec_l28Ok.l0 : Nat → Int → List Int → Int → Int → Option (Bool)
 | 0,_,_,_,_ => none
 | k + 1,x3,x203000,x203001,x203002 => if x3 < (x203000.length : Int) then (if 0 ≤ x3 then ((spec_l1In.f (rd x203000 x3) 0 99).bind fun t204 => (if t204 = true then (if x3 > 0 then (if 0 ≤ (wrap64 (x3 - 1)) then (if (wrap64 (x3 - 1)) < (x203000.length : Int) then (if (rd x203000 x3) < (rd x203000 (wrap64 (x3 - 1))) then (some false) else (spec_l28Ok.l0 k (wrap64 (x3 + 1)) x203000 x203001 x203002)) else (none)) else (none)) else (spec_l28Ok.l0 k (wrap64 (x3 + 1)) x203000 x203001 x203002)) else (some false))) else (none)) else (if (x203000.length : Int) = 4 then ((spec_l1In.f x203001 0 99).bind fun t207 => (if t207 = true then ((spec_l1In.f x203002 0 990).bind fun t208 => (some t208)) else (some false))) else (some false))
def spec_l28Ok.f (k : Nat) (l0_0 : List Int) (a0_1 : Int) (a0_2 : Int) : Option (Bool):=spec_l28Ok.l0 k 0 l0_0 a0_1 a0_2
theorem spec_l28Ok.mono_l : ∀ k,(∀ y0 y1 y2 y3,LeO (spec_l28Ok.l0 k y0 y1 y2 y3) (spec_l28Ok.l0 (k + 1) y0 y1 y2 y3))
 | 0 => fun _ _ _ _ r h => by simp [spec_l28Ok.l0] at h
 | k + 1 => by
  have ih0:=spec_l28Ok.mono_l k
  ·intro y0 y1 y2 y3
   unfold spec_l28Ok.l0
   repeat' first
   | (with_reducible exact ih0 _ _ _ _)
   | (with_reducible exact LeO.refl _)
   | (with_reducible exact LeO.none _)
   | (with_reducible refine LeO.ite ?_ ?_)
   | (with_reducible refine LeO.bind ?_ (fun _ => ?_))
   | exact ih0 _ _ _ _
   | exact LeO.none _
   | refine LeO.ite ?_ ?_
   | refine LeO.bind ?_ (fun _ => ?_)
theorem spec_l28Ok.mono : ∀ a0 a1 a2 k,LeO (spec_l28Ok.f k a0 a1 a2) (spec_l28Ok.f (k + 1) a0 a1 a2):=by
 intro a0 a1 a2 k;have ih0:=spec_l28Ok.mono_l k
 unfold spec_l28Ok.f
 repeat' first
   | (with_reducible exact ih0 _ _ _ _)
   | (with_reducible exact LeO.refl _)
   | (with_reducible exact LeO.none _)
   | (with_reducible refine LeO.ite ?_ ?_)
   | (with_reducible refine LeO.bind ?_ (fun _ => ?_))
   | exact ih0 _ _ _ _
   | exact LeO.none _
   | refine LeO.ite ?_ ?_
   | refine LeO.bind ?_ (fun _ => ?_)
set_option maxHeartbeats 8000000 in
set_option maxRecDepth 100000 in
theorem spec_l28Ok.calls (k : Nat) (A0_0 : Option Addr) (c0_0 : Nat) (l0_0 : List Int) (a0_1 : Int) (a0_2 : Int) (r : Bool) (w : World) (hr0_0 : Kd.C (Kd.int .i64) w A0_0 l0_0.length l0_0) (hc0_0 : l0_0.length ≤ c0_0) (h : spec_l28Ok.f k l0_0 a0_1 a0_2 = some r) :
  Calls Try.prog 66 #[.agg #[.slice A0_0 l0_0.length c0_0,.int .i64 a0_1,.int .i64 a0_2]] w fun e w' => e = .returned (.bool r) ∧ Below w.heap.size w w':=by
 have hu25:=Try.underlying25;have HR0_0:=G hr0_0;have HC0_0:=G hc0_0;clear hr0_0 hc0_0;have HB:=G (Below.refl w.heap.size w);have H : (spec_l28Ok.l0 k 0 l0_0 a0_1 a0_2) = some r:=h;clear h;have H':=G H;clear H
 go_enter Try.func66,Try.ntmps66
 go_wp2_with (first | ((with_reducible refine gate_dst (N:=1) rfl ?_); refine box_event ?hg (N:=1) ?hd (cs:=#[.slice A0_0 l0_0.length c0_0,.int .i64 a0_1,.int .i64 a0_2]) (t:=25) ?hr ?_; (case hd => rfl); (case hg => rfl); (case hr => first | (go_simp; done) | (go_simp; rfl)); intro gb202 hg w2 hbox hb; have n0_:=G (below_step (by repeat (first | (with_reducible first | exact HB.out | apply below_alloc | apply pw_below_drewN | apply below_drew1) | exact HB.out)) hb); have n1_:=G (hbox); have n2_:=G ((by rw [hg]; exact (below_size (by repeat (first | (with_reducible first | exact HB.out | apply below_alloc | apply pw_below_drewN | apply below_drew1) | exact HB.out))) : w.heap.size ≤ gb202)); have n3_:=G ((by rw [hg]; exact (below_size (by repeat (first | (with_reducible first | exact HB.out | apply below_alloc | apply pw_below_drewN | apply below_drew1) | exact HB.out))) : w.heap.size ≤ gb202)); clear HB; have HB:=n0_; have BK202:=n1_; have GW202:=n2_; have GE202:=n3_; clear n0_ n1_ n2_ n3_; clear hb hbox hg))
 repeat (go_quiet (first | ((with_reducible refine gate_dst (N:=1) rfl ?_); refine box_event ?hg (N:=1) ?hd (cs:=#[.slice A0_0 l0_0.length c0_0,.int .i64 a0_1,.int .i64 a0_2]) (t:=25) ?hr ?_; (case hd => rfl); (case hg => rfl); (case hr => first | (go_simp; done) | (go_simp; rfl)); intro gb202 hg w2 hbox hb; have n0_:=G (below_step (by repeat (first | (with_reducible first | exact HB.out | apply below_alloc | apply pw_below_drewN | apply below_drew1) | exact HB.out)) hb); have n1_:=G (hbox); have n2_:=G ((by rw [hg]; exact (below_size (by repeat (first | (with_reducible first | exact HB.out | apply below_alloc | apply pw_below_drewN | apply below_drew1) | exact HB.out))) : w.heap.size ≤ gb202)); have n3_:=G ((by rw [hg]; exact (below_size (by repeat (first | (with_reducible first | exact HB.out | apply below_alloc | apply pw_below_drewN | apply below_drew1) | exact HB.out))) : w.heap.size ≤ gb202)); clear HB; have HB:=n0_; have BK202:=n1_; have GW202:=n2_; have GE202:=n3_; clear n0_ n1_ n2_ n3_; clear hb hbox hg)); try go_wp2_with (first | ((with_reducible refine gate_dst (N:=1) rfl ?_); refine box_event ?hg (N:=1) ?hd (cs:=#[.slice A0_0 l0_0.length c0_0,.int .i64 a0_1,.int .i64 a0_2]) (t:=25) ?hr ?_; (case hd => rfl); (case hg => rfl); (case hr => first | (go_simp; done) | (go_simp; rfl)); intro gb202 hg w2 hbox hb; have n0_:=G (below_step (by repeat (first | (with_reducible first | exact HB.out | apply below_alloc | apply pw_below_drewN | apply below_drew1) | exact HB.out)) hb); have n1_:=G (hbox); have n2_:=G ((by rw [hg]; exact (below_size (by repeat (first | (with_reducible first | exact HB.out | apply below_alloc | apply pw_below_drewN | apply below_drew1) | exact HB.out))) : w.heap.size ≤ gb202)); have n3_:=G ((by rw [hg]; exact (below_size (by repeat (first | (with_reducible first | exact HB.out | apply below_alloc | apply pw_below_drewN | apply below_drew1) | exact HB.out))) : w.heap.size ≤ gb202)); clear HB; have HB:=n0_; have BK202:=n1_; have GW202:=n2_; have GE202:=n3_; clear n0_ n1_ n2_ n3_; clear hb hbox hg)))
 go_loopg [3] k (fun kq v3 w' => ∃ (x3_1 : Int),v3 = .int .i64 x3_1 ∧ Aside0 (spec_l28Ok.l0 kq x3_1 l0_0 a0_1 a0_2 = some r) ∧ Aside0 (kq ≤ k) ∧ Aside0 (w'.heap[gb202]? = some (.cells #[(.slice A0_0 l0_0.length c0_0),.int .i64 a0_1,.int .i64 a0_2] 25 (0,0))) ∧ Aside0 (Below w.heap.size w w'))
 case atStart => exact ⟨(0),(by first | rfl | (simp; done) | (simp [*]; done)),H',⟨Nat.le_refl _⟩,⟨by (with_reducible repeat (first | refine blk_drewN ?_ _ | refine blk_drew ?_ | refine blk_alloc ?_ _)); exact BK202.out⟩,⟨by repeat (first | (with_reducible first | exact HB.out | apply below_alloc | apply pw_below_drewN | apply below_drew1 | refine below_set ?_ GE202.out) | exact HB.out)⟩⟩
 case round =>
  clear H'
  try clear p2
  obtain ⟨x3_1,rfl,HA,HK1,BK202,HB⟩:=hrel;cases gk with
  | zero => exact absurd HA.out (by simp [spec_l28Ok.l0])
  | succ k1 =>
   have H:=HA.out;clear HA;simp only [spec_l28Ok.l0] at H
   by_cases c3 : x3_1 < (l0_0.length : Int)
   case neg =>
    rw [if_neg c3] at H;have c3b0 : decide (x3_1 < (l0_0.length : Int)) = false:=decide_eq_false c3;clear c3
    by_cases c16 : (l0_0.length : Int) = 4
    case neg =>
     rw [if_neg c16] at H;have c16b0 : ((l0_0.length : Int) == 4) = false:=beq_eq_false_iff_ne.mpr c16;have c16b1 : ((l0_0.length : Int) != 4) = true:=bne_iff_ne.mpr c16;obtain rfl:=Option.some.inj H;have hcz22_0 : wr.cell? ⟨gb202,0,none⟩ = some (.slice A0_0 l0_0.length c0_0):=(blk_cell BK202.out 0).trans rfl;have hcz22_1 : wr.cell? ⟨gb202,1,none⟩ = some (.int .i64 a0_1):=(blk_cell BK202.out 1).trans rfl;have hcz22_2 : wr.cell? ⟨gb202,2,none⟩ = some (.int .i64 a0_2):=(blk_cell BK202.out 2).trans rfl;have hfz22_0:=blk_frozen BK202.out 0;have hfz22_1:=blk_frozen BK202.out 1;have hfz22_2:=blk_frozen BK202.out 2
     go_wp2
     repeat (go_quiet (fail); try go_wp2)
     go_ret;exact ⟨by first | rfl | (simp [errW_none,errW_some] <;> rfl) | (simp [*,errW_none,errW_some] <;> rfl),by repeat (first | (with_reducible first | exact HB.out | apply below_alloc | apply pw_below_drewN | apply below_drew1 | refine below_set ?_ GE202.out) | exact HB.out)⟩
    rw [if_pos c16] at H;have c16b0 : ((l0_0.length : Int) == 4) = true:=beq_iff_eq.mpr c16;have c16b1 : ((l0_0.length : Int) != 4) = false:=bne_eq_false_iff_eq.mpr c16;clear c16;replace H:=Option.bind_eq_some_iff.mp H;obtain ⟨t207,A170,H⟩:=H;replace H : (if t207 = true then ((spec_l1In.f a0_2 0 990).bind fun t208 => (some t208)) else (some false)) = some r:=H;have A17:=G A170;clear A170
    by_cases c18 : t207 = true
    case neg =>
     replace c18:=Bool.eq_false_iff.mpr c18;subst c18;have H1 : (some false) = some r:=by rw [if_neg (show ¬ (false = true) by decide)] at H; exact H
     clear H;have H:=H1;clear H1;obtain rfl:=Option.some.inj H;have hcz21_0 : wr.cell? ⟨gb202,0,none⟩ = some (.slice A0_0 l0_0.length c0_0):=(blk_cell BK202.out 0).trans rfl;have hcz21_1 : wr.cell? ⟨gb202,1,none⟩ = some (.int .i64 a0_1):=(blk_cell BK202.out 1).trans rfl;have hcz21_2 : wr.cell? ⟨gb202,2,none⟩ = some (.int .i64 a0_2):=(blk_cell BK202.out 2).trans rfl;have hfz21_0:=blk_frozen BK202.out 0;have hfz21_1:=blk_frozen BK202.out 1;have hfz21_2:=blk_frozen BK202.out 2
     go_wp2_with (first | (go_at_call 90; (with_reducible refine (spec_l1In.calls a0_1 0 99 false _ A17.out).mono ?_); rintro e w' ⟨rfl,⟨nd,rfl⟩⟩; (try first | exact ⟨rfl,_,World.drewN_drewN _ _ _⟩ | exact ⟨rfl,_,Eq.trans (World.drewN_drewN _ _ _) (congrArg (World.drewN _) (Nat.add_assoc _ _ _))⟩)))
     repeat (go_quiet (first | (go_at_call 90; (with_reducible refine (spec_l1In.calls a0_1 0 99 false _ A17.out).mono ?_); rintro e w' ⟨rfl,⟨nd,rfl⟩⟩; (try first | exact ⟨rfl,_,World.drewN_drewN _ _ _⟩ | exact ⟨rfl,_,Eq.trans (World.drewN_drewN _ _ _) (congrArg (World.drewN _) (Nat.add_assoc _ _ _))⟩))); try go_wp2_with (first | (go_at_call 90; (with_reducible refine (spec_l1In.calls a0_1 0 99 false _ A17.out).mono ?_); rintro e w' ⟨rfl,⟨nd,rfl⟩⟩; (try first | exact ⟨rfl,_,World.drewN_drewN _ _ _⟩ | exact ⟨rfl,_,Eq.trans (World.drewN_drewN _ _ _) (congrArg (World.drewN _) (Nat.add_assoc _ _ _))⟩))))
     go_ret;exact ⟨by first | rfl | (simp [errW_none,errW_some] <;> rfl) | (simp [*,errW_none,errW_some] <;> rfl),by repeat (first | (with_reducible first | exact HB.out | apply below_alloc | apply pw_below_drewN | apply below_drew1 | refine below_set ?_ GE202.out) | exact HB.out)⟩
    subst c18;have H1 : ((spec_l1In.f a0_2 0 990).bind fun t208 => (some t208)) = some r:=by rw [if_pos rfl] at H; exact H
    clear H;have H:=H1;clear H1;replace H:=Option.bind_eq_some_iff.mp H;obtain ⟨t208,A190,H⟩:=H;replace H : (some t208) = some r:=H;have A19:=G A190;clear A190;obtain rfl:=Option.some.inj H;have hcz20_0 : wr.cell? ⟨gb202,0,none⟩ = some (.slice A0_0 l0_0.length c0_0):=(blk_cell BK202.out 0).trans rfl;have hcz20_1 : wr.cell? ⟨gb202,1,none⟩ = some (.int .i64 a0_1):=(blk_cell BK202.out 1).trans rfl;have hcz20_2 : wr.cell? ⟨gb202,2,none⟩ = some (.int .i64 a0_2):=(blk_cell BK202.out 2).trans rfl;have hfz20_0:=blk_frozen BK202.out 0;have hfz20_1:=blk_frozen BK202.out 1;have hfz20_2:=blk_frozen BK202.out 2
    go_wp2_with (first | (go_at_call 90; (with_reducible refine (spec_l1In.calls a0_1 0 99 true _ A17.out).mono ?_); rintro e w' ⟨rfl,⟨nd,rfl⟩⟩; (try first | exact ⟨rfl,_,World.drewN_drewN _ _ _⟩ | exact ⟨rfl,_,Eq.trans (World.drewN_drewN _ _ _) (congrArg (World.drewN _) (Nat.add_assoc _ _ _))⟩)) | (go_at_call 90; (with_reducible refine (spec_l1In.calls a0_2 0 990 t208 _ A19.out).mono ?_); rintro e w' ⟨rfl,⟨nd,rfl⟩⟩; (try first | exact ⟨rfl,_,World.drewN_drewN _ _ _⟩ | exact ⟨rfl,_,Eq.trans (World.drewN_drewN _ _ _) (congrArg (World.drewN _) (Nat.add_assoc _ _ _))⟩)))
    repeat (go_quiet (first | (go_at_call 90; (with_reducible refine (spec_l1In.calls a0_1 0 99 true _ A17.out).mono ?_); rintro e w' ⟨rfl,⟨nd,rfl⟩⟩; (try first | exact ⟨rfl,_,World.drewN_drewN _ _ _⟩ | exact ⟨rfl,_,Eq.trans (World.drewN_drewN _ _ _) (congrArg (World.drewN _) (Nat.add_assoc _ _ _))⟩)) | (go_at_call 90; (with_reducible refine (spec_l1In.calls a0_2 0 990 t208 _ A19.out).mono ?_); rintro e w' ⟨rfl,⟨nd,rfl⟩⟩; (try first | exact ⟨rfl,_,World.drewN_drewN _ _ _⟩ | exact ⟨rfl,_,Eq.trans (World.drewN_drewN _ _ _) (congrArg (World.drewN _) (Nat.add_assoc _ _ _))⟩))); try go_wp2_with (first | (go_at_call 90; (with_reducible refine (spec_l1In.calls a0_1 0 99 true _ A17.out).mono ?_); rintro e w' ⟨rfl,⟨nd,rfl⟩⟩; (try first | exact ⟨rfl,_,World.drewN_drewN _ _ _⟩ | exact ⟨rfl,_,Eq.trans (World.drewN_drewN _ _ _) (congrArg (World.drewN _) (Nat.add_assoc _ _ _))⟩)) | (go_at_call 90; (with_reducible refine (spec_l1In.calls a0_2 0 990 t208 _ A19.out).mono ?_); rintro e w' ⟨rfl,⟨nd,rfl⟩⟩; (try first | exact ⟨rfl,_,World.drewN_drewN _ _ _⟩ | exact ⟨rfl,_,Eq.trans (World.drewN_drewN _ _ _) (congrArg (World.drewN _) (Nat.add_assoc _ _ _))⟩))))
    go_ret;exact ⟨by first | rfl | (simp [errW_none,errW_some] <;> rfl) | (simp [*,errW_none,errW_some] <;> rfl),by repeat (first | (with_reducible first | exact HB.out | apply below_alloc | apply pw_below_drewN | apply below_drew1 | refine below_set ?_ GE202.out) | exact HB.out)⟩
   rw [if_pos c3] at H;have c3b0 : decide (x3_1 < (l0_0.length : Int)) = true:=decide_eq_true c3;clear c3
   by_cases c4 : 0 ≤ x3_1
   case neg =>
    rw [if_neg c4] at H;exact absurd H (by simp)
   rw [if_pos c4] at H;have c4b0 : decide (0 ≤ x3_1) = true:=decide_eq_true c4;clear c4;replace H:=Option.bind_eq_some_iff.mp H;obtain ⟨t204,A50,H⟩:=H;replace H : (if t204 = true then (if x3_1 > 0 then (if 0 ≤ (wrap64 (x3_1 - 1)) then (if (wrap64 (x3_1 - 1)) < (l0_0.length : Int) then (if (rd l0_0 x3_1) < (rd l0_0 (wrap64 (x3_1 - 1))) then (some false) else (spec_l28Ok.l0 k1 (wrap64 (x3_1 + 1)) l0_0 a0_1 a0_2)) else (none)) else (none)) else (spec_l28Ok.l0 k1 (wrap64 (x3_1 + 1)) l0_0 a0_1 a0_2)) else (some false)) = some r:=H;have A5:=G A50;clear A50
   by_cases c6 : t204 = true
   case neg =>
    replace c6:=Bool.eq_false_iff.mpr c6;subst c6;have H1 : (some false) = some r:=by rw [if_neg (show ¬ (false = true) by decide)] at H; exact H
    clear H;have H:=H1;clear H1;obtain rfl:=Option.some.inj H;have hcz15_0 : wr.cell? ⟨gb202,0,none⟩ = some (.slice A0_0 l0_0.length c0_0):=(blk_cell BK202.out 0).trans rfl;have hcz15_1 : wr.cell? ⟨gb202,1,none⟩ = some (.int .i64 a0_1):=(blk_cell BK202.out 1).trans rfl;have hcz15_2 : wr.cell? ⟨gb202,2,none⟩ = some (.int .i64 a0_2):=(blk_cell BK202.out 2).trans rfl;have hfz15_0:=blk_frozen BK202.out 0;have hfz15_1:=blk_frozen BK202.out 1;have hfz15_2:=blk_frozen BK202.out 2;have p203 : 0 ≤ (x3_1 : Int):=of_decide_eq_true (by first | (with_reducible assumption) | assumption);have q203 : x3_1 < (l0_0.length : Int):=of_decide_eq_true (by first | (with_reducible assumption) | assumption);obtain ⟨ad203,e203,hx203_0⟩:=Kd.at_int HR0_0.out x3_1 p203 q203;cases e203;replace hx203_0:=(HB.out.cell (World.block_lt_of_cell? w _ hx203_0)).trans hx203_0;replace p203:=eq_true p203;replace q203:=eq_true q203
    go_wp2_with (first | (go_at_call 90; (with_reducible refine (spec_l1In.calls (rd l0_0 x3_1) 0 99 false _ A5.out).mono ?_); rintro e w' ⟨rfl,⟨nd,rfl⟩⟩; (try first | exact ⟨rfl,_,World.drewN_drewN _ _ _⟩ | exact ⟨rfl,_,Eq.trans (World.drewN_drewN _ _ _) (congrArg (World.drewN _) (Nat.add_assoc _ _ _))⟩)))
    repeat (go_quiet (first | (go_at_call 90; (with_reducible refine (spec_l1In.calls (rd l0_0 x3_1) 0 99 false _ A5.out).mono ?_); rintro e w' ⟨rfl,⟨nd,rfl⟩⟩; (try first | exact ⟨rfl,_,World.drewN_drewN _ _ _⟩ | exact ⟨rfl,_,Eq.trans (World.drewN_drewN _ _ _) (congrArg (World.drewN _) (Nat.add_assoc _ _ _))⟩))); try go_wp2_with (first | (go_at_call 90; (with_reducible refine (spec_l1In.calls (rd l0_0 x3_1) 0 99 false _ A5.out).mono ?_); rintro e w' ⟨rfl,⟨nd,rfl⟩⟩; (try first | exact ⟨rfl,_,World.drewN_drewN _ _ _⟩ | exact ⟨rfl,_,Eq.trans (World.drewN_drewN _ _ _) (congrArg (World.drewN _) (Nat.add_assoc _ _ _))⟩))))
    go_ret;exact ⟨by first | rfl | (simp [errW_none,errW_some] <;> rfl) | (simp [*,errW_none,errW_some] <;> rfl),by repeat (first | (with_reducible first | exact HB.out | apply below_alloc | apply pw_below_drewN | apply below_drew1 | refine below_set ?_ GE202.out) | exact HB.out)⟩
   subst c6;have H1 : (if x3_1 > 0 then (if 0 ≤ (wrap64 (x3_1 - 1)) then (if (wrap64 (x3_1 - 1)) < (l0_0.length : Int) then (if (rd l0_0 x3_1) < (rd l0_0 (wrap64 (x3_1 - 1))) then (some false) else (spec_l28Ok.l0 k1 (wrap64 (x3_1 + 1)) l0_0 a0_1 a0_2)) else (none)) else (none)) else (spec_l28Ok.l0 k1 (wrap64 (x3_1 + 1)) l0_0 a0_1 a0_2)) = some r:=by rw [if_pos rfl] at H; exact H
   clear H;have H:=H1;clear H1
   by_cases c7 : x3_1 > 0
   case neg =>
    rw [if_neg c7] at H;have c7b0 : decide (0 < x3_1) = false:=decide_eq_false c7;clear c7;have H':=G H;clear H;have hcz14_0 : wr.cell? ⟨gb202,0,none⟩ = some (.slice A0_0 l0_0.length c0_0):=(blk_cell BK202.out 0).trans rfl;have hcz14_1 : wr.cell? ⟨gb202,1,none⟩ = some (.int .i64 a0_1):=(blk_cell BK202.out 1).trans rfl;have hcz14_2 : wr.cell? ⟨gb202,2,none⟩ = some (.int .i64 a0_2):=(blk_cell BK202.out 2).trans rfl;have hfz14_0:=blk_frozen BK202.out 0;have hfz14_1:=blk_frozen BK202.out 1;have hfz14_2:=blk_frozen BK202.out 2;have p203 : 0 ≤ (x3_1 : Int):=of_decide_eq_true (by first | (with_reducible assumption) | assumption);have q203 : x3_1 < (l0_0.length : Int):=of_decide_eq_true (by first | (with_reducible assumption) | assumption);obtain ⟨ad203,e203,hx203_0⟩:=Kd.at_int HR0_0.out x3_1 p203 q203;cases e203;replace hx203_0:=(HB.out.cell (World.block_lt_of_cell? w _ hx203_0)).trans hx203_0;replace p203:=eq_true p203;replace q203:=eq_true q203
    go_wp2_with (first | (go_at_call 90; (with_reducible refine (spec_l1In.calls (rd l0_0 x3_1) 0 99 true _ A5.out).mono ?_); rintro e w' ⟨rfl,⟨nd,rfl⟩⟩; (try first | exact ⟨rfl,_,World.drewN_drewN _ _ _⟩ | exact ⟨rfl,_,Eq.trans (World.drewN_drewN _ _ _) (congrArg (World.drewN _) (Nat.add_assoc _ _ _))⟩)))
    repeat (go_quiet (first | (go_at_call 90; (with_reducible refine (spec_l1In.calls (rd l0_0 x3_1) 0 99 true _ A5.out).mono ?_); rintro e w' ⟨rfl,⟨nd,rfl⟩⟩; (try first | exact ⟨rfl,_,World.drewN_drewN _ _ _⟩ | exact ⟨rfl,_,Eq.trans (World.drewN_drewN _ _ _) (congrArg (World.drewN _) (Nat.add_assoc _ _ _))⟩))); try go_wp2_with (first | (go_at_call 90; (with_reducible refine (spec_l1In.calls (rd l0_0 x3_1) 0 99 true _ A5.out).mono ?_); rintro e w' ⟨rfl,⟨nd,rfl⟩⟩; (try first | exact ⟨rfl,_,World.drewN_drewN _ _ _⟩ | exact ⟨rfl,_,Eq.trans (World.drewN_drewN _ _ _) (congrArg (World.drewN _) (Nat.add_assoc _ _ _))⟩))))
    go_roundg k1
    case measure => have:=HK1.out; omega
    case rel => exact ⟨(wrap64 (x3_1 + 1)),(by first | rfl | (simp; done) | (simp [*]; done)),H',⟨by have:=HK1.out; omega⟩,⟨by (with_reducible repeat (first | refine blk_drewN ?_ _ | refine blk_drew ?_ | refine blk_alloc ?_ _)); exact BK202.out⟩,⟨by repeat (first | (with_reducible first | exact HB.out | apply below_alloc | apply pw_below_drewN | apply below_drew1 | refine below_set ?_ GE202.out) | exact HB.out)⟩⟩
   rw [if_pos c7] at H;have c7b0 : decide (0 < x3_1) = true:=decide_eq_true c7;clear c7;obtain ⟨ji8,hji8⟩ : ∃ j_ : Int,(wrap64 (x3_1 - 1)) = j_:=⟨_,rfl⟩
   replace H : (if 0 ≤ (ji8) then (if (ji8) < (l0_0.length : Int) then (if (rd l0_0 x3_1) < (rd l0_0 (ji8)) then (some false) else (spec_l28Ok.l0 k1 (wrap64 (x3_1 + 1)) l0_0 a0_1 a0_2)) else (none)) else (none)) = some r:=by first | (rw [hji8] at H; exact H) | (simp only [hji8] at H ⊢; exact H)
   (try rw [hji8] at A5)
   have hji8w : (IntKind.i64.wrap (x3_1 - 1)) = ji8:=(i64_w _).trans hji8
   by_cases c9 : 0 ≤ (ji8)
   case neg =>
    rw [if_neg c9] at H;exact absurd H (by simp)
   rw [if_pos c9] at H;have c9b0 : decide (0 ≤ (ji8)) = true:=decide_eq_true c9;clear c9
   by_cases c10 : (ji8) < (l0_0.length : Int)
   case neg =>
    rw [if_neg c10] at H;exact absurd H (by simp)
   rw [if_pos c10] at H;have c10b0 : decide ((ji8) < (l0_0.length : Int)) = true:=decide_eq_true c10;clear c10
   by_cases c11 : (rd l0_0 x3_1) < (rd l0_0 (ji8))
   case pos =>
    rw [if_pos c11] at H;have c11b0 : decide ((rd l0_0 x3_1) < (rd l0_0 (ji8))) = true:=decide_eq_true c11;clear c11;obtain rfl:=Option.some.inj H;have hcz12_0 : wr.cell? ⟨gb202,0,none⟩ = some (.slice A0_0 l0_0.length c0_0):=(blk_cell BK202.out 0).trans rfl;have hcz12_1 : wr.cell? ⟨gb202,1,none⟩ = some (.int .i64 a0_1):=(blk_cell BK202.out 1).trans rfl;have hcz12_2 : wr.cell? ⟨gb202,2,none⟩ = some (.int .i64 a0_2):=(blk_cell BK202.out 2).trans rfl;have hfz12_0:=blk_frozen BK202.out 0;have hfz12_1:=blk_frozen BK202.out 1;have hfz12_2:=blk_frozen BK202.out 2;have p203 : 0 ≤ (x3_1 : Int):=of_decide_eq_true (by first | (with_reducible assumption) | assumption);have q203 : x3_1 < (l0_0.length : Int):=of_decide_eq_true (by first | (with_reducible assumption) | assumption);obtain ⟨ad203,e203,hx203_0⟩:=Kd.at_int HR0_0.out x3_1 p203 q203;cases e203;replace hx203_0:=(HB.out.cell (World.block_lt_of_cell? w _ hx203_0)).trans hx203_0;replace p203:=eq_true p203;replace q203:=eq_true q203
    go_wp2_with (first | (go_at_call 90; (with_reducible refine (spec_l1In.calls (rd l0_0 x3_1) 0 99 true _ A5.out).mono ?_); rintro e w' ⟨rfl,⟨nd,rfl⟩⟩; (try first | exact ⟨rfl,_,World.drewN_drewN _ _ _⟩ | exact ⟨rfl,_,Eq.trans (World.drewN_drewN _ _ _) (congrArg (World.drewN _) (Nat.add_assoc _ _ _))⟩); have p205 : 0 ≤ (x3_1 : Int):=of_decide_eq_true (by first | (with_reducible assumption) | assumption); have q205 : x3_1 < (l0_0.length : Int):=of_decide_eq_true (by first | (with_reducible assumption) | assumption); obtain ⟨ad205,e205,hx205_0⟩:=Kd.at_int HR0_0.out x3_1 p205 q205; obtain rfl : ad203 = ad205:=(by injection e205); replace hx205_0:=(HB.out.cell (World.block_lt_of_cell? w _ hx205_0)).trans hx205_0; replace p205:=eq_true p205; replace q205:=eq_true q205; have p206 : 0 ≤ ((ji8) : Int):=of_decide_eq_true (by first | (with_reducible assumption) | assumption); have q206 : (ji8) < (l0_0.length : Int):=of_decide_eq_true (by first | (with_reducible assumption) | assumption); obtain ⟨ad206,e206,hx206_0⟩:=Kd.at_int HR0_0.out (ji8) p206 q206; obtain rfl : ad203 = ad206:=(by injection e206); replace hx206_0:=(HB.out.cell (World.block_lt_of_cell? w _ hx206_0)).trans hx206_0; replace p206:=eq_true p206; replace q206:=eq_true q206))
    repeat (go_quiet (first | (go_at_call 90; (with_reducible refine (spec_l1In.calls (rd l0_0 x3_1) 0 99 true _ A5.out).mono ?_); rintro e w' ⟨rfl,⟨nd,rfl⟩⟩; (try first | exact ⟨rfl,_,World.drewN_drewN _ _ _⟩ | exact ⟨rfl,_,Eq.trans (World.drewN_drewN _ _ _) (congrArg (World.drewN _) (Nat.add_assoc _ _ _))⟩); have p205 : 0 ≤ (x3_1 : Int):=of_decide_eq_true (by first | (with_reducible assumption) | assumption); have q205 : x3_1 < (l0_0.length : Int):=of_decide_eq_true (by first | (with_reducible assumption) | assumption); obtain ⟨ad205,e205,hx205_0⟩:=Kd.at_int HR0_0.out x3_1 p205 q205; obtain rfl : ad203 = ad205:=(by injection e205); replace hx205_0:=(HB.out.cell (World.block_lt_of_cell? w _ hx205_0)).trans hx205_0; replace p205:=eq_true p205; replace q205:=eq_true q205; have p206 : 0 ≤ ((ji8) : Int):=of_decide_eq_true (by first | (with_reducible assumption) | assumption); have q206 : (ji8) < (l0_0.length : Int):=of_decide_eq_true (by first | (with_reducible assumption) | assumption); obtain ⟨ad206,e206,hx206_0⟩:=Kd.at_int HR0_0.out (ji8) p206 q206; obtain rfl : ad203 = ad206:=(by injection e206); replace hx206_0:=(HB.out.cell (World.block_lt_of_cell? w _ hx206_0)).trans hx206_0; replace p206:=eq_true p206; replace q206:=eq_true q206)); try go_wp2_with (first | (go_at_call 90; (with_reducible refine (spec_l1In.calls (rd l0_0 x3_1) 0 99 true _ A5.out).mono ?_); rintro e w' ⟨rfl,⟨nd,rfl⟩⟩; (try first | exact ⟨rfl,_,World.drewN_drewN _ _ _⟩ | exact ⟨rfl,_,Eq.trans (World.drewN_drewN _ _ _) (congrArg (World.drewN _) (Nat.add_assoc _ _ _))⟩); have p205 : 0 ≤ (x3_1 : Int):=of_decide_eq_true (by first | (with_reducible assumption) | assumption); have q205 : x3_1 < (l0_0.length : Int):=of_decide_eq_true (by first | (with_reducible assumption) | assumption); obtain ⟨ad205,e205,hx205_0⟩:=Kd.at_int HR0_0.out x3_1 p205 q205; obtain rfl : ad203 = ad205:=(by injection e205); replace hx205_0:=(HB.out.cell (World.block_lt_of_cell? w _ hx205_0)).trans hx205_0; replace p205:=eq_true p205; replace q205:=eq_true q205; have p206 : 0 ≤ ((ji8) : Int):=of_decide_eq_true (by first | (with_reducible assumption) | assumption); have q206 : (ji8) < (l0_0.length : Int):=of_decide_eq_true (by first | (with_reducible assumption) | assumption); obtain ⟨ad206,e206,hx206_0⟩:=Kd.at_int HR0_0.out (ji8) p206 q206; obtain rfl : ad203 = ad206:=(by injection e206); replace hx206_0:=(HB.out.cell (World.block_lt_of_cell? w _ hx206_0)).trans hx206_0; replace p206:=eq_true p206; replace q206:=eq_true q206)))
    go_ret;exact ⟨by first | rfl | (simp [errW_none,errW_some] <;> rfl) | (simp only [← hji8]; first | rfl | (simp [errW_none,errW_some] <;> rfl)) | (simp [*,errW_none,errW_some] <;> rfl),by repeat (first | (with_reducible first | exact HB.out | apply below_alloc | apply pw_below_drewN | apply below_drew1 | refine below_set ?_ GE202.out) | exact HB.out)⟩
   rw [if_neg c11] at H;have c11b0 : decide ((rd l0_0 x3_1) < (rd l0_0 (ji8))) = false:=decide_eq_false c11;clear c11;have H':=G H;clear H;have hcz13_0 : wr.cell? ⟨gb202,0,none⟩ = some (.slice A0_0 l0_0.length c0_0):=(blk_cell BK202.out 0).trans rfl;have hcz13_1 : wr.cell? ⟨gb202,1,none⟩ = some (.int .i64 a0_1):=(blk_cell BK202.out 1).trans rfl;have hcz13_2 : wr.cell? ⟨gb202,2,none⟩ = some (.int .i64 a0_2):=(blk_cell BK202.out 2).trans rfl;have hfz13_0:=blk_frozen BK202.out 0;have hfz13_1:=blk_frozen BK202.out 1;have hfz13_2:=blk_frozen BK202.out 2;have p203 : 0 ≤ (x3_1 : Int):=of_decide_eq_true (by first | (with_reducible assumption) | assumption);have q203 : x3_1 < (l0_0.length : Int):=of_decide_eq_true (by first | (with_reducible assumption) | assumption);obtain ⟨ad203,e203,hx203_0⟩:=Kd.at_int HR0_0.out x3_1 p203 q203;cases e203;replace hx203_0:=(HB.out.cell (World.block_lt_of_cell? w _ hx203_0)).trans hx203_0;replace p203:=eq_true p203;replace q203:=eq_true q203
   go_wp2_with (first | (go_at_call 90; (with_reducible refine (spec_l1In.calls (rd l0_0 x3_1) 0 99 true _ A5.out).mono ?_); rintro e w' ⟨rfl,⟨nd,rfl⟩⟩; (try first | exact ⟨rfl,_,World.drewN_drewN _ _ _⟩ | exact ⟨rfl,_,Eq.trans (World.drewN_drewN _ _ _) (congrArg (World.drewN _) (Nat.add_assoc _ _ _))⟩); have p205 : 0 ≤ (x3_1 : Int):=of_decide_eq_true (by first | (with_reducible assumption) | assumption); have q205 : x3_1 < (l0_0.length : Int):=of_decide_eq_true (by first | (with_reducible assumption) | assumption); obtain ⟨ad205,e205,hx205_0⟩:=Kd.at_int HR0_0.out x3_1 p205 q205; obtain rfl : ad203 = ad205:=(by injection e205); replace hx205_0:=(HB.out.cell (World.block_lt_of_cell? w _ hx205_0)).trans hx205_0; replace p205:=eq_true p205; replace q205:=eq_true q205; have p206 : 0 ≤ ((ji8) : Int):=of_decide_eq_true (by first | (with_reducible assumption) | assumption); have q206 : (ji8) < (l0_0.length : Int):=of_decide_eq_true (by first | (with_reducible assumption) | assumption); obtain ⟨ad206,e206,hx206_0⟩:=Kd.at_int HR0_0.out (ji8) p206 q206; obtain rfl : ad203 = ad206:=(by injection e206); replace hx206_0:=(HB.out.cell (World.block_lt_of_cell? w _ hx206_0)).trans hx206_0; replace p206:=eq_true p206; replace q206:=eq_true q206))
   repeat (go_quiet (first | (go_at_call 90; (with_reducible refine (spec_l1In.calls (rd l0_0 x3_1) 0 99 true _ A5.out).mono ?_); rintro e w' ⟨rfl,⟨nd,rfl⟩⟩; (try first | exact ⟨rfl,_,World.drewN_drewN _ _ _⟩ | exact ⟨rfl,_,Eq.trans (World.drewN_drewN _ _ _) (congrArg (World.drewN _) (Nat.add_assoc _ _ _))⟩); have p205 : 0 ≤ (x3_1 : Int):=of_decide_eq_true (by first | (with_reducible assumption) | assumption); have q205 : x3_1 < (l0_0.length : Int):=of_decide_eq_true (by first | (with_reducible assumption) | assumption); obtain ⟨ad205,e205,hx205_0⟩:=Kd.at_int HR0_0.out x3_1 p205 q205; obtain rfl : ad203 = ad205:=(by injection e205); replace hx205_0:=(HB.out.cell (World.block_lt_of_cell? w _ hx205_0)).trans hx205_0; replace p205:=eq_true p205; replace q205:=eq_true q205; have p206 : 0 ≤ ((ji8) : Int):=of_decide_eq_true (by first | (with_reducible assumption) | assumption); have q206 : (ji8) < (l0_0.length : Int):=of_decide_eq_true (by first | (with_reducible assumption) | assumption); obtain ⟨ad206,e206,hx206_0⟩:=Kd.at_int HR0_0.out (ji8) p206 q206; obtain rfl : ad203 = ad206:=(by injection e206); replace hx206_0:=(HB.out.cell (World.block_lt_of_cell? w _ hx206_0)).trans hx206_0; replace p206:=eq_true p206; replace q206:=eq_true q206)); try go_wp2_with (first | (go_at_call 90; (with_reducible refine (spec_l1In.calls (rd l0_0 x3_1) 0 99 true _ A5.out).mono ?_); rintro e w' ⟨rfl,⟨nd,rfl⟩⟩; (try first | exact ⟨rfl,_,World.drewN_drewN _ _ _⟩ | exact ⟨rfl,_,Eq.trans (World.drewN_drewN _ _ _) (congrArg (World.drewN _) (Nat.add_assoc _ _ _))⟩); have p205 : 0 ≤ (x3_1 : Int):=of_decide_eq_true (by first | (with_reducible assumption) | assumption); have q205 : x3_1 < (l0_0.length : Int):=of_decide_eq_true (by first | (with_reducible assumption) | assumption); obtain ⟨ad205,e205,hx205_0⟩:=Kd.at_int HR0_0.out x3_1 p205 q205; obtain rfl : ad203 = ad205:=(by injection e205); replace hx205_0:=(HB.out.cell (World.block_lt_of_cell? w _ hx205_0)).trans hx205_0; replace p205:=eq_true p205; replace q205:=eq_true q205; have p206 : 0 ≤ ((ji8) : Int):=of_decide_eq_true (by first | (with_reducible assumption) | assumption); have q206 : (ji8) < (l0_0.length : Int):=of_decide_eq_true (by first | (with_reducible assumption) | assumption); obtain ⟨ad206,e206,hx206_0⟩:=Kd.at_int HR0_0.out (ji8) p206 q206; obtain rfl : ad203 = ad206:=(by injection e206); replace hx206_0:=(HB.out.cell (World.block_lt_of_cell? w _ hx206_0)).trans hx206_0; replace p206:=eq_true p206; replace q206:=eq_true q206)))
   go_roundg k1
   case measure => have:=HK1.out; omega
   case rel => exact ⟨(wrap64 (x3_1 + 1)),(by first | rfl | (simp; done) | (simp [*]; done)),H',⟨by have:=HK1.out; omega⟩,⟨by (with_reducible repeat (first | refine blk_drewN ?_ _ | refine blk_drew ?_ | refine blk_alloc ?_ _)); exact BK202.out⟩,⟨by repeat (first | (with_reducible first | exact HB.out | apply below_alloc | apply pw_below_drewN | apply below_drew1 | refine below_set ?_ GE202.out) | exact HB.out)⟩⟩
def spec_l28Rides.l0 : Nat → List Int → Int → Option (Bool)
 | 0,_,_ => none
 | k + 1,x0,x3 => if x3 < (x0.length : Int) then (if 0 ≤ x3 then ((spec_l1In.f (rd x0 x3) 0 99).bind fun t210 => (if t210 = true then (spec_l28Rides.l0 k x0 (wrap64 (x3 + 1))) else (some false))) else (none)) else (some (decide ((x0.length : Int) ≤ 10)))
def spec_l28Rides.f (k : Nat) (l0 : List Int) : Option (Bool):=spec_l28Rides.l0 k l0 0
theorem spec_l28Rides.mono_l : ∀ k,(∀ y0 y1,LeO (spec_l28Rides.l0 k y0 y1) (spec_l28Rides.l0 (k + 1) y0 y1))
 | 0 => fun _ _ r h => by simp [spec_l28Rides.l0] at h
 | k + 1 => by
  have ih0:=spec_l28Rides.mono_l k
  ·intro y0 y1
   unfold spec_l28Rides.l0
   repeat' first
   | (with_reducible exact ih0 _ _)
   | (with_reducible exact LeO.refl _)
   | (with_reducible exact LeO.none _)
   | (with_reducible refine LeO.ite ?_ ?_)
   | (with_reducible refine LeO.bind ?_ (fun _ => ?_))
   | exact ih0 _ _
   | exact LeO.none _
   | refine LeO.ite ?_ ?_
   | refine LeO.bind ?_ (fun _ => ?_)
theorem spec_l28Rides.mono : ∀ a0 k,LeO (spec_l28Rides.f k a0) (spec_l28Rides.f (k + 1) a0):=by
 intro a0 k;have ih0:=spec_l28Rides.mono_l k
 unfold spec_l28Rides.f
 repeat' first
   | (with_reducible exact ih0 _ _)
   | (with_reducible exact LeO.refl _)
   | (with_reducible exact LeO.none _)
   | (with_reducible refine LeO.ite ?_ ?_)
   | (with_reducible refine LeO.bind ?_ (fun _ => ?_))
   | exact ih0 _ _
   | exact LeO.none _
   | refine LeO.ite ?_ ?_
   | refine LeO.bind ?_ (fun _ => ?_)
set_option maxHeartbeats 8000000 in
set_option maxRecDepth 100000 in
theorem spec_l28Rides.calls (k : Nat) (A0 : Option Addr) (c0 : Nat) (l0 : List Int) (r : Bool) (w : World) (hr0 : Kd.C (Kd.int .i64) w A0 l0.length l0) (hc0 : l0.length ≤ c0) (h : spec_l28Rides.f k l0 = some r) :
  Calls Try.prog 67 #[.slice A0 l0.length c0] w fun e w' => e = .returned (.bool r) ∧ Drawn0 w w':=by
 have HR0:=G hr0;have HC0:=G hc0;clear hr0 hc0;have H : (spec_l28Rides.l0 k l0 0) = some r:=h;clear h;have H':=G H;clear H
 go_enter Try.func67,Try.ntmps67
 go_wp2
 go_loopg [3] k (fun kq v3 w' => ∃ (x3_1 : Int),v3 = .int .i64 x3_1 ∧ Aside0 (spec_l28Rides.l0 kq l0 x3_1 = some r) ∧ Aside0 (kq ≤ k) ∧ Drawn0 w w')
 case atStart => exact ⟨(0),(by first | rfl | (simp; done) | (simp [*]; done)),H',⟨Nat.le_refl _⟩,by repeat (first | exact Drawn0.refl _ | apply Drawn0.step)⟩
 case round =>
  clear H';obtain ⟨x3_1,rfl,HA,HK1,⟨m1,rfl⟩⟩:=hrel;cases gk with
  | zero => exact absurd HA.out (by simp [spec_l28Rides.l0])
  | succ k1 =>
   have H:=HA.out;clear HA;simp only [spec_l28Rides.l0] at H
   by_cases c2 : x3_1 < (l0.length : Int)
   case neg =>
    rw [if_neg c2] at H;have c2b0 : decide (x3_1 < (l0.length : Int)) = false:=decide_eq_false c2;clear c2;obtain rfl:=Option.some.inj H
    go_wp2
    go_ret;exact ⟨by first | rfl | (simp; done) | (simp [*]; done),by repeat (first | exact Drawn0.refl _ | apply Drawn0.step)⟩
   rw [if_pos c2] at H;have c2b0 : decide (x3_1 < (l0.length : Int)) = true:=decide_eq_true c2;clear c2
   by_cases c3 : 0 ≤ x3_1
   case neg =>
    rw [if_neg c3] at H;exact absurd H (by simp)
   rw [if_pos c3] at H;have c3b0 : decide (0 ≤ x3_1) = true:=decide_eq_true c3;clear c3;replace H:=Option.bind_eq_some_iff.mp H;obtain ⟨t210,A40,H⟩:=H;replace H : (if t210 = true then (spec_l28Rides.l0 k1 l0 (wrap64 (x3_1 + 1))) else (some false)) = some r:=H;have A4:=G A40;clear A40
   by_cases c5 : t210 = true
   case neg =>
    replace c5:=Bool.eq_false_iff.mpr c5;subst c5;have H1 : (some false) = some r:=by rw [if_neg (show ¬ (false = true) by decide)] at H; exact H
    clear H;have H:=H1;clear H1;obtain rfl:=Option.some.inj H;have p209 : 0 ≤ (x3_1 : Int):=of_decide_eq_true (by first | (with_reducible assumption) | assumption);have q209 : x3_1 < (l0.length : Int):=of_decide_eq_true (by first | (with_reducible assumption) | assumption);obtain ⟨ad209,e209,hx209_0⟩:=Kd.at_int HR0.out x3_1 p209 q209;cases e209;replace p209:=eq_true p209;replace q209:=eq_true q209
    go_wp2_with (first | ((with_reducible refine gate_callee (f:=90) rfl ?_); refine goesL_ (some 14) rfl rfl Try.func90 (by kernel_rfl) rfl #[.int .i64 (rd l0 x3_1),.int .i64 0,.int .i64 99] rfl (by (try simp only [List.map_toArray,List.map_cons,List.map_nil]); first | done | rfl | (simp only [List.length_drop,List.length_take]; rfl)) ?_; (with_reducible refine (spec_l1In.calls (rd l0 x3_1) 0 99 false _ A4.out).mono ?_); rintro e w' ⟨rfl,⟨nd,rfl⟩⟩; refine ⟨_,rfl,?_⟩))
    go_ret;exact ⟨by first | rfl | (simp; done) | (simp [*]; done),by repeat (first | exact Drawn0.refl _ | apply Drawn0.step)⟩
   subst c5;have H1 : (spec_l28Rides.l0 k1 l0 (wrap64 (x3_1 + 1))) = some r:=by rw [if_pos rfl] at H; exact H
   clear H;have H:=H1;clear H1;have H':=G H;clear H;have p209 : 0 ≤ (x3_1 : Int):=of_decide_eq_true (by first | (with_reducible assumption) | assumption);have q209 : x3_1 < (l0.length : Int):=of_decide_eq_true (by first | (with_reducible assumption) | assumption);obtain ⟨ad209,e209,hx209_0⟩:=Kd.at_int HR0.out x3_1 p209 q209;cases e209;replace p209:=eq_true p209;replace q209:=eq_true q209
   go_wp2_with (first | ((with_reducible refine gate_callee (f:=90) rfl ?_); refine goesL_ (some 14) rfl rfl Try.func90 (by kernel_rfl) rfl #[.int .i64 (rd l0 x3_1),.int .i64 0,.int .i64 99] rfl (by (try simp only [List.map_toArray,List.map_cons,List.map_nil]); first | done | rfl | (simp only [List.length_drop,List.length_take]; rfl)) ?_; (with_reducible refine (spec_l1In.calls (rd l0 x3_1) 0 99 true _ A4.out).mono ?_); rintro e w' ⟨rfl,⟨nd,rfl⟩⟩; refine ⟨_,rfl,?_⟩))
   go_roundg k1
   case measure => have:=HK1.out; omega
   case rel => exact ⟨(wrap64 (x3_1 + 1)),(by first | rfl | (simp; done) | (simp [*]; done)),H',⟨by have:=HK1.out; omega⟩,by repeat (first | exact Drawn0.refl _ | apply Drawn0.step)⟩
def spec_l28Day.l0 : Nat → List Int → Int → Int → List Int → Int → Int → Option (Int)
 | 0,_,_,_,_,_,_ => none
 | k + 1,x1,x5,x6,x212000,x212001,x212002 => if x6 < (x1.length : Int) then (if 0 ≤ x6 then (spec_l28Day.l0 k x1 (wrap64 (x5 + (rd x1 x6))) (wrap64 (x6 + 1)) x212000 x212001 x212002) else (none)) else (if x5 > x212001 then (some x212001) else (some x5))
def spec_l28Day.f (k : Nat) (l0_0 : List Int) (a0_1 : Int) (a0_2 : Int) (l1 : List Int) : Option (Int):=spec_l28Day.l0 k l1 0 0 l0_0 a0_1 a0_2
theorem spec_l28Day.mono_l : ∀ k,(∀ y0 y1 y2 y3 y4 y5,LeO (spec_l28Day.l0 k y0 y1 y2 y3 y4 y5) (spec_l28Day.l0 (k + 1) y0 y1 y2 y3 y4 y5))
 | 0 => fun _ _ _ _ _ _ r h => by simp [spec_l28Day.l0] at h
 | k + 1 => by
  have ih0:=spec_l28Day.mono_l k
  ·intro y0 y1 y2 y3 y4 y5
   unfold spec_l28Day.l0
   repeat' first
   | (with_reducible exact ih0 _ _ _ _ _ _)
   | (with_reducible exact LeO.refl _)
   | (with_reducible exact LeO.none _)
   | (with_reducible refine LeO.ite ?_ ?_)
   | (with_reducible refine LeO.bind ?_ (fun _ => ?_))
   | exact ih0 _ _ _ _ _ _
   | exact LeO.none _
   | refine LeO.ite ?_ ?_
   | refine LeO.bind ?_ (fun _ => ?_)
theorem spec_l28Day.mono : ∀ a0 a1 a2 a3 k,LeO (spec_l28Day.f k a0 a1 a2 a3) (spec_l28Day.f (k + 1) a0 a1 a2 a3):=by
 intro a0 a1 a2 a3 k;have ih0:=spec_l28Day.mono_l k
 unfold spec_l28Day.f
 repeat' first
   | (with_reducible exact ih0 _ _ _ _ _ _)
   | (with_reducible exact LeO.refl _)
   | (with_reducible exact LeO.none _)
   | (with_reducible refine LeO.ite ?_ ?_)
   | (with_reducible refine LeO.bind ?_ (fun _ => ?_))
   | exact ih0 _ _ _ _ _ _
   | exact LeO.none _
   | refine LeO.ite ?_ ?_
   | refine LeO.bind ?_ (fun _ => ?_)
set_option maxHeartbeats 8000000 in
set_option maxRecDepth 100000 in
theorem spec_l28Day.calls (k : Nat) (A0_0 : Option Addr) (c0_0 : Nat) (l0_0 : List Int) (a0_1 : Int) (a0_2 : Int) (A1 : Option Addr) (c1 : Nat) (l1 : List Int) (r : Int) (w : World) (hr0_0 : Kd.C (Kd.int .i64) w A0_0 l0_0.length l0_0) (hc0_0 : l0_0.length ≤ c0_0) (hr1 : Kd.C (Kd.int .i64) w A1 l1.length l1) (hc1 : l1.length ≤ c1) (h : spec_l28Day.f k l0_0 a0_1 a0_2 l1 = some r) :
  Calls Try.prog 68 #[.agg #[.slice A0_0 l0_0.length c0_0,.int .i64 a0_1,.int .i64 a0_2],.slice A1 l1.length c1] w fun e w' => e = .returned (.int .i64 r) ∧ Below w.heap.size w w':=by
 have hu25:=Try.underlying25;have HR0_0:=G hr0_0;have HC0_0:=G hc0_0;clear hr0_0 hc0_0;have HR1:=G hr1;have HC1:=G hc1;clear hr1 hc1;have HB:=G (Below.refl w.heap.size w);have H : (spec_l28Day.l0 k l1 0 0 l0_0 a0_1 a0_2) = some r:=h;clear h;have H':=G H;clear H
 go_enter Try.func68,Try.ntmps68
 go_wp2_with (first | ((with_reducible refine gate_dst (N:=2) rfl ?_); refine box_event ?hg (N:=2) ?hd (cs:=#[.slice A0_0 l0_0.length c0_0,.int .i64 a0_1,.int .i64 a0_2]) (t:=25) ?hr ?_; (case hd => rfl); (case hg => rfl); (case hr => first | (go_simp; done) | (go_simp; rfl)); intro gb211 hg w3 hbox hb; have n0_:=G (below_step (by repeat (first | (with_reducible first | exact HB.out | apply below_alloc | apply pw_below_drewN | apply below_drew1) | exact HB.out)) hb); have n1_:=G (hbox); have n2_:=G ((by rw [hg]; exact (below_size (by repeat (first | (with_reducible first | exact HB.out | apply below_alloc | apply pw_below_drewN | apply below_drew1) | exact HB.out))) : w.heap.size ≤ gb211)); have n3_:=G ((by rw [hg]; exact (below_size (by repeat (first | (with_reducible first | exact HB.out | apply below_alloc | apply pw_below_drewN | apply below_drew1) | exact HB.out))) : w.heap.size ≤ gb211)); clear HB; have HB:=n0_; have BK211:=n1_; have GW211:=n2_; have GE211:=n3_; clear n0_ n1_ n2_ n3_; clear hb hbox hg))
 go_loopg [5,6] k (fun kq v5 v6 w' => ∃ (x5_1 : Int) (x6_1 : Int),v5 = .int .i64 x5_1 ∧ v6 = .int .i64 x6_1 ∧ Aside0 (spec_l28Day.l0 kq l1 x5_1 x6_1 l0_0 a0_1 a0_2 = some r) ∧ Aside0 (kq ≤ k) ∧ Aside0 (w'.heap[gb211]? = some (.cells #[(.slice A0_0 l0_0.length c0_0),.int .i64 a0_1,.int .i64 a0_2] 25 (0,0))) ∧ Aside0 (Below w.heap.size w w'))
 case atStart => exact ⟨(0),(0),(by first | rfl | (simp; done) | (simp [*]; done)),(by first | rfl | (simp; done) | (simp [*]; done)),H',⟨Nat.le_refl _⟩,⟨by (with_reducible repeat (first | refine blk_drewN ?_ _ | refine blk_drew ?_ | refine blk_alloc ?_ _)); exact BK211.out⟩,⟨by repeat (first | (with_reducible first | exact HB.out | apply below_alloc | apply pw_below_drewN | apply below_drew1 | refine below_set ?_ GE211.out) | exact HB.out)⟩⟩
 case round =>
  clear H'
  try clear c1
  try clear p2
  obtain ⟨x5_1,x6_1,rfl,rfl,HA,HK1,BK211,HB⟩:=hrel;cases gk with
  | zero => exact absurd HA.out (by simp [spec_l28Day.l0])
  | succ k1 =>
   have H:=HA.out;clear HA;simp only [spec_l28Day.l0] at H
   by_cases c4 : x6_1 < (l1.length : Int)
   case pos =>
    rw [if_pos c4] at H;have c4b0 : decide (x6_1 < (l1.length : Int)) = true:=decide_eq_true c4;clear c4
    by_cases c5 : 0 ≤ x6_1
    case neg =>
     rw [if_neg c5] at H;exact absurd H (by simp)
    rw [if_pos c5] at H;have c5b0 : decide (0 ≤ x6_1) = true:=decide_eq_true c5;clear c5;have H':=G H;clear H;have p212 : 0 ≤ (x6_1 : Int):=of_decide_eq_true (by first | (with_reducible assumption) | assumption);have q212 : x6_1 < (l1.length : Int):=of_decide_eq_true (by first | (with_reducible assumption) | assumption);obtain ⟨ad212,e212,hx212_0⟩:=Kd.at_int HR1.out x6_1 p212 q212;cases e212;replace hx212_0:=(HB.out.cell (World.block_lt_of_cell? w _ hx212_0)).trans hx212_0;replace p212:=eq_true p212;replace q212:=eq_true q212
    go_wp2
    go_roundg k1
    case measure => have:=HK1.out; omega
    case rel => exact ⟨(wrap64 (x5_1 + (rd l1 x6_1))),(wrap64 (x6_1 + 1)),(by first | rfl | (simp; done) | (simp [*]; done)),(by first | rfl | (simp; done) | (simp [*]; done)),H',⟨by have:=HK1.out; omega⟩,⟨by (with_reducible repeat (first | refine blk_drewN ?_ _ | refine blk_drew ?_ | refine blk_alloc ?_ _)); exact BK211.out⟩,⟨by repeat (first | (with_reducible first | exact HB.out | apply below_alloc | apply pw_below_drewN | apply below_drew1 | refine below_set ?_ GE211.out) | exact HB.out)⟩⟩
   rw [if_neg c4] at H;have c4b0 : decide (x6_1 < (l1.length : Int)) = false:=decide_eq_false c4;clear c4
   by_cases c6 : x5_1 > a0_1
   case pos =>
    rw [if_pos c6] at H;have c6b0 : decide (a0_1 < x5_1) = true:=decide_eq_true c6;clear c6;obtain rfl:=Option.some.inj H;have hcz7_0 : wr.cell? ⟨gb211,0,none⟩ = some (.slice A0_0 l0_0.length c0_0):=(blk_cell BK211.out 0).trans rfl;have hcz7_1 : wr.cell? ⟨gb211,1,none⟩ = some (.int .i64 a0_1):=(blk_cell BK211.out 1).trans rfl;have hcz7_2 : wr.cell? ⟨gb211,2,none⟩ = some (.int .i64 a0_2):=(blk_cell BK211.out 2).trans rfl;have hfz7_0:=blk_frozen BK211.out 0;have hfz7_1:=blk_frozen BK211.out 1;have hfz7_2:=blk_frozen BK211.out 2
    go_wp2
    go_ret;exact ⟨by first | rfl | (simp [errW_none,errW_some] <;> rfl) | (simp [*,errW_none,errW_some] <;> rfl),by repeat (first | (with_reducible first | exact HB.out | apply below_alloc | apply pw_below_drewN | apply below_drew1 | refine below_set ?_ GE211.out) | exact HB.out)⟩
   rw [if_neg c6] at H;have c6b0 : decide (a0_1 < x5_1) = false:=decide_eq_false c6;clear c6;obtain rfl:=Option.some.inj H;have hcz8_0 : wr.cell? ⟨gb211,0,none⟩ = some (.slice A0_0 l0_0.length c0_0):=(blk_cell BK211.out 0).trans rfl;have hcz8_1 : wr.cell? ⟨gb211,1,none⟩ = some (.int .i64 a0_1):=(blk_cell BK211.out 1).trans rfl;have hcz8_2 : wr.cell? ⟨gb211,2,none⟩ = some (.int .i64 a0_2):=(blk_cell BK211.out 2).trans rfl;have hfz8_0:=blk_frozen BK211.out 0;have hfz8_1:=blk_frozen BK211.out 1;have hfz8_2:=blk_frozen BK211.out 2
   go_wp2
   go_ret;exact ⟨by first | rfl | (simp [errW_none,errW_some] <;> rfl) | (simp [*,errW_none,errW_some] <;> rfl),by repeat (first | (with_reducible first | exact HB.out | apply below_alloc | apply pw_below_drewN | apply below_drew1 | refine below_set ?_ GE211.out) | exact HB.out)⟩
mutual
def spec_FareWeek.j0 : Nat → List (List Int) → Int → Bool → List Int → Int → Int → Option (Int)
 | 0,_,_,_,_,_,_ => none
 | k + 1,x1,x5,x14,x214000,x214001,x214002 => if x14 = true then (some (-1)) else (spec_FareWeek.l0 k x1 x5 0 x214000 x214001 x214002)
def spec_FareWeek.l0 : Nat → List (List Int) → Int → Int → List Int → Int → Int → Option (Int)
 | 0,_,_,_,_,_,_ => none
 | k + 1,x1,x5,x6,x214000,x214001,x214002 => if x6 < (x1.length : Int) then (if 0 ≤ x6 then ((spec_l28Rides.f k (rd_L2 x1 x6)).bind fun t216 => (if t216 = true then ((spec_l28Day.f k x214000 x214001 x214002 (rd_L2 x1 x6)).bind fun t218 => (spec_FareWeek.l0 k x1 (wrap64 (x5 + t218)) (wrap64 (x6 + 1)) x214000 x214001 x214002)) else (some (-1)))) else (none)) else (if x5 > x214002 then (some x214002) else (some x5))
end
def spec_FareWeek.f (k : Nat) (l0_0 : List Int) (a0_1 : Int) (a0_2 : Int) (l1 : List (List Int)) : Option (Int):=(spec_l28Ok.f k l0_0 a0_1 a0_2).bind fun t214 => (if t214 = true then (spec_FareWeek.j0 k l1 0 (decide ((l1.length : Int) > 7)) l0_0 a0_1 a0_2) else (spec_FareWeek.j0 k l1 0 true l0_0 a0_1 a0_2))
theorem spec_FareWeek.mono_l : ∀ k,(∀ y0 y1 y2 y3 y4 y5,LeO (spec_FareWeek.j0 k y0 y1 y2 y3 y4 y5) (spec_FareWeek.j0 (k + 1) y0 y1 y2 y3 y4 y5)) ∧ (∀ y0 y1 y2 y3 y4 y5,LeO (spec_FareWeek.l0 k y0 y1 y2 y3 y4 y5) (spec_FareWeek.l0 (k + 1) y0 y1 y2 y3 y4 y5))
 | 0 => ⟨fun _ _ _ _ _ _ r h => by simp [spec_FareWeek.j0] at h,fun _ _ _ _ _ _ r h => by simp [spec_FareWeek.l0] at h⟩
 | k + 1 => by
  obtain ⟨ih0,ih1⟩:=spec_FareWeek.mono_l k;refine ⟨?_,?_⟩
  ·intro y0 y1 y2 y3 y4 y5
   unfold spec_FareWeek.j0
   repeat' first
   | (with_reducible exact ih0 _ _ _ _ _ _)
   | (with_reducible exact ih1 _ _ _ _ _ _)
   | (with_reducible exact spec_l28Day.mono _ _ _ _ _)
   | (with_reducible exact spec_l28Ok.mono _ _ _ _)
   | (with_reducible exact spec_l28Rides.mono _ _)
   | (with_reducible exact LeO.refl _)
   | (with_reducible exact LeO.none _)
   | (with_reducible refine LeO.ite ?_ ?_)
   | (with_reducible refine LeO.bind ?_ (fun _ => ?_))
   | exact ih0 _ _ _ _ _ _
   | exact ih1 _ _ _ _ _ _
   | exact spec_l28Day.mono _ _ _ _ _
   | exact spec_l28Ok.mono _ _ _ _
   | exact spec_l28Rides.mono _ _
   | exact LeO.none _
   | refine LeO.ite ?_ ?_
   | refine LeO.bind ?_ (fun _ => ?_)
  ·intro y0 y1 y2 y3 y4 y5
   unfold spec_FareWeek.l0
   repeat' first
   | (with_reducible exact ih0 _ _ _ _ _ _)
   | (with_reducible exact ih1 _ _ _ _ _ _)
   | (with_reducible exact spec_l28Day.mono _ _ _ _ _)
   | (with_reducible exact spec_l28Ok.mono _ _ _ _)
   | (with_reducible exact spec_l28Rides.mono _ _)
   | (with_reducible exact LeO.refl _)
   | (with_reducible exact LeO.none _)
   | (with_reducible refine LeO.ite ?_ ?_)
   | (with_reducible refine LeO.bind ?_ (fun _ => ?_))
   | exact ih0 _ _ _ _ _ _
   | exact ih1 _ _ _ _ _ _
   | exact spec_l28Day.mono _ _ _ _ _
   | exact spec_l28Ok.mono _ _ _ _
   | exact spec_l28Rides.mono _ _
   | exact LeO.none _
   | refine LeO.ite ?_ ?_
   | refine LeO.bind ?_ (fun _ => ?_)
theorem spec_FareWeek.mono : ∀ a0 a1 a2 a3 k,LeO (spec_FareWeek.f k a0 a1 a2 a3) (spec_FareWeek.f (k + 1) a0 a1 a2 a3):=by
 intro a0 a1 a2 a3 k;obtain ⟨ih0,ih1⟩:=spec_FareWeek.mono_l k
 unfold spec_FareWeek.f
 repeat' first
   | (with_reducible exact ih0 _ _ _ _ _ _)
   | (with_reducible exact ih1 _ _ _ _ _ _)
   | (with_reducible exact spec_l28Day.mono _ _ _ _ _)
   | (with_reducible exact spec_l28Ok.mono _ _ _ _)
   | (with_reducible exact spec_l28Rides.mono _ _)
   | (with_reducible exact LeO.refl _)
   | (with_reducible exact LeO.none _)
   | (with_reducible refine LeO.ite ?_ ?_)
   | (with_reducible refine LeO.bind ?_ (fun _ => ?_))
   | exact ih0 _ _ _ _ _ _
   | exact ih1 _ _ _ _ _ _
   | exact spec_l28Day.mono _ _ _ _ _
   | exact spec_l28Ok.mono _ _ _ _
   | exact spec_l28Rides.mono _ _
   | exact LeO.none _
   | refine LeO.ite ?_ ?_
   | refine LeO.bind ?_ (fun _ => ?_)
def spec_FareWeek.T9 : Bool × List (List Nat × List Nat):=(true,[([],[]),([],[]),([],[]),([],[]),([2,3],[2,3]),([4],[4]),([1,5],[1,5]),([0,6],[0,6]),([7,6,0,1,2,3,4,5,6,7],[0,7])])
def spec_FareWeek.B9 : List Nat:=[0,0,0,0,12,28,62,127,255]
theorem spec_FareWeek.tab9 : rtab .any (opsOf Try.f18 9) = spec_FareWeek.T9:=by kernel_rfl
theorem spec_FareWeek.bits9 : waitsOk spec_FareWeek.T9.2 spec_FareWeek.B9 = true:=by kernel_rfl
set_option maxHeartbeats 8000000 in
set_option maxRecDepth 100000 in
theorem spec_FareWeek.calls (k : Nat) (A0_0 : Option Addr) (c0_0 : Nat) (l0_0 : List Int) (a0_1 : Int) (a0_2 : Int) (A1 : Option Addr) (c1 : Nat) (l1 : List (List Int)) (r : Int) (w : World) (hr0_0 : Kd.C (Kd.int .i64) w A0_0 l0_0.length l0_0) (hc0_0 : l0_0.length ≤ c0_0) (hr1 : Kd.C (Kd.slice 3 (Kd.int .i64)) w A1 l1.length l1) (hc1 : l1.length ≤ c1) (h : spec_FareWeek.f k l0_0 a0_1 a0_2 l1 = some r) :
  Calls Try.prog 18 #[.agg #[.slice A0_0 l0_0.length c0_0,.int .i64 a0_1,.int .i64 a0_2],.slice A1 l1.length c1] w fun e w' => e = .returned (.int .i64 r) ∧ Below w.heap.size w w':=by
 have hu25:=Try.underlying25;have HR0_0:=G hr0_0;have HC0_0:=G hc0_0;clear hr0_0 hc0_0;have HR1:=G hr1;have HC1:=G hc1;clear hr1 hc1;have HB:=G (Below.refl w.heap.size w);have H : ((spec_l28Ok.f k l0_0 a0_1 a0_2).bind fun t214 => (if t214 = true then (spec_FareWeek.j0 k l1 0 (decide ((l1.length : Int) > 7)) l0_0 a0_1 a0_2) else (spec_FareWeek.j0 k l1 0 true l0_0 a0_1 a0_2))) = some r:=h;clear h;have HC3:=G H;clear H
 go_enter Try.func18,Try.ntmps18
 go_upto_region 2 with (first | ((with_reducible refine gate_dst (N:=2) rfl ?_); (try (refine gate_guard (by rfl) ?_; dsimp only)); refine box_event ?hg (N:=2) ?hd (cs:=#[.slice A0_0 l0_0.length c0_0,.int .i64 a0_1,.int .i64 a0_2]) (t:=25) ?hr ?_; (case hd => rfl); (case hg => rfl); (case hr => first | (go_simp; done) | (go_simp; rfl)); intro gb213 hg w4 hbox hb; have n0_:=G (below_step (by repeat (first | (with_reducible first | exact HB.out | apply below_alloc | apply pw_below_drewN | apply below_drew1) | exact HB.out)) hb); have n1_:=G (hbox); have n2_:=G ((by rw [hg]; exact (below_size (by repeat (first | (with_reducible first | exact HB.out | apply below_alloc | apply pw_below_drewN | apply below_drew1) | exact HB.out))) : w.heap.size ≤ gb213)); have n3_:=G ((by rw [hg]; exact (below_size (by repeat (first | (with_reducible first | exact HB.out | apply below_alloc | apply pw_below_drewN | apply below_drew1) | exact HB.out))) : w.heap.size ≤ gb213)); clear HB; have HB:=n0_; have BK213:=n1_; have GW213:=n2_; have GE213:=n3_; clear n0_ n1_ n2_ n3_; clear hb hbox hg))
 (try simp only [Act.put,U,O,I])
 go_cut [14] (fun v14 wc => ∃ (kq : Nat) (x14_2 : Bool),v14 = .bool x14_2 ∧ Aside0 (spec_FareWeek.j0 kq l1 0 x14_2 l0_0 a0_1 a0_2 = some r) ∧ Aside0 (kq ≤ k) ∧ Aside0 (wc.heap[gb213]? = some (.cells #[(.slice A0_0 l0_0.length c0_0),.int .i64 a0_1,.int .i64 a0_2] 25 (0,0))) ∧ Aside0 (Below w.heap.size w wc))
 case first =>
  have H:=HC3.out;clear HC3;replace H:=Option.bind_eq_some_iff.mp H;obtain ⟨t214,A50,H⟩:=H;replace H : (if t214 = true then (spec_FareWeek.j0 k l1 0 (decide ((l1.length : Int) > 7)) l0_0 a0_1 a0_2) else (spec_FareWeek.j0 k l1 0 true l0_0 a0_1 a0_2)) = some r:=H;have A5:=G A50;clear A50
  by_cases c6 : t214 = true
  case pos =>
   subst c6;have H1 : (spec_FareWeek.j0 k l1 0 (decide ((l1.length : Int) > 7)) l0_0 a0_1 a0_2) = some r:=by rw [if_pos rfl] at H; exact H
   clear H;have H:=H1;clear H1;have H':=G H;clear H;have hcz7_0 : w4.cell? ⟨gb213,0,none⟩ = some (.slice A0_0 l0_0.length c0_0):=(blk_cell BK213.out 0).trans rfl;have hcz7_1 : w4.cell? ⟨gb213,1,none⟩ = some (.int .i64 a0_1):=(blk_cell BK213.out 1).trans rfl;have hcz7_2 : w4.cell? ⟨gb213,2,none⟩ = some (.int .i64 a0_2):=(blk_cell BK213.out 2).trans rfl;have hfz7_0:=blk_frozen BK213.out 0;have hfz7_1:=blk_frozen BK213.out 1;have hfz7_2:=blk_frozen BK213.out 2
   go_wp2_with (first | ((with_reducible refine gate_callee (f:=66) rfl ?_); refine goesL_ (some 8) rfl rfl Try.func66 (by kernel_rfl) rfl #[.agg #[.slice A0_0 l0_0.length c0_0,.int .i64 a0_1,.int .i64 a0_2]] rfl (by (try simp only [List.map_toArray,List.map_cons,List.map_nil]); first | done | rfl | (simp only [List.length_drop,List.length_take]; rfl)) ?_; (with_reducible refine (spec_l28Ok.calls k _ _ l0_0 a0_1 a0_2 true _ ?side1 ?side2 A5.out).mono ?_); (case side1 => repeat (first | exact (Kd.C_below HR0_0.out HB.out) | (with_reducible refine Kd.C_alloc ?_ _) | (with_reducible refine Kd.C_drewN ?_ _) | (with_reducible refine Kd.C_drew ?_))); (case side2 => exact HC0_0.out); rintro e w8 ⟨rfl,hb⟩; refine ⟨_,rfl,?_⟩; have n0_:=G (blk_below (g:=gb213) (o:=.cells #[.slice A0_0 l0_0.length c0_0,.int .i64 a0_1,.int .i64 a0_2] 25 (0,0)) (by (with_reducible repeat (first | refine blk_drewN ?_ _ | refine blk_drew ?_ | refine blk_alloc ?_ _)); exact BK213.out) hb); have n1_:=G (below_step (by repeat (first | (with_reducible first | exact HB.out | apply below_alloc | apply pw_below_drewN | apply below_drew1 | refine below_set ?_ GE213.out) | exact HB.out)) hb); clear BK213; clear HB; have BK213:=n0_; have HB:=n1_; clear n0_ n1_; (try clear hb); (try clear hb2); (try clear hk); (try clear hi)))
   go_meet
   case rel => exact ⟨_,(decide ((l1.length : Int) > 7)),(by first | rfl | (simp; done) | (simp [*]; done)),H',⟨by first | omega | exact Nat.le_refl _⟩,⟨by (with_reducible repeat (first | refine blk_drewN ?_ _ | refine blk_drew ?_ | refine blk_alloc ?_ _)); exact BK213.out⟩,⟨by repeat (first | (with_reducible first | exact HB.out | apply below_alloc | apply pw_below_drewN | apply below_drew1 | refine below_set ?_ GE213.out) | exact HB.out)⟩⟩
  replace c6:=Bool.eq_false_iff.mpr c6;subst c6;have H1 : (spec_FareWeek.j0 k l1 0 true l0_0 a0_1 a0_2) = some r:=by rw [if_neg (show ¬ (false = true) by decide)] at H; exact H
  clear H;have H:=H1;clear H1;have H':=G H;clear H;have hcz9_0 : w4.cell? ⟨gb213,0,none⟩ = some (.slice A0_0 l0_0.length c0_0):=(blk_cell BK213.out 0).trans rfl;have hcz9_1 : w4.cell? ⟨gb213,1,none⟩ = some (.int .i64 a0_1):=(blk_cell BK213.out 1).trans rfl;have hcz9_2 : w4.cell? ⟨gb213,2,none⟩ = some (.int .i64 a0_2):=(blk_cell BK213.out 2).trans rfl;have hfz9_0:=blk_frozen BK213.out 0;have hfz9_1:=blk_frozen BK213.out 1;have hfz9_2:=blk_frozen BK213.out 2
  go_wp2_with (first | ((with_reducible refine gate_callee (f:=66) rfl ?_); refine goesL_ (some 8) rfl rfl Try.func66 (by kernel_rfl) rfl #[.agg #[.slice A0_0 l0_0.length c0_0,.int .i64 a0_1,.int .i64 a0_2]] rfl (by (try simp only [List.map_toArray,List.map_cons,List.map_nil]); first | done | rfl | (simp only [List.length_drop,List.length_take]; rfl)) ?_; (with_reducible refine (spec_l28Ok.calls k _ _ l0_0 a0_1 a0_2 false _ ?side1 ?side2 A5.out).mono ?_); (case side1 => repeat (first | exact (Kd.C_below HR0_0.out HB.out) | (with_reducible refine Kd.C_alloc ?_ _) | (with_reducible refine Kd.C_drewN ?_ _) | (with_reducible refine Kd.C_drew ?_))); (case side2 => exact HC0_0.out); rintro e w10 ⟨rfl,hb⟩; refine ⟨_,rfl,?_⟩; have n0_:=G (blk_below (g:=gb213) (o:=.cells #[.slice A0_0 l0_0.length c0_0,.int .i64 a0_1,.int .i64 a0_2] 25 (0,0)) (by (with_reducible repeat (first | refine blk_drewN ?_ _ | refine blk_drew ?_ | refine blk_alloc ?_ _)); exact BK213.out) hb); have n1_:=G (below_step (by repeat (first | (with_reducible first | exact HB.out | apply below_alloc | apply pw_below_drewN | apply below_drew1 | refine below_set ?_ GE213.out) | exact HB.out)) hb); clear BK213; clear HB; have BK213:=n0_; have HB:=n1_; clear n0_ n1_; (try clear hb); (try clear hb2); (try clear hk); (try clear hi)))
  go_meet
  case rel => exact ⟨_,(true),(by first | rfl | (simp; done) | (simp [*]; done)),H',⟨by first | omega | exact Nat.le_refl _⟩,⟨by (with_reducible repeat (first | refine blk_drewN ?_ _ | refine blk_drew ?_ | refine blk_alloc ?_ _)); exact BK213.out⟩,⟨by repeat (first | (with_reducible first | exact HB.out | apply below_alloc | apply pw_below_drewN | apply below_drew1 | refine below_set ?_ GE213.out) | exact HB.out)⟩⟩
 case rest =>
  clear HC3
  try clear c1
  try clear p2
  try clear c6
  try clear hcz7_0
  try clear hcz7_1
  try clear hcz7_2
  try clear hcz9_0
  try clear hcz9_1
  try clear hcz9_2
  try clear hfz7_0
  try clear hfz7_1
  try clear hfz7_2
  try clear hfz9_0
  try clear hfz9_1
  try clear hfz9_2
  obtain ⟨kq,x14_2,rfl,HA,HJ2,BK213,HB⟩:=hcut;cases kq with
  | zero => exact absurd HA.out (by simp [spec_FareWeek.j0])
  | succ kj2 =>
   have H:=HA.out;clear HA;simp only [spec_FareWeek.j0] at H
   by_cases c11 : x14_2 = true
   case pos =>
    subst c11;have H1 : (some (-1)) = some r:=by rw [if_pos rfl] at H; exact H
    clear H;have H:=H1;clear H1;obtain rfl:=Option.some.inj H
    go_wp2
    go_ret;exact ⟨by first | rfl | (simp [errW_none,errW_some] <;> rfl) | (simp [*,errW_none,errW_some] <;> rfl),by repeat (first | (with_reducible first | exact HB.out | apply below_alloc | apply pw_below_drewN | apply below_drew1 | refine below_set ?_ GE213.out) | exact HB.out)⟩
   replace c11:=Bool.eq_false_iff.mpr c11;subst c11;have H1 : (spec_FareWeek.l0 kj2 l1 0 0 l0_0 a0_1 a0_2) = some r:=by rw [if_neg (show ¬ (false = true) by decide)] at H; exact H
   clear H;have H:=H1;clear H1;have H':=G H;clear H
   go_wp2
   go_loopg [5,6] kj2 (fun kq v5 v6 w' => ∃ (x5_2 : Int) (x6_2 : Int),v5 = .int .i64 x5_2 ∧ v6 = .int .i64 x6_2 ∧ Aside0 (spec_FareWeek.l0 kq l1 x5_2 x6_2 l0_0 a0_1 a0_2 = some r) ∧ Aside0 (kq ≤ kj2) ∧ Aside0 (w'.heap[gb213]? = some (.cells #[(.slice A0_0 l0_0.length c0_0),.int .i64 a0_1,.int .i64 a0_2] 25 (0,0))) ∧ Aside0 (Below w.heap.size w w'))
   case atStart => exact ⟨(0),(0),(by first | rfl | (simp; done) | (simp [*]; done)),(by first | rfl | (simp; done) | (simp [*]; done)),H',⟨Nat.le_refl _⟩,⟨by (with_reducible repeat (first | refine blk_drewN ?_ _ | refine blk_drew ?_ | refine blk_alloc ?_ _)); exact BK213.out⟩,⟨by repeat (first | (with_reducible first | exact HB.out | apply below_alloc | apply pw_below_drewN | apply below_drew1 | refine below_set ?_ GE213.out) | exact HB.out)⟩⟩
   case round =>
    clear H'
    try clear c1
    try clear p2
    try clear c6
    try clear c11
    try clear hcz7_0
    try clear hcz7_1
    try clear hcz7_2
    try clear hcz9_0
    try clear hcz9_1
    try clear hcz9_2
    try clear hfz7_0
    try clear hfz7_1
    try clear hfz7_2
    try clear hfz9_0
    try clear hfz9_1
    try clear hfz9_2
    try clear p2
    obtain ⟨x5_2,x6_2,rfl,rfl,HA,HK2,BK213,HB⟩:=hrel;cases gk with
    | zero => exact absurd HA.out (by simp [spec_FareWeek.l0])
    | succ k2 =>
     have H:=HA.out;clear HA;simp only [spec_FareWeek.l0] at H
     by_cases c12 : x6_2 < (l1.length : Int)
     case neg =>
      rw [if_neg c12] at H;have c12b0 : decide (x6_2 < (l1.length : Int)) = false:=decide_eq_false c12;clear c12
      by_cases c19 : x5_2 > a0_2
      case pos =>
       rw [if_pos c19] at H;have c19b0 : decide (a0_2 < x5_2) = true:=decide_eq_true c19;clear c19;obtain rfl:=Option.some.inj H;have hcz20_0 : wr.cell? ⟨gb213,0,none⟩ = some (.slice A0_0 l0_0.length c0_0):=(blk_cell BK213.out 0).trans rfl;have hcz20_1 : wr.cell? ⟨gb213,1,none⟩ = some (.int .i64 a0_1):=(blk_cell BK213.out 1).trans rfl;have hcz20_2 : wr.cell? ⟨gb213,2,none⟩ = some (.int .i64 a0_2):=(blk_cell BK213.out 2).trans rfl;have hfz20_0:=blk_frozen BK213.out 0;have hfz20_1:=blk_frozen BK213.out 1;have hfz20_2:=blk_frozen BK213.out 2
       go_wp2
       go_ret;exact ⟨by first | rfl | (simp [errW_none,errW_some] <;> rfl) | (simp [*,errW_none,errW_some] <;> rfl),by repeat (first | (with_reducible first | exact HB.out | apply below_alloc | apply pw_below_drewN | apply below_drew1 | refine below_set ?_ GE213.out) | exact HB.out)⟩
      rw [if_neg c19] at H;have c19b0 : decide (a0_2 < x5_2) = false:=decide_eq_false c19;clear c19;obtain rfl:=Option.some.inj H;have hcz21_0 : wr.cell? ⟨gb213,0,none⟩ = some (.slice A0_0 l0_0.length c0_0):=(blk_cell BK213.out 0).trans rfl;have hcz21_1 : wr.cell? ⟨gb213,1,none⟩ = some (.int .i64 a0_1):=(blk_cell BK213.out 1).trans rfl;have hcz21_2 : wr.cell? ⟨gb213,2,none⟩ = some (.int .i64 a0_2):=(blk_cell BK213.out 2).trans rfl;have hfz21_0:=blk_frozen BK213.out 0;have hfz21_1:=blk_frozen BK213.out 1;have hfz21_2:=blk_frozen BK213.out 2
      go_wp2
      go_ret;exact ⟨by first | rfl | (simp [errW_none,errW_some] <;> rfl) | (simp [*,errW_none,errW_some] <;> rfl),by repeat (first | (with_reducible first | exact HB.out | apply below_alloc | apply pw_below_drewN | apply below_drew1 | refine below_set ?_ GE213.out) | exact HB.out)⟩
     rw [if_pos c12] at H;have c12b0 : decide (x6_2 < (l1.length : Int)) = true:=decide_eq_true c12;clear c12
     by_cases c13 : 0 ≤ x6_2
     case neg =>
      rw [if_neg c13] at H;exact absurd H (by simp)
     rw [if_pos c13] at H;have c13b0 : decide (0 ≤ x6_2) = true:=decide_eq_true c13;clear c13;replace H:=Option.bind_eq_some_iff.mp H;obtain ⟨t216,A140,H⟩:=H;replace H : (if t216 = true then ((spec_l28Day.f k2 l0_0 a0_1 a0_2 (rd_L2 l1 x6_2)).bind fun t218 => (spec_FareWeek.l0 k2 l1 (wrap64 (x5_2 + t218)) (wrap64 (x6_2 + 1)) l0_0 a0_1 a0_2)) else (some (-1))) = some r:=H;have A14:=G A140;clear A140
     by_cases c15 : t216 = true
     case neg =>
      replace c15:=Bool.eq_false_iff.mpr c15;subst c15;have H1 : (some (-1)) = some r:=by rw [if_neg (show ¬ (false = true) by decide)] at H; exact H
      clear H;have H:=H1;clear H1;obtain rfl:=Option.some.inj H;have p215 : 0 ≤ (x6_2 : Int):=of_decide_eq_true (by first | (with_reducible assumption) | assumption);have q215 : x6_2 < (l1.length : Int):=of_decide_eq_true (by first | (with_reducible assumption) | assumption);obtain ⟨ad215,A215_0,c215_0,e215,hx215_0,hl215_0,hi215_0⟩:=at_L2 HR1.out x6_2 p215 q215;cases e215;replace hx215_0:=(HB.out.cell (World.block_lt_of_cell? w _ hx215_0)).trans hx215_0;have HR215_0:=G hi215_0;have HC215_0:=G hl215_0;clear hi215_0 hl215_0;replace p215:=eq_true p215;replace q215:=eq_true q215
      go_wp2_with (first | ((with_reducible refine gate_callee (f:=67) rfl ?_); refine goesL_ (some 25) rfl rfl Try.func67 (by kernel_rfl) rfl #[.slice A215_0 (rd_L2 l1 x6_2).length c215_0] rfl (by (try simp only [List.map_toArray,List.map_cons,List.map_nil]); first | done | rfl | (simp only [List.length_drop,List.length_take]; rfl)) ?_; (with_reducible refine (spec_l28Rides.calls k2 _ _ (rd_L2 l1 x6_2) false _ ?side1 ?side2 A14.out).mono ?_); (case side1 => repeat (first | exact (Kd.C_below HR215_0.out HB.out) | (with_reducible refine Kd.C_alloc ?_ _) | (with_reducible refine Kd.C_drewN ?_ _) | (with_reducible refine Kd.C_drew ?_))); (case side2 => exact HC215_0.out); rintro e w' ⟨rfl,⟨nd,rfl⟩⟩; refine ⟨_,rfl,?_⟩))
      go_ret;exact ⟨by first | rfl | (simp [errW_none,errW_some] <;> rfl) | (simp [*,errW_none,errW_some] <;> rfl),by repeat (first | (with_reducible first | exact HB.out | apply below_alloc | apply pw_below_drewN | apply below_drew1 | refine below_set ?_ GE213.out) | exact HB.out)⟩
     subst c15;have H1 : ((spec_l28Day.f k2 l0_0 a0_1 a0_2 (rd_L2 l1 x6_2)).bind fun t218 => (spec_FareWeek.l0 k2 l1 (wrap64 (x5_2 + t218)) (wrap64 (x6_2 + 1)) l0_0 a0_1 a0_2)) = some r:=by rw [if_pos rfl] at H; exact H
     clear H;have H:=H1;clear H1;replace H:=Option.bind_eq_some_iff.mp H;obtain ⟨t218,A160,H⟩:=H;replace H : (spec_FareWeek.l0 k2 l1 (wrap64 (x5_2 + t218)) (wrap64 (x6_2 + 1)) l0_0 a0_1 a0_2) = some r:=H;have A16:=G A160;clear A160;have H':=G H;clear H;have p215 : 0 ≤ (x6_2 : Int):=of_decide_eq_true (by first | (with_reducible assumption) | assumption);have q215 : x6_2 < (l1.length : Int):=of_decide_eq_true (by first | (with_reducible assumption) | assumption);obtain ⟨ad215,A215_0,c215_0,e215,hx215_0,hl215_0,hi215_0⟩:=at_L2 HR1.out x6_2 p215 q215;cases e215;replace hx215_0:=(HB.out.cell (World.block_lt_of_cell? w _ hx215_0)).trans hx215_0;have HR215_0:=G hi215_0;have HC215_0:=G hl215_0;clear hi215_0 hl215_0;replace p215:=eq_true p215;replace q215:=eq_true q215
     try go_wp2_with (first | ((with_reducible refine gate_callee (f:=67) rfl ?_); refine goesL_ (some 25) rfl rfl Try.func67 (by kernel_rfl) rfl #[.slice A215_0 (rd_L2 l1 x6_2).length c215_0] rfl (by (try simp only [List.map_toArray,List.map_cons,List.map_nil]); first | done | rfl | (simp only [List.length_drop,List.length_take]; rfl)) ?_; (with_reducible refine (spec_l28Rides.calls k2 _ _ (rd_L2 l1 x6_2) true _ ?side1 ?side2 A14.out).mono ?_); (case side1 => repeat (first | exact (Kd.C_below HR215_0.out HB.out) | (with_reducible refine Kd.C_alloc ?_ _) | (with_reducible refine Kd.C_drewN ?_ _) | (with_reducible refine Kd.C_drew ?_))); (case side2 => exact HC215_0.out); rintro e w' ⟨rfl,⟨nd,rfl⟩⟩; refine ⟨_,rfl,?_⟩))
     (try (rw [drewN_self wr]; generalize hq_ : World.drewN wr _ = wr; have n0_ : Aside0 (wr.heap[gb213]? = some (.cells #[.slice A0_0 l0_0.length c0_0,.int .i64 a0_1,.int .i64 a0_2] 25 (0,0))):=⟨by rw [← hq_]; exact (by (with_reducible repeat (first | refine blk_drewN ?_ _ | refine blk_drew ?_ | refine blk_alloc ?_ _)); exact BK213.out)⟩; have n1_ : Aside0 (Below w.heap.size w wr):=⟨by rw [← hq_]; exact (by repeat (first | (with_reducible first | exact HB.out | apply below_alloc | apply pw_below_drewN | apply below_drew1 | refine below_set ?_ GE213.out) | exact HB.out))⟩; clear BK213 HB hq_; have BK213:=n0_; have HB:=n1_; clear n0_ n1_))
     have n0_:=G (blk_drew BK213.out);have n1_:=G (below_drew1 HB.out);clear BK213;clear HB;have BK213:=n0_;have HB:=n1_;clear n0_ n1_;have p217 : 0 ≤ (x6_2 : Int):=of_decide_eq_true (by first | (with_reducible assumption) | assumption);have q217 : x6_2 < (l1.length : Int):=of_decide_eq_true (by first | (with_reducible assumption) | assumption);obtain ⟨ad217,A217_0,c217_0,e217,hx217_0,hl217_0,hi217_0⟩:=at_L2 HR1.out x6_2 p217 q217;have hw217_0:=hx217_0;obtain rfl : ad215 = ad217:=(by injection e217)
     replace hx217_0:=(HB.out.cell (World.block_lt_of_cell? w _ hx217_0)).trans hx217_0;have HR217_0:=G hi217_0;have HC217_0:=G hl217_0;clear hi217_0 hl217_0;replace p217:=eq_true p217;replace q217:=eq_true q217;refine start_ (n:=9) (S:=fun w' => w'.cell? ⟨gb213,0,none⟩ = some (.slice A0_0 l0_0.length c0_0) ∧ w'.cell? ⟨gb213,1,none⟩ = some (.int .i64 a0_1) ∧ w'.cell? ⟨gb213,2,none⟩ = some (.int .i64 a0_2) ∧ w'.cell? (ad215.add (x6_2).toNat) = some (.slice A217_0 (rd_L2 l1 x6_2).length c217_0)) (ds:=[]) #[false,false,false,false,false,false,false,false,false] (by kernel_rfl) rfl rfl ⟨(blk_cell BK213.out 0).trans rfl,(blk_cell BK213.out 1).trans rfl,(blk_cell BK213.out 2).trans rfl,((HB.out.cell (World.block_lt_of_cell? w _ hw217_0)).trans hw217_0)⟩ (fun hHeld => ?_); refine with_tabW spec_FareWeek.tab9 spec_FareWeek.bits9 (fun HT_ HW_ => ?_);generalize wr.drew = w17 at BK213 HB HR217_0 hx217_0 hHeld ⊢;refine pure_ (i:=0) (N:=some 27) (v:=?_) (a':=?_) #[true,false,false,false,false,false,false,false,false] rfl rfl (any_of HT_.out (by kernel_rfl)) (fun _ _ _ h => h) (Or.inl ⟨by rfl,?_⟩) ?_ ?_;rotate_left
     ·intro w';go_simp;with_reducible rfl
     rotate_left
     ·simp only [Act.put,U,O,I,i64_w,i32_w];rfl
     refine pure_ (i:=2) (N:=some 29) (v:=?_) (a':=?_) #[true,false,true,false,false,false,false,false,false] rfl rfl (any_of HT_.out (by kernel_rfl)) (fun _ _ _ h => h) (Or.inl ⟨by rfl,?_⟩) ?_ ?_;rotate_left
     ·intro w';go_simp;with_reducible rfl
     rotate_left
     ·simp only [Act.put,U,O,I,i64_w,i32_w];rfl
     refine pure_ (i:=3) (N:=some 30) (v:=?_) (a':=?_) #[true,false,true,true,false,false,false,false,false] rfl rfl (any_of HT_.out (by kernel_rfl)) (fun _ _ _ h => h) (Or.inl ⟨by rfl,?_⟩) ?_ ?_;rotate_left
     ·intro w';go_simp;with_reducible rfl
     rotate_left
     ·simp only [Act.put,U,O,I,i64_w,i32_w];rfl
     refine pure_ (i:=4) (N:=some 31) (v:=?_) (a':=?_) #[true,false,true,true,true,false,false,false,false] rfl rfl (any_of HT_.out (by kernel_rfl)) (fun _ _ _ h => h) (Or.inl ⟨by rfl,?_⟩) ?_ ?_;rotate_left
     ·intro w';go_simp;with_reducible rfl
     rotate_left
     ·simp only [Act.put,U,O,I,i64_w,i32_w];rfl
     refine take_ (i:=1) (N:=some 28) (v:=?_) (a':=?_) #[true,true,true,true,true,false,false,false,false] rfl rfl (take_ofW HT_.out HW_.out (by kernel_rfl)) (fun _ _ _ h => h) (Or.inl ⟨by rfl,?_⟩) hHeld ?_ ?_;rotate_left
     ·rintro w' ⟨s0,s1,s2,s3⟩;go_simp;with_reducible rfl
     rotate_left
     ·simp only [Act.put,U,O,I,i64_w,i32_w];rfl
     refine take_ (i:=5) (N:=some 32) (v:=?_) (a':=?_) #[true,true,true,true,true,true,false,false,false] rfl rfl (take_ofW HT_.out HW_.out (by kernel_rfl)) (fun _ _ _ h => h) (Or.inl ⟨by rfl,?_⟩) hHeld ?_ ?_;rotate_left
     ·rintro w' ⟨s0,s1,s2,s3⟩;go_simp;with_reducible rfl
     rotate_left
     ·simp only [Act.put,U,O,I,i64_w,i32_w];rfl
     refine one_ (i:=6) (N:=some 33) #[true,true,true,true,true,true,true,false,false] rfl rfl (one_of HT_.out (by kernel_rfl)) (by decide) (fun K hK => ?_);refine goes_ Try.func68 (by kernel_rfl) rfl #[.agg #[.slice A0_0 l0_0.length c0_0,.int .i64 a0_1,.int .i64 a0_2],.slice A217_0 (rd_L2 l1 x6_2).length c217_0] (by rfl) rfl rfl (by (try simp only [List.map_toArray,List.map_cons,List.map_nil]); first | done | rfl | (simp only [List.length_drop,List.length_take]; rfl)) ?_;with_reducible refine (spec_l28Day.calls k2 _ _ l0_0 a0_1 a0_2 _ _ (rd_L2 l1 x6_2) t218 _ ?side1 ?side2 ?side3 ?side4 A16.out).mono ?_
     (case side1 => repeat (first | exact (Kd.C_below HR0_0.out HB.out) | (with_reducible refine Kd.C_alloc ?_ _) | (with_reducible refine Kd.C_drewN ?_ _) | (with_reducible refine Kd.C_drew ?_)))
     (case side2 => exact HC0_0.out)
     (case side3 => repeat (first | exact (Kd.C_below HR217_0.out HB.out) | (with_reducible refine Kd.C_alloc ?_ _) | (with_reducible refine Kd.C_drewN ?_ _) | (with_reducible refine Kd.C_drew ?_)))
     (case side4 => exact HC217_0.out)
     rintro e w18 ⟨rfl,hb⟩;refine ⟨_,rfl,?_⟩;have n0_:=G (blk_below (g:=gb213) (o:=.cells #[.slice A0_0 l0_0.length c0_0,.int .i64 a0_1,.int .i64 a0_2] 25 (0,0)) (by (with_reducible repeat (first | refine blk_drewN ?_ _ | refine blk_drew ?_ | refine blk_alloc ?_ _)); exact BK213.out) hb);have n1_:=G (below_step (by repeat (first | (with_reducible first | exact HB.out | apply below_alloc | apply pw_below_drewN | apply below_drew1 | refine below_set ?_ GE213.out) | exact HB.out)) hb);clear BK213;clear HB;have BK213:=n0_;have HB:=n1_;clear n0_ n1_
     (try clear hb)
     (try clear hb2)
     (try clear hk)
     (try clear hi)
     refine hK.out _ _ ⟨(blk_cell BK213.out 0).trans rfl,(blk_cell BK213.out 1).trans rfl,(blk_cell BK213.out 2).trans rfl,((HB.out.cell (World.block_lt_of_cell? w _ hw217_0)).trans hw217_0)⟩ (fun hHeld => ?_);clear hK K;refine norm_ (a':=?_) ?_ ?_;rotate_left
     ·show Act.put _ (some 33) _ = _
      simp only [Act.put,U,O,I,i64_w,i32_w];rfl
     refine pure_ (i:=7) (N:=some 34) (v:=?_) (a':=?_) #[true,true,true,true,true,true,true,true,false] rfl rfl (any_of HT_.out (by kernel_rfl)) (fun _ _ _ h => h) (Or.inl ⟨by rfl,?_⟩) ?_ ?_;rotate_left
     ·intro w';go_simp;with_reducible rfl
     rotate_left
     ·simp only [Act.put,U,O,I,i64_w,i32_w];rfl
     refine pure_ (i:=8) (N:=some 5) (v:=?_) (a':=?_) #[true,true,true,true,true,true,true,true,true] rfl rfl (any_of HT_.out (by kernel_rfl)) (fun _ _ _ h => h) (Or.inl ⟨by rfl,?_⟩) ?_ ?_;rotate_left
     ·intro w';go_simp;with_reducible rfl
     rotate_left
     ·simp only [Act.put,U,O,I,i64_w,i32_w];rfl
     refine done_ (done_of HT_.out (by kernel_rfl)) ?_
     try go_wp2
     go_roundg k2
     case measure => have:=HJ2.out; have:=HK2.out; omega
     case rel => exact ⟨(wrap64 (x5_2 + t218)),(wrap64 (x6_2 + 1)),(by first | rfl | (simp; done) | (simp [*]; done)),(by first | rfl | (simp; done) | (simp [*]; done)),H',⟨by have:=HJ2.out; have:=HK2.out; omega⟩,⟨by (with_reducible repeat (first | refine blk_drewN ?_ _ | refine blk_drew ?_ | refine blk_alloc ?_ _)); exact BK213.out⟩,⟨by repeat (first | (with_reducible first | exact HB.out | apply below_alloc | apply pw_below_drewN | apply below_drew1 | refine below_set ?_ GE213.out) | exact HB.out)⟩⟩
end Go.Proofs.Ytlhmljngjdfbpaa.Pr
end
