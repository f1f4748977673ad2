/- For the statement FnRingOrder of this seat: it is proved here, with no further conditions (part 5 of its texts: words, walks of the functions, the plain law, the row). -/
import Derived.Test.YtmabopomecdidaaKFnRingOrder3
section
namespace Go.Proofs.Ytmabopomecdidaa.Pr
open Go.RowKit Go.Proofs.YtmabopomecdidaaW.PrintWords Go.Proofs.YtmabopomecdidaaW.PrintLast Go.Proofs.YtmabopomecdidaaW.PrintMore
attribute [local go_sem] max2_int min2_int max_two min_two max_three min_three max_four min_four
set_option linter.unusedVariables false
set_option linter.unusedSimpArgs false
def spec_l30AnyNet.f (k : Nat) (s0_0 : List Int) (s0_1 : Int) : Option (Int × (List (S45)) × Int) := (spec_l30Net.f k s0_0 s0_1).bind fun bt239 => (if (bt239.2.1.length : Int) > 0 then ((spec_l30Rd_pick.f k s0_0 bt239.2.2 (bt239.2.1.length : Int)).bind fun bt245 => ((spec_l30Rd_pick.f k s0_0 bt245.2 16).bind fun bt247 => (if bt247.1 = 0 then (if 0 ≤ bt245.1 then (if bt245.1 < (bt239.2.1.length : Int) then ((spec_l30Rd_one.f k s0_0 bt247.2 (([(-1), 8, (rd_T45 bt239.2.1 bt245.1).f0] : List Int))).bind fun bt253 => (some (bt239.1, (bt239.2.1.set (bt245.1 : Int).toNat (⟨(rd_T45 bt239.2.1 bt245.1).f0, bt253.1, (rd_T45 bt239.2.1 bt245.1).f2, (rd_T45 bt239.2.1 bt245.1).f3, (rd_T45 bt239.2.1 bt245.1).f4⟩ : S45)), bt253.2))) else (none)) else (none)) else (if bt247.1 = 1 then ((spec_l30Rd_one.f k s0_0 bt247.2 (([(-1), 100] : List Int))).bind fun bt259 => (if 0 ≤ bt245.1 then (if bt245.1 < (bt239.2.1.length : Int) then (some (bt239.1, (bt239.2.1.set (bt245.1 : Int).toNat (⟨(rd_T45 bt239.2.1 bt245.1).f0, (rd_T45 bt239.2.1 bt245.1).f1, bt259.1, (rd_T45 bt239.2.1 bt245.1).f3, (rd_T45 bt239.2.1 bt245.1).f4⟩ : S45)), bt259.2)) else (none)) else (none))) else (if bt247.1 = 2 then ((spec_l30Rd_one.f k s0_0 bt247.2 (([0, 1, 9, 8] : List Int))).bind fun bt265 => (some (bt265.1, bt239.2.1, bt265.2))) else (some (bt239.1, bt239.2.1, bt247.2))))))) else (some (bt239.1, bt239.2.1, bt239.2.2)))
theorem spec_l30AnyNet.mono : ∀ a0 a1 k, LeO (spec_l30AnyNet.f k a0 a1) (spec_l30AnyNet.f (k + 1) a0 a1) := by
 intro a0 a1 k
 unfold spec_l30AnyNet.f
 repeat' first
   | (with_reducible exact spec_l30Net.mono _ _ _)
   | (with_reducible exact spec_l30Rd_one.mono _ _ _ _)
   | (with_reducible exact spec_l30Rd_pick.mono _ _ _ _)
   | (with_reducible exact LeO.refl _)
   | (with_reducible exact LeO.none _)
   | (with_reducible refine LeO.ite ?_ ?_)
   | (with_reducible refine LeO.bind ?_ (fun _ => ?_))
   | exact spec_l30Net.mono _ _ _
   | exact spec_l30Rd_one.mono _ _ _ _
   | exact spec_l30Rd_pick.mono _ _ _ _
   | exact LeO.none _
   | refine LeO.ite ?_ ?_
   | refine LeO.bind ?_ (fun _ => ?_)
def spec_l30AnyNet.T6 : Bool × List (List Nat × List Nat) := (true, [([], []), ([0], [0]), ([], []), ([], []), ([], []), ([4], [4]), ([], []), ([5, 6], [5, 6]), ([7], [7]), ([8], [8]), ([9], [9]), ([3, 10], [3, 10]), ([1, 2, 0, 1, 2, 3, 4, 5, 6, 7, 8, 9, 10, 11], [1, 2]), ([12, 0, 1, 2, 3, 4, 5, 6, 7, 8, 9, 10, 11], [12]), ([13, 11, 11, 0, 1, 2, 3, 4, 5, 6, 7, 8, 9, 10, 11], [11, 13])])
def spec_l30AnyNet.B6 : List Nat := [0, 1, 0, 0, 0, 16, 0, 112, 240, 496, 1008, 2040, 4095, 8191, 16383]
theorem spec_l30AnyNet.tab6 : rtab .any (opsOf Try.f72 6) = spec_l30AnyNet.T6 := by kernel_rfl
theorem spec_l30AnyNet.bits6 : waitsOk spec_l30AnyNet.T6.2 spec_l30AnyNet.B6 = true := by kernel_rfl
def spec_l30AnyNet.T8 : Bool × List (List Nat × List Nat) := (true, [([], []), ([0], [0]), ([], []), ([], []), ([], []), ([3, 4], [3, 4]), ([1, 2, 0, 1, 2, 3, 4, 5], [1, 2]), ([6, 0, 1, 2, 3, 4, 5], [6]), ([7, 5, 5, 0, 1, 2, 3, 4, 5], [5, 7])])
def spec_l30AnyNet.B8 : List Nat := [0, 1, 0, 0, 0, 24, 63, 127, 255]
theorem spec_l30AnyNet.tab8 : rtab .any (opsOf Try.f72 8) = spec_l30AnyNet.T8 := by kernel_rfl
theorem spec_l30AnyNet.bits8 : waitsOk spec_l30AnyNet.T8.2 spec_l30AnyNet.B8 = true := by kernel_rfl
set_option maxHeartbeats 8000000 in
set_option maxRecDepth 100000 in
theorem spec_l30AnyNet.calls (k : Nat) (g : Nat) (s0_0 : List Int) (s0_1 : Int) (r1 : Int) (r2 : List (S45)) (r3 : Int) (w0 w : World) (hI : IsS112 w0 w g s0_0 s0_1) (hB : Below w0.heap.size w0 w) (h : spec_l30AnyNet.f k s0_0 s0_1 = some (r1, r2, r3)) :
  Calls Try.prog 72 #[.pointer (some ⟨g, 0, none⟩)] w fun e w' => ∃ v1_ : Value, e = .returned (.agg #[.int .i64 r1, v1_]) ∧ Kd.R k45 45 w' w.heap.size (fun _ => True) v1_ r2 ∧ IsS112 w0 w' g s0_0 r3 ∧ Below w0.heap.size w0 w' ∧ KeepBut w w' g none := by
 have hu38 := Try.underlying38
 have HI0 := Aside0.mk hI
 have HK := Aside0.mk (KeepBut.refl w g none)
 have HL := Aside0.mk hB.size
 clear hI
 have HW0 := Aside0.mk hB.size
 have HB := Aside0.mk hB
 clear hB
 have H : ((spec_l30Net.f k s0_0 s0_1).bind fun bt239 => (if (bt239.2.1.length : Int) > 0 then ((spec_l30Rd_pick.f k s0_0 bt239.2.2 (bt239.2.1.length : Int)).bind fun bt245 => ((spec_l30Rd_pick.f k s0_0 bt245.2 16).bind fun bt247 => (if bt247.1 = 0 then (if 0 ≤ bt245.1 then (if bt245.1 < (bt239.2.1.length : Int) then ((spec_l30Rd_one.f k s0_0 bt247.2 (([(-1), 8, (rd_T45 bt239.2.1 bt245.1).f0] : List Int))).bind fun bt253 => (some (bt239.1, (bt239.2.1.set (bt245.1 : Int).toNat (⟨(rd_T45 bt239.2.1 bt245.1).f0, bt253.1, (rd_T45 bt239.2.1 bt245.1).f2, (rd_T45 bt239.2.1 bt245.1).f3, (rd_T45 bt239.2.1 bt245.1).f4⟩ : S45)), bt253.2))) else (none)) else (none)) else (if bt247.1 = 1 then ((spec_l30Rd_one.f k s0_0 bt247.2 (([(-1), 100] : List Int))).bind fun bt259 => (if 0 ≤ bt245.1 then (if bt245.1 < (bt239.2.1.length : Int) then (some (bt239.1, (bt239.2.1.set (bt245.1 : Int).toNat (⟨(rd_T45 bt239.2.1 bt245.1).f0, (rd_T45 bt239.2.1 bt245.1).f1, bt259.1, (rd_T45 bt239.2.1 bt245.1).f3, (rd_T45 bt239.2.1 bt245.1).f4⟩ : S45)), bt259.2)) else (none)) else (none))) else (if bt247.1 = 2 then ((spec_l30Rd_one.f k s0_0 bt247.2 (([0, 1, 9, 8] : List Int))).bind fun bt265 => (some (bt265.1, bt239.2.1, bt265.2))) else (some (bt239.1, bt239.2.1, bt247.2))))))) else (some (bt239.1, bt239.2.1, bt239.2.2)))) = some (r1, r2, r3) := h
 clear h
 replace H := Option.bind_eq_some_iff.mp H
 obtain ⟨⟨t239, t240, t243⟩, A20, H⟩ := H
 replace H : (if (t240.length : Int) > 0 then ((spec_l30Rd_pick.f k s0_0 t243 (t240.length : Int)).bind fun bt245 => ((spec_l30Rd_pick.f k s0_0 bt245.2 16).bind fun bt247 => (if bt247.1 = 0 then (if 0 ≤ bt245.1 then (if bt245.1 < (t240.length : Int) then ((spec_l30Rd_one.f k s0_0 bt247.2 (([(-1), 8, (rd_T45 t240 bt245.1).f0] : List Int))).bind fun bt253 => (some (t239, (t240.set (bt245.1 : Int).toNat (⟨(rd_T45 t240 bt245.1).f0, bt253.1, (rd_T45 t240 bt245.1).f2, (rd_T45 t240 bt245.1).f3, (rd_T45 t240 bt245.1).f4⟩ : S45)), bt253.2))) else (none)) else (none)) else (if bt247.1 = 1 then ((spec_l30Rd_one.f k s0_0 bt247.2 (([(-1), 100] : List Int))).bind fun bt259 => (if 0 ≤ bt245.1 then (if bt245.1 < (t240.length : Int) then (some (t239, (t240.set (bt245.1 : Int).toNat (⟨(rd_T45 t240 bt245.1).f0, (rd_T45 t240 bt245.1).f1, bt259.1, (rd_T45 t240 bt245.1).f3, (rd_T45 t240 bt245.1).f4⟩ : S45)), bt259.2)) else (none)) else (none))) else (if bt247.1 = 2 then ((spec_l30Rd_one.f k s0_0 bt247.2 (([0, 1, 9, 8] : List Int))).bind fun bt265 => (some (bt265.1, t240, bt265.2))) else (some (t239, t240, bt247.2))))))) else (some (t239, t240, t243))) = some (r1, r2, r3) := H
 have A2 := Aside0.mk A20
 clear A20
 by_cases c3 : (t240.length : Int) > 0
 ·rw [if_pos c3] at H
  have c3b0 : decide (0 < (t240.length : Int)) = true := decide_eq_true c3
  have c3b1 : decide (0 < t240.length) = true := decide_eq_true (by omega)
  clear c3
  replace H := Option.bind_eq_some_iff.mp H
  obtain ⟨⟨t245, t246⟩, A40, H⟩ := H
  replace H : ((spec_l30Rd_pick.f k s0_0 t246 16).bind fun bt247 => (if bt247.1 = 0 then (if 0 ≤ t245 then (if t245 < (t240.length : Int) then ((spec_l30Rd_one.f k s0_0 bt247.2 (([(-1), 8, (rd_T45 t240 t245).f0] : List Int))).bind fun bt253 => (some (t239, (t240.set (t245 : Int).toNat (⟨(rd_T45 t240 t245).f0, bt253.1, (rd_T45 t240 t245).f2, (rd_T45 t240 t245).f3, (rd_T45 t240 t245).f4⟩ : S45)), bt253.2))) else (none)) else (none)) else (if bt247.1 = 1 then ((spec_l30Rd_one.f k s0_0 bt247.2 (([(-1), 100] : List Int))).bind fun bt259 => (if 0 ≤ t245 then (if t245 < (t240.length : Int) then (some (t239, (t240.set (t245 : Int).toNat (⟨(rd_T45 t240 t245).f0, (rd_T45 t240 t245).f1, bt259.1, (rd_T45 t240 t245).f3, (rd_T45 t240 t245).f4⟩ : S45)), bt259.2)) else (none)) else (none))) else (if bt247.1 = 2 then ((spec_l30Rd_one.f k s0_0 bt247.2 (([0, 1, 9, 8] : List Int))).bind fun bt265 => (some (bt265.1, t240, bt265.2))) else (some (t239, t240, bt247.2)))))) = some (r1, r2, r3) := H
  have A4 := Aside0.mk A40
  clear A40
  replace H := Option.bind_eq_some_iff.mp H
  obtain ⟨⟨t247, t248⟩, A50, H⟩ := H
  replace H : (if t247 = 0 then (if 0 ≤ t245 then (if t245 < (t240.length : Int) then ((spec_l30Rd_one.f k s0_0 t248 (([(-1), 8, (rd_T45 t240 t245).f0] : List Int))).bind fun bt253 => (some (t239, (t240.set (t245 : Int).toNat (⟨(rd_T45 t240 t245).f0, bt253.1, (rd_T45 t240 t245).f2, (rd_T45 t240 t245).f3, (rd_T45 t240 t245).f4⟩ : S45)), bt253.2))) else (none)) else (none)) else (if t247 = 1 then ((spec_l30Rd_one.f k s0_0 t248 (([(-1), 100] : List Int))).bind fun bt259 => (if 0 ≤ t245 then (if t245 < (t240.length : Int) then (some (t239, (t240.set (t245 : Int).toNat (⟨(rd_T45 t240 t245).f0, (rd_T45 t240 t245).f1, bt259.1, (rd_T45 t240 t245).f3, (rd_T45 t240 t245).f4⟩ : S45)), bt259.2)) else (none)) else (none))) else (if t247 = 2 then ((spec_l30Rd_one.f k s0_0 t248 (([0, 1, 9, 8] : List Int))).bind fun bt265 => (some (bt265.1, t240, bt265.2))) else (some (t239, t240, t248))))) = some (r1, r2, r3) := H
  have A5 := Aside0.mk A50
  clear A50
  by_cases c6 : t247 = 0
  ·rw [if_pos c6] at H
   have c6b0 : (t247 == 0) = true := beq_iff_eq.mpr c6
   have c6b1 : (t247 != 0) = false := bne_eq_false_iff_eq.mpr c6
   clear c6
   by_cases c7 : 0 ≤ t245
   ·rw [if_pos c7] at H
    have c7b0 : decide (0 ≤ t245) = true := decide_eq_true c7
    clear c7
    by_cases c8 : t245 < (t240.length : Int)
    ·rw [if_pos c8] at H
     have c8b0 : decide (t245 < (t240.length : Int)) = true := decide_eq_true c8
     clear c8
     obtain ⟨y250, hy250⟩ : ∃ y_ : List Int, y_ = (([(-1), 8, (rd_T45 t240 t245).f0] : List Int)) := ⟨_, rfl⟩
     replace H : ((spec_l30Rd_one.f k s0_0 t248 y250).bind fun bt253 => (some (t239, (t240.set (t245 : Int).toNat (⟨(rd_T45 t240 t245).f0, bt253.1, (rd_T45 t240 t245).f2, (rd_T45 t240 t245).f3, (rd_T45 t240 t245).f4⟩ : S45)), bt253.2))) = some (r1, r2, r3) := by first | (rw [hy250]; with_reducible exact H) | (have H2_ := (Option.bind_some _ _).symm.trans H; rw [hy250]; with_reducible exact H2_) | (have H2_ := (Option.bind_some _ _).symm.trans H; with_reducible exact H2_) | with_reducible exact H | (rw [hy250]; exact H) | exact H
     have Ny250 := Aside0.mk hy250
     clear hy250
     replace H := Option.bind_eq_some_iff.mp H
     obtain ⟨⟨t253, t254⟩, A90, H⟩ := H
     replace H : (some (t239, (t240.set (t245 : Int).toNat (⟨(rd_T45 t240 t245).f0, t253, (rd_T45 t240 t245).f2, (rd_T45 t240 t245).f3, (rd_T45 t240 t245).f4⟩ : S45)), t254)) = some (r1, r2, r3) := H
     have A9 := Aside0.mk A90
     clear A90
     obtain ⟨y255, hy255⟩ : ∃ y_ : List (S45), y_ = (t240.set (t245 : Int).toNat (⟨(rd_T45 t240 t245).f0, t253, (rd_T45 t240 t245).f2, (rd_T45 t240 t245).f3, (rd_T45 t240 t245).f4⟩ : S45)) := ⟨_, rfl⟩
     replace H : (some (t239, y255, t254)) = some (r1, r2, r3) := by first | (rw [hy255]; with_reducible exact H) | (have H2_ := (Option.bind_some _ _).symm.trans H; rw [hy255]; with_reducible exact H2_) | (have H2_ := (Option.bind_some _ _).symm.trans H; with_reducible exact H2_) | with_reducible exact H | (rw [hy255]; exact H) | exact H
     have Ny255 := Aside0.mk hy255
     clear hy255
     simp only [Option.some.injEq, Prod.mk.injEq] at H
     obtain ⟨rfl, rfl, rfl⟩ := H
     go_enter Try.func72, Try.ntmps72
     try go_wp2_with (first | ((with_reducible refine gate_dst (N := 2) rfl ?_); refine box_event ?hg (N := 2) ?hd (cs := #[.int .i64 0, .slice none 0 0]) (t := 38) ?hr ?_; (case hd => rfl); (case hg => rfl); (case hr => first | (go_simp; done) | (go_simp; rfl)); intro gb238 hg w11 hbox hb; have n0_ := Aside0.mk (IsS112.below (by repeat (first | (with_reducible first | exact HI0.out | apply IsS112.alloc | apply IsS112.drewN | apply IsS112.drew | apply IsS112.set_1) | exact HI0.out)) hb); have n1_ := Aside0.mk (KeepBut.trans (by repeat (first | (with_reducible first | exact HK.out | apply KeepBut.set_ | apply keep_drewN | apply keep_drew | apply keep_alloc) | exact HK.out)) (KeepBut.of_below hb g none) (.inl rfl)); have n2_ := Aside0.mk (below_step (by repeat (first | (with_reducible first | exact HB.out | apply below_alloc | apply pw_below_drewN | apply below_drew1 | refine below_set ?_ (IsS112.ge HI0.out)) | exact HB.out)) hb); have n3_ := Aside0.mk (hbox); have n4_ := Aside0.mk ((by rw [hg]; exact (keep_size (w := w) (g := g) (row := none) (by repeat (first | (with_reducible first | exact HK.out | apply KeepBut.set_ | apply keep_drewN | apply keep_drew | apply keep_alloc) | exact HK.out))) : w.heap.size ≤ gb238)); have n5_ := Aside0.mk ((Nat.le_trans HW0.out (by rw [hg]; exact (keep_size (w := w) (g := g) (row := none) (by repeat (first | (with_reducible first | exact HK.out | apply KeepBut.set_ | apply keep_drewN | apply keep_drew | apply keep_alloc) | exact HK.out))) : w.heap.size ≤ gb238) : w0.heap.size ≤ gb238)); have n6_ := Aside0.mk ((by rw [hg]; exact Nat.ne_of_lt (IsS112.lt (show IsS112 w0 _ g s0_0 s0_1 from by repeat (first | (with_reducible first | exact HI0.out | apply IsS112.alloc | apply IsS112.drewN | apply IsS112.drew | apply IsS112.set_1) | exact HI0.out))) : g ≠ gb238)); have n7_ := Aside0.mk ((by rw [hg]; exact Nat.ne_of_gt (IsS112.lt (show IsS112 w0 _ g s0_0 s0_1 from by repeat (first | (with_reducible first | exact HI0.out | apply IsS112.alloc | apply IsS112.drewN | apply IsS112.drew | apply IsS112.set_1) | exact HI0.out))) : gb238 ≠ g)); clear HI0; clear HK; clear HB; have HI0 := n0_; have HK := n1_; have HB := n2_; have BK238 := n3_; have GW238 := n4_; have GE238 := n5_; have NB0_238 := n6_; have NB238_0 := n7_; clear n0_ n1_ n2_ n3_ n4_ n5_ n6_ n7_; clear hb hbox hg) | ((with_reducible refine gate_callee (f := 115) rfl ?_); refine goesL_ (some 6) rfl rfl Try.func115 (by kernel_rfl) rfl #[.pointer (some ⟨g, 0, none⟩)] rfl (by (try simp only [List.map_toArray, List.map_cons, List.map_nil]); first | done | rfl | (simp only [List.length_drop, List.length_take]; rfl)) ?_; (with_reducible refine (spec_l30Net.calls k g s0_0 s0_1 t239 t240 t243 w0 _ ?side1 ?side2 A2.out).mono ?_); (case side1 => repeat (first | (with_reducible first | exact HI0.out | apply IsS112.alloc | apply IsS112.drewN | apply IsS112.drew | apply IsS112.set_1 | refine IsS112.far ?_ NB0_238.out _) | exact HI0.out)); (case side2 => repeat (first | (with_reducible first | exact HB.out | apply below_alloc | apply pw_below_drewN | apply below_drew1 | refine below_set ?_ (IsS112.ge HI0.out) | refine below_set ?_ GE238.out) | exact HB.out)); rintro e w12 ⟨v241, rfl, ho0, hi, hb, hk⟩; refine ⟨_, rfl, ?_⟩; have n0_ := Aside0.mk (KeepBut.blk hk (g' := gb238) (o := .cells #[.int .i64 0, .slice none 0 0] 38 (0, 0)) (by (with_reducible repeat (first | refine blk_drewN ?_ _ | refine blk_drew ?_ | refine blk_alloc ?_ _)); exact BK238.out) NB238_0.out (by simp)); have n1_ := Aside0.mk (Kd.R_lower ho0 (keep_size (w := w) (g := g) (row := none) (by repeat (first | (with_reducible first | exact HK.out | apply KeepBut.set_ | apply keep_drewN | apply keep_drew | apply keep_alloc | refine keep_far ?_ GW238.out _) | exact HK.out)))); have n2_ := Aside0.mk (KeepBut.trans (by repeat (first | (with_reducible first | exact HK.out | apply KeepBut.set_ | apply keep_drewN | apply keep_drew | apply keep_alloc | refine keep_far ?_ GW238.out _) | exact HK.out)) hk (.inl rfl)); have n3_ := Aside0.mk (hb); have n4_ := Aside0.mk (hi); clear BK238; clear HK; clear HB; clear HI0; have BK238 := n0_; have HO242 := n1_; have HK := n2_; have HB := n3_; have HI0 := n4_; clear n0_ n1_ n2_ n3_ n4_; (try clear hb); (try clear hb2); (try clear hk); (try clear hi); (try clear ho0)) | ((with_reducible refine gate_dst (N := 3) rfl ?_); refine box_event ?hg (N := 3) ?hd (cs := #[.int .i64 0, .slice none 0 0]) (t := 38) ?hr ?_; (case hd => rfl); (case hg => rfl); (case hr => first | (go_simp; done) | (go_simp; rfl)); intro gb244 hg w13 hbox hb; have n0_ := Aside0.mk (Kd.R_below (by (with_reducible repeat (first | apply Kd.R_alloc | apply Kd.R_drewN | apply Kd.R_drew)); exact HO242.out) hb); have n1_ := Aside0.mk (IsS112.below (by repeat (first | (with_reducible first | exact HI0.out | apply IsS112.alloc | apply IsS112.drewN | apply IsS112.drew | apply IsS112.set_1 | refine IsS112.far ?_ NB0_238.out _) | exact HI0.out)) hb); have n2_ := Aside0.mk (blk_below (g := gb238) (o := .cells #[.int .i64 0, .slice none 0 0] 38 (0, 0)) (by (with_reducible repeat (first | refine blk_drewN ?_ _ | refine blk_drew ?_ | refine blk_alloc ?_ _)); exact BK238.out) hb); have n3_ := Aside0.mk (KeepBut.trans (by repeat (first | (with_reducible first | exact HK.out | apply KeepBut.set_ | apply keep_drewN | apply keep_drew | apply keep_alloc | refine keep_far ?_ GW238.out _) | exact HK.out)) (KeepBut.of_below hb g none) (.inl rfl)); have n4_ := Aside0.mk (below_step (by repeat (first | (with_reducible first | exact HB.out | apply below_alloc | apply pw_below_drewN | apply below_drew1 | refine below_set ?_ (IsS112.ge HI0.out) | refine below_set ?_ GE238.out) | exact HB.out)) hb); have n5_ := Aside0.mk (hbox); have n6_ := Aside0.mk ((by rw [hg]; exact (keep_size (w := w) (g := g) (row := none) (by repeat (first | (with_reducible first | exact HK.out | apply KeepBut.set_ | apply keep_drewN | apply keep_drew | apply keep_alloc | refine keep_far ?_ GW238.out _) | exact HK.out))) : w.heap.size ≤ gb244)); have n7_ := Aside0.mk ((Nat.le_trans HW0.out (by rw [hg]; exact (keep_size (w := w) (g := g) (row := none) (by repeat (first | (with_reducible first | exact HK.out | apply KeepBut.set_ | apply keep_drewN | apply keep_drew | apply keep_alloc | refine keep_far ?_ GW238.out _) | exact HK.out))) : w.heap.size ≤ gb244) : w0.heap.size ≤ gb244)); have n8_ := Aside0.mk ((by rw [hg]; exact Nat.ne_of_lt (blk_lt (g := gb238) (o := .cells #[.int .i64 0, .slice none 0 0] 38 (0, 0)) (by (with_reducible repeat (first | refine blk_drewN ?_ _ | refine blk_drew ?_ | refine blk_alloc ?_ _)); exact BK238.out)) : gb238 ≠ gb244)); have n9_ := Aside0.mk ((by rw [hg]; exact Nat.ne_of_gt (blk_lt (g := gb238) (o := .cells #[.int .i64 0, .slice none 0 0] 38 (0, 0)) (by (with_reducible repeat (first | refine blk_drewN ?_ _ | refine blk_drew ?_ | refine blk_alloc ?_ _)); exact BK238.out)) : gb244 ≠ gb238)); have n10_ := Aside0.mk ((by rw [hg]; exact Nat.ne_of_lt (IsS112.lt (show IsS112 w0 _ g s0_0 t243 from by repeat (first | (with_reducible first | exact HI0.out | apply IsS112.alloc | apply IsS112.drewN | apply IsS112.drew | apply IsS112.set_1 | refine IsS112.far ?_ NB0_238.out _) | exact HI0.out))) : g ≠ gb244)); have n11_ := Aside0.mk ((by rw [hg]; exact Nat.ne_of_gt (IsS112.lt (show IsS112 w0 _ g s0_0 t243 from by repeat (first | (with_reducible first | exact HI0.out | apply IsS112.alloc | apply IsS112.drewN | apply IsS112.drew | apply IsS112.set_1 | refine IsS112.far ?_ NB0_238.out _) | exact HI0.out))) : gb244 ≠ g)); clear HO242; clear HI0; clear BK238; clear HK; clear HB; have HO242 := n0_; have HI0 := n1_; have BK238 := n2_; have HK := n3_; have HB := n4_; have BK244 := n5_; have GW244 := n6_; have GE244 := n7_; have NB238_244 := n8_; have NB244_238 := n9_; have NB0_244 := n10_; have NB244_0 := n11_; clear n0_ n1_ n2_ n3_ n4_ n5_ n6_ n7_ n8_ n9_ n10_ n11_; clear hb hbox hg; have hnb14 := NB244_238.out; have hnc14 := NB238_244.out; have hnb15 := NB244_0.out; have hnc15 := NB0_244.out; have hcz16_0 : w13.cell? ⟨gb244, 0, none⟩ = some (.int .i64 0) := (blk_cell BK244.out 0).trans rfl; have hcz16_1 : w13.cell? ⟨gb244, 1, none⟩ = some (.slice none 0 0) := (blk_cell BK244.out 1).trans rfl; have hfz16_0 := blk_frozen BK244.out 0; have hfz16_1 := blk_frozen BK244.out 1; obtain ⟨Ao17, co17, eo17⟩ := Kd.R_slice HO242.out; subst eo17) | ((with_reducible refine gate_callee (f := 74) rfl ?_); refine goesL_ (some 15) rfl rfl Try.func74 (by kernel_rfl) rfl #[.pointer (some ⟨g, 0, none⟩), .int .i64 (t240.length : Int)] rfl (by (try simp only [List.map_toArray, List.map_cons, List.map_nil]); first | done | rfl | (simp only [List.length_drop, List.length_take]; rfl)) ?_; (with_reducible refine (spec_l30Rd_pick.calls k g s0_0 t243 (t240.length : Int) t245 t246 w0 _ ?side1 ?side2 A4.out).mono ?_); (case side1 => repeat (first | (with_reducible first | exact HI0.out | apply IsS112.alloc | apply IsS112.drewN | apply IsS112.drew | apply IsS112.set_1 | refine IsS112.far ?_ NB0_238.out _ | refine IsS112.far ?_ NB0_244.out _) | exact HI0.out)); (case side2 => repeat (first | (with_reducible first | exact HB.out | apply below_alloc | apply pw_below_drewN | apply below_drew1 | refine below_set ?_ (IsS112.ge HI0.out) | refine below_set ?_ GE238.out | refine below_set ?_ GE244.out) | exact HB.out)); rintro e w18 ⟨rfl, hi, hb, hk⟩; refine ⟨_, rfl, ?_⟩; have n0_ := Aside0.mk (KeepBut.blk hk (g' := gb238) (o := .cells #[.int .i64 0, .slice none 0 0] 38 (0, 0)) (by (with_reducible repeat (first | refine blk_drewN ?_ _ | refine blk_drew ?_ | refine blk_alloc ?_ _)); refine blk_far ?_ NB238_244.out _; (with_reducible repeat (first | refine blk_drewN ?_ _ | refine blk_drew ?_ | refine blk_alloc ?_ _)); refine blk_far ?_ NB238_244.out _; (with_reducible repeat (first | refine blk_drewN ?_ _ | refine blk_drew ?_ | refine blk_alloc ?_ _)); exact BK238.out) NB238_0.out (by simp)); have n1_ := Aside0.mk (Kd.R_mono (Kd.R_keep (IsS112.apart (show IsS112 w0 _ g s0_0 t243 from by repeat (first | (with_reducible first | exact HI0.out | apply IsS112.alloc | apply IsS112.drewN | apply IsS112.drew | apply IsS112.set_1 | refine IsS112.far ?_ NB0_238.out _ | refine IsS112.far ?_ NB0_244.out _) | exact HI0.out)) (by (with_reducible repeat (first | apply Kd.R_alloc | apply Kd.R_drewN | apply Kd.R_drew)); exact (Kd.R_mono (Kd.R_far (p := ⟨gb244, 1, none⟩) (Kd.R_far (p := ⟨gb244, 0, none⟩) (Kd.R_types HO242.out BK244.out (by decide)) (fun _ hk => hk.2) (.int .i64 t239)) (fun _ hk => hk.2) (.slice Ao17 t240.length co17)) (fun _ h_ => h_.1))) (by decide)) hk (fun _ h => h.2)) (fun _ h => h.1)); have n2_ := Aside0.mk (KeepBut.blk hk (g' := gb244) (o := .cells #[.int .i64 t239, .slice Ao17 t240.length co17] 38 (0, 0)) (by (with_reducible repeat (first | refine blk_drewN ?_ _ | refine blk_drew ?_ | refine blk_alloc ?_ _)); refine blk_put (cs := #[.int .i64 t239, .slice none 0 0]) ?_ 1 _ rfl; (with_reducible repeat (first | refine blk_drewN ?_ _ | refine blk_drew ?_ | refine blk_alloc ?_ _)); refine blk_put (cs := #[.int .i64 0, .slice none 0 0]) ?_ 0 _ rfl; (with_reducible repeat (first | refine blk_drewN ?_ _ | refine blk_drew ?_ | refine blk_alloc ?_ _)); exact BK244.out) NB244_0.out (by simp)); have n3_ := Aside0.mk (KeepBut.trans (by repeat (first | (with_reducible first | exact HK.out | apply KeepBut.set_ | apply keep_drewN | apply keep_drew | apply keep_alloc | refine keep_far ?_ GW238.out _ | refine keep_far ?_ GW244.out _) | exact HK.out)) hk (.inl rfl)); have n4_ := Aside0.mk (hb); have n5_ := Aside0.mk (hi); clear BK238; clear HO242; clear BK244; clear HK; clear HB; clear HI0; have BK238 := n0_; have HO242 := n1_; have BK244 := n2_; have HK := n3_; have HB := n4_; have HI0 := n5_; clear n0_ n1_ n2_ n3_ n4_ n5_; (try clear hb); (try clear hb2); (try clear hk); (try clear hi)) | ((with_reducible refine gate_callee (f := 74) rfl ?_); refine goesL_ (some 17) rfl rfl Try.func74 (by kernel_rfl) rfl #[.pointer (some ⟨g, 0, none⟩), .int .i64 16] rfl (by (try simp only [List.map_toArray, List.map_cons, List.map_nil]); first | done | rfl | (simp only [List.length_drop, List.length_take]; rfl)) ?_; (with_reducible refine (spec_l30Rd_pick.calls k g s0_0 t246 16 t247 t248 w0 _ ?side1 ?side2 A5.out).mono ?_); (case side1 => repeat (first | (with_reducible first | exact HI0.out | apply IsS112.alloc | apply IsS112.drewN | apply IsS112.drew | apply IsS112.set_1 | refine IsS112.far ?_ NB0_238.out _ | refine IsS112.far ?_ NB0_244.out _) | exact HI0.out)); (case side2 => repeat (first | (with_reducible first | exact HB.out | apply below_alloc | apply pw_below_drewN | apply below_drew1 | refine below_set ?_ (IsS112.ge HI0.out) | refine below_set ?_ GE238.out | refine below_set ?_ GE244.out) | exact HB.out)); rintro e w19 ⟨rfl, hi, hb, hk⟩; refine ⟨_, rfl, ?_⟩; have n0_ := Aside0.mk (KeepBut.blk hk (g' := gb238) (o := .cells #[.int .i64 0, .slice none 0 0] 38 (0, 0)) (by (with_reducible repeat (first | refine blk_drewN ?_ _ | refine blk_drew ?_ | refine blk_alloc ?_ _)); exact BK238.out) NB238_0.out (by simp)); have n1_ := Aside0.mk (Kd.R_mono (Kd.R_keep (IsS112.apart (show IsS112 w0 _ g s0_0 t246 from by repeat (first | (with_reducible first | exact HI0.out | apply IsS112.alloc | apply IsS112.drewN | apply IsS112.drew | apply IsS112.set_1 | refine IsS112.far ?_ NB0_238.out _ | refine IsS112.far ?_ NB0_244.out _) | exact HI0.out)) (by (with_reducible repeat (first | apply Kd.R_alloc | apply Kd.R_drewN | apply Kd.R_drew)); exact HO242.out) (by decide)) hk (fun _ h => h.2)) (fun _ h => h.1)); have n2_ := Aside0.mk (KeepBut.blk hk (g' := gb244) (o := .cells #[.int .i64 t239, .slice Ao17 t240.length co17] 38 (0, 0)) (by (with_reducible repeat (first | refine blk_drewN ?_ _ | refine blk_drew ?_ | refine blk_alloc ?_ _)); exact BK244.out) NB244_0.out (by simp)); have n3_ := Aside0.mk (KeepBut.trans (by repeat (first | (with_reducible first | exact HK.out | apply KeepBut.set_ | apply keep_drewN | apply keep_drew | apply keep_alloc | refine keep_far ?_ GW238.out _ | refine keep_far ?_ GW244.out _) | exact HK.out)) hk (.inl rfl)); have n4_ := Aside0.mk (hb); have n5_ := Aside0.mk (hi); clear BK238; clear HO242; clear BK244; clear HK; clear HB; clear HI0; have BK238 := n0_; have HO242 := n1_; have BK244 := n2_; have HK := n3_; have HB := n4_; have HI0 := n5_; clear n0_ n1_ n2_ n3_ n4_ n5_; (try clear hb); (try clear hb2); (try clear hk); (try clear hi)))
     have n0_ := Aside0.mk (Kd.R_drew HO242.out)
     have n1_ := Aside0.mk (blk_drew BK238.out)
     have n2_ := Aside0.mk (blk_drew BK244.out)
     have n3_ := Aside0.mk (IsS112.drew HI0.out)
     have n4_ := Aside0.mk (keep_drew HK.out)
     have n5_ := Aside0.mk (below_drew1 HB.out)
     clear HO242
     clear BK238
     clear BK244
     clear HI0
     clear HK
     clear HB
     have HO242 := n0_
     have BK238 := n1_
     have BK244 := n2_
     have HI0 := n3_
     have HK := n4_
     have HB := n5_
     clear n0_ n1_ n2_ n3_ n4_ n5_
     have p249 : 0 ≤ (t245 : Int) := of_decide_eq_true (by first | (with_reducible assumption) | assumption)
     have q249 : t245 < (t240.length : Int) := of_decide_eq_true (by first | (with_reducible assumption) | assumption)
     obtain ⟨ad249, e249, hx249_0, hx249_1, hx249_2, hx249_3, hx249_4⟩ := at_T45 (Kd.R_reads' HO242.out).2.2 t245 p249 q249
     cases e249
     replace p249 := eq_true p249
     replace q249 := eq_true q249
     refine start_ (n := 15) (S := fun w' => w'.cell? ⟨gb244, 0, none⟩ = some (.int .i64 t239) ∧ w'.cell? ⟨gb244, 1, none⟩ = some (.slice (some ad249) t240.length co17) ∧ w'.cell? (ad249.add ((t245).toNat * 5)) = some (.int .i64 ((rd_T45 t240 t245).f0)) ∧ w'.cell? ⟨(ad249.add ((t245).toNat * 5)).block, (ad249.add ((t245).toNat * 5)).off + 1, none⟩ = some (.int .i64 ((rd_T45 t240 t245).f1)) ∧ w'.cell? ⟨(ad249.add ((t245).toNat * 5)).block, (ad249.add ((t245).toNat * 5)).off + 2, none⟩ = some (.int .i64 ((rd_T45 t240 t245).f2)) ∧ w'.cell? ⟨(ad249.add ((t245).toNat * 5)).block, (ad249.add ((t245).toNat * 5)).off + 3, none⟩ = some (.int .i64 ((rd_T45 t240 t245).f3)) ∧ w'.cell? ⟨(ad249.add ((t245).toNat * 5)).block, (ad249.add ((t245).toNat * 5)).off + 4, none⟩ = some (.int .i64 ((rd_T45 t240 t245).f4))) (ds := [14]) #[false, false, false, false, false, false, false, false, false, false, false, false, false, false, false] (by kernel_rfl) rfl rfl ⟨(blk_cell BK244.out 0).trans rfl, (blk_cell BK244.out 1).trans rfl, hx249_0, hx249_1, hx249_2, hx249_3, hx249_4⟩ (fun hHeld => ?_); refine with_tabW spec_l30AnyNet.tab6 spec_l30AnyNet.bits6 (fun HT_ HW_ => ?_)
     generalize w19.drew = w20 at HO242 BK238 BK244 HI0 HK HB hx249_0 hx249_1 hx249_2 hx249_3 hx249_4 hHeld ⊢
     refine pure_ (i := 0) (N := some 20) (v := ?_) (a' := ?_) #[true, false, false, false, false, false, false, false, false, false, false, false, false, false, false] rfl rfl (any_of HT_.out (by kernel_rfl)) (fun _ _ _ h => h) (Or.inl ⟨by rfl, ?_⟩) ?_ ?_
     rotate_left
     ·intro w'
      go_simp
      with_reducible rfl
     rotate_left
     ·simp only [Act.put, List.setIfInBounds_toArray, List.set_cons_zero, List.set_cons_succ, i64_w, i32_w]
      rfl
     refine pure_ (i := 2) (N := some 22) (v := ?_) (a' := ?_) #[true, false, true, false, false, false, false, false, false, false, false, false, false, false, false] rfl rfl (any_of HT_.out (by kernel_rfl)) (fun _ _ _ h => h) (Or.inl ⟨by rfl, ?_⟩) ?_ ?_
     rotate_left
     ·intro w'
      go_simp
      with_reducible rfl
     rotate_left
     ·simp only [Act.put, List.setIfInBounds_toArray, List.set_cons_zero, List.set_cons_succ, i64_w, i32_w]
      rfl
     refine pure_ (i := 3) (N := some 23) (v := ?_) (a' := ?_) #[true, false, true, true, false, false, false, false, false, false, false, false, false, false, false] rfl rfl (any_of HT_.out (by kernel_rfl)) (fun _ _ _ h => h) (Or.inl ⟨by rfl, ?_⟩) ?_ ?_
     rotate_left
     ·intro w'
      go_simp
      with_reducible rfl
     rotate_left
     ·simp only [Act.put, List.setIfInBounds_toArray, List.set_cons_zero, List.set_cons_succ, i64_w, i32_w]
      rfl
     refine pure_ (i := 4) (N := some 24) (v := ?_) (a' := ?_) #[true, false, true, true, true, false, false, false, false, false, false, false, false, false, false] rfl rfl (any_of HT_.out (by kernel_rfl)) (fun _ _ _ h => h) (Or.inl ⟨by rfl, ?_⟩) ?_ ?_
     rotate_left
     ·intro w'
      go_simp
      with_reducible rfl
     rotate_left
     ·simp only [Act.put, List.setIfInBounds_toArray, List.set_cons_zero, List.set_cons_succ, i64_w, i32_w]
      rfl
     refine pure_ (i := 6) (N := some 26) (v := ?_) (a' := ?_) #[true, false, true, true, true, false, true, false, false, false, false, false, false, false, false] rfl rfl (any_of HT_.out (by kernel_rfl)) (fun _ _ _ h => h) (Or.inl ⟨by rfl, ?_⟩) ?_ ?_
     rotate_left
     ·intro w'
      go_simp
      with_reducible rfl
     rotate_left
     ·simp only [Act.put, List.setIfInBounds_toArray, List.set_cons_zero, List.set_cons_succ, i64_w, i32_w]
      rfl
     refine take_ (i := 1) (N := some 21) (v := ?_) (a' := ?_) #[true, true, true, true, true, false, true, false, false, false, false, false, false, false, false] rfl rfl (take_ofW HT_.out HW_.out (by kernel_rfl)) (fun _ _ _ h => h) (Or.inl ⟨by rfl, ?_⟩) hHeld ?_ ?_
     rotate_left
     ·rintro w' ⟨s0, s1, s2, s3, s4, s5, s6⟩
      go_simp
      with_reducible rfl
     rotate_left
     ·simp only [Act.put, List.setIfInBounds_toArray, List.set_cons_zero, List.set_cons_succ, i64_w, i32_w]
      rfl
     refine take_ (i := 5) (N := some 25) (v := ?_) (a' := ?_) #[true, true, true, true, true, true, true, false, false, false, false, false, false, false, false] rfl rfl (take_ofW HT_.out HW_.out (by kernel_rfl)) (fun _ _ _ h => h) (Or.inl ⟨by rfl, ?_⟩) hHeld ?_ ?_
     rotate_left
     ·rintro w' ⟨s0, s1, s2, s3, s4, s5, s6⟩
      go_simp
      with_reducible rfl
     rotate_left
     ·simp only [Act.put, List.setIfInBounds_toArray, List.set_cons_zero, List.set_cons_succ, i64_w, i32_w]
      rfl
     refine pure_ (i := 7) (N := some 27) (v := ?_) (a' := ?_) #[true, true, true, true, true, true, true, true, false, false, false, false, false, false, false] rfl rfl (any_of HT_.out (by kernel_rfl)) (fun _ _ _ h => h) (Or.inl ⟨by rfl, ?_⟩) ?_ ?_
     rotate_left
     ·intro w'
      go_simp
      with_reducible rfl
     rotate_left
     ·simp only [Act.put, List.setIfInBounds_toArray, List.set_cons_zero, List.set_cons_succ, i64_w, i32_w]
      rfl
     refine pure_ (i := 8) (N := some 28) (v := ?_) (a' := ?_) #[true, true, true, true, true, true, true, true, true, false, false, false, false, false, false] rfl rfl (any_of HT_.out (by kernel_rfl)) (fun _ _ _ h => h) (Or.inl ⟨by rfl, ?_⟩) ?_ ?_
     rotate_left
     ·intro w'
      go_simp
      with_reducible rfl
     rotate_left
     ·simp only [Act.put, List.setIfInBounds_toArray, List.set_cons_zero, List.set_cons_succ, i64_w, i32_w]
      rfl
     refine take_ (i := 9) (N := some 29) (v := ?_) (a' := ?_) #[true, true, true, true, true, true, true, true, true, true, false, false, false, false, false] rfl rfl (take_ofW HT_.out HW_.out (by kernel_rfl)) (fun _ _ _ h => h) (Or.inl ⟨by rfl, ?_⟩) hHeld ?_ ?_
     rotate_left
     ·rintro w' ⟨s0, s1, s2, s3, s4, s5, s6⟩
      go_simp
      with_reducible rfl
     rotate_left
     ·simp only [Act.put, List.setIfInBounds_toArray, List.set_cons_zero, List.set_cons_succ, i64_w, i32_w]
      rfl
     refine one_ (i := 10) (N := some 30) #[true, true, true, true, true, true, true, true, true, true, true, false, false, false, false] rfl rfl (one_of HT_.out (by kernel_rfl)) (by decide) (fun K hK => ?_)
     refine Kd.R_lit_step (Kd.int .i64) _ 3 ?hg (N := 30) ?hd (xs := ([(-1), 8, (rd_T45 t240 t245).f0] : List Int)) (inner := [.int .i64 (-1), .int .i64 8, .int .i64 ((rd_T45 t240 t245).f0)]) (ok := fun _ => True) (okp := fun _ => True) ?hr ?hp (fun _ hk => hk) trivial (Below.refl _ _) (Nat.le_refl _) (by simp) ?_; (case hd => rfl); (case hg => rfl); (case hr => first | (go_simp; done) | (go_simp; rfl)); (case hp => exact (Reps.one (show Kd.M (Kd.int .i64) _ _ _ (-1) [.int .i64 (-1)] from rfl) (Reps.one (show Kd.M (Kd.int .i64) _ _ _ 8 [.int .i64 8] from rfl) (Reps.one (show Kd.M (Kd.int .i64) _ _ _ ((rd_T45 t240 t245).f0) [.int .i64 ((rd_T45 t240 t245).f0)] from rfl) (Reps.none _ _)))))
     intro v251 w21 ho22 hb hg_ hnew_
     have HS2_ := (hb.cell (World.block_lt_of_cell? _ _ (hHeld.2.2.1))).trans (hHeld.2.2.1)
     have HS3_ := (hb.cell (World.block_lt_of_cell? _ _ (hHeld.2.2.2.1))).trans (hHeld.2.2.2.1)
     have HS4_ := (hb.cell (World.block_lt_of_cell? _ _ (hHeld.2.2.2.2.1))).trans (hHeld.2.2.2.2.1)
     have HS5_ := (hb.cell (World.block_lt_of_cell? _ _ (hHeld.2.2.2.2.2.1))).trans (hHeld.2.2.2.2.2.1)
     have HS6_ := (hb.cell (World.block_lt_of_cell? _ _ (hHeld.2.2.2.2.2.2))).trans (hHeld.2.2.2.2.2.2)
     clear hg_ hnew_
     (first | rw [← Ny250.out] at ho22 | (simp only [Int.reduceToNat] at ho22; rw [← Ny250.out] at ho22))
     have n0_ := Aside0.mk (Kd.R_below (by (with_reducible repeat (first | apply Kd.R_alloc | apply Kd.R_drewN | apply Kd.R_drew)); exact HO242.out) hb)
     have n1_ := Aside0.mk (Kd.R_lower ho22 (keep_size (w := w) (g := g) (row := none) (by repeat (first | (with_reducible first | exact HK.out | apply KeepBut.set_ | apply keep_drewN | apply keep_drew | apply keep_alloc | refine keep_far ?_ GW238.out _ | refine keep_far ?_ GW244.out _) | exact HK.out))))
     have n2_ := Aside0.mk (IsS112.below (by repeat (first | (with_reducible first | exact HI0.out | apply IsS112.alloc | apply IsS112.drewN | apply IsS112.drew | apply IsS112.set_1 | refine IsS112.far ?_ NB0_238.out _ | refine IsS112.far ?_ NB0_244.out _) | exact HI0.out)) hb)
     have n3_ := Aside0.mk (blk_below (g := gb238) (o := .cells #[.int .i64 0, .slice none 0 0] 38 (0, 0)) (by (with_reducible repeat (first | refine blk_drewN ?_ _ | refine blk_drew ?_ | refine blk_alloc ?_ _)); exact BK238.out) hb)
     have n4_ := Aside0.mk (blk_below (g := gb244) (o := .cells #[.int .i64 t239, .slice (some ad249) t240.length co17] 38 (0, 0)) (by (with_reducible repeat (first | refine blk_drewN ?_ _ | refine blk_drew ?_ | refine blk_alloc ?_ _)); exact BK244.out) hb)
     have n5_ := Aside0.mk (KeepBut.trans (by repeat (first | (with_reducible first | exact HK.out | apply KeepBut.set_ | apply keep_drewN | apply keep_drew | apply keep_alloc | refine keep_far ?_ GW238.out _ | refine keep_far ?_ GW244.out _) | exact HK.out)) (KeepBut.of_below hb g none) (.inl rfl))
     have n6_ := Aside0.mk (below_step (by repeat (first | (with_reducible first | exact HB.out | apply below_alloc | apply pw_below_drewN | apply below_drew1 | refine below_set ?_ (IsS112.ge HI0.out) | refine below_set ?_ GE238.out | refine below_set ?_ GE244.out) | exact HB.out)) hb)
     clear HO242
     clear HI0
     clear BK238
     clear BK244
     clear HK
     clear HB
     have HO242 := n0_
     have HO252 := n1_
     have HI0 := n2_
     have BK238 := n3_
     have BK244 := n4_
     have HK := n5_
     have HB := n6_
     clear n0_ n1_ n2_ n3_ n4_ n5_ n6_
     clear hb ho22
     obtain ⟨Ao23, co23, eo23⟩ := Kd.R_slice HO252.out
     (first | subst eo23 | (injection eo23 with f1_ f2_ f3_; have f4_ := f1_.symm; have f5_ := f3_.symm; clear f1_ f2_ f3_; subst f4_; subst f5_))
     refine hK.out _ _ ⟨(blk_cell BK244.out 0).trans rfl, (blk_cell BK244.out 1).trans rfl, HS2_, HS3_, HS4_, HS5_, HS6_⟩ (fun hHeld => ?_)
     clear hK K
     refine norm_ (a' := ?_) ?_ ?_
     rotate_left
     ·show Act.put _ (some 30) _ = _
      simp only [Act.put, List.setIfInBounds_toArray, List.set_cons_zero, List.set_cons_succ, i64_w, i32_w]
      rfl
     refine one_ (i := 11) (N := some 31) #[true, true, true, true, true, true, true, true, true, true, true, true, false, false, false] rfl rfl (one_of HT_.out (by kernel_rfl)) (by decide) (fun K hK => ?_)
     refine goes_ Try.func75 (by kernel_rfl) rfl #[.pointer (some ⟨g, 0, none⟩), .slice Ao23 y250.length co23] (by rfl) rfl rfl (by (try simp only [List.map_toArray, List.map_cons, List.map_nil]); first | done | rfl | (simp only [List.length_drop, List.length_take]; rfl)) ?_
     with_reducible refine (spec_l30Rd_one.calls k g s0_0 t248 _ _ y250 t253 t254 w0 _ ?side1 ?side2 ?side3 ?side4 ?side5 A9.out).mono ?_
     (case side1 => repeat (first | (with_reducible first | exact HI0.out | apply IsS112.alloc | apply IsS112.drewN | apply IsS112.drew | apply IsS112.set_1 | refine IsS112.far ?_ NB0_238.out _ | refine IsS112.far ?_ NB0_244.out _) | exact HI0.out))
     (case side2 => repeat (first | (with_reducible first | exact HB.out | apply below_alloc | apply pw_below_drewN | apply below_drew1 | refine below_set ?_ (IsS112.ge HI0.out) | refine below_set ?_ GE238.out | refine below_set ?_ GE244.out) | exact HB.out))
     (case side3 => repeat (first | exact (Kd.R_reads' HO252.out).2.2 | (with_reducible refine Kd.C_alloc ?_ _) | (with_reducible refine Kd.C_drewN ?_ _) | (with_reducible refine Kd.C_drew ?_)))
     (case side4 => exact (Kd.R_reads' HO252.out).2.1)
     (case side5 => exact far_slice (IsS112.own_ne HI0.out HO252.out (by decide)))
     rintro e w24 ⟨rfl, hi, hb, hk⟩
     have HS2_ := keep_cell hk (hHeld.2.2.1) (by first | (rw [add_block]; exact Kd.own_blk (IsS112.own_ne HI0.out HO242.out (by decide))) | (show (Addr.add _ _).block ≠ _; rw [add_block]; exact Kd.own_blk (IsS112.own_ne HI0.out HO242.out (by decide))) | exact Kd.own_blk (IsS112.own_ne HI0.out HO242.out (by decide)))
     have HS3_ := keep_cell hk (hHeld.2.2.2.1) (by first | (rw [add_block]; exact Kd.own_blk (IsS112.own_ne HI0.out HO242.out (by decide))) | (show (Addr.add _ _).block ≠ _; rw [add_block]; exact Kd.own_blk (IsS112.own_ne HI0.out HO242.out (by decide))) | exact Kd.own_blk (IsS112.own_ne HI0.out HO242.out (by decide)))
     have HS4_ := keep_cell hk (hHeld.2.2.2.2.1) (by first | (rw [add_block]; exact Kd.own_blk (IsS112.own_ne HI0.out HO242.out (by decide))) | (show (Addr.add _ _).block ≠ _; rw [add_block]; exact Kd.own_blk (IsS112.own_ne HI0.out HO242.out (by decide))) | exact Kd.own_blk (IsS112.own_ne HI0.out HO242.out (by decide)))
     have HS5_ := keep_cell hk (hHeld.2.2.2.2.2.1) (by first | (rw [add_block]; exact Kd.own_blk (IsS112.own_ne HI0.out HO242.out (by decide))) | (show (Addr.add _ _).block ≠ _; rw [add_block]; exact Kd.own_blk (IsS112.own_ne HI0.out HO242.out (by decide))) | exact Kd.own_blk (IsS112.own_ne HI0.out HO242.out (by decide)))
     have HS6_ := keep_cell hk (hHeld.2.2.2.2.2.2) (by first | (rw [add_block]; exact Kd.own_blk (IsS112.own_ne HI0.out HO242.out (by decide))) | (show (Addr.add _ _).block ≠ _; rw [add_block]; exact Kd.own_blk (IsS112.own_ne HI0.out HO242.out (by decide))) | exact Kd.own_blk (IsS112.own_ne HI0.out HO242.out (by decide)))
     refine ⟨_, rfl, ?_⟩
     have n0_ := Aside0.mk (KeepBut.blk hk (g' := gb238) (o := .cells #[.int .i64 0, .slice none 0 0] 38 (0, 0)) (by (with_reducible repeat (first | refine blk_drewN ?_ _ | refine blk_drew ?_ | refine blk_alloc ?_ _)); exact BK238.out) NB238_0.out (by simp))
     have n1_ := Aside0.mk (Kd.R_mono (Kd.R_keep (IsS112.apart (show IsS112 w0 _ g s0_0 t248 from by repeat (first | (with_reducible first | exact HI0.out | apply IsS112.alloc | apply IsS112.drewN | apply IsS112.drew | apply IsS112.set_1 | refine IsS112.far ?_ NB0_238.out _ | refine IsS112.far ?_ NB0_244.out _) | exact HI0.out)) (by (with_reducible repeat (first | apply Kd.R_alloc | apply Kd.R_drewN | apply Kd.R_drew)); exact HO242.out) (by decide)) hk (fun _ h => h.2)) (fun _ h => h.1))
     have n2_ := Aside0.mk (KeepBut.blk hk (g' := gb244) (o := .cells #[.int .i64 t239, .slice (some ad249) t240.length co17] 38 (0, 0)) (by (with_reducible repeat (first | refine blk_drewN ?_ _ | refine blk_drew ?_ | refine blk_alloc ?_ _)); exact BK244.out) NB244_0.out (by simp))
     have n3_ := Aside0.mk (Kd.R_mono (Kd.R_keep (IsS112.apart (show IsS112 w0 _ g s0_0 t248 from by repeat (first | (with_reducible first | exact HI0.out | apply IsS112.alloc | apply IsS112.drewN | apply IsS112.drew | apply IsS112.set_1 | refine IsS112.far ?_ NB0_238.out _ | refine IsS112.far ?_ NB0_244.out _) | exact HI0.out)) (by (with_reducible repeat (first | apply Kd.R_alloc | apply Kd.R_drewN | apply Kd.R_drew)); exact HO252.out) (by decide)) hk (fun _ h => h.2)) (fun _ h => h.1))
     have n4_ := Aside0.mk (KeepBut.trans (by repeat (first | (with_reducible first | exact HK.out | apply KeepBut.set_ | apply keep_drewN | apply keep_drew | apply keep_alloc | refine keep_far ?_ GW238.out _ | refine keep_far ?_ GW244.out _) | exact HK.out)) hk (.inl rfl))
     have n5_ := Aside0.mk (hb)
     have n6_ := Aside0.mk (hi)
     clear BK238
     clear HO242
     clear BK244
     clear HO252
     clear HK
     clear HB
     clear HI0
     have BK238 := n0_
     have HO242 := n1_
     have BK244 := n2_
     have HO252 := n3_
     have HK := n4_
     have HB := n5_
     have HI0 := n6_
     clear n0_ n1_ n2_ n3_ n4_ n5_ n6_
     (try clear hb)
     (try clear hb2)
     (try clear hk)
     (try clear hi)
     have p10 : 0 ≤ (t245 : Int) := of_decide_eq_true (by first | (with_reducible assumption) | assumption)
     have q10 : (t245 : Int) < ((t240.length : Int) : Int) := of_decide_eq_true (by first | (with_reducible assumption) | assumption)
     obtain ⟨go10, co10, eo10, gb10, gl10, cl10, HG10⟩ := Kd.R_form HO242.out (by omega)
     (first | cases eo10 | (injection eo10 with ea_ en_ ec_; (first | subst ea_ | (injection ea_ with ea_; subst ea_)); subst ec_; clear en_))
     have GB10 := Aside0.mk gb10
     have GG10 := Aside0.mk HG10
     clear gb10 gl10 HG10
     (first | simp only [add_plain] at hx249_0 | skip)
     (first | simp only [add_plain] at hx249_1 | skip)
     (first | simp only [add_plain] at hx249_2 | skip)
     (first | simp only [add_plain] at hx249_3 | skip)
     (first | simp only [add_plain] at hx249_4 | skip)
     obtain ⟨ce10, hcl10, hM10, hcc10, hfr10⟩ := Kd.R_elem HO242.out z45 (t245 : Int) p10 q10
     obtain rfl := k45_openM hM10
     have hx10_0 : World.cell? _ ⟨go10, (t245 : Int).toNat * 5, none⟩ = some (.int .i64 ((rd_T45 t240 t245).f0)) := hcc10 0 _ rfl
     have hx10_1 : World.cell? _ ⟨go10, (t245 : Int).toNat * 5 + 1, none⟩ = some (.int .i64 ((rd_T45 t240 t245).f1)) := hcc10 1 _ rfl
     have hx10_2 : World.cell? _ ⟨go10, (t245 : Int).toNat * 5 + 2, none⟩ = some (.int .i64 ((rd_T45 t240 t245).f2)) := hcc10 2 _ rfl
     have hx10_3 : World.cell? _ ⟨go10, (t245 : Int).toNat * 5 + 3, none⟩ = some (.int .i64 ((rd_T45 t240 t245).f3)) := hcc10 3 _ rfl
     have hx10_4 : World.cell? _ ⟨go10, (t245 : Int).toNat * 5 + 4, none⟩ = some (.int .i64 ((rd_T45 t240 t245).f4)) := hcc10 4 _ rfl
     have hf10_0 : World.frozen? _ ⟨go10, (t245 : Int).toNat * 5, none⟩ = false := hfr10 0
     have hf10_1 : World.frozen? _ ⟨go10, (t245 : Int).toNat * 5 + 1, none⟩ = false := hfr10 1
     have hf10_2 : World.frozen? _ ⟨go10, (t245 : Int).toNat * 5 + 2, none⟩ = false := hfr10 2
     have hf10_3 : World.frozen? _ ⟨go10, (t245 : Int).toNat * 5 + 3, none⟩ = false := hfr10 3
     have hf10_4 : World.frozen? _ ⟨go10, (t245 : Int).toNat * 5 + 4, none⟩ = false := hfr10 4
     clear hcl10 hcc10 hfr10; (try clear hM10)
     replace p10 := eq_true p10
     replace q10 := eq_true q10
     have HN0_go10 := Aside0.mk (show g ≠ go10 from by have h_ := IsS112.own_ne HI0.out HO242.out (by decide); intro e_; exact h_ (by rw [e_]; rfl))
     obtain ⟨ce25, hcl25, hM25, hcc25, hfr25⟩ := Kd.R_elem HO242.out z45 (t245 : Int) (of_decide_eq_true (by first | (with_reducible assumption) | assumption)) (by have h_ : (t245 : Int) < ((t240.length : Int) : Int) := of_decide_eq_true (by first | (with_reducible assumption) | assumption); first | exact h_ | (have e_ := (Kd.R_reads' HO242.out).1; omega) | simpa using h_)
     obtain rfl := k45_openM hM25
     have HP25 := (Kd.R_seg HO242.out (t245 : Int) (of_decide_eq_true (by first | (with_reducible assumption) | assumption)) (by have h_ : (t245 : Int) < ((t240.length : Int) : Int) := of_decide_eq_true (by first | (with_reducible assumption) | assumption); first | exact h_ | (have e_ := (Kd.R_reads' HO242.out).1; omega) | simpa using h_) (seg := [.int .i64 t253]) (j := 1) hcl25 hcc25 (show 2 ≤ 5 from by decide) (x' := (⟨(rd_T45 t240 t245).f0, t253, (rd_T45 t240 t245).f2, (rd_T45 t240 t245).f3, (rd_T45 t240 t245).f4⟩ : S45)) (k45_mkM _ _ _ (⟨(rd_T45 t240 t245).f0, t253, (rd_T45 t240 t245).f2, (rd_T45 t240 t245).f3, (rd_T45 t240 t245).f4⟩ : S45) ) (fun _ hk => hk)).1
     rw [← Ny255.out] at HP25
     have HQ25 := Aside0.mk HP25
     clear hcl25 hcc25 hfr25 HP25; (try clear hM25)
     refine hK.out _ _ ⟨(blk_cell BK244.out 0).trans rfl, (blk_cell BK244.out 1).trans rfl, HS2_, HS3_, HS4_, HS5_, HS6_⟩ (fun hHeld => ?_)
     clear hK K
     refine norm_ (a' := ?_) ?_ ?_
     rotate_left
     ·show Act.put _ (some 31) _ = _
      simp only [Act.put, List.setIfInBounds_toArray, List.set_cons_zero, List.set_cons_succ, i64_w, i32_w]
      rfl
     refine pure_ (i := 12) (N := some 32) (v := ?_) (a' := ?_) #[true, true, true, true, true, true, true, true, true, true, true, true, true, false, false] rfl rfl (any_of HT_.out (by kernel_rfl)) (fun _ _ _ h => h) (Or.inl ⟨by rfl, ?_⟩) ?_ ?_
     rotate_left
     ·intro w'
      go_simp
      with_reducible rfl
     rotate_left
     ·simp only [Act.put, List.setIfInBounds_toArray, List.set_cons_zero, List.set_cons_succ, i64_w, i32_w]
      rfl
     refine pure_ (i := 13) (N := some 33) (v := ?_) (a' := ?_) #[true, true, true, true, true, true, true, true, true, true, true, true, true, true, false] rfl rfl (any_of HT_.out (by kernel_rfl)) (fun _ _ _ h => h) (Or.inl ⟨by rfl, ?_⟩) ?_ ?_
     rotate_left
     ·intro w'
      go_simp
      with_reducible rfl
     rotate_left
     ·simp only [Act.put, List.setIfInBounds_toArray, List.set_cons_zero, List.set_cons_succ, i64_w, i32_w]
      rfl
     refine last_ (i := 14) (N := none) #[true, true, true, true, true, true, true, true, true, true, true, true, true, true, true] rfl rfl (one_of HT_.out (by kernel_rfl)) (by decide) (fun K hK => ?_)
     refine skip_ (w1 := ?_) (by rfl) rfl ?_ ?_
     rotate_left
     ·go_simp
      rfl
     refine hK.out _ _ ?_
     clear hK K
     refine done_ (done_of HT_.out (by kernel_rfl)) ?_
     have n0_ : Aside0 (Kd.R k45 45 (w24.setCell ⟨go10, (t245 : Int).toNat * 5 + 1, none⟩ (.int .i64 t253)) w.heap.size (fun _ => True) (.slice (some ⟨go10, 0, none⟩) t240.length co17) y255) := ⟨by (with_reducible repeat (first | apply Kd.R_alloc | apply Kd.R_drewN | apply Kd.R_drew)); exact HQ25.out⟩
     have n1_ : Aside0 (Kd.R (Kd.int .i64) 3 (w24.setCell ⟨go10, (t245 : Int).toNat * 5 + 1, none⟩ (.int .i64 t253)) w.heap.size (fun _ => True) (.slice Ao23 y250.length co23) y250) := ⟨by (with_reducible repeat (first | apply Kd.R_alloc | apply Kd.R_drewN | apply Kd.R_drew)); exact Kd.R_mono (Kd.R_far (p := ⟨go10, (t245 : Int).toNat * 5 + 1, none⟩) (Kd.R_types HO252.out GG10.out (by decide)) (fun _ hk => hk.2) (.int .i64 t253)) (fun _ hk => trivial)⟩
     have n2_ : Aside0 ((w24.setCell ⟨go10, (t245 : Int).toNat * 5 + 1, none⟩ (.int .i64 t253)).heap[gb238]? = some (.cells #[.int .i64 0, .slice none 0 0] 38 (0, 0))) := ⟨by (with_reducible repeat (first | refine blk_drewN ?_ _ | refine blk_drew ?_ | refine blk_alloc ?_ _)); refine blk_far ?_ (by have h_ := Kd.R_ne HO242.out BK238.out (by decide); intro e_; exact h_ (by rw [e_]; rfl)) _; (with_reducible repeat (first | refine blk_drewN ?_ _ | refine blk_drew ?_ | refine blk_alloc ?_ _)); exact BK238.out⟩
     have n3_ : Aside0 ((w24.setCell ⟨go10, (t245 : Int).toNat * 5 + 1, none⟩ (.int .i64 t253)).heap[gb244]? = some (.cells #[.int .i64 t239, .slice (some ⟨go10, 0, none⟩) t240.length co17] 38 (0, 0))) := ⟨by (with_reducible repeat (first | refine blk_drewN ?_ _ | refine blk_drew ?_ | refine blk_alloc ?_ _)); refine blk_far ?_ (by have h_ := Kd.R_ne HO242.out BK244.out (by decide); intro e_; exact h_ (by rw [e_]; rfl)) _; (with_reducible repeat (first | refine blk_drewN ?_ _ | refine blk_drew ?_ | refine blk_alloc ?_ _)); exact BK244.out⟩
     have n4_ : Aside0 (IsS112 w0 (w24.setCell ⟨go10, (t245 : Int).toNat * 5 + 1, none⟩ (.int .i64 t253)) g s0_0 t254) := ⟨by repeat (first | (with_reducible first | exact HI0.out | apply IsS112.alloc | apply IsS112.drewN | apply IsS112.drew | apply IsS112.set_1 | refine IsS112.far ?_ HN0_go10.out _ | refine IsS112.far ?_ NB0_238.out _ | refine IsS112.far ?_ NB0_244.out _) | exact HI0.out)⟩
     have n5_ : Aside0 (KeepBut w (w24.setCell ⟨go10, (t245 : Int).toNat * 5 + 1, none⟩ (.int .i64 t253)) g none) := ⟨by repeat (first | (with_reducible first | exact HK.out | apply KeepBut.set_ | apply keep_drewN | apply keep_drew | apply keep_alloc | refine keep_far ?_ GB10.out _ | refine keep_far ?_ GW238.out _ | refine keep_far ?_ GW244.out _) | exact HK.out)⟩
     have n6_ : Aside0 (Below w0.heap.size w0 (w24.setCell ⟨go10, (t245 : Int).toNat * 5 + 1, none⟩ (.int .i64 t253))) := ⟨by repeat (first | (with_reducible first | exact HB.out | apply below_alloc | apply pw_below_drewN | apply below_drew1 | refine below_set ?_ (Nat.le_trans HL.out GB10.out) | refine below_set ?_ (IsS112.ge HI0.out) | refine below_set ?_ GE238.out | refine below_set ?_ GE244.out) | exact HB.out)⟩
     (try clear HO242)
     (try clear HO252)
     (try clear BK238)
     (try clear BK244)
     (try clear HI0)
     (try clear HK)
     (try clear HB)
     generalize (w24.setCell ⟨go10, (t245 : Int).toNat * 5 + 1, none⟩ (.int .i64 t253)) = w26 at n0_ n1_ n2_ n3_ n4_ n5_ n6_ ⊢
     have HO242 := n0_
     have HO252 := n1_
     have BK238 := n2_
     have BK244 := n3_
     have HI0 := n4_
     have HK := n5_
     have HB := n6_
     clear n0_ n1_ n2_ n3_ n4_ n5_ n6_
     have hcz27_0 : w26.cell? ⟨gb244, 0, none⟩ = some (.int .i64 t239) := (blk_cell BK244.out 0).trans rfl
     have hcz27_1 : w26.cell? ⟨gb244, 1, none⟩ = some (.slice (some ⟨go10, 0, none⟩) t240.length co17) := (blk_cell BK244.out 1).trans rfl
     have hfz27_0 := blk_frozen BK244.out 0
     have hfz27_1 := blk_frozen BK244.out 1
     have hnb28 := NB238_0.out
     have hnc28 := NB0_238.out
     have hcz29_0 : w26.cell? ⟨gb238, 0, none⟩ = some (.int .i64 0) := (blk_cell BK238.out 0).trans rfl
     have hcz29_1 : w26.cell? ⟨gb238, 1, none⟩ = some (.slice none 0 0) := (blk_cell BK238.out 1).trans rfl
     have hfz29_0 := blk_frozen BK238.out 0
     have hfz29_1 := blk_frozen BK238.out 1
     try go_wp2
     refine bodyPost_ret (results_cell_row rfl _ _ gb238 38 #[.int .i64 t239, .slice (some ⟨go10, 0, none⟩) t240.length co17] (0, 0) _ rfl (by (with_reducible repeat (first | refine blk_drewN ?_ _ | refine blk_drew ?_ | refine blk_alloc ?_ _)); refine blk_put (cs := #[.int .i64 t239, .slice none 0 0]) ?_ 1 _ rfl; (with_reducible repeat (first | refine blk_drewN ?_ _ | refine blk_drew ?_ | refine blk_alloc ?_ _)); refine blk_put (cs := #[.int .i64 0, .slice none 0 0]) ?_ 0 _ rfl; (with_reducible repeat (first | refine blk_drewN ?_ _ | refine blk_drew ?_ | refine blk_alloc ?_ _)); exact BK238.out) Try.underlying38 rfl (by kernel_rfl)) rfl ?_
     exact ⟨_, by first | rfl | (simp [errW_none, errW_some] <;> rfl) | (simp [*, errW_none, errW_some] <;> rfl), by (with_reducible repeat (first | apply Kd.R_alloc | apply Kd.R_drewN | apply Kd.R_drew)); exact Kd.R_mono (Kd.R_far (p := ⟨gb238, 1, none⟩) (Kd.R_far (p := ⟨gb238, 0, none⟩) (Kd.R_types HO242.out BK238.out (by decide)) (fun _ hk => hk.2) (.int .i64 t239)) (fun _ hk => hk.2) (.slice (some ⟨go10, 0, none⟩) t240.length co17)) (fun _ hk => trivial), by repeat (first | (with_reducible first | exact HI0.out | apply IsS112.alloc | apply IsS112.drewN | apply IsS112.drew | apply IsS112.set_1 | refine IsS112.far ?_ NB0_238.out _ | refine IsS112.far ?_ NB0_244.out _) | exact HI0.out), by repeat (first | (with_reducible first | exact HB.out | apply below_alloc | apply pw_below_drewN | apply below_drew1 | refine below_set ?_ (IsS112.ge HI0.out) | refine below_set ?_ GE238.out | refine below_set ?_ GE244.out) | exact HB.out), by repeat (first | (with_reducible first | exact HK.out | apply KeepBut.set_ | apply keep_drewN | apply keep_drew | apply keep_alloc | refine keep_far ?_ GW238.out _ | refine keep_far ?_ GW244.out _) | exact HK.out)⟩
    ·rw [if_neg c8] at H
     exact absurd H (by simp)
   ·rw [if_neg c7] at H
    exact absurd H (by simp)
  ·rw [if_neg c6] at H
   have c6b0 : (t247 == 0) = false := beq_eq_false_iff_ne.mpr c6
   have c6b1 : (t247 != 0) = true := bne_iff_ne.mpr c6
   by_cases c30 : t247 = 1
   ·rw [if_pos c30] at H
    have c30b0 : (t247 == 1) = true := beq_iff_eq.mpr c30
    have c30b1 : (t247 != 1) = false := bne_eq_false_iff_eq.mpr c30
    clear c30
    obtain ⟨y256, hy256⟩ : ∃ y_ : List Int, y_ = (([(-1), 100] : List Int)) := ⟨_, rfl⟩
    replace H : ((spec_l30Rd_one.f k s0_0 t248 y256).bind fun bt259 => (if 0 ≤ t245 then (if t245 < (t240.length : Int) then (some (t239, (t240.set (t245 : Int).toNat (⟨(rd_T45 t240 t245).f0, (rd_T45 t240 t245).f1, bt259.1, (rd_T45 t240 t245).f3, (rd_T45 t240 t245).f4⟩ : S45)), bt259.2)) else (none)) else (none))) = some (r1, r2, r3) := by first | (rw [hy256]; with_reducible exact H) | (have H2_ := (Option.bind_some _ _).symm.trans H; rw [hy256]; with_reducible exact H2_) | (have H2_ := (Option.bind_some _ _).symm.trans H; with_reducible exact H2_) | with_reducible exact H | (rw [hy256]; exact H) | exact H
    have Ny256 := Aside0.mk hy256
    clear hy256
    replace H := Option.bind_eq_some_iff.mp H
    obtain ⟨⟨t259, t260⟩, A310, H⟩ := H
    replace H : (if 0 ≤ t245 then (if t245 < (t240.length : Int) then (some (t239, (t240.set (t245 : Int).toNat (⟨(rd_T45 t240 t245).f0, (rd_T45 t240 t245).f1, t259, (rd_T45 t240 t245).f3, (rd_T45 t240 t245).f4⟩ : S45)), t260)) else (none)) else (none)) = some (r1, r2, r3) := H
    have A31 := Aside0.mk A310
    clear A310
    by_cases c32 : 0 ≤ t245
    ·rw [if_pos c32] at H
     have c32b0 : decide (0 ≤ t245) = true := decide_eq_true c32
     clear c32
     by_cases c33 : t245 < (t240.length : Int)
     ·rw [if_pos c33] at H
      have c33b0 : decide (t245 < (t240.length : Int)) = true := decide_eq_true c33
      clear c33
      obtain ⟨y261, hy261⟩ : ∃ y_ : List (S45), y_ = (t240.set (t245 : Int).toNat (⟨(rd_T45 t240 t245).f0, (rd_T45 t240 t245).f1, t259, (rd_T45 t240 t245).f3, (rd_T45 t240 t245).f4⟩ : S45)) := ⟨_, rfl⟩
      replace H : (some (t239, y261, t260)) = some (r1, r2, r3) := by first | (rw [hy261]; with_reducible exact H) | (have H2_ := (Option.bind_some _ _).symm.trans H; rw [hy261]; with_reducible exact H2_) | (have H2_ := (Option.bind_some _ _).symm.trans H; with_reducible exact H2_) | with_reducible exact H | (rw [hy261]; exact H) | exact H
      have Ny261 := Aside0.mk hy261
      clear hy261
      simp only [Option.some.injEq, Prod.mk.injEq] at H
      obtain ⟨rfl, rfl, rfl⟩ := H
      go_enter Try.func72, Try.ntmps72
      try go_wp2_with (first | ((with_reducible refine gate_dst (N := 2) rfl ?_); refine box_event ?hg (N := 2) ?hd (cs := #[.int .i64 0, .slice none 0 0]) (t := 38) ?hr ?_; (case hd => rfl); (case hg => rfl); (case hr => first | (go_simp; done) | (go_simp; rfl)); intro gb238 hg w35 hbox hb; have n0_ := Aside0.mk (IsS112.below (by repeat (first | (with_reducible first | exact HI0.out | apply IsS112.alloc | apply IsS112.drewN | apply IsS112.drew | apply IsS112.set_1) | exact HI0.out)) hb); have n1_ := Aside0.mk (KeepBut.trans (by repeat (first | (with_reducible first | exact HK.out | apply KeepBut.set_ | apply keep_drewN | apply keep_drew | apply keep_alloc) | exact HK.out)) (KeepBut.of_below hb g none) (.inl rfl)); have n2_ := Aside0.mk (below_step (by repeat (first | (with_reducible first | exact HB.out | apply below_alloc | apply pw_below_drewN | apply below_drew1 | refine below_set ?_ (IsS112.ge HI0.out)) | exact HB.out)) hb); have n3_ := Aside0.mk (hbox); have n4_ := Aside0.mk ((by rw [hg]; exact (keep_size (w := w) (g := g) (row := none) (by repeat (first | (with_reducible first | exact HK.out | apply KeepBut.set_ | apply keep_drewN | apply keep_drew | apply keep_alloc) | exact HK.out))) : w.heap.size ≤ gb238)); have n5_ := Aside0.mk ((Nat.le_trans HW0.out (by rw [hg]; exact (keep_size (w := w) (g := g) (row := none) (by repeat (first | (with_reducible first | exact HK.out | apply KeepBut.set_ | apply keep_drewN | apply keep_drew | apply keep_alloc) | exact HK.out))) : w.heap.size ≤ gb238) : w0.heap.size ≤ gb238)); have n6_ := Aside0.mk ((by rw [hg]; exact Nat.ne_of_lt (IsS112.lt (show IsS112 w0 _ g s0_0 s0_1 from by repeat (first | (with_reducible first | exact HI0.out | apply IsS112.alloc | apply IsS112.drewN | apply IsS112.drew | apply IsS112.set_1) | exact HI0.out))) : g ≠ gb238)); have n7_ := Aside0.mk ((by rw [hg]; exact Nat.ne_of_gt (IsS112.lt (show IsS112 w0 _ g s0_0 s0_1 from by repeat (first | (with_reducible first | exact HI0.out | apply IsS112.alloc | apply IsS112.drewN | apply IsS112.drew | apply IsS112.set_1) | exact HI0.out))) : gb238 ≠ g)); clear HI0; clear HK; clear HB; have HI0 := n0_; have HK := n1_; have HB := n2_; have BK238 := n3_; have GW238 := n4_; have GE238 := n5_; have NB0_238 := n6_; have NB238_0 := n7_; clear n0_ n1_ n2_ n3_ n4_ n5_ n6_ n7_; clear hb hbox hg) | ((with_reducible refine gate_callee (f := 115) rfl ?_); refine goesL_ (some 6) rfl rfl Try.func115 (by kernel_rfl) rfl #[.pointer (some ⟨g, 0, none⟩)] rfl (by (try simp only [List.map_toArray, List.map_cons, List.map_nil]); first | done | rfl | (simp only [List.length_drop, List.length_take]; rfl)) ?_; (with_reducible refine (spec_l30Net.calls k g s0_0 s0_1 t239 t240 t243 w0 _ ?side1 ?side2 A2.out).mono ?_); (case side1 => repeat (first | (with_reducible first | exact HI0.out | apply IsS112.alloc | apply IsS112.drewN | apply IsS112.drew | apply IsS112.set_1 | refine IsS112.far ?_ NB0_238.out _) | exact HI0.out)); (case side2 => repeat (first | (with_reducible first | exact HB.out | apply below_alloc | apply pw_below_drewN | apply below_drew1 | refine below_set ?_ (IsS112.ge HI0.out) | refine below_set ?_ GE238.out) | exact HB.out)); rintro e w36 ⟨v241, rfl, ho0, hi, hb, hk⟩; refine ⟨_, rfl, ?_⟩; have n0_ := Aside0.mk (KeepBut.blk hk (g' := gb238) (o := .cells #[.int .i64 0, .slice none 0 0] 38 (0, 0)) (by (with_reducible repeat (first | refine blk_drewN ?_ _ | refine blk_drew ?_ | refine blk_alloc ?_ _)); exact BK238.out) NB238_0.out (by simp)); have n1_ := Aside0.mk (Kd.R_lower ho0 (keep_size (w := w) (g := g) (row := none) (by repeat (first | (with_reducible first | exact HK.out | apply KeepBut.set_ | apply keep_drewN | apply keep_drew | apply keep_alloc | refine keep_far ?_ GW238.out _) | exact HK.out)))); have n2_ := Aside0.mk (KeepBut.trans (by repeat (first | (with_reducible first | exact HK.out | apply KeepBut.set_ | apply keep_drewN | apply keep_drew | apply keep_alloc | refine keep_far ?_ GW238.out _) | exact HK.out)) hk (.inl rfl)); have n3_ := Aside0.mk (hb); have n4_ := Aside0.mk (hi); clear BK238; clear HK; clear HB; clear HI0; have BK238 := n0_; have HO242 := n1_; have HK := n2_; have HB := n3_; have HI0 := n4_; clear n0_ n1_ n2_ n3_ n4_; (try clear hb); (try clear hb2); (try clear hk); (try clear hi); (try clear ho0)) | ((with_reducible refine gate_dst (N := 3) rfl ?_); refine box_event ?hg (N := 3) ?hd (cs := #[.int .i64 0, .slice none 0 0]) (t := 38) ?hr ?_; (case hd => rfl); (case hg => rfl); (case hr => first | (go_simp; done) | (go_simp; rfl)); intro gb244 hg w37 hbox hb; have n0_ := Aside0.mk (Kd.R_below (by (with_reducible repeat (first | apply Kd.R_alloc | apply Kd.R_drewN | apply Kd.R_drew)); exact HO242.out) hb); have n1_ := Aside0.mk (IsS112.below (by repeat (first | (with_reducible first | exact HI0.out | apply IsS112.alloc | apply IsS112.drewN | apply IsS112.drew | apply IsS112.set_1 | refine IsS112.far ?_ NB0_238.out _) | exact HI0.out)) hb); have n2_ := Aside0.mk (blk_below (g := gb238) (o := .cells #[.int .i64 0, .slice none 0 0] 38 (0, 0)) (by (with_reducible repeat (first | refine blk_drewN ?_ _ | refine blk_drew ?_ | refine blk_alloc ?_ _)); exact BK238.out) hb); have n3_ := Aside0.mk (KeepBut.trans (by repeat (first | (with_reducible first | exact HK.out | apply KeepBut.set_ | apply keep_drewN | apply keep_drew | apply keep_alloc | refine keep_far ?_ GW238.out _) | exact HK.out)) (KeepBut.of_below hb g none) (.inl rfl)); have n4_ := Aside0.mk (below_step (by repeat (first | (with_reducible first | exact HB.out | apply below_alloc | apply pw_below_drewN | apply below_drew1 | refine below_set ?_ (IsS112.ge HI0.out) | refine below_set ?_ GE238.out) | exact HB.out)) hb); have n5_ := Aside0.mk (hbox); have n6_ := Aside0.mk ((by rw [hg]; exact (keep_size (w := w) (g := g) (row := none) (by repeat (first | (with_reducible first | exact HK.out | apply KeepBut.set_ | apply keep_drewN | apply keep_drew | apply keep_alloc | refine keep_far ?_ GW238.out _) | exact HK.out))) : w.heap.size ≤ gb244)); have n7_ := Aside0.mk ((Nat.le_trans HW0.out (by rw [hg]; exact (keep_size (w := w) (g := g) (row := none) (by repeat (first | (with_reducible first | exact HK.out | apply KeepBut.set_ | apply keep_drewN | apply keep_drew | apply keep_alloc | refine keep_far ?_ GW238.out _) | exact HK.out))) : w.heap.size ≤ gb244) : w0.heap.size ≤ gb244)); have n8_ := Aside0.mk ((by rw [hg]; exact Nat.ne_of_lt (blk_lt (g := gb238) (o := .cells #[.int .i64 0, .slice none 0 0] 38 (0, 0)) (by (with_reducible repeat (first | refine blk_drewN ?_ _ | refine blk_drew ?_ | refine blk_alloc ?_ _)); exact BK238.out)) : gb238 ≠ gb244)); have n9_ := Aside0.mk ((by rw [hg]; exact Nat.ne_of_gt (blk_lt (g := gb238) (o := .cells #[.int .i64 0, .slice none 0 0] 38 (0, 0)) (by (with_reducible repeat (first | refine blk_drewN ?_ _ | refine blk_drew ?_ | refine blk_alloc ?_ _)); exact BK238.out)) : gb244 ≠ gb238)); have n10_ := Aside0.mk ((by rw [hg]; exact Nat.ne_of_lt (IsS112.lt (show IsS112 w0 _ g s0_0 t243 from by repeat (first | (with_reducible first | exact HI0.out | apply IsS112.alloc | apply IsS112.drewN | apply IsS112.drew | apply IsS112.set_1 | refine IsS112.far ?_ NB0_238.out _) | exact HI0.out))) : g ≠ gb244)); have n11_ := Aside0.mk ((by rw [hg]; exact Nat.ne_of_gt (IsS112.lt (show IsS112 w0 _ g s0_0 t243 from by repeat (first | (with_reducible first | exact HI0.out | apply IsS112.alloc | apply IsS112.drewN | apply IsS112.drew | apply IsS112.set_1 | refine IsS112.far ?_ NB0_238.out _) | exact HI0.out))) : gb244 ≠ g)); clear HO242; clear HI0; clear BK238; clear HK; clear HB; have HO242 := n0_; have HI0 := n1_; have BK238 := n2_; have HK := n3_; have HB := n4_; have BK244 := n5_; have GW244 := n6_; have GE244 := n7_; have NB238_244 := n8_; have NB244_238 := n9_; have NB0_244 := n10_; have NB244_0 := n11_; clear n0_ n1_ n2_ n3_ n4_ n5_ n6_ n7_ n8_ n9_ n10_ n11_; clear hb hbox hg; have hnb38 := NB244_238.out; have hnc38 := NB238_244.out; have hnb39 := NB244_0.out; have hnc39 := NB0_244.out; have hcz40_0 : w37.cell? ⟨gb244, 0, none⟩ = some (.int .i64 0) := (blk_cell BK244.out 0).trans rfl; have hcz40_1 : w37.cell? ⟨gb244, 1, none⟩ = some (.slice none 0 0) := (blk_cell BK244.out 1).trans rfl; have hfz40_0 := blk_frozen BK244.out 0; have hfz40_1 := blk_frozen BK244.out 1; obtain ⟨Ao41, co41, eo41⟩ := Kd.R_slice HO242.out; subst eo41) | ((with_reducible refine gate_callee (f := 74) rfl ?_); refine goesL_ (some 15) rfl rfl Try.func74 (by kernel_rfl) rfl #[.pointer (some ⟨g, 0, none⟩), .int .i64 (t240.length : Int)] rfl (by (try simp only [List.map_toArray, List.map_cons, List.map_nil]); first | done | rfl | (simp only [List.length_drop, List.length_take]; rfl)) ?_; (with_reducible refine (spec_l30Rd_pick.calls k g s0_0 t243 (t240.length : Int) t245 t246 w0 _ ?side1 ?side2 A4.out).mono ?_); (case side1 => repeat (first | (with_reducible first | exact HI0.out | apply IsS112.alloc | apply IsS112.drewN | apply IsS112.drew | apply IsS112.set_1 | refine IsS112.far ?_ NB0_238.out _ | refine IsS112.far ?_ NB0_244.out _) | exact HI0.out)); (case side2 => repeat (first | (with_reducible first | exact HB.out | apply below_alloc | apply pw_below_drewN | apply below_drew1 | refine below_set ?_ (IsS112.ge HI0.out) | refine below_set ?_ GE238.out | refine below_set ?_ GE244.out) | exact HB.out)); rintro e w42 ⟨rfl, hi, hb, hk⟩; refine ⟨_, rfl, ?_⟩; have n0_ := Aside0.mk (KeepBut.blk hk (g' := gb238) (o := .cells #[.int .i64 0, .slice none 0 0] 38 (0, 0)) (by (with_reducible repeat (first | refine blk_drewN ?_ _ | refine blk_drew ?_ | refine blk_alloc ?_ _)); refine blk_far ?_ NB238_244.out _; (with_reducible repeat (first | refine blk_drewN ?_ _ | refine blk_drew ?_ | refine blk_alloc ?_ _)); refine blk_far ?_ NB238_244.out _; (with_reducible repeat (first | refine blk_drewN ?_ _ | refine blk_drew ?_ | refine blk_alloc ?_ _)); exact BK238.out) NB238_0.out (by simp)); have n1_ := Aside0.mk (Kd.R_mono (Kd.R_keep (IsS112.apart (show IsS112 w0 _ g s0_0 t243 from by repeat (first | (with_reducible first | exact HI0.out | apply IsS112.alloc | apply IsS112.drewN | apply IsS112.drew | apply IsS112.set_1 | refine IsS112.far ?_ NB0_238.out _ | refine IsS112.far ?_ NB0_244.out _) | exact HI0.out)) (by (with_reducible repeat (first | apply Kd.R_alloc | apply Kd.R_drewN | apply Kd.R_drew)); exact (Kd.R_mono (Kd.R_far (p := ⟨gb244, 1, none⟩) (Kd.R_far (p := ⟨gb244, 0, none⟩) (Kd.R_types HO242.out BK244.out (by decide)) (fun _ hk => hk.2) (.int .i64 t239)) (fun _ hk => hk.2) (.slice Ao41 t240.length co41)) (fun _ h_ => h_.1))) (by decide)) hk (fun _ h => h.2)) (fun _ h => h.1)); have n2_ := Aside0.mk (KeepBut.blk hk (g' := gb244) (o := .cells #[.int .i64 t239, .slice Ao41 t240.length co41] 38 (0, 0)) (by (with_reducible repeat (first | refine blk_drewN ?_ _ | refine blk_drew ?_ | refine blk_alloc ?_ _)); refine blk_put (cs := #[.int .i64 t239, .slice none 0 0]) ?_ 1 _ rfl; (with_reducible repeat (first | refine blk_drewN ?_ _ | refine blk_drew ?_ | refine blk_alloc ?_ _)); refine blk_put (cs := #[.int .i64 0, .slice none 0 0]) ?_ 0 _ rfl; (with_reducible repeat (first | refine blk_drewN ?_ _ | refine blk_drew ?_ | refine blk_alloc ?_ _)); exact BK244.out) NB244_0.out (by simp)); have n3_ := Aside0.mk (KeepBut.trans (by repeat (first | (with_reducible first | exact HK.out | apply KeepBut.set_ | apply keep_drewN | apply keep_drew | apply keep_alloc | refine keep_far ?_ GW238.out _ | refine keep_far ?_ GW244.out _) | exact HK.out)) hk (.inl rfl)); have n4_ := Aside0.mk (hb); have n5_ := Aside0.mk (hi); clear BK238; clear HO242; clear BK244; clear HK; clear HB; clear HI0; have BK238 := n0_; have HO242 := n1_; have BK244 := n2_; have HK := n3_; have HB := n4_; have HI0 := n5_; clear n0_ n1_ n2_ n3_ n4_ n5_; (try clear hb); (try clear hb2); (try clear hk); (try clear hi)) | ((with_reducible refine gate_callee (f := 74) rfl ?_); refine goesL_ (some 17) rfl rfl Try.func74 (by kernel_rfl) rfl #[.pointer (some ⟨g, 0, none⟩), .int .i64 16] rfl (by (try simp only [List.map_toArray, List.map_cons, List.map_nil]); first | done | rfl | (simp only [List.length_drop, List.length_take]; rfl)) ?_; (with_reducible refine (spec_l30Rd_pick.calls k g s0_0 t246 16 t247 t248 w0 _ ?side1 ?side2 A5.out).mono ?_); (case side1 => repeat (first | (with_reducible first | exact HI0.out | apply IsS112.alloc | apply IsS112.drewN | apply IsS112.drew | apply IsS112.set_1 | refine IsS112.far ?_ NB0_238.out _ | refine IsS112.far ?_ NB0_244.out _) | exact HI0.out)); (case side2 => repeat (first | (with_reducible first | exact HB.out | apply below_alloc | apply pw_below_drewN | apply below_drew1 | refine below_set ?_ (IsS112.ge HI0.out) | refine below_set ?_ GE238.out | refine below_set ?_ GE244.out) | exact HB.out)); rintro e w43 ⟨rfl, hi, hb, hk⟩; refine ⟨_, rfl, ?_⟩; have n0_ := Aside0.mk (KeepBut.blk hk (g' := gb238) (o := .cells #[.int .i64 0, .slice none 0 0] 38 (0, 0)) (by (with_reducible repeat (first | refine blk_drewN ?_ _ | refine blk_drew ?_ | refine blk_alloc ?_ _)); exact BK238.out) NB238_0.out (by simp)); have n1_ := Aside0.mk (Kd.R_mono (Kd.R_keep (IsS112.apart (show IsS112 w0 _ g s0_0 t246 from by repeat (first | (with_reducible first | exact HI0.out | apply IsS112.alloc | apply IsS112.drewN | apply IsS112.drew | apply IsS112.set_1 | refine IsS112.far ?_ NB0_238.out _ | refine IsS112.far ?_ NB0_244.out _) | exact HI0.out)) (by (with_reducible repeat (first | apply Kd.R_alloc | apply Kd.R_drewN | apply Kd.R_drew)); exact HO242.out) (by decide)) hk (fun _ h => h.2)) (fun _ h => h.1)); have n2_ := Aside0.mk (KeepBut.blk hk (g' := gb244) (o := .cells #[.int .i64 t239, .slice Ao41 t240.length co41] 38 (0, 0)) (by (with_reducible repeat (first | refine blk_drewN ?_ _ | refine blk_drew ?_ | refine blk_alloc ?_ _)); exact BK244.out) NB244_0.out (by simp)); have n3_ := Aside0.mk (KeepBut.trans (by repeat (first | (with_reducible first | exact HK.out | apply KeepBut.set_ | apply keep_drewN | apply keep_drew | apply keep_alloc | refine keep_far ?_ GW238.out _ | refine keep_far ?_ GW244.out _) | exact HK.out)) hk (.inl rfl)); have n4_ := Aside0.mk (hb); have n5_ := Aside0.mk (hi); clear BK238; clear HO242; clear BK244; clear HK; clear HB; clear HI0; have BK238 := n0_; have HO242 := n1_; have BK244 := n2_; have HK := n3_; have HB := n4_; have HI0 := n5_; clear n0_ n1_ n2_ n3_ n4_ n5_; (try clear hb); (try clear hb2); (try clear hk); (try clear hi)))
      have n0_ := Aside0.mk (Kd.R_drew HO242.out)
      have n1_ := Aside0.mk (blk_drew BK238.out)
      have n2_ := Aside0.mk (blk_drew BK244.out)
      have n3_ := Aside0.mk (IsS112.drew HI0.out)
      have n4_ := Aside0.mk (keep_drew HK.out)
      have n5_ := Aside0.mk (below_drew1 HB.out)
      clear HO242
      clear BK238
      clear BK244
      clear HI0
      clear HK
      clear HB
      have HO242 := n0_
      have BK238 := n1_
      have BK244 := n2_
      have HI0 := n3_
      have HK := n4_
      have HB := n5_
      clear n0_ n1_ n2_ n3_ n4_ n5_
      refine start_ (n := 9) (S := fun w' => w'.cell? ⟨gb244, 0, none⟩ = some (.int .i64 t239) ∧ w'.cell? ⟨gb244, 1, none⟩ = some (.slice Ao41 t240.length co41)) (ds := [8]) #[false, false, false, false, false, false, false, false, false] (by kernel_rfl) rfl rfl ⟨(blk_cell BK244.out 0).trans rfl, (blk_cell BK244.out 1).trans rfl⟩ (fun hHeld => ?_); refine with_tabW spec_l30AnyNet.tab8 spec_l30AnyNet.bits8 (fun HT_ HW_ => ?_)
      generalize w43.drew = w44 at HO242 BK238 BK244 HI0 HK HB hHeld ⊢
      refine pure_ (i := 0) (N := some 36) (v := ?_) (a' := ?_) #[true, false, false, false, false, false, false, false, false] rfl rfl (any_of HT_.out (by kernel_rfl)) (fun _ _ _ h => h) (Or.inl ⟨by rfl, ?_⟩) ?_ ?_
      rotate_left
      ·intro w'
       go_simp
       with_reducible rfl
      rotate_left
      ·simp only [Act.put, List.setIfInBounds_toArray, List.set_cons_zero, List.set_cons_succ, i64_w, i32_w]
       rfl
      refine pure_ (i := 2) (N := some 38) (v := ?_) (a' := ?_) #[true, false, true, false, false, false, false, false, false] rfl rfl (any_of HT_.out (by kernel_rfl)) (fun _ _ _ h => h) (Or.inl ⟨by rfl, ?_⟩) ?_ ?_
      rotate_left
      ·intro w'
       go_simp
       with_reducible rfl
      rotate_left
      ·simp only [Act.put, List.setIfInBounds_toArray, List.set_cons_zero, List.set_cons_succ, i64_w, i32_w]
       rfl
      refine pure_ (i := 3) (N := some 39) (v := ?_) (a' := ?_) #[true, false, true, true, false, false, false, false, false] rfl rfl (any_of HT_.out (by kernel_rfl)) (fun _ _ _ h => h) (Or.inl ⟨by rfl, ?_⟩) ?_ ?_
      rotate_left
      ·intro w'
       go_simp
       with_reducible rfl
      rotate_left
      ·simp only [Act.put, List.setIfInBounds_toArray, List.set_cons_zero, List.set_cons_succ, i64_w, i32_w]
       rfl
      refine take_ (i := 1) (N := some 37) (v := ?_) (a' := ?_) #[true, true, true, true, false, false, false, false, false] rfl rfl (take_ofW HT_.out HW_.out (by kernel_rfl)) (fun _ _ _ h => h) (Or.inl ⟨by rfl, ?_⟩) hHeld ?_ ?_
      rotate_left
      ·rintro w' ⟨s0, s1⟩
       go_simp
       with_reducible rfl
      rotate_left
      ·simp only [Act.put, List.setIfInBounds_toArray, List.set_cons_zero, List.set_cons_succ, i64_w, i32_w]
       rfl
      refine one_ (i := 4) (N := some 40) #[true, true, true, true, true, false, false, false, false] rfl rfl (one_of HT_.out (by kernel_rfl)) (by decide) (fun K hK => ?_)
      refine Kd.R_lit_step (Kd.int .i64) _ 3 ?hg (N := 40) ?hd (xs := ([(-1), 100] : List Int)) (inner := [.int .i64 (-1), .int .i64 100]) (ok := fun _ => True) (okp := fun _ => True) ?hr ?hp (fun _ hk => hk) trivial (Below.refl _ _) (Nat.le_refl _) (by simp) ?_; (case hd => rfl); (case hg => rfl); (case hr => first | (go_simp; done) | (go_simp; rfl)); (case hp => exact (Reps.one (show Kd.M (Kd.int .i64) _ _ _ (-1) [.int .i64 (-1)] from rfl) (Reps.one (show Kd.M (Kd.int .i64) _ _ _ 100 [.int .i64 100] from rfl) (Reps.none _ _))))
      intro v257 w45 ho46 hb hg_ hnew_
      clear hg_ hnew_
      (first | rw [← Ny256.out] at ho46 | (simp only [Int.reduceToNat] at ho46; rw [← Ny256.out] at ho46))
      have n0_ := Aside0.mk (Kd.R_below (by (with_reducible repeat (first | apply Kd.R_alloc | apply Kd.R_drewN | apply Kd.R_drew)); exact HO242.out) hb)
      have n1_ := Aside0.mk (Kd.R_lower ho46 (keep_size (w := w) (g := g) (row := none) (by repeat (first | (with_reducible first | exact HK.out | apply KeepBut.set_ | apply keep_drewN | apply keep_drew | apply keep_alloc | refine keep_far ?_ GW238.out _ | refine keep_far ?_ GW244.out _) | exact HK.out))))
      have n2_ := Aside0.mk (IsS112.below (by repeat (first | (with_reducible first | exact HI0.out | apply IsS112.alloc | apply IsS112.drewN | apply IsS112.drew | apply IsS112.set_1 | refine IsS112.far ?_ NB0_238.out _ | refine IsS112.far ?_ NB0_244.out _) | exact HI0.out)) hb)
      have n3_ := Aside0.mk (blk_below (g := gb238) (o := .cells #[.int .i64 0, .slice none 0 0] 38 (0, 0)) (by (with_reducible repeat (first | refine blk_drewN ?_ _ | refine blk_drew ?_ | refine blk_alloc ?_ _)); exact BK238.out) hb)
      have n4_ := Aside0.mk (blk_below (g := gb244) (o := .cells #[.int .i64 t239, .slice Ao41 t240.length co41] 38 (0, 0)) (by (with_reducible repeat (first | refine blk_drewN ?_ _ | refine blk_drew ?_ | refine blk_alloc ?_ _)); exact BK244.out) hb)
      have n5_ := Aside0.mk (KeepBut.trans (by repeat (first | (with_reducible first | exact HK.out | apply KeepBut.set_ | apply keep_drewN | apply keep_drew | apply keep_alloc | refine keep_far ?_ GW238.out _ | refine keep_far ?_ GW244.out _) | exact HK.out)) (KeepBut.of_below hb g none) (.inl rfl))
      have n6_ := Aside0.mk (below_step (by repeat (first | (with_reducible first | exact HB.out | apply below_alloc | apply pw_below_drewN | apply below_drew1 | refine below_set ?_ (IsS112.ge HI0.out) | refine below_set ?_ GE238.out | refine below_set ?_ GE244.out) | exact HB.out)) hb)
      clear HO242
      clear HI0
      clear BK238
      clear BK244
      clear HK
      clear HB
      have HO242 := n0_
      have HO258 := n1_
      have HI0 := n2_
      have BK238 := n3_
      have BK244 := n4_
      have HK := n5_
      have HB := n6_
      clear n0_ n1_ n2_ n3_ n4_ n5_ n6_
      clear hb ho46
      obtain ⟨Ao47, co47, eo47⟩ := Kd.R_slice HO258.out
      (first | subst eo47 | (injection eo47 with f1_ f2_ f3_; have f4_ := f1_.symm; have f5_ := f3_.symm; clear f1_ f2_ f3_; subst f4_; subst f5_))
      refine hK.out _ _ ⟨(blk_cell BK244.out 0).trans rfl, (blk_cell BK244.out 1).trans rfl⟩ (fun hHeld => ?_)
      clear hK K
      refine norm_ (a' := ?_) ?_ ?_
      rotate_left
      ·show Act.put _ (some 40) _ = _
       simp only [Act.put, List.setIfInBounds_toArray, List.set_cons_zero, List.set_cons_succ, i64_w, i32_w]
       rfl
      refine one_ (i := 5) (N := some 41) #[true, true, true, true, true, true, false, false, false] rfl rfl (one_of HT_.out (by kernel_rfl)) (by decide) (fun K hK => ?_)
      refine goes_ Try.func75 (by kernel_rfl) rfl #[.pointer (some ⟨g, 0, none⟩), .slice Ao47 y256.length co47] (by rfl) rfl rfl (by (try simp only [List.map_toArray, List.map_cons, List.map_nil]); first | done | rfl | (simp only [List.length_drop, List.length_take]; rfl)) ?_
      with_reducible refine (spec_l30Rd_one.calls k g s0_0 t248 _ _ y256 t259 t260 w0 _ ?side1 ?side2 ?side3 ?side4 ?side5 A31.out).mono ?_
      (case side1 => repeat (first | (with_reducible first | exact HI0.out | apply IsS112.alloc | apply IsS112.drewN | apply IsS112.drew | apply IsS112.set_1 | refine IsS112.far ?_ NB0_238.out _ | refine IsS112.far ?_ NB0_244.out _) | exact HI0.out))
      (case side2 => repeat (first | (with_reducible first | exact HB.out | apply below_alloc | apply pw_below_drewN | apply below_drew1 | refine below_set ?_ (IsS112.ge HI0.out) | refine below_set ?_ GE238.out | refine below_set ?_ GE244.out) | exact HB.out))
      (case side3 => repeat (first | exact (Kd.R_reads' HO258.out).2.2 | (with_reducible refine Kd.C_alloc ?_ _) | (with_reducible refine Kd.C_drewN ?_ _) | (with_reducible refine Kd.C_drew ?_)))
      (case side4 => exact (Kd.R_reads' HO258.out).2.1)
      (case side5 => exact far_slice (IsS112.own_ne HI0.out HO258.out (by decide)))
      rintro e w48 ⟨rfl, hi, hb, hk⟩
      refine ⟨_, rfl, ?_⟩
      have n0_ := Aside0.mk (KeepBut.blk hk (g' := gb238) (o := .cells #[.int .i64 0, .slice none 0 0] 38 (0, 0)) (by (with_reducible repeat (first | refine blk_drewN ?_ _ | refine blk_drew ?_ | refine blk_alloc ?_ _)); exact BK238.out) NB238_0.out (by simp))
      have n1_ := Aside0.mk (Kd.R_mono (Kd.R_keep (IsS112.apart (show IsS112 w0 _ g s0_0 t248 from by repeat (first | (with_reducible first | exact HI0.out | apply IsS112.alloc | apply IsS112.drewN | apply IsS112.drew | apply IsS112.set_1 | refine IsS112.far ?_ NB0_238.out _ | refine IsS112.far ?_ NB0_244.out _) | exact HI0.out)) (by (with_reducible repeat (first | apply Kd.R_alloc | apply Kd.R_drewN | apply Kd.R_drew)); exact HO242.out) (by decide)) hk (fun _ h => h.2)) (fun _ h => h.1))
      have n2_ := Aside0.mk (KeepBut.blk hk (g' := gb244) (o := .cells #[.int .i64 t239, .slice Ao41 t240.length co41] 38 (0, 0)) (by (with_reducible repeat (first | refine blk_drewN ?_ _ | refine blk_drew ?_ | refine blk_alloc ?_ _)); exact BK244.out) NB244_0.out (by simp))
      have n3_ := Aside0.mk (Kd.R_mono (Kd.R_keep (IsS112.apart (show IsS112 w0 _ g s0_0 t248 from by repeat (first | (with_reducible first | exact HI0.out | apply IsS112.alloc | apply IsS112.drewN | apply IsS112.drew | apply IsS112.set_1 | refine IsS112.far ?_ NB0_238.out _ | refine IsS112.far ?_ NB0_244.out _) | exact HI0.out)) (by (with_reducible repeat (first | apply Kd.R_alloc | apply Kd.R_drewN | apply Kd.R_drew)); exact HO258.out) (by decide)) hk (fun _ h => h.2)) (fun _ h => h.1))
      have n4_ := Aside0.mk (KeepBut.trans (by repeat (first | (with_reducible first | exact HK.out | apply KeepBut.set_ | apply keep_drewN | apply keep_drew | apply keep_alloc | refine keep_far ?_ GW238.out _ | refine keep_far ?_ GW244.out _) | exact HK.out)) hk (.inl rfl))
      have n5_ := Aside0.mk (hb)
      have n6_ := Aside0.mk (hi)
      clear BK238
      clear HO242
      clear BK244
      clear HO258
      clear HK
      clear HB
      clear HI0
      have BK238 := n0_
      have HO242 := n1_
      have BK244 := n2_
      have HO258 := n3_
      have HK := n4_
      have HB := n5_
      have HI0 := n6_
      clear n0_ n1_ n2_ n3_ n4_ n5_ n6_
      (try clear hb)
      (try clear hb2)
      (try clear hk)
      (try clear hi)
      have p34 : 0 ≤ (t245 : Int) := of_decide_eq_true (by first | (with_reducible assumption) | assumption)
      have q34 : (t245 : Int) < ((t240.length : Int) : Int) := of_decide_eq_true (by first | (with_reducible assumption) | assumption)
      obtain ⟨go34, co34, eo34, gb34, gl34, cl34, HG34⟩ := Kd.R_form HO242.out (by omega)
      (first | cases eo34 | (injection eo34 with ea_ en_ ec_; (first | subst ea_ | (injection ea_ with ea_; subst ea_)); subst ec_; clear en_))
      have GB34 := Aside0.mk gb34
      have GG34 := Aside0.mk HG34
      clear gb34 gl34 HG34
      obtain ⟨ce34, hcl34, hM34, hcc34, hfr34⟩ := Kd.R_elem HO242.out z45 (t245 : Int) p34 q34
      obtain rfl := k45_openM hM34
      have hx34_0 : World.cell? _ ⟨go34, (t245 : Int).toNat * 5, none⟩ = some (.int .i64 ((rd_T45 t240 t245).f0)) := hcc34 0 _ rfl
      have hx34_1 : World.cell? _ ⟨go34, (t245 : Int).toNat * 5 + 1, none⟩ = some (.int .i64 ((rd_T45 t240 t245).f1)) := hcc34 1 _ rfl
      have hx34_2 : World.cell? _ ⟨go34, (t245 : Int).toNat * 5 + 2, none⟩ = some (.int .i64 ((rd_T45 t240 t245).f2)) := hcc34 2 _ rfl
      have hx34_3 : World.cell? _ ⟨go34, (t245 : Int).toNat * 5 + 3, none⟩ = some (.int .i64 ((rd_T45 t240 t245).f3)) := hcc34 3 _ rfl
      have hx34_4 : World.cell? _ ⟨go34, (t245 : Int).toNat * 5 + 4, none⟩ = some (.int .i64 ((rd_T45 t240 t245).f4)) := hcc34 4 _ rfl
      have hf34_0 : World.frozen? _ ⟨go34, (t245 : Int).toNat * 5, none⟩ = false := hfr34 0
      have hf34_1 : World.frozen? _ ⟨go34, (t245 : Int).toNat * 5 + 1, none⟩ = false := hfr34 1
      have hf34_2 : World.frozen? _ ⟨go34, (t245 : Int).toNat * 5 + 2, none⟩ = false := hfr34 2
      have hf34_3 : World.frozen? _ ⟨go34, (t245 : Int).toNat * 5 + 3, none⟩ = false := hfr34 3
      have hf34_4 : World.frozen? _ ⟨go34, (t245 : Int).toNat * 5 + 4, none⟩ = false := hfr34 4
      clear hcl34 hcc34 hfr34; (try clear hM34)
      replace p34 := eq_true p34
      replace q34 := eq_true q34
      have HN0_go34 := Aside0.mk (show g ≠ go34 from by have h_ := IsS112.own_ne HI0.out HO242.out (by decide); intro e_; exact h_ (by rw [e_]; rfl))
      obtain ⟨ce49, hcl49, hM49, hcc49, hfr49⟩ := Kd.R_elem HO242.out z45 (t245 : Int) (of_decide_eq_true (by first | (with_reducible assumption) | assumption)) (by have h_ : (t245 : Int) < ((t240.length : Int) : Int) := of_decide_eq_true (by first | (with_reducible assumption) | assumption); first | exact h_ | (have e_ := (Kd.R_reads' HO242.out).1; omega) | simpa using h_)
      obtain rfl := k45_openM hM49
      have HP49 := (Kd.R_seg HO242.out (t245 : Int) (of_decide_eq_true (by first | (with_reducible assumption) | assumption)) (by have h_ : (t245 : Int) < ((t240.length : Int) : Int) := of_decide_eq_true (by first | (with_reducible assumption) | assumption); first | exact h_ | (have e_ := (Kd.R_reads' HO242.out).1; omega) | simpa using h_) (seg := [.int .i64 t259]) (j := 2) hcl49 hcc49 (show 3 ≤ 5 from by decide) (x' := (⟨(rd_T45 t240 t245).f0, (rd_T45 t240 t245).f1, t259, (rd_T45 t240 t245).f3, (rd_T45 t240 t245).f4⟩ : S45)) (k45_mkM _ _ _ (⟨(rd_T45 t240 t245).f0, (rd_T45 t240 t245).f1, t259, (rd_T45 t240 t245).f3, (rd_T45 t240 t245).f4⟩ : S45) ) (fun _ hk => hk)).1
      rw [← Ny261.out] at HP49
      have HQ49 := Aside0.mk HP49
      clear hcl49 hcc49 hfr49 HP49; (try clear hM49)
      refine hK.out _ _ ⟨(blk_cell BK244.out 0).trans rfl, (blk_cell BK244.out 1).trans rfl⟩ (fun hHeld => ?_)
      clear hK K
      refine norm_ (a' := ?_) ?_ ?_
      rotate_left
      ·show Act.put _ (some 41) _ = _
       simp only [Act.put, List.setIfInBounds_toArray, List.set_cons_zero, List.set_cons_succ, i64_w, i32_w]
       rfl
      refine pure_ (i := 6) (N := some 42) (v := ?_) (a' := ?_) #[true, true, true, true, true, true, true, false, false] rfl rfl (any_of HT_.out (by kernel_rfl)) (fun _ _ _ h => h) (Or.inl ⟨by rfl, ?_⟩) ?_ ?_
      rotate_left
      ·intro w'
       go_simp
       with_reducible rfl
      rotate_left
      ·simp only [Act.put, List.setIfInBounds_toArray, List.set_cons_zero, List.set_cons_succ, i64_w, i32_w]
       rfl
      refine pure_ (i := 7) (N := some 43) (v := ?_) (a' := ?_) #[true, true, true, true, true, true, true, true, false] rfl rfl (any_of HT_.out (by kernel_rfl)) (fun _ _ _ h => h) (Or.inl ⟨by rfl, ?_⟩) ?_ ?_
      rotate_left
      ·intro w'
       go_simp
       with_reducible rfl
      rotate_left
      ·simp only [Act.put, List.setIfInBounds_toArray, List.set_cons_zero, List.set_cons_succ, i64_w, i32_w]
       rfl
      refine last_ (i := 8) (N := none) #[true, true, true, true, true, true, true, true, true] rfl rfl (one_of HT_.out (by kernel_rfl)) (by decide) (fun K hK => ?_)
      refine skip_ (w1 := ?_) (by rfl) rfl ?_ ?_
      rotate_left
      ·go_simp
       rfl
      refine hK.out _ _ ?_
      clear hK K
      refine done_ (done_of HT_.out (by kernel_rfl)) ?_
      have n0_ : Aside0 (Kd.R k45 45 (w48.setCell ⟨go34, (t245 : Int).toNat * 5 + 2, none⟩ (.int .i64 t259)) w.heap.size (fun _ => True) (.slice (some ⟨go34, 0, none⟩) t240.length co41) y261) := ⟨by (with_reducible repeat (first | apply Kd.R_alloc | apply Kd.R_drewN | apply Kd.R_drew)); exact HQ49.out⟩
      have n1_ : Aside0 (Kd.R (Kd.int .i64) 3 (w48.setCell ⟨go34, (t245 : Int).toNat * 5 + 2, none⟩ (.int .i64 t259)) w.heap.size (fun _ => True) (.slice Ao47 y256.length co47) y256) := ⟨by (with_reducible repeat (first | apply Kd.R_alloc | apply Kd.R_drewN | apply Kd.R_drew)); exact Kd.R_mono (Kd.R_far (p := ⟨go34, (t245 : Int).toNat * 5 + 2, none⟩) (Kd.R_types HO258.out GG34.out (by decide)) (fun _ hk => hk.2) (.int .i64 t259)) (fun _ hk => trivial)⟩
      have n2_ : Aside0 ((w48.setCell ⟨go34, (t245 : Int).toNat * 5 + 2, none⟩ (.int .i64 t259)).heap[gb238]? = some (.cells #[.int .i64 0, .slice none 0 0] 38 (0, 0))) := ⟨by (with_reducible repeat (first | refine blk_drewN ?_ _ | refine blk_drew ?_ | refine blk_alloc ?_ _)); refine blk_far ?_ (by have h_ := Kd.R_ne HO242.out BK238.out (by decide); intro e_; exact h_ (by rw [e_]; rfl)) _; (with_reducible repeat (first | refine blk_drewN ?_ _ | refine blk_drew ?_ | refine blk_alloc ?_ _)); exact BK238.out⟩
      have n3_ : Aside0 ((w48.setCell ⟨go34, (t245 : Int).toNat * 5 + 2, none⟩ (.int .i64 t259)).heap[gb244]? = some (.cells #[.int .i64 t239, .slice (some ⟨go34, 0, none⟩) t240.length co41] 38 (0, 0))) := ⟨by (with_reducible repeat (first | refine blk_drewN ?_ _ | refine blk_drew ?_ | refine blk_alloc ?_ _)); refine blk_far ?_ (by have h_ := Kd.R_ne HO242.out BK244.out (by decide); intro e_; exact h_ (by rw [e_]; rfl)) _; (with_reducible repeat (first | refine blk_drewN ?_ _ | refine blk_drew ?_ | refine blk_alloc ?_ _)); exact BK244.out⟩
      have n4_ : Aside0 (IsS112 w0 (w48.setCell ⟨go34, (t245 : Int).toNat * 5 + 2, none⟩ (.int .i64 t259)) g s0_0 t260) := ⟨by repeat (first | (with_reducible first | exact HI0.out | apply IsS112.alloc | apply IsS112.drewN | apply IsS112.drew | apply IsS112.set_1 | refine IsS112.far ?_ HN0_go34.out _ | refine IsS112.far ?_ NB0_238.out _ | refine IsS112.far ?_ NB0_244.out _) | exact HI0.out)⟩
      have n5_ : Aside0 (KeepBut w (w48.setCell ⟨go34, (t245 : Int).toNat * 5 + 2, none⟩ (.int .i64 t259)) g none) := ⟨by repeat (first | (with_reducible first | exact HK.out | apply KeepBut.set_ | apply keep_drewN | apply keep_drew | apply keep_alloc | refine keep_far ?_ GB34.out _ | refine keep_far ?_ GW238.out _ | refine keep_far ?_ GW244.out _) | exact HK.out)⟩
      have n6_ : Aside0 (Below w0.heap.size w0 (w48.setCell ⟨go34, (t245 : Int).toNat * 5 + 2, none⟩ (.int .i64 t259))) := ⟨by repeat (first | (with_reducible first | exact HB.out | apply below_alloc | apply pw_below_drewN | apply below_drew1 | refine below_set ?_ (Nat.le_trans HL.out GB34.out) | refine below_set ?_ (IsS112.ge HI0.out) | refine below_set ?_ GE238.out | refine below_set ?_ GE244.out) | exact HB.out)⟩
      (try clear HO242)
      (try clear HO258)
      (try clear BK238)
      (try clear BK244)
      (try clear HI0)
      (try clear HK)
      (try clear HB)
      generalize (w48.setCell ⟨go34, (t245 : Int).toNat * 5 + 2, none⟩ (.int .i64 t259)) = w50 at n0_ n1_ n2_ n3_ n4_ n5_ n6_ ⊢
      have HO242 := n0_
      have HO258 := n1_
      have BK238 := n2_
      have BK244 := n3_
      have HI0 := n4_
      have HK := n5_
      have HB := n6_
      clear n0_ n1_ n2_ n3_ n4_ n5_ n6_
      have hcz51_0 : w50.cell? ⟨gb244, 0, none⟩ = some (.int .i64 t239) := (blk_cell BK244.out 0).trans rfl
      have hcz51_1 : w50.cell? ⟨gb244, 1, none⟩ = some (.slice (some ⟨go34, 0, none⟩) t240.length co41) := (blk_cell BK244.out 1).trans rfl
      have hfz51_0 := blk_frozen BK244.out 0
      have hfz51_1 := blk_frozen BK244.out 1
      have hnb52 := NB238_0.out
      have hnc52 := NB0_238.out
      have hcz53_0 : w50.cell? ⟨gb238, 0, none⟩ = some (.int .i64 0) := (blk_cell BK238.out 0).trans rfl
      have hcz53_1 : w50.cell? ⟨gb238, 1, none⟩ = some (.slice none 0 0) := (blk_cell BK238.out 1).trans rfl
      have hfz53_0 := blk_frozen BK238.out 0
      have hfz53_1 := blk_frozen BK238.out 1
      try go_wp2
      refine bodyPost_ret (results_cell_row rfl _ _ gb238 38 #[.int .i64 t239, .slice (some ⟨go34, 0, none⟩) t240.length co41] (0, 0) _ rfl (by (with_reducible repeat (first | refine blk_drewN ?_ _ | refine blk_drew ?_ | refine blk_alloc ?_ _)); refine blk_put (cs := #[.int .i64 t239, .slice none 0 0]) ?_ 1 _ rfl; (with_reducible repeat (first | refine blk_drewN ?_ _ | refine blk_drew ?_ | refine blk_alloc ?_ _)); refine blk_put (cs := #[.int .i64 0, .slice none 0 0]) ?_ 0 _ rfl; (with_reducible repeat (first | refine blk_drewN ?_ _ | refine blk_drew ?_ | refine blk_alloc ?_ _)); exact BK238.out) Try.underlying38 rfl (by kernel_rfl)) rfl ?_
      exact ⟨_, by first | rfl | (simp [errW_none, errW_some] <;> rfl) | (simp [*, errW_none, errW_some] <;> rfl), by (with_reducible repeat (first | apply Kd.R_alloc | apply Kd.R_drewN | apply Kd.R_drew)); exact Kd.R_mono (Kd.R_far (p := ⟨gb238, 1, none⟩) (Kd.R_far (p := ⟨gb238, 0, none⟩) (Kd.R_types HO242.out BK238.out (by decide)) (fun _ hk => hk.2) (.int .i64 t239)) (fun _ hk => hk.2) (.slice (some ⟨go34, 0, none⟩) t240.length co41)) (fun _ hk => trivial), by repeat (first | (with_reducible first | exact HI0.out | apply IsS112.alloc | apply IsS112.drewN | apply IsS112.drew | apply IsS112.set_1 | refine IsS112.far ?_ NB0_238.out _ | refine IsS112.far ?_ NB0_244.out _) | exact HI0.out), by repeat (first | (with_reducible first | exact HB.out | apply below_alloc | apply pw_below_drewN | apply below_drew1 | refine below_set ?_ (IsS112.ge HI0.out) | refine below_set ?_ GE238.out | refine below_set ?_ GE244.out) | exact HB.out), by repeat (first | (with_reducible first | exact HK.out | apply KeepBut.set_ | apply keep_drewN | apply keep_drew | apply keep_alloc | refine keep_far ?_ GW238.out _ | refine keep_far ?_ GW244.out _) | exact HK.out)⟩
     ·rw [if_neg c33] at H
      exact absurd H (by simp)
    ·rw [if_neg c32] at H
     exact absurd H (by simp)
   ·rw [if_neg c30] at H
    have c30b0 : (t247 == 1) = false := beq_eq_false_iff_ne.mpr c30
    have c30b1 : (t247 != 1) = true := bne_iff_ne.mpr c30
    by_cases c54 : t247 = 2
    ·rw [if_pos c54] at H
     have c54b0 : (t247 == 2) = true := beq_iff_eq.mpr c54
     have c54b1 : (t247 != 2) = false := bne_eq_false_iff_eq.mpr c54
     clear c54
     obtain ⟨y262, hy262⟩ : ∃ y_ : List Int, y_ = (([0, 1, 9, 8] : List Int)) := ⟨_, rfl⟩
     replace H : ((spec_l30Rd_one.f k s0_0 t248 y262).bind fun bt265 => (some (bt265.1, t240, bt265.2))) = some (r1, r2, r3) := by first | (rw [hy262]; with_reducible exact H) | (have H2_ := (Option.bind_some _ _).symm.trans H; rw [hy262]; with_reducible exact H2_) | (have H2_ := (Option.bind_some _ _).symm.trans H; with_reducible exact H2_) | with_reducible exact H | (rw [hy262]; exact H) | exact H
     have Ny262 := Aside0.mk hy262
     clear hy262
     replace H := Option.bind_eq_some_iff.mp H
     obtain ⟨⟨t265, t266⟩, A550, H⟩ := H
     replace H : (some (t265, t240, t266)) = some (r1, r2, r3) := H
     have A55 := Aside0.mk A550
     clear A550
     simp only [Option.some.injEq, Prod.mk.injEq] at H
     obtain ⟨rfl, rfl, rfl⟩ := H
     go_enter Try.func72, Try.ntmps72
     go_wp2_with (first | ((with_reducible refine gate_dst (N := 2) rfl ?_); refine box_event ?hg (N := 2) ?hd (cs := #[.int .i64 0, .slice none 0 0]) (t := 38) ?hr ?_; (case hd => rfl); (case hg => rfl); (case hr => first | (go_simp; done) | (go_simp; rfl)); intro gb238 hg w56 hbox hb; have n0_ := Aside0.mk (IsS112.below (by repeat (first | (with_reducible first | exact HI0.out | apply IsS112.alloc | apply IsS112.drewN | apply IsS112.drew | apply IsS112.set_1) | exact HI0.out)) hb); have n1_ := Aside0.mk (KeepBut.trans (by repeat (first | (with_reducible first | exact HK.out | apply KeepBut.set_ | apply keep_drewN | apply keep_drew | apply keep_alloc) | exact HK.out)) (KeepBut.of_below hb g none) (.inl rfl)); have n2_ := Aside0.mk (below_step (by repeat (first | (with_reducible first | exact HB.out | apply below_alloc | apply pw_below_drewN | apply below_drew1 | refine below_set ?_ (IsS112.ge HI0.out)) | exact HB.out)) hb); have n3_ := Aside0.mk (hbox); have n4_ := Aside0.mk ((by rw [hg]; exact (keep_size (w := w) (g := g) (row := none) (by repeat (first | (with_reducible first | exact HK.out | apply KeepBut.set_ | apply keep_drewN | apply keep_drew | apply keep_alloc) | exact HK.out))) : w.heap.size ≤ gb238)); have n5_ := Aside0.mk ((Nat.le_trans HW0.out (by rw [hg]; exact (keep_size (w := w) (g := g) (row := none) (by repeat (first | (with_reducible first | exact HK.out | apply KeepBut.set_ | apply keep_drewN | apply keep_drew | apply keep_alloc) | exact HK.out))) : w.heap.size ≤ gb238) : w0.heap.size ≤ gb238)); have n6_ := Aside0.mk ((by rw [hg]; exact Nat.ne_of_lt (IsS112.lt (show IsS112 w0 _ g s0_0 s0_1 from by repeat (first | (with_reducible first | exact HI0.out | apply IsS112.alloc | apply IsS112.drewN | apply IsS112.drew | apply IsS112.set_1) | exact HI0.out))) : g ≠ gb238)); have n7_ := Aside0.mk ((by rw [hg]; exact Nat.ne_of_gt (IsS112.lt (show IsS112 w0 _ g s0_0 s0_1 from by repeat (first | (with_reducible first | exact HI0.out | apply IsS112.alloc | apply IsS112.drewN | apply IsS112.drew | apply IsS112.set_1) | exact HI0.out))) : gb238 ≠ g)); clear HI0; clear HK; clear HB; have HI0 := n0_; have HK := n1_; have HB := n2_; have BK238 := n3_; have GW238 := n4_; have GE238 := n5_; have NB0_238 := n6_; have NB238_0 := n7_; clear n0_ n1_ n2_ n3_ n4_ n5_ n6_ n7_; clear hb hbox hg) | ((with_reducible refine gate_callee (f := 115) rfl ?_); refine goesL_ (some 6) rfl rfl Try.func115 (by kernel_rfl) rfl #[.pointer (some ⟨g, 0, none⟩)] rfl (by (try simp only [List.map_toArray, List.map_cons, List.map_nil]); first | done | rfl | (simp only [List.length_drop, List.length_take]; rfl)) ?_; (with_reducible refine (spec_l30Net.calls k g s0_0 s0_1 t239 t240 t243 w0 _ ?side1 ?side2 A2.out).mono ?_); (case side1 => repeat (first | (with_reducible first | exact HI0.out | apply IsS112.alloc | apply IsS112.drewN | apply IsS112.drew | apply IsS112.set_1 | refine IsS112.far ?_ NB0_238.out _) | exact HI0.out)); (case side2 => repeat (first | (with_reducible first | exact HB.out | apply below_alloc | apply pw_below_drewN | apply below_drew1 | refine below_set ?_ (IsS112.ge HI0.out) | refine below_set ?_ GE238.out) | exact HB.out)); rintro e w57 ⟨v241, rfl, ho0, hi, hb, hk⟩; refine ⟨_, rfl, ?_⟩; have n0_ := Aside0.mk (KeepBut.blk hk (g' := gb238) (o := .cells #[.int .i64 0, .slice none 0 0] 38 (0, 0)) (by (with_reducible repeat (first | refine blk_drewN ?_ _ | refine blk_drew ?_ | refine blk_alloc ?_ _)); exact BK238.out) NB238_0.out (by simp)); have n1_ := Aside0.mk (Kd.R_lower ho0 (keep_size (w := w) (g := g) (row := none) (by repeat (first | (with_reducible first | exact HK.out | apply KeepBut.set_ | apply keep_drewN | apply keep_drew | apply keep_alloc | refine keep_far ?_ GW238.out _) | exact HK.out)))); have n2_ := Aside0.mk (KeepBut.trans (by repeat (first | (with_reducible first | exact HK.out | apply KeepBut.set_ | apply keep_drewN | apply keep_drew | apply keep_alloc | refine keep_far ?_ GW238.out _) | exact HK.out)) hk (.inl rfl)); have n3_ := Aside0.mk (hb); have n4_ := Aside0.mk (hi); clear BK238; clear HK; clear HB; clear HI0; have BK238 := n0_; have HO242 := n1_; have HK := n2_; have HB := n3_; have HI0 := n4_; clear n0_ n1_ n2_ n3_ n4_; (try clear hb); (try clear hb2); (try clear hk); (try clear hi); (try clear ho0)) | ((with_reducible refine gate_dst (N := 3) rfl ?_); refine box_event ?hg (N := 3) ?hd (cs := #[.int .i64 0, .slice none 0 0]) (t := 38) ?hr ?_; (case hd => rfl); (case hg => rfl); (case hr => first | (go_simp; done) | (go_simp; rfl)); intro gb244 hg w58 hbox hb; have n0_ := Aside0.mk (Kd.R_below (by (with_reducible repeat (first | apply Kd.R_alloc | apply Kd.R_drewN | apply Kd.R_drew)); exact HO242.out) hb); have n1_ := Aside0.mk (IsS112.below (by repeat (first | (with_reducible first | exact HI0.out | apply IsS112.alloc | apply IsS112.drewN | apply IsS112.drew | apply IsS112.set_1 | refine IsS112.far ?_ NB0_238.out _) | exact HI0.out)) hb); have n2_ := Aside0.mk (blk_below (g := gb238) (o := .cells #[.int .i64 0, .slice none 0 0] 38 (0, 0)) (by (with_reducible repeat (first | refine blk_drewN ?_ _ | refine blk_drew ?_ | refine blk_alloc ?_ _)); exact BK238.out) hb); have n3_ := Aside0.mk (KeepBut.trans (by repeat (first | (with_reducible first | exact HK.out | apply KeepBut.set_ | apply keep_drewN | apply keep_drew | apply keep_alloc | refine keep_far ?_ GW238.out _) | exact HK.out)) (KeepBut.of_below hb g none) (.inl rfl)); have n4_ := Aside0.mk (below_step (by repeat (first | (with_reducible first | exact HB.out | apply below_alloc | apply pw_below_drewN | apply below_drew1 | refine below_set ?_ (IsS112.ge HI0.out) | refine below_set ?_ GE238.out) | exact HB.out)) hb); have n5_ := Aside0.mk (hbox); have n6_ := Aside0.mk ((by rw [hg]; exact (keep_size (w := w) (g := g) (row := none) (by repeat (first | (with_reducible first | exact HK.out | apply KeepBut.set_ | apply keep_drewN | apply keep_drew | apply keep_alloc | refine keep_far ?_ GW238.out _) | exact HK.out))) : w.heap.size ≤ gb244)); have n7_ := Aside0.mk ((Nat.le_trans HW0.out (by rw [hg]; exact (keep_size (w := w) (g := g) (row := none) (by repeat (first | (with_reducible first | exact HK.out | apply KeepBut.set_ | apply keep_drewN | apply keep_drew | apply keep_alloc | refine keep_far ?_ GW238.out _) | exact HK.out))) : w.heap.size ≤ gb244) : w0.heap.size ≤ gb244)); have n8_ := Aside0.mk ((by rw [hg]; exact Nat.ne_of_lt (blk_lt (g := gb238) (o := .cells #[.int .i64 0, .slice none 0 0] 38 (0, 0)) (by (with_reducible repeat (first | refine blk_drewN ?_ _ | refine blk_drew ?_ | refine blk_alloc ?_ _)); exact BK238.out)) : gb238 ≠ gb244)); have n9_ := Aside0.mk ((by rw [hg]; exact Nat.ne_of_gt (blk_lt (g := gb238) (o := .cells #[.int .i64 0, .slice none 0 0] 38 (0, 0)) (by (with_reducible repeat (first | refine blk_drewN ?_ _ | refine blk_drew ?_ | refine blk_alloc ?_ _)); exact BK238.out)) : gb244 ≠ gb238)); have n10_ := Aside0.mk ((by rw [hg]; exact Nat.ne_of_lt (IsS112.lt (show IsS112 w0 _ g s0_0 t243 from by repeat (first | (with_reducible first | exact HI0.out | apply IsS112.alloc | apply IsS112.drewN | apply IsS112.drew | apply IsS112.set_1 | refine IsS112.far ?_ NB0_238.out _) | exact HI0.out))) : g ≠ gb244)); have n11_ := Aside0.mk ((by rw [hg]; exact Nat.ne_of_gt (IsS112.lt (show IsS112 w0 _ g s0_0 t243 from by repeat (first | (with_reducible first | exact HI0.out | apply IsS112.alloc | apply IsS112.drewN | apply IsS112.drew | apply IsS112.set_1 | refine IsS112.far ?_ NB0_238.out _) | exact HI0.out))) : gb244 ≠ g)); clear HO242; clear HI0; clear BK238; clear HK; clear HB; have HO242 := n0_; have HI0 := n1_; have BK238 := n2_; have HK := n3_; have HB := n4_; have BK244 := n5_; have GW244 := n6_; have GE244 := n7_; have NB238_244 := n8_; have NB244_238 := n9_; have NB0_244 := n10_; have NB244_0 := n11_; clear n0_ n1_ n2_ n3_ n4_ n5_ n6_ n7_ n8_ n9_ n10_ n11_; clear hb hbox hg; have hnb59 := NB244_238.out; have hnc59 := NB238_244.out; have hnb60 := NB244_0.out; have hnc60 := NB0_244.out; have hcz61_0 : w58.cell? ⟨gb244, 0, none⟩ = some (.int .i64 0) := (blk_cell BK244.out 0).trans rfl; have hcz61_1 : w58.cell? ⟨gb244, 1, none⟩ = some (.slice none 0 0) := (blk_cell BK244.out 1).trans rfl; have hfz61_0 := blk_frozen BK244.out 0; have hfz61_1 := blk_frozen BK244.out 1; obtain ⟨Ao62, co62, eo62⟩ := Kd.R_slice HO242.out; subst eo62) | ((with_reducible refine gate_callee (f := 74) rfl ?_); refine goesL_ (some 15) rfl rfl Try.func74 (by kernel_rfl) rfl #[.pointer (some ⟨g, 0, none⟩), .int .i64 (t240.length : Int)] rfl (by (try simp only [List.map_toArray, List.map_cons, List.map_nil]); first | done | rfl | (simp only [List.length_drop, List.length_take]; rfl)) ?_; (with_reducible refine (spec_l30Rd_pick.calls k g s0_0 t243 (t240.length : Int) t245 t246 w0 _ ?side1 ?side2 A4.out).mono ?_); (case side1 => repeat (first | (with_reducible first | exact HI0.out | apply IsS112.alloc | apply IsS112.drewN | apply IsS112.drew | apply IsS112.set_1 | refine IsS112.far ?_ NB0_238.out _ | refine IsS112.far ?_ NB0_244.out _) | exact HI0.out)); (case side2 => repeat (first | (with_reducible first | exact HB.out | apply below_alloc | apply pw_below_drewN | apply below_drew1 | refine below_set ?_ (IsS112.ge HI0.out) | refine below_set ?_ GE238.out | refine below_set ?_ GE244.out) | exact HB.out)); rintro e w63 ⟨rfl, hi, hb, hk⟩; refine ⟨_, rfl, ?_⟩; have n0_ := Aside0.mk (KeepBut.blk hk (g' := gb238) (o := .cells #[.int .i64 0, .slice none 0 0] 38 (0, 0)) (by (with_reducible repeat (first | refine blk_drewN ?_ _ | refine blk_drew ?_ | refine blk_alloc ?_ _)); refine blk_far ?_ NB238_244.out _; (with_reducible repeat (first | refine blk_drewN ?_ _ | refine blk_drew ?_ | refine blk_alloc ?_ _)); refine blk_far ?_ NB238_244.out _; (with_reducible repeat (first | refine blk_drewN ?_ _ | refine blk_drew ?_ | refine blk_alloc ?_ _)); exact BK238.out) NB238_0.out (by simp)); have n1_ := Aside0.mk (Kd.R_mono (Kd.R_keep (IsS112.apart (show IsS112 w0 _ g s0_0 t243 from by repeat (first | (with_reducible first | exact HI0.out | apply IsS112.alloc | apply IsS112.drewN | apply IsS112.drew | apply IsS112.set_1 | refine IsS112.far ?_ NB0_238.out _ | refine IsS112.far ?_ NB0_244.out _) | exact HI0.out)) (by (with_reducible repeat (first | apply Kd.R_alloc | apply Kd.R_drewN | apply Kd.R_drew)); exact (Kd.R_mono (Kd.R_far (p := ⟨gb244, 1, none⟩) (Kd.R_far (p := ⟨gb244, 0, none⟩) (Kd.R_types HO242.out BK244.out (by decide)) (fun _ hk => hk.2) (.int .i64 t239)) (fun _ hk => hk.2) (.slice Ao62 t240.length co62)) (fun _ h_ => h_.1))) (by decide)) hk (fun _ h => h.2)) (fun _ h => h.1)); have n2_ := Aside0.mk (KeepBut.blk hk (g' := gb244) (o := .cells #[.int .i64 t239, .slice Ao62 t240.length co62] 38 (0, 0)) (by (with_reducible repeat (first | refine blk_drewN ?_ _ | refine blk_drew ?_ | refine blk_alloc ?_ _)); refine blk_put (cs := #[.int .i64 t239, .slice none 0 0]) ?_ 1 _ rfl; (with_reducible repeat (first | refine blk_drewN ?_ _ | refine blk_drew ?_ | refine blk_alloc ?_ _)); refine blk_put (cs := #[.int .i64 0, .slice none 0 0]) ?_ 0 _ rfl; (with_reducible repeat (first | refine blk_drewN ?_ _ | refine blk_drew ?_ | refine blk_alloc ?_ _)); exact BK244.out) NB244_0.out (by simp)); have n3_ := Aside0.mk (KeepBut.trans (by repeat (first | (with_reducible first | exact HK.out | apply KeepBut.set_ | apply keep_drewN | apply keep_drew | apply keep_alloc | refine keep_far ?_ GW238.out _ | refine keep_far ?_ GW244.out _) | exact HK.out)) hk (.inl rfl)); have n4_ := Aside0.mk (hb); have n5_ := Aside0.mk (hi); clear BK238; clear HO242; clear BK244; clear HK; clear HB; clear HI0; have BK238 := n0_; have HO242 := n1_; have BK244 := n2_; have HK := n3_; have HB := n4_; have HI0 := n5_; clear n0_ n1_ n2_ n3_ n4_ n5_; (try clear hb); (try clear hb2); (try clear hk); (try clear hi)) | ((with_reducible refine gate_callee (f := 74) rfl ?_); refine goesL_ (some 17) rfl rfl Try.func74 (by kernel_rfl) rfl #[.pointer (some ⟨g, 0, none⟩), .int .i64 16] rfl (by (try simp only [List.map_toArray, List.map_cons, List.map_nil]); first | done | rfl | (simp only [List.length_drop, List.length_take]; rfl)) ?_; (with_reducible refine (spec_l30Rd_pick.calls k g s0_0 t246 16 t247 t248 w0 _ ?side1 ?side2 A5.out).mono ?_); (case side1 => repeat (first | (with_reducible first | exact HI0.out | apply IsS112.alloc | apply IsS112.drewN | apply IsS112.drew | apply IsS112.set_1 | refine IsS112.far ?_ NB0_238.out _ | refine IsS112.far ?_ NB0_244.out _) | exact HI0.out)); (case side2 => repeat (first | (with_reducible first | exact HB.out | apply below_alloc | apply pw_below_drewN | apply below_drew1 | refine below_set ?_ (IsS112.ge HI0.out) | refine below_set ?_ GE238.out | refine below_set ?_ GE244.out) | exact HB.out)); rintro e w64 ⟨rfl, hi, hb, hk⟩; refine ⟨_, rfl, ?_⟩; have n0_ := Aside0.mk (KeepBut.blk hk (g' := gb238) (o := .cells #[.int .i64 0, .slice none 0 0] 38 (0, 0)) (by (with_reducible repeat (first | refine blk_drewN ?_ _ | refine blk_drew ?_ | refine blk_alloc ?_ _)); exact BK238.out) NB238_0.out (by simp)); have n1_ := Aside0.mk (Kd.R_mono (Kd.R_keep (IsS112.apart (show IsS112 w0 _ g s0_0 t246 from by repeat (first | (with_reducible first | exact HI0.out | apply IsS112.alloc | apply IsS112.drewN | apply IsS112.drew | apply IsS112.set_1 | refine IsS112.far ?_ NB0_238.out _ | refine IsS112.far ?_ NB0_244.out _) | exact HI0.out)) (by (with_reducible repeat (first | apply Kd.R_alloc | apply Kd.R_drewN | apply Kd.R_drew)); exact HO242.out) (by decide)) hk (fun _ h => h.2)) (fun _ h => h.1)); have n2_ := Aside0.mk (KeepBut.blk hk (g' := gb244) (o := .cells #[.int .i64 t239, .slice Ao62 t240.length co62] 38 (0, 0)) (by (with_reducible repeat (first | refine blk_drewN ?_ _ | refine blk_drew ?_ | refine blk_alloc ?_ _)); exact BK244.out) NB244_0.out (by simp)); have n3_ := Aside0.mk (KeepBut.trans (by repeat (first | (with_reducible first | exact HK.out | apply KeepBut.set_ | apply keep_drewN | apply keep_drew | apply keep_alloc | refine keep_far ?_ GW238.out _ | refine keep_far ?_ GW244.out _) | exact HK.out)) hk (.inl rfl)); have n4_ := Aside0.mk (hb); have n5_ := Aside0.mk (hi); clear BK238; clear HO242; clear BK244; clear HK; clear HB; clear HI0; have BK238 := n0_; have HO242 := n1_; have BK244 := n2_; have HK := n3_; have HB := n4_; have HI0 := n5_; clear n0_ n1_ n2_ n3_ n4_ n5_; (try clear hb); (try clear hb2); (try clear hk); (try clear hi)) | ((with_reducible refine gate_dst (N := 47) rfl ?_); refine Kd.R_lit (Kd.int .i64) _ 3 ?hg (N := 47) ?hd (xs := ([0, 1, 9, 8] : List Int)) (inner := [.int .i64 0, .int .i64 1, .int .i64 9, .int .i64 8]) (ok := fun _ => True) (okp := fun _ => True) ?hr ?hp (fun _ hk => hk) trivial (Below.refl _ _) (Nat.le_refl _) (by simp) ?_; (case hd => rfl); (case hg => rfl); (case hr => first | (go_simp; done) | (go_simp; rfl)); (case hp => exact (Reps.one (show Kd.M (Kd.int .i64) _ _ _ 0 [.int .i64 0] from rfl) (Reps.one (show Kd.M (Kd.int .i64) _ _ _ 1 [.int .i64 1] from rfl) (Reps.one (show Kd.M (Kd.int .i64) _ _ _ 9 [.int .i64 9] from rfl) (Reps.one (show Kd.M (Kd.int .i64) _ _ _ 8 [.int .i64 8] from rfl) (Reps.none _ _)))))); intro v263 w65 ho66 hb hg_ hnew_; clear hg_ hnew_; (first | rw [← Ny262.out] at ho66 | (simp only [Int.reduceToNat] at ho66; rw [← Ny262.out] at ho66)); have n0_ := Aside0.mk (Kd.R_below (by (with_reducible repeat (first | apply Kd.R_alloc | apply Kd.R_drewN | apply Kd.R_drew)); exact HO242.out) hb); have n1_ := Aside0.mk (Kd.R_lower ho66 (keep_size (w := w) (g := g) (row := none) (by repeat (first | (with_reducible first | exact HK.out | apply KeepBut.set_ | apply keep_drewN | apply keep_drew | apply keep_alloc | refine keep_far ?_ GW238.out _ | refine keep_far ?_ GW244.out _) | exact HK.out)))); have n2_ := Aside0.mk (IsS112.below (by repeat (first | (with_reducible first | exact HI0.out | apply IsS112.alloc | apply IsS112.drewN | apply IsS112.drew | apply IsS112.set_1 | refine IsS112.far ?_ NB0_238.out _ | refine IsS112.far ?_ NB0_244.out _) | exact HI0.out)) hb); have n3_ := Aside0.mk (blk_below (g := gb238) (o := .cells #[.int .i64 0, .slice none 0 0] 38 (0, 0)) (by (with_reducible repeat (first | refine blk_drewN ?_ _ | refine blk_drew ?_ | refine blk_alloc ?_ _)); exact BK238.out) hb); have n4_ := Aside0.mk (blk_below (g := gb244) (o := .cells #[.int .i64 t239, .slice Ao62 t240.length co62] 38 (0, 0)) (by (with_reducible repeat (first | refine blk_drewN ?_ _ | refine blk_drew ?_ | refine blk_alloc ?_ _)); exact BK244.out) hb); have n5_ := Aside0.mk (KeepBut.trans (by repeat (first | (with_reducible first | exact HK.out | apply KeepBut.set_ | apply keep_drewN | apply keep_drew | apply keep_alloc | refine keep_far ?_ GW238.out _ | refine keep_far ?_ GW244.out _) | exact HK.out)) (KeepBut.of_below hb g none) (.inl rfl)); have n6_ := Aside0.mk (below_step (by repeat (first | (with_reducible first | exact HB.out | apply below_alloc | apply pw_below_drewN | apply below_drew1 | refine below_set ?_ (IsS112.ge HI0.out) | refine below_set ?_ GE238.out | refine below_set ?_ GE244.out) | exact HB.out)) hb); clear HO242; clear HI0; clear BK238; clear BK244; clear HK; clear HB; have HO242 := n0_; have HO264 := n1_; have HI0 := n2_; have BK238 := n3_; have BK244 := n4_; have HK := n5_; have HB := n6_; clear n0_ n1_ n2_ n3_ n4_ n5_ n6_; clear hb ho66; obtain ⟨Ao67, co67, eo67⟩ := Kd.R_slice HO264.out; subst eo67) | ((with_reducible refine gate_callee (f := 75) rfl ?_); refine goesL_ (some 48) rfl rfl Try.func75 (by kernel_rfl) rfl #[.pointer (some ⟨g, 0, none⟩), .slice Ao67 y262.length co67] rfl (by (try simp only [List.map_toArray, List.map_cons, List.map_nil]); first | done | rfl | (simp only [List.length_drop, List.length_take]; rfl)) ?_; (with_reducible refine (spec_l30Rd_one.calls k g s0_0 t248 _ _ y262 t265 t266 w0 _ ?side1 ?side2 ?side3 ?side4 ?side5 A55.out).mono ?_); (case side1 => repeat (first | (with_reducible first | exact HI0.out | apply IsS112.alloc | apply IsS112.drewN | apply IsS112.drew | apply IsS112.set_1 | refine IsS112.far ?_ NB0_238.out _ | refine IsS112.far ?_ NB0_244.out _) | exact HI0.out)); (case side2 => repeat (first | (with_reducible first | exact HB.out | apply below_alloc | apply pw_below_drewN | apply below_drew1 | refine below_set ?_ (IsS112.ge HI0.out) | refine below_set ?_ GE238.out | refine below_set ?_ GE244.out) | exact HB.out)); (case side3 => repeat (first | exact (Kd.R_reads' HO264.out).2.2 | (with_reducible refine Kd.C_alloc ?_ _) | (with_reducible refine Kd.C_drewN ?_ _) | (with_reducible refine Kd.C_drew ?_))); (case side4 => exact (Kd.R_reads' HO264.out).2.1); (case side5 => exact far_slice (IsS112.own_ne HI0.out HO264.out (by decide))); rintro e w68 ⟨rfl, hi, hb, hk⟩; refine ⟨_, rfl, ?_⟩; have n0_ := Aside0.mk (KeepBut.blk hk (g' := gb238) (o := .cells #[.int .i64 0, .slice none 0 0] 38 (0, 0)) (by (with_reducible repeat (first | refine blk_drewN ?_ _ | refine blk_drew ?_ | refine blk_alloc ?_ _)); exact BK238.out) NB238_0.out (by simp)); have n1_ := Aside0.mk (Kd.R_mono (Kd.R_keep (IsS112.apart (show IsS112 w0 _ g s0_0 t248 from by repeat (first | (with_reducible first | exact HI0.out | apply IsS112.alloc | apply IsS112.drewN | apply IsS112.drew | apply IsS112.set_1 | refine IsS112.far ?_ NB0_238.out _ | refine IsS112.far ?_ NB0_244.out _) | exact HI0.out)) (by (with_reducible repeat (first | apply Kd.R_alloc | apply Kd.R_drewN | apply Kd.R_drew)); exact HO242.out) (by decide)) hk (fun _ h => h.2)) (fun _ h => h.1)); have n2_ := Aside0.mk (KeepBut.blk hk (g' := gb244) (o := .cells #[.int .i64 t239, .slice Ao62 t240.length co62] 38 (0, 0)) (by (with_reducible repeat (first | refine blk_drewN ?_ _ | refine blk_drew ?_ | refine blk_alloc ?_ _)); exact BK244.out) NB244_0.out (by simp)); have n3_ := Aside0.mk (Kd.R_mono (Kd.R_keep (IsS112.apart (show IsS112 w0 _ g s0_0 t248 from by repeat (first | (with_reducible first | exact HI0.out | apply IsS112.alloc | apply IsS112.drewN | apply IsS112.drew | apply IsS112.set_1 | refine IsS112.far ?_ NB0_238.out _ | refine IsS112.far ?_ NB0_244.out _) | exact HI0.out)) (by (with_reducible repeat (first | apply Kd.R_alloc | apply Kd.R_drewN | apply Kd.R_drew)); exact HO264.out) (by decide)) hk (fun _ h => h.2)) (fun _ h => h.1)); have n4_ := Aside0.mk (KeepBut.trans (by repeat (first | (with_reducible first | exact HK.out | apply KeepBut.set_ | apply keep_drewN | apply keep_drew | apply keep_alloc | refine keep_far ?_ GW238.out _ | refine keep_far ?_ GW244.out _) | exact HK.out)) hk (.inl rfl)); have n5_ := Aside0.mk (hb); have n6_ := Aside0.mk (hi); clear BK238; clear HO242; clear BK244; clear HO264; clear HK; clear HB; clear HI0; have BK238 := n0_; have HO242 := n1_; have BK244 := n2_; have HO264 := n3_; have HK := n4_; have HB := n5_; have HI0 := n6_; clear n0_ n1_ n2_ n3_ n4_ n5_ n6_; (try clear hb); (try clear hb2); (try clear hk); (try clear hi); have hcz69_0 : w68.cell? ⟨gb244, 0, none⟩ = some (.int .i64 t239) := (blk_cell BK244.out 0).trans rfl; have hcz69_1 : w68.cell? ⟨gb244, 1, none⟩ = some (.slice Ao62 t240.length co62) := (blk_cell BK244.out 1).trans rfl; have hfz69_0 := blk_frozen BK244.out 0; have hfz69_1 := blk_frozen BK244.out 1; have hnb70 := NB238_0.out; have hnc70 := NB0_238.out; have hcz71_0 : w68.cell? ⟨gb238, 0, none⟩ = some (.int .i64 0) := (blk_cell BK238.out 0).trans rfl; have hcz71_1 : w68.cell? ⟨gb238, 1, none⟩ = some (.slice none 0 0) := (blk_cell BK238.out 1).trans rfl; have hfz71_0 := blk_frozen BK238.out 0; have hfz71_1 := blk_frozen BK238.out 1))
     refine bodyPost_ret (results_cell_row rfl _ _ gb238 38 #[.int .i64 t265, .slice Ao62 t240.length co62] (0, 0) _ rfl (by (with_reducible repeat (first | refine blk_drewN ?_ _ | refine blk_drew ?_ | refine blk_alloc ?_ _)); refine blk_put (cs := #[.int .i64 t265, .slice none 0 0]) ?_ 1 _ rfl; (with_reducible repeat (first | refine blk_drewN ?_ _ | refine blk_drew ?_ | refine blk_alloc ?_ _)); refine blk_put (cs := #[.int .i64 0, .slice none 0 0]) ?_ 0 _ rfl; (with_reducible repeat (first | refine blk_drewN ?_ _ | refine blk_drew ?_ | refine blk_alloc ?_ _)); refine blk_far ?_ NB238_244.out _; (with_reducible repeat (first | refine blk_drewN ?_ _ | refine blk_drew ?_ | refine blk_alloc ?_ _)); exact BK238.out) Try.underlying38 rfl (by kernel_rfl)) rfl ?_
     exact ⟨_, by first | rfl | (simp [errW_none, errW_some] <;> rfl) | (simp [*, errW_none, errW_some] <;> rfl), by (with_reducible repeat (first | apply Kd.R_alloc | apply Kd.R_drewN | apply Kd.R_drew)); exact Kd.R_mono (Kd.R_far (p := ⟨gb238, 1, none⟩) (Kd.R_far (p := ⟨gb238, 0, none⟩) (Kd.R_far (p := ⟨gb244, 0, none⟩) (Kd.R_types (Kd.R_types HO242.out BK244.out (by decide)) BK238.out (by decide)) (fun _ hk => hk.1.2) (.int .i64 t265)) (fun _ hk => hk.2) (.int .i64 t265)) (fun _ hk => hk.2) (.slice Ao62 t240.length co62)) (fun _ hk => trivial), by repeat (first | (with_reducible first | exact HI0.out | apply IsS112.alloc | apply IsS112.drewN | apply IsS112.drew | apply IsS112.set_1 | refine IsS112.far ?_ NB0_238.out _ | refine IsS112.far ?_ NB0_244.out _) | exact HI0.out), by repeat (first | (with_reducible first | exact HB.out | apply below_alloc | apply pw_below_drewN | apply below_drew1 | refine below_set ?_ (IsS112.ge HI0.out) | refine below_set ?_ GE238.out | refine below_set ?_ GE244.out) | exact HB.out), by repeat (first | (with_reducible first | exact HK.out | apply KeepBut.set_ | apply keep_drewN | apply keep_drew | apply keep_alloc | refine keep_far ?_ GW238.out _ | refine keep_far ?_ GW244.out _) | exact HK.out)⟩
    ·rw [if_neg c54] at H
     have c54b0 : (t247 == 2) = false := beq_eq_false_iff_ne.mpr c54
     have c54b1 : (t247 != 2) = true := bne_iff_ne.mpr c54
     simp only [Option.some.injEq, Prod.mk.injEq] at H
     obtain ⟨rfl, rfl, rfl⟩ := H
     go_enter Try.func72, Try.ntmps72
     go_wp2_with (first | ((with_reducible refine gate_dst (N := 2) rfl ?_); refine box_event ?hg (N := 2) ?hd (cs := #[.int .i64 0, .slice none 0 0]) (t := 38) ?hr ?_; (case hd => rfl); (case hg => rfl); (case hr => first | (go_simp; done) | (go_simp; rfl)); intro gb238 hg w72 hbox hb; have n0_ := Aside0.mk (IsS112.below (by repeat (first | (with_reducible first | exact HI0.out | apply IsS112.alloc | apply IsS112.drewN | apply IsS112.drew | apply IsS112.set_1) | exact HI0.out)) hb); have n1_ := Aside0.mk (KeepBut.trans (by repeat (first | (with_reducible first | exact HK.out | apply KeepBut.set_ | apply keep_drewN | apply keep_drew | apply keep_alloc) | exact HK.out)) (KeepBut.of_below hb g none) (.inl rfl)); have n2_ := Aside0.mk (below_step (by repeat (first | (with_reducible first | exact HB.out | apply below_alloc | apply pw_below_drewN | apply below_drew1 | refine below_set ?_ (IsS112.ge HI0.out)) | exact HB.out)) hb); have n3_ := Aside0.mk (hbox); have n4_ := Aside0.mk ((by rw [hg]; exact (keep_size (w := w) (g := g) (row := none) (by repeat (first | (with_reducible first | exact HK.out | apply KeepBut.set_ | apply keep_drewN | apply keep_drew | apply keep_alloc) | exact HK.out))) : w.heap.size ≤ gb238)); have n5_ := Aside0.mk ((Nat.le_trans HW0.out (by rw [hg]; exact (keep_size (w := w) (g := g) (row := none) (by repeat (first | (with_reducible first | exact HK.out | apply KeepBut.set_ | apply keep_drewN | apply keep_drew | apply keep_alloc) | exact HK.out))) : w.heap.size ≤ gb238) : w0.heap.size ≤ gb238)); have n6_ := Aside0.mk ((by rw [hg]; exact Nat.ne_of_lt (IsS112.lt (show IsS112 w0 _ g s0_0 s0_1 from by repeat (first | (with_reducible first | exact HI0.out | apply IsS112.alloc | apply IsS112.drewN | apply IsS112.drew | apply IsS112.set_1) | exact HI0.out))) : g ≠ gb238)); have n7_ := Aside0.mk ((by rw [hg]; exact Nat.ne_of_gt (IsS112.lt (show IsS112 w0 _ g s0_0 s0_1 from by repeat (first | (with_reducible first | exact HI0.out | apply IsS112.alloc | apply IsS112.drewN | apply IsS112.drew | apply IsS112.set_1) | exact HI0.out))) : gb238 ≠ g)); clear HI0; clear HK; clear HB; have HI0 := n0_; have HK := n1_; have HB := n2_; have BK238 := n3_; have GW238 := n4_; have GE238 := n5_; have NB0_238 := n6_; have NB238_0 := n7_; clear n0_ n1_ n2_ n3_ n4_ n5_ n6_ n7_; clear hb hbox hg) | ((with_reducible refine gate_callee (f := 115) rfl ?_); refine goesL_ (some 6) rfl rfl Try.func115 (by kernel_rfl) rfl #[.pointer (some ⟨g, 0, none⟩)] rfl (by (try simp only [List.map_toArray, List.map_cons, List.map_nil]); first | done | rfl | (simp only [List.length_drop, List.length_take]; rfl)) ?_; (with_reducible refine (spec_l30Net.calls k g s0_0 s0_1 t239 t240 t243 w0 _ ?side1 ?side2 A2.out).mono ?_); (case side1 => repeat (first | (with_reducible first | exact HI0.out | apply IsS112.alloc | apply IsS112.drewN | apply IsS112.drew | apply IsS112.set_1 | refine IsS112.far ?_ NB0_238.out _) | exact HI0.out)); (case side2 => repeat (first | (with_reducible first | exact HB.out | apply below_alloc | apply pw_below_drewN | apply below_drew1 | refine below_set ?_ (IsS112.ge HI0.out) | refine below_set ?_ GE238.out) | exact HB.out)); rintro e w73 ⟨v241, rfl, ho0, hi, hb, hk⟩; refine ⟨_, rfl, ?_⟩; have n0_ := Aside0.mk (KeepBut.blk hk (g' := gb238) (o := .cells #[.int .i64 0, .slice none 0 0] 38 (0, 0)) (by (with_reducible repeat (first | refine blk_drewN ?_ _ | refine blk_drew ?_ | refine blk_alloc ?_ _)); exact BK238.out) NB238_0.out (by simp)); have n1_ := Aside0.mk (Kd.R_lower ho0 (keep_size (w := w) (g := g) (row := none) (by repeat (first | (with_reducible first | exact HK.out | apply KeepBut.set_ | apply keep_drewN | apply keep_drew | apply keep_alloc | refine keep_far ?_ GW238.out _) | exact HK.out)))); have n2_ := Aside0.mk (KeepBut.trans (by repeat (first | (with_reducible first | exact HK.out | apply KeepBut.set_ | apply keep_drewN | apply keep_drew | apply keep_alloc | refine keep_far ?_ GW238.out _) | exact HK.out)) hk (.inl rfl)); have n3_ := Aside0.mk (hb); have n4_ := Aside0.mk (hi); clear BK238; clear HK; clear HB; clear HI0; have BK238 := n0_; have HO242 := n1_; have HK := n2_; have HB := n3_; have HI0 := n4_; clear n0_ n1_ n2_ n3_ n4_; (try clear hb); (try clear hb2); (try clear hk); (try clear hi); (try clear ho0)) | ((with_reducible refine gate_dst (N := 3) rfl ?_); refine box_event ?hg (N := 3) ?hd (cs := #[.int .i64 0, .slice none 0 0]) (t := 38) ?hr ?_; (case hd => rfl); (case hg => rfl); (case hr => first | (go_simp; done) | (go_simp; rfl)); intro gb244 hg w74 hbox hb; have n0_ := Aside0.mk (Kd.R_below (by (with_reducible repeat (first | apply Kd.R_alloc | apply Kd.R_drewN | apply Kd.R_drew)); exact HO242.out) hb); have n1_ := Aside0.mk (IsS112.below (by repeat (first | (with_reducible first | exact HI0.out | apply IsS112.alloc | apply IsS112.drewN | apply IsS112.drew | apply IsS112.set_1 | refine IsS112.far ?_ NB0_238.out _) | exact HI0.out)) hb); have n2_ := Aside0.mk (blk_below (g := gb238) (o := .cells #[.int .i64 0, .slice none 0 0] 38 (0, 0)) (by (with_reducible repeat (first | refine blk_drewN ?_ _ | refine blk_drew ?_ | refine blk_alloc ?_ _)); exact BK238.out) hb); have n3_ := Aside0.mk (KeepBut.trans (by repeat (first | (with_reducible first | exact HK.out | apply KeepBut.set_ | apply keep_drewN | apply keep_drew | apply keep_alloc | refine keep_far ?_ GW238.out _) | exact HK.out)) (KeepBut.of_below hb g none) (.inl rfl)); have n4_ := Aside0.mk (below_step (by repeat (first | (with_reducible first | exact HB.out | apply below_alloc | apply pw_below_drewN | apply below_drew1 | refine below_set ?_ (IsS112.ge HI0.out) | refine below_set ?_ GE238.out) | exact HB.out)) hb); have n5_ := Aside0.mk (hbox); have n6_ := Aside0.mk ((by rw [hg]; exact (keep_size (w := w) (g := g) (row := none) (by repeat (first | (with_reducible first | exact HK.out | apply KeepBut.set_ | apply keep_drewN | apply keep_drew | apply keep_alloc | refine keep_far ?_ GW238.out _) | exact HK.out))) : w.heap.size ≤ gb244)); have n7_ := Aside0.mk ((Nat.le_trans HW0.out (by rw [hg]; exact (keep_size (w := w) (g := g) (row := none) (by repeat (first | (with_reducible first | exact HK.out | apply KeepBut.set_ | apply keep_drewN | apply keep_drew | apply keep_alloc | refine keep_far ?_ GW238.out _) | exact HK.out))) : w.heap.size ≤ gb244) : w0.heap.size ≤ gb244)); have n8_ := Aside0.mk ((by rw [hg]; exact Nat.ne_of_lt (blk_lt (g := gb238) (o := .cells #[.int .i64 0, .slice none 0 0] 38 (0, 0)) (by (with_reducible repeat (first | refine blk_drewN ?_ _ | refine blk_drew ?_ | refine blk_alloc ?_ _)); exact BK238.out)) : gb238 ≠ gb244)); have n9_ := Aside0.mk ((by rw [hg]; exact Nat.ne_of_gt (blk_lt (g := gb238) (o := .cells #[.int .i64 0, .slice none 0 0] 38 (0, 0)) (by (with_reducible repeat (first | refine blk_drewN ?_ _ | refine blk_drew ?_ | refine blk_alloc ?_ _)); exact BK238.out)) : gb244 ≠ gb238)); have n10_ := Aside0.mk ((by rw [hg]; exact Nat.ne_of_lt (IsS112.lt (show IsS112 w0 _ g s0_0 t243 from by repeat (first | (with_reducible first | exact HI0.out | apply IsS112.alloc | apply IsS112.drewN | apply IsS112.drew | apply IsS112.set_1 | refine IsS112.far ?_ NB0_238.out _) | exact HI0.out))) : g ≠ gb244)); have n11_ := Aside0.mk ((by rw [hg]; exact Nat.ne_of_gt (IsS112.lt (show IsS112 w0 _ g s0_0 t243 from by repeat (first | (with_reducible first | exact HI0.out | apply IsS112.alloc | apply IsS112.drewN | apply IsS112.drew | apply IsS112.set_1 | refine IsS112.far ?_ NB0_238.out _) | exact HI0.out))) : gb244 ≠ g)); clear HO242; clear HI0; clear BK238; clear HK; clear HB; have HO242 := n0_; have HI0 := n1_; have BK238 := n2_; have HK := n3_; have HB := n4_; have BK244 := n5_; have GW244 := n6_; have GE244 := n7_; have NB238_244 := n8_; have NB244_238 := n9_; have NB0_244 := n10_; have NB244_0 := n11_; clear n0_ n1_ n2_ n3_ n4_ n5_ n6_ n7_ n8_ n9_ n10_ n11_; clear hb hbox hg; have hnb75 := NB244_238.out; have hnc75 := NB238_244.out; have hnb76 := NB244_0.out; have hnc76 := NB0_244.out; have hcz77_0 : w74.cell? ⟨gb244, 0, none⟩ = some (.int .i64 0) := (blk_cell BK244.out 0).trans rfl; have hcz77_1 : w74.cell? ⟨gb244, 1, none⟩ = some (.slice none 0 0) := (blk_cell BK244.out 1).trans rfl; have hfz77_0 := blk_frozen BK244.out 0; have hfz77_1 := blk_frozen BK244.out 1; obtain ⟨Ao78, co78, eo78⟩ := Kd.R_slice HO242.out; subst eo78) | ((with_reducible refine gate_callee (f := 74) rfl ?_); refine goesL_ (some 15) rfl rfl Try.func74 (by kernel_rfl) rfl #[.pointer (some ⟨g, 0, none⟩), .int .i64 (t240.length : Int)] rfl (by (try simp only [List.map_toArray, List.map_cons, List.map_nil]); first | done | rfl | (simp only [List.length_drop, List.length_take]; rfl)) ?_; (with_reducible refine (spec_l30Rd_pick.calls k g s0_0 t243 (t240.length : Int) t245 t246 w0 _ ?side1 ?side2 A4.out).mono ?_); (case side1 => repeat (first | (with_reducible first | exact HI0.out | apply IsS112.alloc | apply IsS112.drewN | apply IsS112.drew | apply IsS112.set_1 | refine IsS112.far ?_ NB0_238.out _ | refine IsS112.far ?_ NB0_244.out _) | exact HI0.out)); (case side2 => repeat (first | (with_reducible first | exact HB.out | apply below_alloc | apply pw_below_drewN | apply below_drew1 | refine below_set ?_ (IsS112.ge HI0.out) | refine below_set ?_ GE238.out | refine below_set ?_ GE244.out) | exact HB.out)); rintro e w79 ⟨rfl, hi, hb, hk⟩; refine ⟨_, rfl, ?_⟩; have n0_ := Aside0.mk (KeepBut.blk hk (g' := gb238) (o := .cells #[.int .i64 0, .slice none 0 0] 38 (0, 0)) (by (with_reducible repeat (first | refine blk_drewN ?_ _ | refine blk_drew ?_ | refine blk_alloc ?_ _)); refine blk_far ?_ NB238_244.out _; (with_reducible repeat (first | refine blk_drewN ?_ _ | refine blk_drew ?_ | refine blk_alloc ?_ _)); refine blk_far ?_ NB238_244.out _; (with_reducible repeat (first | refine blk_drewN ?_ _ | refine blk_drew ?_ | refine blk_alloc ?_ _)); exact BK238.out) NB238_0.out (by simp)); have n1_ := Aside0.mk (Kd.R_mono (Kd.R_keep (IsS112.apart (show IsS112 w0 _ g s0_0 t243 from by repeat (first | (with_reducible first | exact HI0.out | apply IsS112.alloc | apply IsS112.drewN | apply IsS112.drew | apply IsS112.set_1 | refine IsS112.far ?_ NB0_238.out _ | refine IsS112.far ?_ NB0_244.out _) | exact HI0.out)) (by (with_reducible repeat (first | apply Kd.R_alloc | apply Kd.R_drewN | apply Kd.R_drew)); exact (Kd.R_mono (Kd.R_far (p := ⟨gb244, 1, none⟩) (Kd.R_far (p := ⟨gb244, 0, none⟩) (Kd.R_types HO242.out BK244.out (by decide)) (fun _ hk => hk.2) (.int .i64 t239)) (fun _ hk => hk.2) (.slice Ao78 t240.length co78)) (fun _ h_ => h_.1))) (by decide)) hk (fun _ h => h.2)) (fun _ h => h.1)); have n2_ := Aside0.mk (KeepBut.blk hk (g' := gb244) (o := .cells #[.int .i64 t239, .slice Ao78 t240.length co78] 38 (0, 0)) (by (with_reducible repeat (first | refine blk_drewN ?_ _ | refine blk_drew ?_ | refine blk_alloc ?_ _)); refine blk_put (cs := #[.int .i64 t239, .slice none 0 0]) ?_ 1 _ rfl; (with_reducible repeat (first | refine blk_drewN ?_ _ | refine blk_drew ?_ | refine blk_alloc ?_ _)); refine blk_put (cs := #[.int .i64 0, .slice none 0 0]) ?_ 0 _ rfl; (with_reducible repeat (first | refine blk_drewN ?_ _ | refine blk_drew ?_ | refine blk_alloc ?_ _)); exact BK244.out) NB244_0.out (by simp)); have n3_ := Aside0.mk (KeepBut.trans (by repeat (first | (with_reducible first | exact HK.out | apply KeepBut.set_ | apply keep_drewN | apply keep_drew | apply keep_alloc | refine keep_far ?_ GW238.out _ | refine keep_far ?_ GW244.out _) | exact HK.out)) hk (.inl rfl)); have n4_ := Aside0.mk (hb); have n5_ := Aside0.mk (hi); clear BK238; clear HO242; clear BK244; clear HK; clear HB; clear HI0; have BK238 := n0_; have HO242 := n1_; have BK244 := n2_; have HK := n3_; have HB := n4_; have HI0 := n5_; clear n0_ n1_ n2_ n3_ n4_ n5_; (try clear hb); (try clear hb2); (try clear hk); (try clear hi)) | ((with_reducible refine gate_callee (f := 74) rfl ?_); refine goesL_ (some 17) rfl rfl Try.func74 (by kernel_rfl) rfl #[.pointer (some ⟨g, 0, none⟩), .int .i64 16] rfl (by (try simp only [List.map_toArray, List.map_cons, List.map_nil]); first | done | rfl | (simp only [List.length_drop, List.length_take]; rfl)) ?_; (with_reducible refine (spec_l30Rd_pick.calls k g s0_0 t246 16 t247 t248 w0 _ ?side1 ?side2 A5.out).mono ?_); (case side1 => repeat (first | (with_reducible first | exact HI0.out | apply IsS112.alloc | apply IsS112.drewN | apply IsS112.drew | apply IsS112.set_1 | refine IsS112.far ?_ NB0_238.out _ | refine IsS112.far ?_ NB0_244.out _) | exact HI0.out)); (case side2 => repeat (first | (with_reducible first | exact HB.out | apply below_alloc | apply pw_below_drewN | apply below_drew1 | refine below_set ?_ (IsS112.ge HI0.out) | refine below_set ?_ GE238.out | refine below_set ?_ GE244.out) | exact HB.out)); rintro e w80 ⟨rfl, hi, hb, hk⟩; refine ⟨_, rfl, ?_⟩; have n0_ := Aside0.mk (KeepBut.blk hk (g' := gb238) (o := .cells #[.int .i64 0, .slice none 0 0] 38 (0, 0)) (by (with_reducible repeat (first | refine blk_drewN ?_ _ | refine blk_drew ?_ | refine blk_alloc ?_ _)); exact BK238.out) NB238_0.out (by simp)); have n1_ := Aside0.mk (Kd.R_mono (Kd.R_keep (IsS112.apart (show IsS112 w0 _ g s0_0 t246 from by repeat (first | (with_reducible first | exact HI0.out | apply IsS112.alloc | apply IsS112.drewN | apply IsS112.drew | apply IsS112.set_1 | refine IsS112.far ?_ NB0_238.out _ | refine IsS112.far ?_ NB0_244.out _) | exact HI0.out)) (by (with_reducible repeat (first | apply Kd.R_alloc | apply Kd.R_drewN | apply Kd.R_drew)); exact HO242.out) (by decide)) hk (fun _ h => h.2)) (fun _ h => h.1)); have n2_ := Aside0.mk (KeepBut.blk hk (g' := gb244) (o := .cells #[.int .i64 t239, .slice Ao78 t240.length co78] 38 (0, 0)) (by (with_reducible repeat (first | refine blk_drewN ?_ _ | refine blk_drew ?_ | refine blk_alloc ?_ _)); exact BK244.out) NB244_0.out (by simp)); have n3_ := Aside0.mk (KeepBut.trans (by repeat (first | (with_reducible first | exact HK.out | apply KeepBut.set_ | apply keep_drewN | apply keep_drew | apply keep_alloc | refine keep_far ?_ GW238.out _ | refine keep_far ?_ GW244.out _) | exact HK.out)) hk (.inl rfl)); have n4_ := Aside0.mk (hb); have n5_ := Aside0.mk (hi); clear BK238; clear HO242; clear BK244; clear HK; clear HB; clear HI0; have BK238 := n0_; have HO242 := n1_; have BK244 := n2_; have HK := n3_; have HB := n4_; have HI0 := n5_; clear n0_ n1_ n2_ n3_ n4_ n5_; (try clear hb); (try clear hb2); (try clear hk); (try clear hi); have hcz81_0 : w80.cell? ⟨gb244, 0, none⟩ = some (.int .i64 t239) := (blk_cell BK244.out 0).trans rfl; have hcz81_1 : w80.cell? ⟨gb244, 1, none⟩ = some (.slice Ao78 t240.length co78) := (blk_cell BK244.out 1).trans rfl; have hfz81_0 := blk_frozen BK244.out 0; have hfz81_1 := blk_frozen BK244.out 1; have hnb82 := NB238_0.out; have hnc82 := NB0_238.out; have hcz83_0 : w80.cell? ⟨gb238, 0, none⟩ = some (.int .i64 0) := (blk_cell BK238.out 0).trans rfl; have hcz83_1 : w80.cell? ⟨gb238, 1, none⟩ = some (.slice none 0 0) := (blk_cell BK238.out 1).trans rfl; have hfz83_0 := blk_frozen BK238.out 0; have hfz83_1 := blk_frozen BK238.out 1))
     refine bodyPost_ret (results_cell_row rfl _ _ gb238 38 #[.int .i64 t239, .slice Ao78 t240.length co78] (0, 0) _ rfl (by (with_reducible repeat (first | refine blk_drewN ?_ _ | refine blk_drew ?_ | refine blk_alloc ?_ _)); refine blk_put (cs := #[.int .i64 t239, .slice none 0 0]) ?_ 1 _ rfl; (with_reducible repeat (first | refine blk_drewN ?_ _ | refine blk_drew ?_ | refine blk_alloc ?_ _)); refine blk_put (cs := #[.int .i64 0, .slice none 0 0]) ?_ 0 _ rfl; (with_reducible repeat (first | refine blk_drewN ?_ _ | refine blk_drew ?_ | refine blk_alloc ?_ _)); exact BK238.out) Try.underlying38 rfl (by kernel_rfl)) rfl ?_
     exact ⟨_, by first | rfl | (simp [errW_none, errW_some] <;> rfl) | (simp [*, errW_none, errW_some] <;> rfl), by (with_reducible repeat (first | apply Kd.R_alloc | apply Kd.R_drewN | apply Kd.R_drew)); exact Kd.R_mono (Kd.R_far (p := ⟨gb238, 1, none⟩) (Kd.R_far (p := ⟨gb238, 0, none⟩) (Kd.R_types HO242.out BK238.out (by decide)) (fun _ hk => hk.2) (.int .i64 t239)) (fun _ hk => hk.2) (.slice Ao78 t240.length co78)) (fun _ hk => trivial), by repeat (first | (with_reducible first | exact HI0.out | apply IsS112.alloc | apply IsS112.drewN | apply IsS112.drew | apply IsS112.set_1 | refine IsS112.far ?_ NB0_238.out _ | refine IsS112.far ?_ NB0_244.out _) | exact HI0.out), by repeat (first | (with_reducible first | exact HB.out | apply below_alloc | apply pw_below_drewN | apply below_drew1 | refine below_set ?_ (IsS112.ge HI0.out) | refine below_set ?_ GE238.out | refine below_set ?_ GE244.out) | exact HB.out), by repeat (first | (with_reducible first | exact HK.out | apply KeepBut.set_ | apply keep_drewN | apply keep_drew | apply keep_alloc | refine keep_far ?_ GW238.out _ | refine keep_far ?_ GW244.out _) | exact HK.out)⟩
 ·rw [if_neg c3] at H
  have c3b0 : decide (0 < (t240.length : Int)) = false := decide_eq_false c3
  have c3b1 : decide (0 < t240.length) = false := decide_eq_false (by omega)
  clear c3
  simp only [Option.some.injEq, Prod.mk.injEq] at H
  obtain ⟨rfl, rfl, rfl⟩ := H
  go_enter Try.func72, Try.ntmps72
  go_wp2_with (first | ((with_reducible refine gate_dst (N := 2) rfl ?_); refine box_event ?hg (N := 2) ?hd (cs := #[.int .i64 0, .slice none 0 0]) (t := 38) ?hr ?_; (case hd => rfl); (case hg => rfl); (case hr => first | (go_simp; done) | (go_simp; rfl)); intro gb238 hg w84 hbox hb; have n0_ := Aside0.mk (IsS112.below (by repeat (first | (with_reducible first | exact HI0.out | apply IsS112.alloc | apply IsS112.drewN | apply IsS112.drew | apply IsS112.set_1) | exact HI0.out)) hb); have n1_ := Aside0.mk (KeepBut.trans (by repeat (first | (with_reducible first | exact HK.out | apply KeepBut.set_ | apply keep_drewN | apply keep_drew | apply keep_alloc) | exact HK.out)) (KeepBut.of_below hb g none) (.inl rfl)); have n2_ := Aside0.mk (below_step (by repeat (first | (with_reducible first | exact HB.out | apply below_alloc | apply pw_below_drewN | apply below_drew1 | refine below_set ?_ (IsS112.ge HI0.out)) | exact HB.out)) hb); have n3_ := Aside0.mk (hbox); have n4_ := Aside0.mk ((by rw [hg]; exact (keep_size (w := w) (g := g) (row := none) (by repeat (first | (with_reducible first | exact HK.out | apply KeepBut.set_ | apply keep_drewN | apply keep_drew | apply keep_alloc) | exact HK.out))) : w.heap.size ≤ gb238)); have n5_ := Aside0.mk ((Nat.le_trans HW0.out (by rw [hg]; exact (keep_size (w := w) (g := g) (row := none) (by repeat (first | (with_reducible first | exact HK.out | apply KeepBut.set_ | apply keep_drewN | apply keep_drew | apply keep_alloc) | exact HK.out))) : w.heap.size ≤ gb238) : w0.heap.size ≤ gb238)); have n6_ := Aside0.mk ((by rw [hg]; exact Nat.ne_of_lt (IsS112.lt (show IsS112 w0 _ g s0_0 s0_1 from by repeat (first | (with_reducible first | exact HI0.out | apply IsS112.alloc | apply IsS112.drewN | apply IsS112.drew | apply IsS112.set_1) | exact HI0.out))) : g ≠ gb238)); have n7_ := Aside0.mk ((by rw [hg]; exact Nat.ne_of_gt (IsS112.lt (show IsS112 w0 _ g s0_0 s0_1 from by repeat (first | (with_reducible first | exact HI0.out | apply IsS112.alloc | apply IsS112.drewN | apply IsS112.drew | apply IsS112.set_1) | exact HI0.out))) : gb238 ≠ g)); clear HI0; clear HK; clear HB; have HI0 := n0_; have HK := n1_; have HB := n2_; have BK238 := n3_; have GW238 := n4_; have GE238 := n5_; have NB0_238 := n6_; have NB238_0 := n7_; clear n0_ n1_ n2_ n3_ n4_ n5_ n6_ n7_; clear hb hbox hg) | ((with_reducible refine gate_callee (f := 115) rfl ?_); refine goesL_ (some 6) rfl rfl Try.func115 (by kernel_rfl) rfl #[.pointer (some ⟨g, 0, none⟩)] rfl (by (try simp only [List.map_toArray, List.map_cons, List.map_nil]); first | done | rfl | (simp only [List.length_drop, List.length_take]; rfl)) ?_; (with_reducible refine (spec_l30Net.calls k g s0_0 s0_1 t239 t240 t243 w0 _ ?side1 ?side2 A2.out).mono ?_); (case side1 => repeat (first | (with_reducible first | exact HI0.out | apply IsS112.alloc | apply IsS112.drewN | apply IsS112.drew | apply IsS112.set_1 | refine IsS112.far ?_ NB0_238.out _) | exact HI0.out)); (case side2 => repeat (first | (with_reducible first | exact HB.out | apply below_alloc | apply pw_below_drewN | apply below_drew1 | refine below_set ?_ (IsS112.ge HI0.out) | refine below_set ?_ GE238.out) | exact HB.out)); rintro e w85 ⟨v241, rfl, ho0, hi, hb, hk⟩; refine ⟨_, rfl, ?_⟩; have n0_ := Aside0.mk (KeepBut.blk hk (g' := gb238) (o := .cells #[.int .i64 0, .slice none 0 0] 38 (0, 0)) (by (with_reducible repeat (first | refine blk_drewN ?_ _ | refine blk_drew ?_ | refine blk_alloc ?_ _)); exact BK238.out) NB238_0.out (by simp)); have n1_ := Aside0.mk (Kd.R_lower ho0 (keep_size (w := w) (g := g) (row := none) (by repeat (first | (with_reducible first | exact HK.out | apply KeepBut.set_ | apply keep_drewN | apply keep_drew | apply keep_alloc | refine keep_far ?_ GW238.out _) | exact HK.out)))); have n2_ := Aside0.mk (KeepBut.trans (by repeat (first | (with_reducible first | exact HK.out | apply KeepBut.set_ | apply keep_drewN | apply keep_drew | apply keep_alloc | refine keep_far ?_ GW238.out _) | exact HK.out)) hk (.inl rfl)); have n3_ := Aside0.mk (hb); have n4_ := Aside0.mk (hi); clear BK238; clear HK; clear HB; clear HI0; have BK238 := n0_; have HO242 := n1_; have HK := n2_; have HB := n3_; have HI0 := n4_; clear n0_ n1_ n2_ n3_ n4_; (try clear hb); (try clear hb2); (try clear hk); (try clear hi); (try clear ho0)) | ((with_reducible refine gate_dst (N := 3) rfl ?_); refine box_event ?hg (N := 3) ?hd (cs := #[.int .i64 0, .slice none 0 0]) (t := 38) ?hr ?_; (case hd => rfl); (case hg => rfl); (case hr => first | (go_simp; done) | (go_simp; rfl)); intro gb244 hg w86 hbox hb; have n0_ := Aside0.mk (Kd.R_below (by (with_reducible repeat (first | apply Kd.R_alloc | apply Kd.R_drewN | apply Kd.R_drew)); exact HO242.out) hb); have n1_ := Aside0.mk (IsS112.below (by repeat (first | (with_reducible first | exact HI0.out | apply IsS112.alloc | apply IsS112.drewN | apply IsS112.drew | apply IsS112.set_1 | refine IsS112.far ?_ NB0_238.out _) | exact HI0.out)) hb); have n2_ := Aside0.mk (blk_below (g := gb238) (o := .cells #[.int .i64 0, .slice none 0 0] 38 (0, 0)) (by (with_reducible repeat (first | refine blk_drewN ?_ _ | refine blk_drew ?_ | refine blk_alloc ?_ _)); exact BK238.out) hb); have n3_ := Aside0.mk (KeepBut.trans (by repeat (first | (with_reducible first | exact HK.out | apply KeepBut.set_ | apply keep_drewN | apply keep_drew | apply keep_alloc | refine keep_far ?_ GW238.out _) | exact HK.out)) (KeepBut.of_below hb g none) (.inl rfl)); have n4_ := Aside0.mk (below_step (by repeat (first | (with_reducible first | exact HB.out | apply below_alloc | apply pw_below_drewN | apply below_drew1 | refine below_set ?_ (IsS112.ge HI0.out) | refine below_set ?_ GE238.out) | exact HB.out)) hb); have n5_ := Aside0.mk (hbox); have n6_ := Aside0.mk ((by rw [hg]; exact (keep_size (w := w) (g := g) (row := none) (by repeat (first | (with_reducible first | exact HK.out | apply KeepBut.set_ | apply keep_drewN | apply keep_drew | apply keep_alloc | refine keep_far ?_ GW238.out _) | exact HK.out))) : w.heap.size ≤ gb244)); have n7_ := Aside0.mk ((Nat.le_trans HW0.out (by rw [hg]; exact (keep_size (w := w) (g := g) (row := none) (by repeat (first | (with_reducible first | exact HK.out | apply KeepBut.set_ | apply keep_drewN | apply keep_drew | apply keep_alloc | refine keep_far ?_ GW238.out _) | exact HK.out))) : w.heap.size ≤ gb244) : w0.heap.size ≤ gb244)); have n8_ := Aside0.mk ((by rw [hg]; exact Nat.ne_of_lt (blk_lt (g := gb238) (o := .cells #[.int .i64 0, .slice none 0 0] 38 (0, 0)) (by (with_reducible repeat (first | refine blk_drewN ?_ _ | refine blk_drew ?_ | refine blk_alloc ?_ _)); exact BK238.out)) : gb238 ≠ gb244)); have n9_ := Aside0.mk ((by rw [hg]; exact Nat.ne_of_gt (blk_lt (g := gb238) (o := .cells #[.int .i64 0, .slice none 0 0] 38 (0, 0)) (by (with_reducible repeat (first | refine blk_drewN ?_ _ | refine blk_drew ?_ | refine blk_alloc ?_ _)); exact BK238.out)) : gb244 ≠ gb238)); have n10_ := Aside0.mk ((by rw [hg]; exact Nat.ne_of_lt (IsS112.lt (show IsS112 w0 _ g s0_0 t243 from by repeat (first | (with_reducible first | exact HI0.out | apply IsS112.alloc | apply IsS112.drewN | apply IsS112.drew | apply IsS112.set_1 | refine IsS112.far ?_ NB0_238.out _) | exact HI0.out))) : g ≠ gb244)); have n11_ := Aside0.mk ((by rw [hg]; exact Nat.ne_of_gt (IsS112.lt (show IsS112 w0 _ g s0_0 t243 from by repeat (first | (with_reducible first | exact HI0.out | apply IsS112.alloc | apply IsS112.drewN | apply IsS112.drew | apply IsS112.set_1 | refine IsS112.far ?_ NB0_238.out _) | exact HI0.out))) : gb244 ≠ g)); clear HO242; clear HI0; clear BK238; clear HK; clear HB; have HO242 := n0_; have HI0 := n1_; have BK238 := n2_; have HK := n3_; have HB := n4_; have BK244 := n5_; have GW244 := n6_; have GE244 := n7_; have NB238_244 := n8_; have NB244_238 := n9_; have NB0_244 := n10_; have NB244_0 := n11_; clear n0_ n1_ n2_ n3_ n4_ n5_ n6_ n7_ n8_ n9_ n10_ n11_; clear hb hbox hg; have hnb87 := NB244_238.out; have hnc87 := NB238_244.out; have hnb88 := NB244_0.out; have hnc88 := NB0_244.out; have hcz89_0 : w86.cell? ⟨gb244, 0, none⟩ = some (.int .i64 0) := (blk_cell BK244.out 0).trans rfl; have hcz89_1 : w86.cell? ⟨gb244, 1, none⟩ = some (.slice none 0 0) := (blk_cell BK244.out 1).trans rfl; have hfz89_0 := blk_frozen BK244.out 0; have hfz89_1 := blk_frozen BK244.out 1; obtain ⟨Ao90, co90, eo90⟩ := Kd.R_slice HO242.out; subst eo90; have hnb91 := NB238_0.out; have hnc91 := NB0_238.out; have hcz92_0 : w86.cell? ⟨gb238, 0, none⟩ = some (.int .i64 0) := (blk_cell BK238.out 0).trans rfl; have hcz92_1 : w86.cell? ⟨gb238, 1, none⟩ = some (.slice none 0 0) := (blk_cell BK238.out 1).trans rfl; have hfz92_0 := blk_frozen BK238.out 0; have hfz92_1 := blk_frozen BK238.out 1))
  refine bodyPost_ret (results_cell_row rfl _ _ gb238 38 #[.int .i64 t239, .slice Ao90 t240.length co90] (0, 0) _ rfl (by (with_reducible repeat (first | refine blk_drewN ?_ _ | refine blk_drew ?_ | refine blk_alloc ?_ _)); refine blk_put (cs := #[.int .i64 t239, .slice none 0 0]) ?_ 1 _ rfl; (with_reducible repeat (first | refine blk_drewN ?_ _ | refine blk_drew ?_ | refine blk_alloc ?_ _)); refine blk_put (cs := #[.int .i64 0, .slice none 0 0]) ?_ 0 _ rfl; (with_reducible repeat (first | refine blk_drewN ?_ _ | refine blk_drew ?_ | refine blk_alloc ?_ _)); refine blk_far ?_ NB238_244.out _; (with_reducible repeat (first | refine blk_drewN ?_ _ | refine blk_drew ?_ | refine blk_alloc ?_ _)); refine blk_far ?_ NB238_244.out _; (with_reducible repeat (first | refine blk_drewN ?_ _ | refine blk_drew ?_ | refine blk_alloc ?_ _)); exact BK238.out) Try.underlying38 rfl (by kernel_rfl)) rfl ?_
  exact ⟨_, by first | rfl | (simp [errW_none, errW_some] <;> rfl) | (simp [*, errW_none, errW_some] <;> rfl), by (with_reducible repeat (first | apply Kd.R_alloc | apply Kd.R_drewN | apply Kd.R_drew)); exact Kd.R_mono (Kd.R_far (p := ⟨gb238, 1, none⟩) (Kd.R_far (p := ⟨gb238, 0, none⟩) (Kd.R_far (p := ⟨gb244, 1, none⟩) (Kd.R_far (p := ⟨gb244, 0, none⟩) (Kd.R_types (Kd.R_types HO242.out BK244.out (by decide)) BK238.out (by decide)) (fun _ hk => hk.1.2) (.int .i64 t239)) (fun _ hk => hk.1.2) (.slice Ao90 t240.length co90)) (fun _ hk => hk.2) (.int .i64 t239)) (fun _ hk => hk.2) (.slice Ao90 t240.length co90)) (fun _ hk => trivial), by repeat (first | (with_reducible first | exact HI0.out | apply IsS112.alloc | apply IsS112.drewN | apply IsS112.drew | apply IsS112.set_1 | refine IsS112.far ?_ NB0_238.out _ | refine IsS112.far ?_ NB0_244.out _) | exact HI0.out), by repeat (first | (with_reducible first | exact HB.out | apply below_alloc | apply pw_below_drewN | apply below_drew1 | refine below_set ?_ (IsS112.ge HI0.out) | refine below_set ?_ GE238.out | refine below_set ?_ GE244.out) | exact HB.out), by repeat (first | (with_reducible first | exact HK.out | apply KeepBut.set_ | apply keep_drewN | apply keep_drew | apply keep_alloc | refine keep_far ?_ GW238.out _ | refine keep_far ?_ GW244.out _) | exact HK.out)⟩
end Go.Proofs.Ytmabopomecdidaa.Pr
end
section
namespace Go.Proofs.Ytmabopomecdidaa.Pr
open Go.RowKit Go.Proofs.YtmabopomecdidaaW.PrintWords Go.Proofs.YtmabopomecdidaaW.PrintLast Go.Proofs.YtmabopomecdidaaW.PrintMore
attribute [local go_sem] max2_int min2_int max_two min_two max_three min_three max_four min_four
set_option linter.unusedVariables false
set_option linter.unusedSimpArgs false
def spec_l30Flat.l0 : Nat → Int → List Int → Int → Int → List (S45) → Option (Int × (List (S45)) × Int)
 | 0, _, _, _, _, _ => none
 | k + 1, x4, x1000, x1001, x274000, x274001 => if x4 < (x274001.length : Int) then (if 0 ≤ x4 then (if ((rd_T45 x274001 x4).f0) > ((rd_T45 x274001 x4).f1) then ((some (x274001.set (x4 : Int).toNat (⟨(rd_T45 x274001 x4).f1, (rd_T45 x274001 x4).f1, (rd_T45 x274001 x4).f2, (rd_T45 x274001 x4).f3, (rd_T45 x274001 x4).f4⟩ : S45) : List (S45))).bind fun y280 => (spec_l30Flat.l0 k (wrap64 (x4 + 1)) x1000 x1001 x274000 (y280.set (x4 : Int).toNat (⟨(rd_T45 y280 x4).f0, (rd_T45 x274001 x4).f0, (rd_T45 y280 x4).f2, (rd_T45 y280 x4).f3, (rd_T45 y280 x4).f4⟩ : S45)))) else (spec_l30Flat.l0 k (wrap64 (x4 + 1)) x1000 x1001 x274000 x274001)) else (none)) else (some (x274000, x274001, x1001))
def spec_l30Flat.f (k : Nat) (s0_0 : List Int) (s0_1 : Int) : Option (Int × (List (S45)) × Int) := (spec_l30AnyNet.f k s0_0 s0_1).bind fun bt268 => ((spec_l30Rd_pick.f k s0_0 bt268.2.2 3).bind fun bt274 => (if bt274.1 > 0 then (spec_l30Flat.l0 k 0 s0_0 bt274.2 bt268.1 bt268.2.1) else (some (bt268.1, bt268.2.1, bt274.2))))
theorem spec_l30Flat.mono_l : ∀ k, (∀ y0 y1 y2 y3 y4, LeO (spec_l30Flat.l0 k y0 y1 y2 y3 y4) (spec_l30Flat.l0 (k + 1) y0 y1 y2 y3 y4))
 | 0 => fun _ _ _ _ _ r h => by simp [spec_l30Flat.l0] at h
 | k + 1 => by
  have ih0 := spec_l30Flat.mono_l k
  ·intro y0 y1 y2 y3 y4
   unfold spec_l30Flat.l0
   repeat' first
   | (with_reducible exact ih0 _ _ _ _ _)
   | (with_reducible exact spec_l30AnyNet.mono _ _ _)
   | (with_reducible exact spec_l30Rd_pick.mono _ _ _ _)
   | (with_reducible exact LeO.refl _)
   | (with_reducible exact LeO.none _)
   | (with_reducible refine LeO.ite ?_ ?_)
   | (with_reducible refine LeO.bind ?_ (fun _ => ?_))
   | exact ih0 _ _ _ _ _
   | exact spec_l30AnyNet.mono _ _ _
   | exact spec_l30Rd_pick.mono _ _ _ _
   | exact LeO.none _
   | refine LeO.ite ?_ ?_
   | refine LeO.bind ?_ (fun _ => ?_)
theorem spec_l30Flat.mono : ∀ a0 a1 k, LeO (spec_l30Flat.f k a0 a1) (spec_l30Flat.f (k + 1) a0 a1) := by
 intro a0 a1 k
 have ih0 := spec_l30Flat.mono_l k
 unfold spec_l30Flat.f
 repeat' first
   | (with_reducible exact ih0 _ _ _ _ _)
   | (with_reducible exact spec_l30AnyNet.mono _ _ _)
   | (with_reducible exact spec_l30Rd_pick.mono _ _ _ _)
   | (with_reducible exact LeO.refl _)
   | (with_reducible exact LeO.none _)
   | (with_reducible refine LeO.ite ?_ ?_)
   | (with_reducible refine LeO.bind ?_ (fun _ => ?_))
   | exact ih0 _ _ _ _ _
   | exact spec_l30AnyNet.mono _ _ _
   | exact spec_l30Rd_pick.mono _ _ _ _
   | exact LeO.none _
   | refine LeO.ite ?_ ?_
   | refine LeO.bind ?_ (fun _ => ?_)
def spec_l30Flat.T6 : Bool × List (List Nat × List Nat) := (true, [([], []), ([0], [0]), ([], []), ([1, 2], [1, 2]), ([3], [3]), ([4], [4]), ([], []), ([6], [6]), ([], []), ([7, 8], [7, 8]), ([9], [9]), ([10], [10]), ([5, 11], [5, 11])])
def spec_l30Flat.B6 : List Nat := [0, 1, 0, 7, 15, 31, 0, 64, 0, 448, 960, 1984, 4095]
theorem spec_l30Flat.tab6 : rtab .any (opsOf Try.f65 6) = spec_l30Flat.T6 := by kernel_rfl
theorem spec_l30Flat.bits6 : waitsOk spec_l30Flat.T6.2 spec_l30Flat.B6 = true := by kernel_rfl
def spec_l30Flat.T8 : Bool × List (List Nat × List Nat) := (true, [([], []), ([0], [0]), ([], []), ([], []), ([3], [3]), ([], []), ([4, 5], [4, 5]), ([6], [6]), ([7], [7]), ([1, 2, 0, 1, 2, 3, 4, 5, 6, 7, 8], [1, 2]), ([9, 0, 1, 2, 3, 4, 5, 6, 7, 8], [9]), ([10, 8, 0, 1, 2, 3, 4, 5, 6, 7, 8], [8, 10])])
def spec_l30Flat.B8 : List Nat := [0, 1, 0, 0, 8, 0, 56, 120, 248, 511, 1023, 2047]
theorem spec_l30Flat.tab8 : rtab .any (opsOf Try.f65 8) = spec_l30Flat.T8 := by kernel_rfl
theorem spec_l30Flat.bits8 : waitsOk spec_l30Flat.T8.2 spec_l30Flat.B8 = true := by kernel_rfl
set_option maxHeartbeats 8000000 in
set_option maxRecDepth 100000 in
theorem spec_l30Flat.calls (k : Nat) (g : Nat) (s0_0 : List Int) (s0_1 : Int) (r1 : Int) (r2 : List (S45)) (r3 : Int) (w0 w : World) (hI : IsS112 w0 w g s0_0 s0_1) (hB : Below w0.heap.size w0 w) (h : spec_l30Flat.f k s0_0 s0_1 = some (r1, r2, r3)) :
  Calls Try.prog 65 #[.pointer (some ⟨g, 0, none⟩)] w fun e w' => ∃ v1_ : Value, e = .returned (.agg #[.int .i64 r1, v1_]) ∧ Kd.R k45 45 w' w.heap.size (fun _ => True) v1_ r2 ∧ IsS112 w0 w' g s0_0 r3 ∧ Below w0.heap.size w0 w' ∧ KeepBut w w' g none := by
 have hu38 := Try.underlying38
 have HI0 := Aside0.mk hI
 have HK := Aside0.mk (KeepBut.refl w g none)
 have HL := Aside0.mk hB.size
 clear hI
 have HW0 := Aside0.mk hB.size
 have HB := Aside0.mk hB
 clear hB
 have H : ((spec_l30AnyNet.f k s0_0 s0_1).bind fun bt268 => ((spec_l30Rd_pick.f k s0_0 bt268.2.2 3).bind fun bt274 => (if bt274.1 > 0 then (spec_l30Flat.l0 k 0 s0_0 bt274.2 bt268.1 bt268.2.1) else (some (bt268.1, bt268.2.1, bt274.2))))) = some (r1, r2, r3) := h
 clear h
 replace H := Option.bind_eq_some_iff.mp H
 obtain ⟨⟨t268, t269, t272⟩, A20, H⟩ := H
 replace H : ((spec_l30Rd_pick.f k s0_0 t272 3).bind fun bt274 => (if bt274.1 > 0 then (spec_l30Flat.l0 k 0 s0_0 bt274.2 t268 t269) else (some (t268, t269, bt274.2)))) = some (r1, r2, r3) := H
 have A2 := Aside0.mk A20
 clear A20
 replace H := Option.bind_eq_some_iff.mp H
 obtain ⟨⟨t274, t275⟩, A30, H⟩ := H
 replace H : (if t274 > 0 then (spec_l30Flat.l0 k 0 s0_0 t275 t268 t269) else (some (t268, t269, t275))) = some (r1, r2, r3) := H
 have A3 := Aside0.mk A30
 clear A30
 by_cases c4 : t274 > 0
 ·rw [if_pos c4] at H
  have c4b0 : decide (0 < t274) = true := decide_eq_true c4
  clear c4
  have H' := Aside0.mk H
  clear H
  go_enter Try.func65, Try.ntmps65
  go_wp2_with (first | ((with_reducible refine gate_dst (N := 2) rfl ?_); refine box_event ?hg (N := 2) ?hd (cs := #[.int .i64 0, .slice none 0 0]) (t := 38) ?hr ?_; (case hd => rfl); (case hg => rfl); (case hr => first | (go_simp; done) | (go_simp; rfl)); intro gb267 hg w5 hbox hb; have n0_ := Aside0.mk (IsS112.below (by repeat (first | (with_reducible first | exact HI0.out | apply IsS112.alloc | apply IsS112.drewN | apply IsS112.drew | apply IsS112.set_1) | exact HI0.out)) hb); have n1_ := Aside0.mk (KeepBut.trans (by repeat (first | (with_reducible first | exact HK.out | apply KeepBut.set_ | apply keep_drewN | apply keep_drew | apply keep_alloc) | exact HK.out)) (KeepBut.of_below hb g none) (.inl rfl)); have n2_ := Aside0.mk (below_step (by repeat (first | (with_reducible first | exact HB.out | apply below_alloc | apply pw_below_drewN | apply below_drew1 | refine below_set ?_ (IsS112.ge HI0.out)) | exact HB.out)) hb); have n3_ := Aside0.mk (hbox); have n4_ := Aside0.mk ((by rw [hg]; exact (keep_size (w := w) (g := g) (row := none) (by repeat (first | (with_reducible first | exact HK.out | apply KeepBut.set_ | apply keep_drewN | apply keep_drew | apply keep_alloc) | exact HK.out))) : w.heap.size ≤ gb267)); have n5_ := Aside0.mk ((Nat.le_trans HW0.out (by rw [hg]; exact (keep_size (w := w) (g := g) (row := none) (by repeat (first | (with_reducible first | exact HK.out | apply KeepBut.set_ | apply keep_drewN | apply keep_drew | apply keep_alloc) | exact HK.out))) : w.heap.size ≤ gb267) : w0.heap.size ≤ gb267)); have n6_ := Aside0.mk ((by rw [hg]; exact Nat.ne_of_lt (IsS112.lt (show IsS112 w0 _ g s0_0 s0_1 from by repeat (first | (with_reducible first | exact HI0.out | apply IsS112.alloc | apply IsS112.drewN | apply IsS112.drew | apply IsS112.set_1) | exact HI0.out))) : g ≠ gb267)); have n7_ := Aside0.mk ((by rw [hg]; exact Nat.ne_of_gt (IsS112.lt (show IsS112 w0 _ g s0_0 s0_1 from by repeat (first | (with_reducible first | exact HI0.out | apply IsS112.alloc | apply IsS112.drewN | apply IsS112.drew | apply IsS112.set_1) | exact HI0.out))) : gb267 ≠ g)); clear HI0; clear HK; clear HB; have HI0 := n0_; have HK := n1_; have HB := n2_; have BK267 := n3_; have GW267 := n4_; have GE267 := n5_; have NB0_267 := n6_; have NB267_0 := n7_; clear n0_ n1_ n2_ n3_ n4_ n5_ n6_ n7_; clear hb hbox hg) | ((with_reducible refine gate_callee (f := 72) rfl ?_); refine goesL_ (some 7) rfl rfl Try.func72 (by kernel_rfl) rfl #[.pointer (some ⟨g, 0, none⟩)] rfl (by (try simp only [List.map_toArray, List.map_cons, List.map_nil]); first | done | rfl | (simp only [List.length_drop, List.length_take]; rfl)) ?_; (with_reducible refine (spec_l30AnyNet.calls k g s0_0 s0_1 t268 t269 t272 w0 _ ?side1 ?side2 A2.out).mono ?_); (case side1 => repeat (first | (with_reducible first | exact HI0.out | apply IsS112.alloc | apply IsS112.drewN | apply IsS112.drew | apply IsS112.set_1 | refine IsS112.far ?_ NB0_267.out _) | exact HI0.out)); (case side2 => repeat (first | (with_reducible first | exact HB.out | apply below_alloc | apply pw_below_drewN | apply below_drew1 | refine below_set ?_ (IsS112.ge HI0.out) | refine below_set ?_ GE267.out) | exact HB.out)); rintro e w6 ⟨v270, rfl, ho0, hi, hb, hk⟩; refine ⟨_, rfl, ?_⟩; have n0_ := Aside0.mk (KeepBut.blk hk (g' := gb267) (o := .cells #[.int .i64 0, .slice none 0 0] 38 (0, 0)) (by (with_reducible repeat (first | refine blk_drewN ?_ _ | refine blk_drew ?_ | refine blk_alloc ?_ _)); exact BK267.out) NB267_0.out (by simp)); have n1_ := Aside0.mk (Kd.R_lower ho0 (keep_size (w := w) (g := g) (row := none) (by repeat (first | (with_reducible first | exact HK.out | apply KeepBut.set_ | apply keep_drewN | apply keep_drew | apply keep_alloc | refine keep_far ?_ GW267.out _) | exact HK.out)))); have n2_ := Aside0.mk (KeepBut.trans (by repeat (first | (with_reducible first | exact HK.out | apply KeepBut.set_ | apply keep_drewN | apply keep_drew | apply keep_alloc | refine keep_far ?_ GW267.out _) | exact HK.out)) hk (.inl rfl)); have n3_ := Aside0.mk (hb); have n4_ := Aside0.mk (hi); clear BK267; clear HK; clear HB; clear HI0; have BK267 := n0_; have HO271 := n1_; have HK := n2_; have HB := n3_; have HI0 := n4_; clear n0_ n1_ n2_ n3_ n4_; (try clear hb); (try clear hb2); (try clear hk); (try clear hi); (try clear ho0)) | ((with_reducible refine gate_dst (N := 3) rfl ?_); refine box_event ?hg (N := 3) ?hd (cs := #[.int .i64 0, .slice none 0 0]) (t := 38) ?hr ?_; (case hd => rfl); (case hg => rfl); (case hr => first | (go_simp; done) | (go_simp; rfl)); intro gb273 hg w7 hbox hb; have n0_ := Aside0.mk (Kd.R_below (by (with_reducible repeat (first | apply Kd.R_alloc | apply Kd.R_drewN | apply Kd.R_drew)); exact HO271.out) hb); have n1_ := Aside0.mk (IsS112.below (by repeat (first | (with_reducible first | exact HI0.out | apply IsS112.alloc | apply IsS112.drewN | apply IsS112.drew | apply IsS112.set_1 | refine IsS112.far ?_ NB0_267.out _) | exact HI0.out)) hb); have n2_ := Aside0.mk (blk_below (g := gb267) (o := .cells #[.int .i64 0, .slice none 0 0] 38 (0, 0)) (by (with_reducible repeat (first | refine blk_drewN ?_ _ | refine blk_drew ?_ | refine blk_alloc ?_ _)); exact BK267.out) hb); have n3_ := Aside0.mk (KeepBut.trans (by repeat (first | (with_reducible first | exact HK.out | apply KeepBut.set_ | apply keep_drewN | apply keep_drew | apply keep_alloc | refine keep_far ?_ GW267.out _) | exact HK.out)) (KeepBut.of_below hb g none) (.inl rfl)); have n4_ := Aside0.mk (below_step (by repeat (first | (with_reducible first | exact HB.out | apply below_alloc | apply pw_below_drewN | apply below_drew1 | refine below_set ?_ (IsS112.ge HI0.out) | refine below_set ?_ GE267.out) | exact HB.out)) hb); have n5_ := Aside0.mk (hbox); have n6_ := Aside0.mk ((by rw [hg]; exact (keep_size (w := w) (g := g) (row := none) (by repeat (first | (with_reducible first | exact HK.out | apply KeepBut.set_ | apply keep_drewN | apply keep_drew | apply keep_alloc | refine keep_far ?_ GW267.out _) | exact HK.out))) : w.heap.size ≤ gb273)); have n7_ := Aside0.mk ((Nat.le_trans HW0.out (by rw [hg]; exact (keep_size (w := w) (g := g) (row := none) (by repeat (first | (with_reducible first | exact HK.out | apply KeepBut.set_ | apply keep_drewN | apply keep_drew | apply keep_alloc | refine keep_far ?_ GW267.out _) | exact HK.out))) : w.heap.size ≤ gb273) : w0.heap.size ≤ gb273)); have n8_ := Aside0.mk ((by rw [hg]; exact Nat.ne_of_lt (blk_lt (g := gb267) (o := .cells #[.int .i64 0, .slice none 0 0] 38 (0, 0)) (by (with_reducible repeat (first | refine blk_drewN ?_ _ | refine blk_drew ?_ | refine blk_alloc ?_ _)); exact BK267.out)) : gb267 ≠ gb273)); have n9_ := Aside0.mk ((by rw [hg]; exact Nat.ne_of_gt (blk_lt (g := gb267) (o := .cells #[.int .i64 0, .slice none 0 0] 38 (0, 0)) (by (with_reducible repeat (first | refine blk_drewN ?_ _ | refine blk_drew ?_ | refine blk_alloc ?_ _)); exact BK267.out)) : gb273 ≠ gb267)); have n10_ := Aside0.mk ((by rw [hg]; exact Nat.ne_of_lt (IsS112.lt (show IsS112 w0 _ g s0_0 t272 from by repeat (first | (with_reducible first | exact HI0.out | apply IsS112.alloc | apply IsS112.drewN | apply IsS112.drew | apply IsS112.set_1 | refine IsS112.far ?_ NB0_267.out _) | exact HI0.out))) : g ≠ gb273)); have n11_ := Aside0.mk ((by rw [hg]; exact Nat.ne_of_gt (IsS112.lt (show IsS112 w0 _ g s0_0 t272 from by repeat (first | (with_reducible first | exact HI0.out | apply IsS112.alloc | apply IsS112.drewN | apply IsS112.drew | apply IsS112.set_1 | refine IsS112.far ?_ NB0_267.out _) | exact HI0.out))) : gb273 ≠ g)); clear HO271; clear HI0; clear BK267; clear HK; clear HB; have HO271 := n0_; have HI0 := n1_; have BK267 := n2_; have HK := n3_; have HB := n4_; have BK273 := n5_; have GW273 := n6_; have GE273 := n7_; have NB267_273 := n8_; have NB273_267 := n9_; have NB0_273 := n10_; have NB273_0 := n11_; clear n0_ n1_ n2_ n3_ n4_ n5_ n6_ n7_ n8_ n9_ n10_ n11_; clear hb hbox hg; have hnb8 := NB273_267.out; have hnc8 := NB267_273.out; have hnb9 := NB273_0.out; have hnc9 := NB0_273.out; have hcz10_0 : w7.cell? ⟨gb273, 0, none⟩ = some (.int .i64 0) := (blk_cell BK273.out 0).trans rfl; have hcz10_1 : w7.cell? ⟨gb273, 1, none⟩ = some (.slice none 0 0) := (blk_cell BK273.out 1).trans rfl; have hfz10_0 := blk_frozen BK273.out 0; have hfz10_1 := blk_frozen BK273.out 1; obtain ⟨Ao11, co11, eo11⟩ := Kd.R_slice HO271.out; subst eo11) | ((with_reducible refine gate_callee (f := 74) rfl ?_); refine goesL_ (some 9) rfl rfl Try.func74 (by kernel_rfl) rfl #[.pointer (some ⟨g, 0, none⟩), .int .i64 3] rfl (by (try simp only [List.map_toArray, List.map_cons, List.map_nil]); first | done | rfl | (simp only [List.length_drop, List.length_take]; rfl)) ?_; (with_reducible refine (spec_l30Rd_pick.calls k g s0_0 t272 3 t274 t275 w0 _ ?side1 ?side2 A3.out).mono ?_); (case side1 => repeat (first | (with_reducible first | exact HI0.out | apply IsS112.alloc | apply IsS112.drewN | apply IsS112.drew | apply IsS112.set_1 | refine IsS112.far ?_ NB0_267.out _ | refine IsS112.far ?_ NB0_273.out _) | exact HI0.out)); (case side2 => repeat (first | (with_reducible first | exact HB.out | apply below_alloc | apply pw_below_drewN | apply below_drew1 | refine below_set ?_ (IsS112.ge HI0.out) | refine below_set ?_ GE267.out | refine below_set ?_ GE273.out) | exact HB.out)); rintro e w12 ⟨rfl, hi, hb, hk⟩; refine ⟨_, rfl, ?_⟩; have n0_ := Aside0.mk (KeepBut.blk hk (g' := gb267) (o := .cells #[.int .i64 0, .slice none 0 0] 38 (0, 0)) (by (with_reducible repeat (first | refine blk_drewN ?_ _ | refine blk_drew ?_ | refine blk_alloc ?_ _)); refine blk_far ?_ NB267_273.out _; (with_reducible repeat (first | refine blk_drewN ?_ _ | refine blk_drew ?_ | refine blk_alloc ?_ _)); refine blk_far ?_ NB267_273.out _; (with_reducible repeat (first | refine blk_drewN ?_ _ | refine blk_drew ?_ | refine blk_alloc ?_ _)); exact BK267.out) NB267_0.out (by simp)); have n1_ := Aside0.mk (Kd.R_mono (Kd.R_keep (IsS112.apart (show IsS112 w0 _ g s0_0 t272 from by repeat (first | (with_reducible first | exact HI0.out | apply IsS112.alloc | apply IsS112.drewN | apply IsS112.drew | apply IsS112.set_1 | refine IsS112.far ?_ NB0_267.out _ | refine IsS112.far ?_ NB0_273.out _) | exact HI0.out)) (by (with_reducible repeat (first | apply Kd.R_alloc | apply Kd.R_drewN | apply Kd.R_drew)); exact (Kd.R_mono (Kd.R_far (p := ⟨gb273, 1, none⟩) (Kd.R_far (p := ⟨gb273, 0, none⟩) (Kd.R_types HO271.out BK273.out (by decide)) (fun _ hk => hk.2) (.int .i64 t268)) (fun _ hk => hk.2) (.slice Ao11 t269.length co11)) (fun _ h_ => h_.1))) (by decide)) hk (fun _ h => h.2)) (fun _ h => h.1)); have n2_ := Aside0.mk (KeepBut.blk hk (g' := gb273) (o := .cells #[.int .i64 t268, .slice Ao11 t269.length co11] 38 (0, 0)) (by (with_reducible repeat (first | refine blk_drewN ?_ _ | refine blk_drew ?_ | refine blk_alloc ?_ _)); refine blk_put (cs := #[.int .i64 t268, .slice none 0 0]) ?_ 1 _ rfl; (with_reducible repeat (first | refine blk_drewN ?_ _ | refine blk_drew ?_ | refine blk_alloc ?_ _)); refine blk_put (cs := #[.int .i64 0, .slice none 0 0]) ?_ 0 _ rfl; (with_reducible repeat (first | refine blk_drewN ?_ _ | refine blk_drew ?_ | refine blk_alloc ?_ _)); exact BK273.out) NB273_0.out (by simp)); have n3_ := Aside0.mk (KeepBut.trans (by repeat (first | (with_reducible first | exact HK.out | apply KeepBut.set_ | apply keep_drewN | apply keep_drew | apply keep_alloc | refine keep_far ?_ GW267.out _ | refine keep_far ?_ GW273.out _) | exact HK.out)) hk (.inl rfl)); have n4_ := Aside0.mk (hb); have n5_ := Aside0.mk (hi); clear BK267; clear HO271; clear BK273; clear HK; clear HB; clear HI0; have BK267 := n0_; have HO271 := n1_; have BK273 := n2_; have HK := n3_; have HB := n4_; have HI0 := n5_; clear n0_ n1_ n2_ n3_ n4_ n5_; (try clear hb); (try clear hb2); (try clear hk); (try clear hi)))
  go_loopg [4] k (fun kq v4 w' => ∃ (x4_1 : Int) (x274001_1 : List (S45)) (u274001 : Value), v4 = .int .i64 x4_1 ∧ Aside0 (spec_l30Flat.l0 kq x4_1 s0_0 t275 t268 x274001_1 = some (r1, r2, r3)) ∧ Aside0 (kq ≤ k) ∧ Aside0 (Kd.R k45 45 w' w.heap.size (fun _ => True) u274001 x274001_1) ∧ Aside0 (w'.heap[gb267]? = some (.cells #[.int .i64 0, (.slice none 0 0)] 38 (0, 0))) ∧ Aside0 (w'.heap[gb273]? = some (.cells #[.int .i64 t268, u274001] 38 (0, 0))) ∧ Aside0 (IsS112 w0 w' g s0_0 t275) ∧ Aside0 (KeepBut w w' g none) ∧ Aside0 (Below w0.heap.size w0 w'))
  case atStart => exact ⟨(0), (t269), (.slice Ao11 t269.length co11), (by first | rfl | (simp; done) | (simp [*]; done)), H', ⟨Nat.le_refl _⟩, ⟨by (with_reducible repeat (first | apply Kd.R_alloc | apply Kd.R_drewN | apply Kd.R_drew)); exact HO271.out⟩, ⟨by (with_reducible repeat (first | refine blk_drewN ?_ _ | refine blk_drew ?_ | refine blk_alloc ?_ _)); exact BK267.out⟩, ⟨by (with_reducible repeat (first | refine blk_drewN ?_ _ | refine blk_drew ?_ | refine blk_alloc ?_ _)); exact BK273.out⟩, ⟨by repeat (first | (with_reducible first | exact HI0.out | apply IsS112.alloc | apply IsS112.drewN | apply IsS112.drew | apply IsS112.set_1 | refine IsS112.far ?_ NB0_267.out _ | refine IsS112.far ?_ NB0_273.out _) | exact HI0.out)⟩, ⟨by repeat (first | (with_reducible first | exact HK.out | apply KeepBut.set_ | apply keep_drewN | apply keep_drew | apply keep_alloc | refine keep_far ?_ GW267.out _ | refine keep_far ?_ GW273.out _) | exact HK.out)⟩, ⟨by repeat (first | (with_reducible first | exact HB.out | apply below_alloc | apply pw_below_drewN | apply below_drew1 | refine below_set ?_ (IsS112.ge HI0.out) | refine below_set ?_ GE267.out | refine below_set ?_ GE273.out) | exact HB.out)⟩⟩
  case round =>
   clear H'
   try clear p2
   try clear c4
   try clear c4b0
   try clear c6
   try clear c7
   try clear c8
   try clear c9
   try clear hcz10_0
   try clear hcz10_1
   try clear hfz10_0
   try clear hfz10_1
   obtain ⟨x4_1, x274001_1, u274001, rfl, HA, HK1, HO_274001, BK267, BK273, HI0, HK, HB⟩ := hrel
   cases gk with
   | zero => exact absurd HA.out (by simp [spec_l30Flat.l0])
   | succ k1 =>
    have H := HA.out
    clear HA
    simp only [spec_l30Flat.l0] at H
    by_cases c13 : x4_1 < (x274001_1.length : Int)
    ·rw [if_pos c13] at H
     have c13b0 : decide (x4_1 < (x274001_1.length : Int)) = true := decide_eq_true c13
     clear c13
     by_cases c14 : 0 ≤ x4_1
     ·rw [if_pos c14] at H
      have c14b0 : decide (0 ≤ x4_1) = true := decide_eq_true c14
      clear c14
      by_cases c15 : ((rd_T45 x274001_1 x4_1).f0) > ((rd_T45 x274001_1 x4_1).f1)
      ·rw [if_pos c15] at H
       have c15b0 : decide (((rd_T45 x274001_1 x4_1).f1) < ((rd_T45 x274001_1 x4_1).f0)) = true := decide_eq_true c15
       clear c15
       obtain ⟨y280, hy280⟩ : ∃ y_ : List (S45), y_ = (x274001_1.set (x4_1 : Int).toNat (⟨(rd_T45 x274001_1 x4_1).f1, (rd_T45 x274001_1 x4_1).f1, (rd_T45 x274001_1 x4_1).f2, (rd_T45 x274001_1 x4_1).f3, (rd_T45 x274001_1 x4_1).f4⟩ : S45)) := ⟨_, rfl⟩
       replace H : (spec_l30Flat.l0 k1 (wrap64 (x4_1 + 1)) s0_0 t275 t268 (y280.set (x4_1 : Int).toNat (⟨(rd_T45 y280 x4_1).f0, (rd_T45 x274001_1 x4_1).f0, (rd_T45 y280 x4_1).f2, (rd_T45 y280 x4_1).f3, (rd_T45 y280 x4_1).f4⟩ : S45))) = some (r1, r2, r3) := by first | (rw [hy280]; with_reducible exact H) | (have H2_ := (Option.bind_some _ _).symm.trans H; rw [hy280]; with_reducible exact H2_) | (have H2_ := (Option.bind_some _ _).symm.trans H; with_reducible exact H2_) | with_reducible exact H | (rw [hy280]; exact H) | exact H
       have Ny280 := Aside0.mk hy280
       clear hy280
       obtain ⟨y281, hy281⟩ : ∃ y_ : List (S45), y_ = (y280.set (x4_1 : Int).toNat (⟨(rd_T45 y280 x4_1).f0, (rd_T45 x274001_1 x4_1).f0, (rd_T45 y280 x4_1).f2, (rd_T45 y280 x4_1).f3, (rd_T45 y280 x4_1).f4⟩ : S45)) := ⟨_, rfl⟩
       replace H : (spec_l30Flat.l0 k1 (wrap64 (x4_1 + 1)) s0_0 t275 t268 y281) = some (r1, r2, r3) := by first | (rw [hy281]; with_reducible exact H) | (have H2_ := (Option.bind_some _ _).symm.trans H; rw [hy281]; with_reducible exact H2_) | (have H2_ := (Option.bind_some _ _).symm.trans H; with_reducible exact H2_) | with_reducible exact H | (rw [hy281]; exact H) | exact H
       have Ny281 := Aside0.mk hy281
       clear hy281
       have H' := Aside0.mk H
       clear H
       have hnb18 := NB273_267.out
       have hnc18 := NB267_273.out
       have hnb19 := NB273_0.out
       have hnc19 := NB0_273.out
       have hcz20_0 : wr.cell? ⟨gb273, 0, none⟩ = some (.int .i64 t268) := (blk_cell BK273.out 0).trans rfl
       have hcz20_1 : wr.cell? ⟨gb273, 1, none⟩ = some (u274001) := (blk_cell BK273.out 1).trans rfl
       have hfz20_0 := blk_frozen BK273.out 0
       have hfz20_1 := blk_frozen BK273.out 1
       obtain ⟨Ao21, co21, eo21⟩ := Kd.R_slice HO_274001.out
       subst eo21
       try go_wp2
       have n0_ := Aside0.mk (Kd.R_drew HO_274001.out)
       have n1_ := Aside0.mk (blk_drew BK267.out)
       have n2_ := Aside0.mk (blk_drew BK273.out)
       have n3_ := Aside0.mk (IsS112.drew HI0.out)
       have n4_ := Aside0.mk (keep_drew HK.out)
       have n5_ := Aside0.mk (below_drew1 HB.out)
       clear HO_274001
       clear BK267
       clear BK273
       clear HI0
       clear HK
       clear HB
       have HO_274001 := n0_
       have BK267 := n1_
       have BK273 := n2_
       have HI0 := n3_
       have HK := n4_
       have HB := n5_
       clear n0_ n1_ n2_ n3_ n4_ n5_
       have p276 : 0 ≤ (x4_1 : Int) := of_decide_eq_true (by first | (with_reducible assumption) | assumption)
       have q276 : x4_1 < (x274001_1.length : Int) := of_decide_eq_true (by first | (with_reducible assumption) | assumption)
       obtain ⟨ad276, e276, hx276_0, hx276_1, hx276_2, hx276_3, hx276_4⟩ := at_T45 (Kd.R_reads' HO_274001.out).2.2 x4_1 p276 q276
       cases e276
       replace p276 := eq_true p276
       replace q276 := eq_true q276
       have p277 : 0 ≤ (x4_1 : Int) := of_decide_eq_true (by first | (with_reducible assumption) | assumption)
       have q277 : x4_1 < (x274001_1.length : Int) := of_decide_eq_true (by first | (with_reducible assumption) | assumption)
       obtain ⟨ad277, e277, hx277_0, hx277_1, hx277_2, hx277_3, hx277_4⟩ := at_T45 (Kd.R_reads' HO_274001.out).2.2 x4_1 p277 q277
       obtain rfl : ad276 = ad277 := (by injection e277)
       replace p277 := eq_true p277
       replace q277 := eq_true q277
       refine start_ (n := 13) (S := fun w' => w'.cell? ⟨gb273, 0, none⟩ = some (.int .i64 t268) ∧ w'.cell? ⟨gb273, 1, none⟩ = some (.slice (some ad276) x274001_1.length co21) ∧ w'.cell? (ad276.add ((x4_1).toNat * 5)) = some (.int .i64 ((rd_T45 x274001_1 x4_1).f0)) ∧ w'.cell? ⟨(ad276.add ((x4_1).toNat * 5)).block, (ad276.add ((x4_1).toNat * 5)).off + 1, none⟩ = some (.int .i64 ((rd_T45 x274001_1 x4_1).f1)) ∧ w'.cell? ⟨(ad276.add ((x4_1).toNat * 5)).block, (ad276.add ((x4_1).toNat * 5)).off + 2, none⟩ = some (.int .i64 ((rd_T45 x274001_1 x4_1).f2)) ∧ w'.cell? ⟨(ad276.add ((x4_1).toNat * 5)).block, (ad276.add ((x4_1).toNat * 5)).off + 3, none⟩ = some (.int .i64 ((rd_T45 x274001_1 x4_1).f3)) ∧ w'.cell? ⟨(ad276.add ((x4_1).toNat * 5)).block, (ad276.add ((x4_1).toNat * 5)).off + 4, none⟩ = some (.int .i64 ((rd_T45 x274001_1 x4_1).f4)) ∧ w'.cell? (ad276.add ((x4_1).toNat * 5)) = some (.int .i64 ((rd_T45 x274001_1 x4_1).f0)) ∧ w'.cell? ⟨(ad276.add ((x4_1).toNat * 5)).block, (ad276.add ((x4_1).toNat * 5)).off + 1, none⟩ = some (.int .i64 ((rd_T45 x274001_1 x4_1).f1)) ∧ w'.cell? ⟨(ad276.add ((x4_1).toNat * 5)).block, (ad276.add ((x4_1).toNat * 5)).off + 2, none⟩ = some (.int .i64 ((rd_T45 x274001_1 x4_1).f2)) ∧ w'.cell? ⟨(ad276.add ((x4_1).toNat * 5)).block, (ad276.add ((x4_1).toNat * 5)).off + 3, none⟩ = some (.int .i64 ((rd_T45 x274001_1 x4_1).f3)) ∧ w'.cell? ⟨(ad276.add ((x4_1).toNat * 5)).block, (ad276.add ((x4_1).toNat * 5)).off + 4, none⟩ = some (.int .i64 ((rd_T45 x274001_1 x4_1).f4))) (ds := []) #[false, false, false, false, false, false, false, false, false, false, false, false, false] (by kernel_rfl) rfl rfl ⟨(blk_cell BK273.out 0).trans rfl, (blk_cell BK273.out 1).trans rfl, hx276_0, hx276_1, hx276_2, hx276_3, hx276_4, hx277_0, hx277_1, hx277_2, hx277_3, hx277_4⟩ (fun hHeld => ?_); refine with_tabW spec_l30Flat.tab6 spec_l30Flat.bits6 (fun HT_ HW_ => ?_)
       generalize wr.drew = w22 at HO_274001 BK267 BK273 HI0 HK HB hx276_0 hx276_1 hx276_2 hx276_3 hx276_4 hx277_0 hx277_1 hx277_2 hx277_3 hx277_4 hHeld ⊢
       refine pure_ (i := 0) (N := some 18) (v := ?_) (a' := ?_) #[true, false, false, false, false, false, false, false, false, false, false, false, false] rfl rfl (any_of HT_.out (by kernel_rfl)) (fun _ _ _ h => h) (Or.inl ⟨by rfl, ?_⟩) ?_ ?_
       rotate_left
       ·intro w'
        go_simp
        with_reducible rfl
       rotate_left
       ·simp only [Act.put, List.setIfInBounds_toArray, List.set_cons_zero, List.set_cons_succ, i64_w, i32_w]
        rfl
       refine pure_ (i := 2) (N := some 20) (v := ?_) (a' := ?_) #[true, false, true, false, false, false, false, false, false, false, false, false, false] rfl rfl (any_of HT_.out (by kernel_rfl)) (fun _ _ _ h => h) (Or.inl ⟨by rfl, ?_⟩) ?_ ?_
       rotate_left
       ·intro w'
        go_simp
        with_reducible rfl
       rotate_left
       ·simp only [Act.put, List.setIfInBounds_toArray, List.set_cons_zero, List.set_cons_succ, i64_w, i32_w]
        rfl
       refine pure_ (i := 6) (N := some 24) (v := ?_) (a' := ?_) #[true, false, true, false, false, false, true, false, false, false, false, false, false] rfl rfl (any_of HT_.out (by kernel_rfl)) (fun _ _ _ h => h) (Or.inl ⟨by rfl, ?_⟩) ?_ ?_
       rotate_left
       ·intro w'
        go_simp
        with_reducible rfl
       rotate_left
       ·simp only [Act.put, List.setIfInBounds_toArray, List.set_cons_zero, List.set_cons_succ, i64_w, i32_w]
        rfl
       refine pure_ (i := 8) (N := some 26) (v := ?_) (a' := ?_) #[true, false, true, false, false, false, true, false, true, false, false, false, false] rfl rfl (any_of HT_.out (by kernel_rfl)) (fun _ _ _ h => h) (Or.inl ⟨by rfl, ?_⟩) ?_ ?_
       rotate_left
       ·intro w'
        go_simp
        with_reducible rfl
       rotate_left
       ·simp only [Act.put, List.setIfInBounds_toArray, List.set_cons_zero, List.set_cons_succ, i64_w, i32_w]
        rfl
       refine take_ (i := 1) (N := some 19) (v := ?_) (a' := ?_) #[true, true, true, false, false, false, true, false, true, false, false, false, false] rfl rfl (take_ofW HT_.out HW_.out (by kernel_rfl)) (fun _ _ _ h => h) (Or.inl ⟨by rfl, ?_⟩) hHeld ?_ ?_
       rotate_left
       ·rintro w' ⟨s0, s1, s2, s3, s4, s5, s6, s7, s8, s9, s10, s11⟩
        go_simp
        with_reducible rfl
       rotate_left
       ·simp only [Act.put, List.setIfInBounds_toArray, List.set_cons_zero, List.set_cons_succ, i64_w, i32_w]
        rfl
       refine pure_ (i := 3) (N := some 21) (v := ?_) (a' := ?_) #[true, true, true, true, false, false, true, false, true, false, false, false, false] rfl rfl (any_of HT_.out (by kernel_rfl)) (fun _ _ _ h => h) (Or.inl ⟨by rfl, ?_⟩) ?_ ?_
       rotate_left
       ·intro w'
        go_simp
        with_reducible rfl
       rotate_left
       ·simp only [Act.put, List.setIfInBounds_toArray, List.set_cons_zero, List.set_cons_succ, i64_w, i32_w]
        rfl
       refine pure_ (i := 4) (N := some 22) (v := ?_) (a' := ?_) #[true, true, true, true, true, false, true, false, true, false, false, false, false] rfl rfl (any_of HT_.out (by kernel_rfl)) (fun _ _ _ h => h) (Or.inl ⟨by rfl, ?_⟩) ?_ ?_
       rotate_left
       ·intro w'
        go_simp
        with_reducible rfl
       rotate_left
       ·simp only [Act.put, List.setIfInBounds_toArray, List.set_cons_zero, List.set_cons_succ, i64_w, i32_w]
        rfl
       refine take_ (i := 5) (N := some 23) (v := ?_) (a' := ?_) #[true, true, true, true, true, true, true, false, true, false, false, false, false] rfl rfl (take_ofW HT_.out HW_.out (by kernel_rfl)) (fun _ _ _ h => h) (Or.inl ⟨by rfl, ?_⟩) hHeld ?_ ?_
       rotate_left
       ·rintro w' ⟨s0, s1, s2, s3, s4, s5, s6, s7, s8, s9, s10, s11⟩
        go_simp
        with_reducible rfl
       rotate_left
       ·simp only [Act.put, List.setIfInBounds_toArray, List.set_cons_zero, List.set_cons_succ, i64_w, i32_w]
        rfl
       refine take_ (i := 7) (N := some 25) (v := ?_) (a' := ?_) #[true, true, true, true, true, true, true, true, true, false, false, false, false] rfl rfl (take_ofW HT_.out HW_.out (by kernel_rfl)) (fun _ _ _ h => h) (Or.inl ⟨by rfl, ?_⟩) hHeld ?_ ?_
       rotate_left
       ·rintro w' ⟨s0, s1, s2, s3, s4, s5, s6, s7, s8, s9, s10, s11⟩
        go_simp
        with_reducible rfl
       rotate_left
       ·simp only [Act.put, List.setIfInBounds_toArray, List.set_cons_zero, List.set_cons_succ, i64_w, i32_w]
        rfl
       refine pure_ (i := 9) (N := some 27) (v := ?_) (a' := ?_) #[true, true, true, true, true, true, true, true, true, true, false, false, false] rfl rfl (any_of HT_.out (by kernel_rfl)) (fun _ _ _ h => h) (Or.inl ⟨by rfl, ?_⟩) ?_ ?_
       rotate_left
       ·intro w'
        go_simp
        with_reducible rfl
       rotate_left
       ·simp only [Act.put, List.setIfInBounds_toArray, List.set_cons_zero, List.set_cons_succ, i64_w, i32_w]
        rfl
       refine pure_ (i := 10) (N := some 28) (v := ?_) (a' := ?_) #[true, true, true, true, true, true, true, true, true, true, true, false, false] rfl rfl (any_of HT_.out (by kernel_rfl)) (fun _ _ _ h => h) (Or.inl ⟨by rfl, ?_⟩) ?_ ?_
       rotate_left
       ·intro w'
        go_simp
        with_reducible rfl
       rotate_left
       ·simp only [Act.put, List.setIfInBounds_toArray, List.set_cons_zero, List.set_cons_succ, i64_w, i32_w]
        rfl
       refine take_ (i := 11) (N := some 29) (v := ?_) (a' := ?_) #[true, true, true, true, true, true, true, true, true, true, true, true, false] rfl rfl (take_ofW HT_.out HW_.out (by kernel_rfl)) (fun _ _ _ h => h) (Or.inl ⟨by rfl, ?_⟩) hHeld ?_ ?_
       rotate_left
       ·rintro w' ⟨s0, s1, s2, s3, s4, s5, s6, s7, s8, s9, s10, s11⟩
        go_simp
        with_reducible rfl
       rotate_left
       ·simp only [Act.put, List.setIfInBounds_toArray, List.set_cons_zero, List.set_cons_succ, i64_w, i32_w]
        rfl
       refine pure_ (i := 12) (N := some 30) (v := ?_) (a' := ?_) #[true, true, true, true, true, true, true, true, true, true, true, true, true] rfl rfl (any_of HT_.out (by kernel_rfl)) (fun _ _ _ h => h) (Or.inl ⟨by rfl, ?_⟩) ?_ ?_
       rotate_left
       ·intro w'
        go_simp
        with_reducible rfl
       rotate_left
       ·simp only [Act.put, List.setIfInBounds_toArray, List.set_cons_zero, List.set_cons_succ, i64_w, i32_w]
        rfl
       refine done_ (done_of HT_.out (by kernel_rfl)) ?_
       have hcz23_0 : w22.cell? ⟨gb273, 0, none⟩ = some (.int .i64 t268) := (blk_cell BK273.out 0).trans rfl
       have hcz23_1 : w22.cell? ⟨gb273, 1, none⟩ = some (.slice (some ad276) x274001_1.length co21) := (blk_cell BK273.out 1).trans rfl
       have hfz23_0 := blk_frozen BK273.out 0
       have hfz23_1 := blk_frozen BK273.out 1
       have p278 : 0 ≤ (x4_1 : Int) := of_decide_eq_true (by first | (with_reducible assumption) | assumption)
       have q278 : x4_1 < (x274001_1.length : Int) := of_decide_eq_true (by first | (with_reducible assumption) | assumption)
       obtain ⟨ad278, e278, hx278_0, hx278_1, hx278_2, hx278_3, hx278_4⟩ := at_T45 (Kd.R_reads' HO_274001.out).2.2 x4_1 p278 q278
       obtain rfl : ad276 = ad278 := (by injection e278)
       replace p278 := eq_true p278
       replace q278 := eq_true q278
       try go_wp2
       have n0_ := Aside0.mk (Kd.R_drew HO_274001.out)
       have n1_ := Aside0.mk (blk_drew BK267.out)
       have n2_ := Aside0.mk (blk_drew BK273.out)
       have n3_ := Aside0.mk (IsS112.drew HI0.out)
       have n4_ := Aside0.mk (keep_drew HK.out)
       have n5_ := Aside0.mk (below_drew1 HB.out)
       clear HO_274001
       clear BK267
       clear BK273
       clear HI0
       clear HK
       clear HB
       have HO_274001 := n0_
       have BK267 := n1_
       have BK273 := n2_
       have HI0 := n3_
       have HK := n4_
       have HB := n5_
       clear n0_ n1_ n2_ n3_ n4_ n5_
       have p279 : 0 ≤ (x4_1 : Int) := of_decide_eq_true (by first | (with_reducible assumption) | assumption)
       have q279 : x4_1 < (x274001_1.length : Int) := of_decide_eq_true (by first | (with_reducible assumption) | assumption)
       obtain ⟨ad279, e279, hx279_0, hx279_1, hx279_2, hx279_3, hx279_4⟩ := at_T45 (Kd.R_reads' HO_274001.out).2.2 x4_1 p279 q279
       obtain rfl : ad276 = ad279 := (by injection e279)
       replace p279 := eq_true p279
       replace q279 := eq_true q279
       have p16 : 0 ≤ (x4_1 : Int) := of_decide_eq_true (by first | (with_reducible assumption) | assumption)
       have q16 : (x4_1 : Int) < ((x274001_1.length : Int) : Int) := of_decide_eq_true (by first | (with_reducible assumption) | assumption)
       obtain ⟨go16, co16, eo16, gb16, gl16, cl16, HG16⟩ := Kd.R_form HO_274001.out (by omega)
       (first | cases eo16 | (injection eo16 with ea_ en_ ec_; (first | subst ea_ | (injection ea_ with ea_; subst ea_)); subst ec_; clear en_))
       have GB16 := Aside0.mk gb16
       have GG16 := Aside0.mk HG16
       clear gb16 gl16 HG16
       (first | simp only [add_plain] at hx276_0 | skip)
       (first | simp only [add_plain] at hx276_1 | skip)
       (first | simp only [add_plain] at hx276_2 | skip)
       (first | simp only [add_plain] at hx276_3 | skip)
       (first | simp only [add_plain] at hx276_4 | skip)
       (first | simp only [add_plain] at hx277_0 | skip)
       (first | simp only [add_plain] at hx277_1 | skip)
       (first | simp only [add_plain] at hx277_2 | skip)
       (first | simp only [add_plain] at hx277_3 | skip)
       (first | simp only [add_plain] at hx277_4 | skip)
       (first | simp only [add_plain] at hx278_0 | skip)
       (first | simp only [add_plain] at hx278_1 | skip)
       (first | simp only [add_plain] at hx278_2 | skip)
       (first | simp only [add_plain] at hx278_3 | skip)
       (first | simp only [add_plain] at hx278_4 | skip)
       (first | simp only [add_plain] at hx279_0 | skip)
       (first | simp only [add_plain] at hx279_1 | skip)
       (first | simp only [add_plain] at hx279_2 | skip)
       (first | simp only [add_plain] at hx279_3 | skip)
       (first | simp only [add_plain] at hx279_4 | skip)
       obtain ⟨ce16, hcl16, hM16, hcc16, hfr16⟩ := Kd.R_elem HO_274001.out z45 (x4_1 : Int) p16 q16
       obtain rfl := k45_openM hM16
       have hx16_0 : World.cell? _ ⟨go16, (x4_1 : Int).toNat * 5, none⟩ = some (.int .i64 ((rd_T45 x274001_1 x4_1).f0)) := hcc16 0 _ rfl
       have hx16_1 : World.cell? _ ⟨go16, (x4_1 : Int).toNat * 5 + 1, none⟩ = some (.int .i64 ((rd_T45 x274001_1 x4_1).f1)) := hcc16 1 _ rfl
       have hx16_2 : World.cell? _ ⟨go16, (x4_1 : Int).toNat * 5 + 2, none⟩ = some (.int .i64 ((rd_T45 x274001_1 x4_1).f2)) := hcc16 2 _ rfl
       have hx16_3 : World.cell? _ ⟨go16, (x4_1 : Int).toNat * 5 + 3, none⟩ = some (.int .i64 ((rd_T45 x274001_1 x4_1).f3)) := hcc16 3 _ rfl
       have hx16_4 : World.cell? _ ⟨go16, (x4_1 : Int).toNat * 5 + 4, none⟩ = some (.int .i64 ((rd_T45 x274001_1 x4_1).f4)) := hcc16 4 _ rfl
       have hf16_0 : World.frozen? _ ⟨go16, (x4_1 : Int).toNat * 5, none⟩ = false := hfr16 0
       have hf16_1 : World.frozen? _ ⟨go16, (x4_1 : Int).toNat * 5 + 1, none⟩ = false := hfr16 1
       have hf16_2 : World.frozen? _ ⟨go16, (x4_1 : Int).toNat * 5 + 2, none⟩ = false := hfr16 2
       have hf16_3 : World.frozen? _ ⟨go16, (x4_1 : Int).toNat * 5 + 3, none⟩ = false := hfr16 3
       have hf16_4 : World.frozen? _ ⟨go16, (x4_1 : Int).toNat * 5 + 4, none⟩ = false := hfr16 4
       clear hcl16 hcc16 hfr16; (try clear hM16)
       replace p16 := eq_true p16
       replace q16 := eq_true q16
       have HN0_go16 := Aside0.mk (show g ≠ go16 from by have h_ := IsS112.own_ne HI0.out HO_274001.out (by decide); intro e_; exact h_ (by rw [e_]; rfl))
       obtain ⟨ce25, hcl25, hM25, hcc25, hfr25⟩ := Kd.R_elem HO_274001.out z45 (x4_1 : Int) (of_decide_eq_true (by first | (with_reducible assumption) | assumption)) (by have h_ : (x4_1 : Int) < ((x274001_1.length : Int) : Int) := of_decide_eq_true (by first | (with_reducible assumption) | assumption); first | exact h_ | (have e_ := (Kd.R_reads' HO_274001.out).1; omega) | simpa using h_)
       obtain rfl := k45_openM hM25
       have HP25 := (Kd.R_seg HO_274001.out (x4_1 : Int) (of_decide_eq_true (by first | (with_reducible assumption) | assumption)) (by have h_ : (x4_1 : Int) < ((x274001_1.length : Int) : Int) := of_decide_eq_true (by first | (with_reducible assumption) | assumption); first | exact h_ | (have e_ := (Kd.R_reads' HO_274001.out).1; omega) | simpa using h_) (seg := [.int .i64 ((rd_T45 x274001_1 x4_1).f1)]) (j := 0) hcl25 hcc25 (show 1 ≤ 5 from by decide) (x' := (⟨(rd_T45 x274001_1 x4_1).f1, (rd_T45 x274001_1 x4_1).f1, (rd_T45 x274001_1 x4_1).f2, (rd_T45 x274001_1 x4_1).f3, (rd_T45 x274001_1 x4_1).f4⟩ : S45)) (k45_mkM _ _ _ (⟨(rd_T45 x274001_1 x4_1).f1, (rd_T45 x274001_1 x4_1).f1, (rd_T45 x274001_1 x4_1).f2, (rd_T45 x274001_1 x4_1).f3, (rd_T45 x274001_1 x4_1).f4⟩ : S45) ) (fun _ hk => hk)).1
       rw [← Ny280.out] at HP25
       have HQ25 := Aside0.mk HP25
       clear hcl25 hcc25 hfr25 HP25; (try clear hM25)
       refine start_ (n := 12) (S := fun w' => w'.cell? ⟨gb273, 0, none⟩ = some (.int .i64 t268) ∧ w'.cell? ⟨gb273, 1, none⟩ = some (.slice (some ⟨go16, 0, none⟩) x274001_1.length co21) ∧ w'.cell? ⟨go16, ((x4_1).toNat * 5), none⟩ = some (.int .i64 ((rd_T45 x274001_1 x4_1).f0)) ∧ w'.cell? ⟨go16, ((x4_1).toNat * 5) + 1, none⟩ = some (.int .i64 ((rd_T45 x274001_1 x4_1).f1)) ∧ w'.cell? ⟨go16, ((x4_1).toNat * 5) + 2, none⟩ = some (.int .i64 ((rd_T45 x274001_1 x4_1).f2)) ∧ w'.cell? ⟨go16, ((x4_1).toNat * 5) + 3, none⟩ = some (.int .i64 ((rd_T45 x274001_1 x4_1).f3)) ∧ w'.cell? ⟨go16, ((x4_1).toNat * 5) + 4, none⟩ = some (.int .i64 ((rd_T45 x274001_1 x4_1).f4))) (ds := [11]) #[false, false, false, false, false, false, false, false, false, false, false, false] (by kernel_rfl) rfl rfl ⟨(blk_cell BK273.out 0).trans rfl, (blk_cell BK273.out 1).trans rfl, hx279_0, hx279_1, hx279_2, hx279_3, hx279_4⟩ (fun hHeld => ?_); refine with_tabW spec_l30Flat.tab8 spec_l30Flat.bits8 (fun HT_ HW_ => ?_)
       generalize w22.drew = w24 at HO_274001 BK267 BK273 HI0 HK HB GG16 HQ25 hf16_0 hf16_1 hf16_2 hf16_3 hf16_4 hx16_0 hx16_1 hx16_2 hx16_3 hx16_4 hx276_0 hx276_1 hx276_2 hx276_3 hx276_4 hx277_0 hx277_1 hx277_2 hx277_3 hx277_4 hx278_0 hx278_1 hx278_2 hx278_3 hx278_4 hx279_0 hx279_1 hx279_2 hx279_3 hx279_4 hHeld ⊢
       refine pure_ (i := 0) (N := some 37) (v := ?_) (a' := ?_) #[true, false, false, false, false, false, false, false, false, false, false, false] rfl rfl (any_of HT_.out (by kernel_rfl)) (fun _ _ _ h => h) (Or.inl ⟨by rfl, ?_⟩) ?_ ?_
       rotate_left
       ·intro w'
        go_simp
        with_reducible rfl
       rotate_left
       ·simp only [Act.put, List.setIfInBounds_toArray, List.set_cons_zero, List.set_cons_succ, i64_w, i32_w]
        rfl
       refine pure_ (i := 2) (N := some 39) (v := ?_) (a' := ?_) #[true, false, true, false, false, false, false, false, false, false, false, false] rfl rfl (any_of HT_.out (by kernel_rfl)) (fun _ _ _ h => h) (Or.inl ⟨by rfl, ?_⟩) ?_ ?_
       rotate_left
       ·intro w'
        go_simp
        with_reducible rfl
       rotate_left
       ·simp only [Act.put, List.setIfInBounds_toArray, List.set_cons_zero, List.set_cons_succ, i64_w, i32_w]
        rfl
       refine pure_ (i := 3) (N := some 40) (v := ?_) (a' := ?_) #[true, false, true, true, false, false, false, false, false, false, false, false] rfl rfl (any_of HT_.out (by kernel_rfl)) (fun _ _ _ h => h) (Or.inl ⟨by rfl, ?_⟩) ?_ ?_
       rotate_left
       ·intro w'
        go_simp
        with_reducible rfl
       rotate_left
       ·simp only [Act.put, List.setIfInBounds_toArray, List.set_cons_zero, List.set_cons_succ, i64_w, i32_w]
        rfl
       refine pure_ (i := 5) (N := some 42) (v := ?_) (a' := ?_) #[true, false, true, true, false, true, false, false, false, false, false, false] rfl rfl (any_of HT_.out (by kernel_rfl)) (fun _ _ _ h => h) (Or.inl ⟨by rfl, ?_⟩) ?_ ?_
       rotate_left
       ·intro w'
        go_simp
        with_reducible rfl
       rotate_left
       ·simp only [Act.put, List.setIfInBounds_toArray, List.set_cons_zero, List.set_cons_succ, i64_w, i32_w]
        rfl
       refine take_ (i := 1) (N := some 38) (v := ?_) (a' := ?_) #[true, true, true, true, false, true, false, false, false, false, false, false] rfl rfl (take_ofW HT_.out HW_.out (by kernel_rfl)) (fun _ _ _ h => h) (Or.inl ⟨by rfl, ?_⟩) hHeld ?_ ?_
       rotate_left
       ·rintro w' ⟨s0, s1, s2, s3, s4, s5, s6⟩
        go_simp
        with_reducible rfl
       rotate_left
       ·simp only [Act.put, List.setIfInBounds_toArray, List.set_cons_zero, List.set_cons_succ, i64_w, i32_w]
        rfl
       refine take_ (i := 4) (N := some 41) (v := ?_) (a' := ?_) #[true, true, true, true, true, true, false, false, false, false, false, false] rfl rfl (take_ofW HT_.out HW_.out (by kernel_rfl)) (fun _ _ _ h => h) (Or.inl ⟨by rfl, ?_⟩) hHeld ?_ ?_
       rotate_left
       ·rintro w' ⟨s0, s1, s2, s3, s4, s5, s6⟩
        go_simp
        with_reducible rfl
       rotate_left
       ·simp only [Act.put, List.setIfInBounds_toArray, List.set_cons_zero, List.set_cons_succ, i64_w, i32_w]
        rfl
       refine pure_ (i := 6) (N := some 43) (v := ?_) (a' := ?_) #[true, true, true, true, true, true, true, false, false, false, false, false] rfl rfl (any_of HT_.out (by kernel_rfl)) (fun _ _ _ h => h) (Or.inl ⟨by rfl, ?_⟩) ?_ ?_
       rotate_left
       ·intro w'
        go_simp
        with_reducible rfl
       rotate_left
       ·simp only [Act.put, List.setIfInBounds_toArray, List.set_cons_zero, List.set_cons_succ, i64_w, i32_w]
        rfl
       refine pure_ (i := 7) (N := some 44) (v := ?_) (a' := ?_) #[true, true, true, true, true, true, true, true, false, false, false, false] rfl rfl (any_of HT_.out (by kernel_rfl)) (fun _ _ _ h => h) (Or.inl ⟨by rfl, ?_⟩) ?_ ?_
       rotate_left
       ·intro w'
        go_simp
        with_reducible rfl
       rotate_left
       ·simp only [Act.put, List.setIfInBounds_toArray, List.set_cons_zero, List.set_cons_succ, i64_w, i32_w]
        rfl
       refine take_ (i := 8) (N := some 45) (v := ?_) (a' := ?_) #[true, true, true, true, true, true, true, true, true, false, false, false] rfl rfl (take_ofW HT_.out HW_.out (by kernel_rfl)) (fun _ _ _ h => h) (Or.inl ⟨by rfl, ?_⟩) hHeld ?_ ?_
       rotate_left
       ·rintro w' ⟨s0, s1, s2, s3, s4, s5, s6⟩
        go_simp
        with_reducible rfl
       rotate_left
       ·simp only [Act.put, List.setIfInBounds_toArray, List.set_cons_zero, List.set_cons_succ, i64_w, i32_w]
        rfl
       refine pure_ (i := 9) (N := some 46) (v := ?_) (a' := ?_) #[true, true, true, true, true, true, true, true, true, true, false, false] rfl rfl (any_of HT_.out (by kernel_rfl)) (fun _ _ _ h => h) (Or.inl ⟨by rfl, ?_⟩) ?_ ?_
       rotate_left
       ·intro w'
        go_simp
        with_reducible rfl
       rotate_left
       ·simp only [Act.put, List.setIfInBounds_toArray, List.set_cons_zero, List.set_cons_succ, i64_w, i32_w]
        rfl
       refine pure_ (i := 10) (N := some 47) (v := ?_) (a' := ?_) #[true, true, true, true, true, true, true, true, true, true, true, false] rfl rfl (any_of HT_.out (by kernel_rfl)) (fun _ _ _ h => h) (Or.inl ⟨by rfl, ?_⟩) ?_ ?_
       rotate_left
       ·intro w'
        go_simp
        with_reducible rfl
       rotate_left
       ·simp only [Act.put, List.setIfInBounds_toArray, List.set_cons_zero, List.set_cons_succ, i64_w, i32_w]
        rfl
       refine last_ (i := 11) (N := none) #[true, true, true, true, true, true, true, true, true, true, true, true] rfl rfl (one_of HT_.out (by kernel_rfl)) (by decide) (fun K hK => ?_)
       refine skip_ (w1 := ?_) (by rfl) rfl ?_ ?_
       rotate_left
       ·go_simp
        rfl
       refine hK.out _ _ ?_
       clear hK K
       refine done_ (done_of HT_.out (by kernel_rfl)) ?_
       have n0_ : Aside0 (Kd.R k45 45 (w24.setCell ⟨go16, (x4_1 : Int).toNat * 5, none⟩ (.int .i64 ((rd_T45 x274001_1 x4_1).f1))) w.heap.size (fun _ => True) (.slice (some ⟨go16, 0, none⟩) x274001_1.length co21) y280) := ⟨by (with_reducible repeat (first | apply Kd.R_alloc | apply Kd.R_drewN | apply Kd.R_drew)); exact HQ25.out⟩
       have n1_ : Aside0 ((w24.setCell ⟨go16, (x4_1 : Int).toNat * 5, none⟩ (.int .i64 ((rd_T45 x274001_1 x4_1).f1))).heap[gb267]? = some (.cells #[.int .i64 0, .slice none 0 0] 38 (0, 0))) := ⟨by (with_reducible repeat (first | refine blk_drewN ?_ _ | refine blk_drew ?_ | refine blk_alloc ?_ _)); refine blk_far ?_ (by have h_ := Kd.R_ne HO_274001.out BK267.out (by decide); intro e_; exact h_ (by rw [e_]; rfl)) _; (with_reducible repeat (first | refine blk_drewN ?_ _ | refine blk_drew ?_ | refine blk_alloc ?_ _)); exact BK267.out⟩
       have n2_ : Aside0 ((w24.setCell ⟨go16, (x4_1 : Int).toNat * 5, none⟩ (.int .i64 ((rd_T45 x274001_1 x4_1).f1))).heap[gb273]? = some (.cells #[.int .i64 t268, .slice (some ⟨go16, 0, none⟩) x274001_1.length co21] 38 (0, 0))) := ⟨by (with_reducible repeat (first | refine blk_drewN ?_ _ | refine blk_drew ?_ | refine blk_alloc ?_ _)); refine blk_far ?_ (by have h_ := Kd.R_ne HO_274001.out BK273.out (by decide); intro e_; exact h_ (by rw [e_]; rfl)) _; (with_reducible repeat (first | refine blk_drewN ?_ _ | refine blk_drew ?_ | refine blk_alloc ?_ _)); exact BK273.out⟩
       have n3_ : Aside0 (IsS112 w0 (w24.setCell ⟨go16, (x4_1 : Int).toNat * 5, none⟩ (.int .i64 ((rd_T45 x274001_1 x4_1).f1))) g s0_0 t275) := ⟨by repeat (first | (with_reducible first | exact HI0.out | apply IsS112.alloc | apply IsS112.drewN | apply IsS112.drew | apply IsS112.set_1 | refine IsS112.far ?_ HN0_go16.out _ | refine IsS112.far ?_ NB0_267.out _ | refine IsS112.far ?_ NB0_273.out _) | exact HI0.out)⟩
       have n4_ : Aside0 (KeepBut w (w24.setCell ⟨go16, (x4_1 : Int).toNat * 5, none⟩ (.int .i64 ((rd_T45 x274001_1 x4_1).f1))) g none) := ⟨by repeat (first | (with_reducible first | exact HK.out | apply KeepBut.set_ | apply keep_drewN | apply keep_drew | apply keep_alloc | refine keep_far ?_ GB16.out _ | refine keep_far ?_ GW267.out _ | refine keep_far ?_ GW273.out _) | exact HK.out)⟩
       have n5_ : Aside0 (Below w0.heap.size w0 (w24.setCell ⟨go16, (x4_1 : Int).toNat * 5, none⟩ (.int .i64 ((rd_T45 x274001_1 x4_1).f1)))) := ⟨by repeat (first | (with_reducible first | exact HB.out | apply below_alloc | apply pw_below_drewN | apply below_drew1 | refine below_set ?_ (Nat.le_trans HL.out GB16.out) | refine below_set ?_ (IsS112.ge HI0.out) | refine below_set ?_ GE267.out | refine below_set ?_ GE273.out) | exact HB.out)⟩
       (try clear HO_274001)
       (try clear BK267)
       (try clear BK273)
       (try clear HI0)
       (try clear HK)
       (try clear HB)
       generalize (w24.setCell ⟨go16, (x4_1 : Int).toNat * 5, none⟩ (.int .i64 ((rd_T45 x274001_1 x4_1).f1))) = w26 at n0_ n1_ n2_ n3_ n4_ n5_ ⊢
       have HO_274001 := n0_
       have BK267 := n1_
       have BK273 := n2_
       have HI0 := n3_
       have HK := n4_
       have HB := n5_
       clear n0_ n1_ n2_ n3_ n4_ n5_
       have hcz27_0 : w26.cell? ⟨gb273, 0, none⟩ = some (.int .i64 t268) := (blk_cell BK273.out 0).trans rfl
       have hcz27_1 : w26.cell? ⟨gb273, 1, none⟩ = some (.slice (some ⟨go16, 0, none⟩) x274001_1.length co21) := (blk_cell BK273.out 1).trans rfl
       have hfz27_0 := blk_frozen BK273.out 0
       have hfz27_1 := blk_frozen BK273.out 1
       have p17 : 0 ≤ (x4_1 : Int) := of_decide_eq_true (by first | (with_reducible assumption) | assumption)
       have q17 : (x4_1 : Int) < ((x274001_1.length : Int) : Int) := of_decide_eq_true (by first | (with_reducible assumption) | assumption)
       replace p17 := eq_true p17
       replace q17 := eq_true q17
       have HX28 := Aside0.mk (show Kd.R k45 45 w26 w.heap.size (fun _ => True) (.slice (some ⟨go16, 0, none⟩) x274001_1.length co21) y280 from (by (with_reducible repeat (first | apply Kd.R_alloc | apply Kd.R_drewN | apply Kd.R_drew)); exact HO_274001.out))
       obtain ⟨ce28, hcl28, hM28, hcc28, hfr28⟩ := Kd.R_elem HX28.out z45 (x4_1 : Int) (of_decide_eq_true (by first | (with_reducible assumption) | assumption)) (by have h_ : (x4_1 : Int) < ((x274001_1.length : Int) : Int) := of_decide_eq_true (by first | (with_reducible assumption) | assumption); first | exact h_ | (have e_ := (Kd.R_reads' HO_274001.out).1; omega) | simpa using h_)
       obtain rfl := k45_openM hM28
       have HP28 := Kd.R_seg HX28.out (x4_1 : Int) (of_decide_eq_true (by first | (with_reducible assumption) | assumption)) (by have h_ : (x4_1 : Int) < ((x274001_1.length : Int) : Int) := of_decide_eq_true (by first | (with_reducible assumption) | assumption); first | exact h_ | (have e_ := (Kd.R_reads' HO_274001.out).1; omega) | simpa using h_) (seg := [.int .i64 ((rd_T45 x274001_1 x4_1).f0)]) (j := 1) hcl28 hcc28 (show 2 ≤ 5 from by decide) (x' := (⟨(rd_T45 y280 x4_1).f0, (rd_T45 x274001_1 x4_1).f0, (rd_T45 y280 x4_1).f2, (rd_T45 y280 x4_1).f3, (rd_T45 y280 x4_1).f4⟩ : S45)) (k45_mkM _ _ _ (⟨(rd_T45 y280 x4_1).f0, (rd_T45 x274001_1 x4_1).f0, (rd_T45 y280 x4_1).f2, (rd_T45 y280 x4_1).f3, (rd_T45 y280 x4_1).f4⟩ : S45) ) (fun _ hk => hk)
       have hx28_1 := hcc28 1 _ rfl
       (try simp only [show (k45).sz = 5 from rfl, Nat.mul_one, Nat.add_zero] at hx28_1)
       have hf28_1 := hfr28 1
       (try simp only [show (k45).sz = 5 from rfl, Nat.mul_one, Nat.add_zero] at hf28_1)
       clear hcl28 hcc28 hfr28; (try clear hM28)
       try go_wp2_with (first | ((with_reducible refine gate_store (t := 3) (p := 53) rfl ?_); refine store_event (t := 3) (p := 53) (v := ?vo_w29) (w1 := (w26.setCell ⟨go16, (x4_1 : Int).toNat * 5 + 1, none⟩ (.int .i64 ((rd_T45 x274001_1 x4_1).f0)))) ?hg ?ho ?hn ?hr ?_; (case ho => rfl); (case hg => rfl); (case hn => rfl); (case hr => first | (go_simp; done) | (go_simp; rfl)); intro w29 hw; have hg : w26.grownBy w29 (some go16) := (by rw [hw]; exact HP28.2); have hp_ : Kd.R k45 45 w29 w.heap.size (fun _ => True) (.slice (some ⟨go16, 0, none⟩) x274001_1.length co21) y281 := (by rw [hw, Ny281.out]; exact HP28.1); clear HP28; have n0_ := Aside0.mk (hp_); have n1_ := Aside0.mk (blk_grown (g := gb267) (o := .cells #[.int .i64 0, .slice none 0 0] 38 (0, 0)) (by (with_reducible repeat (first | refine blk_drewN ?_ _ | refine blk_drew ?_ | refine blk_alloc ?_ _)); exact BK267.out) hg (Kd.R_ne HO_274001.out BK267.out (by decide))); have n2_ := Aside0.mk (blk_grown (g := gb273) (o := .cells #[.int .i64 t268, .slice (some ⟨go16, 0, none⟩) x274001_1.length co21] 38 (0, 0)) (by (with_reducible repeat (first | refine blk_drewN ?_ _ | refine blk_drew ?_ | refine blk_alloc ?_ _)); exact BK273.out) hg (Kd.R_ne HO_274001.out BK273.out (by decide))); have n3_ := Aside0.mk (IsS112.grown2 HI0.out (by repeat (first | (with_reducible first | exact HI0.out | apply IsS112.alloc | apply IsS112.drewN | apply IsS112.drew | apply IsS112.set_1 | refine IsS112.far ?_ NB0_267.out _ | refine IsS112.far ?_ NB0_273.out _) | exact HI0.out)) hg (IsS112.own_ne HI0.out HO_274001.out (by decide))); have n4_ := Aside0.mk ((by rw [hw]; exact below_set (HB.out) (Nat.le_trans HL.out GB16.out) : Below w0.heap.size w0 w29)); have n5_ := Aside0.mk (KeepBut.trans (by repeat (first | (with_reducible first | exact HK.out | apply KeepBut.set_ | apply keep_drewN | apply keep_drew | apply keep_alloc | refine keep_far ?_ GW267.out _ | refine keep_far ?_ GW273.out _) | exact HK.out)) (KeepBut.of_grown hg g) (Kd.R_base2 HO_274001.out)); clear HO_274001; clear BK267; clear BK273; clear HI0; clear HB; clear HK; have HO_274001 := n0_; have BK267 := n1_; have BK273 := n2_; have HI0 := n3_; have HB := n4_; have HK := n5_; clear n0_ n1_ n2_ n3_ n4_ n5_; clear hg hw hp_))
       go_roundg k1
       case measure => have := HK1.out; omega
       case rel => exact ⟨(wrap64 (x4_1 + 1)), (y281), (.slice (some ⟨go16, 0, none⟩) x274001_1.length co21), (by first | rfl | (simp; done) | (simp [*]; done)), H', ⟨by have := HK1.out; omega⟩, ⟨by (with_reducible repeat (first | apply Kd.R_alloc | apply Kd.R_drewN | apply Kd.R_drew)); exact HO_274001.out⟩, ⟨by (with_reducible repeat (first | refine blk_drewN ?_ _ | refine blk_drew ?_ | refine blk_alloc ?_ _)); exact BK267.out⟩, ⟨by (with_reducible repeat (first | refine blk_drewN ?_ _ | refine blk_drew ?_ | refine blk_alloc ?_ _)); exact BK273.out⟩, ⟨by repeat (first | (with_reducible first | exact HI0.out | apply IsS112.alloc | apply IsS112.drewN | apply IsS112.drew | apply IsS112.set_1 | refine IsS112.far ?_ NB0_267.out _ | refine IsS112.far ?_ NB0_273.out _) | exact HI0.out)⟩, ⟨by repeat (first | (with_reducible first | exact HK.out | apply KeepBut.set_ | apply keep_drewN | apply keep_drew | apply keep_alloc | refine keep_far ?_ GW267.out _ | refine keep_far ?_ GW273.out _) | exact HK.out)⟩, ⟨by repeat (first | (with_reducible first | exact HB.out | apply below_alloc | apply pw_below_drewN | apply below_drew1 | refine below_set ?_ (IsS112.ge HI0.out) | refine below_set ?_ GE267.out | refine below_set ?_ GE273.out) | exact HB.out)⟩⟩
      ·rw [if_neg c15] at H
       have c15b0 : decide (((rd_T45 x274001_1 x4_1).f1) < ((rd_T45 x274001_1 x4_1).f0)) = false := decide_eq_false c15
       clear c15
       have H' := Aside0.mk H
       clear H
       have hnb30 := NB273_267.out
       have hnc30 := NB267_273.out
       have hnb31 := NB273_0.out
       have hnc31 := NB0_273.out
       have hcz32_0 : wr.cell? ⟨gb273, 0, none⟩ = some (.int .i64 t268) := (blk_cell BK273.out 0).trans rfl
       have hcz32_1 : wr.cell? ⟨gb273, 1, none⟩ = some (u274001) := (blk_cell BK273.out 1).trans rfl
       have hfz32_0 := blk_frozen BK273.out 0
       have hfz32_1 := blk_frozen BK273.out 1
       obtain ⟨Ao33, co33, eo33⟩ := Kd.R_slice HO_274001.out
       subst eo33
       try go_wp2
       have n0_ := Aside0.mk (Kd.R_drew HO_274001.out)
       have n1_ := Aside0.mk (blk_drew BK267.out)
       have n2_ := Aside0.mk (blk_drew BK273.out)
       have n3_ := Aside0.mk (IsS112.drew HI0.out)
       have n4_ := Aside0.mk (keep_drew HK.out)
       have n5_ := Aside0.mk (below_drew1 HB.out)
       clear HO_274001
       clear BK267
       clear BK273
       clear HI0
       clear HK
       clear HB
       have HO_274001 := n0_
       have BK267 := n1_
       have BK273 := n2_
       have HI0 := n3_
       have HK := n4_
       have HB := n5_
       clear n0_ n1_ n2_ n3_ n4_ n5_
       have p276 : 0 ≤ (x4_1 : Int) := of_decide_eq_true (by first | (with_reducible assumption) | assumption)
       have q276 : x4_1 < (x274001_1.length : Int) := of_decide_eq_true (by first | (with_reducible assumption) | assumption)
       obtain ⟨ad276, e276, hx276_0, hx276_1, hx276_2, hx276_3, hx276_4⟩ := at_T45 (Kd.R_reads' HO_274001.out).2.2 x4_1 p276 q276
       cases e276
       replace p276 := eq_true p276
       replace q276 := eq_true q276
       have p277 : 0 ≤ (x4_1 : Int) := of_decide_eq_true (by first | (with_reducible assumption) | assumption)
       have q277 : x4_1 < (x274001_1.length : Int) := of_decide_eq_true (by first | (with_reducible assumption) | assumption)
       obtain ⟨ad277, e277, hx277_0, hx277_1, hx277_2, hx277_3, hx277_4⟩ := at_T45 (Kd.R_reads' HO_274001.out).2.2 x4_1 p277 q277
       obtain rfl : ad276 = ad277 := (by injection e277)
       replace p277 := eq_true p277
       replace q277 := eq_true q277
       refine start_ (n := 13) (S := fun w' => w'.cell? ⟨gb273, 0, none⟩ = some (.int .i64 t268) ∧ w'.cell? ⟨gb273, 1, none⟩ = some (.slice (some ad276) x274001_1.length co33) ∧ w'.cell? (ad276.add ((x4_1).toNat * 5)) = some (.int .i64 ((rd_T45 x274001_1 x4_1).f0)) ∧ w'.cell? ⟨(ad276.add ((x4_1).toNat * 5)).block, (ad276.add ((x4_1).toNat * 5)).off + 1, none⟩ = some (.int .i64 ((rd_T45 x274001_1 x4_1).f1)) ∧ w'.cell? ⟨(ad276.add ((x4_1).toNat * 5)).block, (ad276.add ((x4_1).toNat * 5)).off + 2, none⟩ = some (.int .i64 ((rd_T45 x274001_1 x4_1).f2)) ∧ w'.cell? ⟨(ad276.add ((x4_1).toNat * 5)).block, (ad276.add ((x4_1).toNat * 5)).off + 3, none⟩ = some (.int .i64 ((rd_T45 x274001_1 x4_1).f3)) ∧ w'.cell? ⟨(ad276.add ((x4_1).toNat * 5)).block, (ad276.add ((x4_1).toNat * 5)).off + 4, none⟩ = some (.int .i64 ((rd_T45 x274001_1 x4_1).f4)) ∧ w'.cell? (ad276.add ((x4_1).toNat * 5)) = some (.int .i64 ((rd_T45 x274001_1 x4_1).f0)) ∧ w'.cell? ⟨(ad276.add ((x4_1).toNat * 5)).block, (ad276.add ((x4_1).toNat * 5)).off + 1, none⟩ = some (.int .i64 ((rd_T45 x274001_1 x4_1).f1)) ∧ w'.cell? ⟨(ad276.add ((x4_1).toNat * 5)).block, (ad276.add ((x4_1).toNat * 5)).off + 2, none⟩ = some (.int .i64 ((rd_T45 x274001_1 x4_1).f2)) ∧ w'.cell? ⟨(ad276.add ((x4_1).toNat * 5)).block, (ad276.add ((x4_1).toNat * 5)).off + 3, none⟩ = some (.int .i64 ((rd_T45 x274001_1 x4_1).f3)) ∧ w'.cell? ⟨(ad276.add ((x4_1).toNat * 5)).block, (ad276.add ((x4_1).toNat * 5)).off + 4, none⟩ = some (.int .i64 ((rd_T45 x274001_1 x4_1).f4))) (ds := []) #[false, false, false, false, false, false, false, false, false, false, false, false, false] (by kernel_rfl) rfl rfl ⟨(blk_cell BK273.out 0).trans rfl, (blk_cell BK273.out 1).trans rfl, hx276_0, hx276_1, hx276_2, hx276_3, hx276_4, hx277_0, hx277_1, hx277_2, hx277_3, hx277_4⟩ (fun hHeld => ?_); refine with_tabW spec_l30Flat.tab6 spec_l30Flat.bits6 (fun HT_ HW_ => ?_)
       generalize wr.drew = w34 at HO_274001 BK267 BK273 HI0 HK HB hx276_0 hx276_1 hx276_2 hx276_3 hx276_4 hx277_0 hx277_1 hx277_2 hx277_3 hx277_4 hHeld ⊢
       refine pure_ (i := 0) (N := some 18) (v := ?_) (a' := ?_) #[true, false, false, false, false, false, false, false, false, false, false, false, false] rfl rfl (any_of HT_.out (by kernel_rfl)) (fun _ _ _ h => h) (Or.inl ⟨by rfl, ?_⟩) ?_ ?_
       rotate_left
       ·intro w'
        go_simp
        with_reducible rfl
       rotate_left
       ·simp only [Act.put, List.setIfInBounds_toArray, List.set_cons_zero, List.set_cons_succ, i64_w, i32_w]
        rfl
       refine pure_ (i := 2) (N := some 20) (v := ?_) (a' := ?_) #[true, false, true, false, false, false, false, false, false, false, false, false, false] rfl rfl (any_of HT_.out (by kernel_rfl)) (fun _ _ _ h => h) (Or.inl ⟨by rfl, ?_⟩) ?_ ?_
       rotate_left
       ·intro w'
        go_simp
        with_reducible rfl
       rotate_left
       ·simp only [Act.put, List.setIfInBounds_toArray, List.set_cons_zero, List.set_cons_succ, i64_w, i32_w]
        rfl
       refine pure_ (i := 6) (N := some 24) (v := ?_) (a' := ?_) #[true, false, true, false, false, false, true, false, false, false, false, false, false] rfl rfl (any_of HT_.out (by kernel_rfl)) (fun _ _ _ h => h) (Or.inl ⟨by rfl, ?_⟩) ?_ ?_
       rotate_left
       ·intro w'
        go_simp
        with_reducible rfl
       rotate_left
       ·simp only [Act.put, List.setIfInBounds_toArray, List.set_cons_zero, List.set_cons_succ, i64_w, i32_w]
        rfl
       refine pure_ (i := 8) (N := some 26) (v := ?_) (a' := ?_) #[true, false, true, false, false, false, true, false, true, false, false, false, false] rfl rfl (any_of HT_.out (by kernel_rfl)) (fun _ _ _ h => h) (Or.inl ⟨by rfl, ?_⟩) ?_ ?_
       rotate_left
       ·intro w'
        go_simp
        with_reducible rfl
       rotate_left
       ·simp only [Act.put, List.setIfInBounds_toArray, List.set_cons_zero, List.set_cons_succ, i64_w, i32_w]
        rfl
       refine take_ (i := 1) (N := some 19) (v := ?_) (a' := ?_) #[true, true, true, false, false, false, true, false, true, false, false, false, false] rfl rfl (take_ofW HT_.out HW_.out (by kernel_rfl)) (fun _ _ _ h => h) (Or.inl ⟨by rfl, ?_⟩) hHeld ?_ ?_
       rotate_left
       ·rintro w' ⟨s0, s1, s2, s3, s4, s5, s6, s7, s8, s9, s10, s11⟩
        go_simp
        with_reducible rfl
       rotate_left
       ·simp only [Act.put, List.setIfInBounds_toArray, List.set_cons_zero, List.set_cons_succ, i64_w, i32_w]
        rfl
       refine pure_ (i := 3) (N := some 21) (v := ?_) (a' := ?_) #[true, true, true, true, false, false, true, false, true, false, false, false, false] rfl rfl (any_of HT_.out (by kernel_rfl)) (fun _ _ _ h => h) (Or.inl ⟨by rfl, ?_⟩) ?_ ?_
       rotate_left
       ·intro w'
        go_simp
        with_reducible rfl
       rotate_left
       ·simp only [Act.put, List.setIfInBounds_toArray, List.set_cons_zero, List.set_cons_succ, i64_w, i32_w]
        rfl
       refine pure_ (i := 4) (N := some 22) (v := ?_) (a' := ?_) #[true, true, true, true, true, false, true, false, true, false, false, false, false] rfl rfl (any_of HT_.out (by kernel_rfl)) (fun _ _ _ h => h) (Or.inl ⟨by rfl, ?_⟩) ?_ ?_
       rotate_left
       ·intro w'
        go_simp
        with_reducible rfl
       rotate_left
       ·simp only [Act.put, List.setIfInBounds_toArray, List.set_cons_zero, List.set_cons_succ, i64_w, i32_w]
        rfl
       refine take_ (i := 5) (N := some 23) (v := ?_) (a' := ?_) #[true, true, true, true, true, true, true, false, true, false, false, false, false] rfl rfl (take_ofW HT_.out HW_.out (by kernel_rfl)) (fun _ _ _ h => h) (Or.inl ⟨by rfl, ?_⟩) hHeld ?_ ?_
       rotate_left
       ·rintro w' ⟨s0, s1, s2, s3, s4, s5, s6, s7, s8, s9, s10, s11⟩
        go_simp
        with_reducible rfl
       rotate_left
       ·simp only [Act.put, List.setIfInBounds_toArray, List.set_cons_zero, List.set_cons_succ, i64_w, i32_w]
        rfl
       refine take_ (i := 7) (N := some 25) (v := ?_) (a' := ?_) #[true, true, true, true, true, true, true, true, true, false, false, false, false] rfl rfl (take_ofW HT_.out HW_.out (by kernel_rfl)) (fun _ _ _ h => h) (Or.inl ⟨by rfl, ?_⟩) hHeld ?_ ?_
       rotate_left
       ·rintro w' ⟨s0, s1, s2, s3, s4, s5, s6, s7, s8, s9, s10, s11⟩
        go_simp
        with_reducible rfl
       rotate_left
       ·simp only [Act.put, List.setIfInBounds_toArray, List.set_cons_zero, List.set_cons_succ, i64_w, i32_w]
        rfl
       refine pure_ (i := 9) (N := some 27) (v := ?_) (a' := ?_) #[true, true, true, true, true, true, true, true, true, true, false, false, false] rfl rfl (any_of HT_.out (by kernel_rfl)) (fun _ _ _ h => h) (Or.inl ⟨by rfl, ?_⟩) ?_ ?_
       rotate_left
       ·intro w'
        go_simp
        with_reducible rfl
       rotate_left
       ·simp only [Act.put, List.setIfInBounds_toArray, List.set_cons_zero, List.set_cons_succ, i64_w, i32_w]
        rfl
       refine pure_ (i := 10) (N := some 28) (v := ?_) (a' := ?_) #[true, true, true, true, true, true, true, true, true, true, true, false, false] rfl rfl (any_of HT_.out (by kernel_rfl)) (fun _ _ _ h => h) (Or.inl ⟨by rfl, ?_⟩) ?_ ?_
       rotate_left
       ·intro w'
        go_simp
        with_reducible rfl
       rotate_left
       ·simp only [Act.put, List.setIfInBounds_toArray, List.set_cons_zero, List.set_cons_succ, i64_w, i32_w]
        rfl
       refine take_ (i := 11) (N := some 29) (v := ?_) (a' := ?_) #[true, true, true, true, true, true, true, true, true, true, true, true, false] rfl rfl (take_ofW HT_.out HW_.out (by kernel_rfl)) (fun _ _ _ h => h) (Or.inl ⟨by rfl, ?_⟩) hHeld ?_ ?_
       rotate_left
       ·rintro w' ⟨s0, s1, s2, s3, s4, s5, s6, s7, s8, s9, s10, s11⟩
        go_simp
        with_reducible rfl
       rotate_left
       ·simp only [Act.put, List.setIfInBounds_toArray, List.set_cons_zero, List.set_cons_succ, i64_w, i32_w]
        rfl
       refine pure_ (i := 12) (N := some 30) (v := ?_) (a' := ?_) #[true, true, true, true, true, true, true, true, true, true, true, true, true] rfl rfl (any_of HT_.out (by kernel_rfl)) (fun _ _ _ h => h) (Or.inl ⟨by rfl, ?_⟩) ?_ ?_
       rotate_left
       ·intro w'
        go_simp
        with_reducible rfl
       rotate_left
       ·simp only [Act.put, List.setIfInBounds_toArray, List.set_cons_zero, List.set_cons_succ, i64_w, i32_w]
        rfl
       refine done_ (done_of HT_.out (by kernel_rfl)) ?_
       try go_wp2
       go_roundg k1
       case measure => have := HK1.out; omega
       case rel => exact ⟨(wrap64 (x4_1 + 1)), (x274001_1), (.slice (some ad276) x274001_1.length co33), (by first | rfl | (simp; done) | (simp [*]; done)), H', ⟨by have := HK1.out; omega⟩, ⟨by (with_reducible repeat (first | apply Kd.R_alloc | apply Kd.R_drewN | apply Kd.R_drew)); exact HO_274001.out⟩, ⟨by (with_reducible repeat (first | refine blk_drewN ?_ _ | refine blk_drew ?_ | refine blk_alloc ?_ _)); exact BK267.out⟩, ⟨by (with_reducible repeat (first | refine blk_drewN ?_ _ | refine blk_drew ?_ | refine blk_alloc ?_ _)); exact BK273.out⟩, ⟨by repeat (first | (with_reducible first | exact HI0.out | apply IsS112.alloc | apply IsS112.drewN | apply IsS112.drew | apply IsS112.set_1 | refine IsS112.far ?_ NB0_267.out _ | refine IsS112.far ?_ NB0_273.out _) | exact HI0.out)⟩, ⟨by repeat (first | (with_reducible first | exact HK.out | apply KeepBut.set_ | apply keep_drewN | apply keep_drew | apply keep_alloc | refine keep_far ?_ GW267.out _ | refine keep_far ?_ GW273.out _) | exact HK.out)⟩, ⟨by repeat (first | (with_reducible first | exact HB.out | apply below_alloc | apply pw_below_drewN | apply below_drew1 | refine below_set ?_ (IsS112.ge HI0.out) | refine below_set ?_ GE267.out | refine below_set ?_ GE273.out) | exact HB.out)⟩⟩
     ·rw [if_neg c14] at H
      exact absurd H (by simp)
    ·rw [if_neg c13] at H
     have c13b0 : decide (x4_1 < (x274001_1.length : Int)) = false := decide_eq_false c13
     clear c13
     simp only [Option.some.injEq, Prod.mk.injEq] at H
     obtain ⟨rfl, rfl, rfl⟩ := H
     have hnb35 := NB273_267.out
     have hnc35 := NB267_273.out
     have hnb36 := NB273_0.out
     have hnc36 := NB0_273.out
     have hcz37_0 : wr.cell? ⟨gb273, 0, none⟩ = some (.int .i64 t268) := (blk_cell BK273.out 0).trans rfl
     have hcz37_1 : wr.cell? ⟨gb273, 1, none⟩ = some (u274001) := (blk_cell BK273.out 1).trans rfl
     have hfz37_0 := blk_frozen BK273.out 0
     have hfz37_1 := blk_frozen BK273.out 1
     obtain ⟨Ao38, co38, eo38⟩ := Kd.R_slice HO_274001.out
     subst eo38
     have hnb39 := NB267_0.out
     have hnc39 := NB0_267.out
     have hcz40_0 : wr.cell? ⟨gb267, 0, none⟩ = some (.int .i64 0) := (blk_cell BK267.out 0).trans rfl
     have hcz40_1 : wr.cell? ⟨gb267, 1, none⟩ = some (.slice none 0 0) := (blk_cell BK267.out 1).trans rfl
     have hfz40_0 := blk_frozen BK267.out 0
     have hfz40_1 := blk_frozen BK267.out 1
     go_wp2
     refine bodyPost_ret (results_cell_row rfl _ _ gb267 38 #[.int .i64 t268, .slice Ao38 x274001_1.length co38] (0, 0) _ rfl (by (with_reducible repeat (first | refine blk_drewN ?_ _ | refine blk_drew ?_ | refine blk_alloc ?_ _)); refine blk_put (cs := #[.int .i64 t268, .slice none 0 0]) ?_ 1 _ rfl; (with_reducible repeat (first | refine blk_drewN ?_ _ | refine blk_drew ?_ | refine blk_alloc ?_ _)); refine blk_put (cs := #[.int .i64 0, .slice none 0 0]) ?_ 0 _ rfl; (with_reducible repeat (first | refine blk_drewN ?_ _ | refine blk_drew ?_ | refine blk_alloc ?_ _)); exact BK267.out) Try.underlying38 rfl (by kernel_rfl)) rfl ?_
     exact ⟨_, by first | rfl | (simp [errW_none, errW_some] <;> rfl) | (simp [*, errW_none, errW_some] <;> rfl), by (with_reducible repeat (first | apply Kd.R_alloc | apply Kd.R_drewN | apply Kd.R_drew)); exact Kd.R_mono (Kd.R_far (p := ⟨gb267, 1, none⟩) (Kd.R_far (p := ⟨gb267, 0, none⟩) (Kd.R_types HO_274001.out BK267.out (by decide)) (fun _ hk => hk.2) (.int .i64 t268)) (fun _ hk => hk.2) (.slice Ao38 x274001_1.length co38)) (fun _ hk => trivial), by repeat (first | (with_reducible first | exact HI0.out | apply IsS112.alloc | apply IsS112.drewN | apply IsS112.drew | apply IsS112.set_1 | refine IsS112.far ?_ NB0_267.out _ | refine IsS112.far ?_ NB0_273.out _) | exact HI0.out), by repeat (first | (with_reducible first | exact HB.out | apply below_alloc | apply pw_below_drewN | apply below_drew1 | refine below_set ?_ (IsS112.ge HI0.out) | refine below_set ?_ GE267.out | refine below_set ?_ GE273.out) | exact HB.out), by repeat (first | (with_reducible first | exact HK.out | apply KeepBut.set_ | apply keep_drewN | apply keep_drew | apply keep_alloc | refine keep_far ?_ GW267.out _ | refine keep_far ?_ GW273.out _) | exact HK.out)⟩
 ·rw [if_neg c4] at H
  have c4b0 : decide (0 < t274) = false := decide_eq_false c4
  clear c4
  simp only [Option.some.injEq, Prod.mk.injEq] at H
  obtain ⟨rfl, rfl, rfl⟩ := H
  go_enter Try.func65, Try.ntmps65
  go_wp2_with (first | ((with_reducible refine gate_dst (N := 2) rfl ?_); refine box_event ?hg (N := 2) ?hd (cs := #[.int .i64 0, .slice none 0 0]) (t := 38) ?hr ?_; (case hd => rfl); (case hg => rfl); (case hr => first | (go_simp; done) | (go_simp; rfl)); intro gb267 hg w41 hbox hb; have n0_ := Aside0.mk (IsS112.below (by repeat (first | (with_reducible first | exact HI0.out | apply IsS112.alloc | apply IsS112.drewN | apply IsS112.drew | apply IsS112.set_1) | exact HI0.out)) hb); have n1_ := Aside0.mk (KeepBut.trans (by repeat (first | (with_reducible first | exact HK.out | apply KeepBut.set_ | apply keep_drewN | apply keep_drew | apply keep_alloc) | exact HK.out)) (KeepBut.of_below hb g none) (.inl rfl)); have n2_ := Aside0.mk (below_step (by repeat (first | (with_reducible first | exact HB.out | apply below_alloc | apply pw_below_drewN | apply below_drew1 | refine below_set ?_ (IsS112.ge HI0.out)) | exact HB.out)) hb); have n3_ := Aside0.mk (hbox); have n4_ := Aside0.mk ((by rw [hg]; exact (keep_size (w := w) (g := g) (row := none) (by repeat (first | (with_reducible first | exact HK.out | apply KeepBut.set_ | apply keep_drewN | apply keep_drew | apply keep_alloc) | exact HK.out))) : w.heap.size ≤ gb267)); have n5_ := Aside0.mk ((Nat.le_trans HW0.out (by rw [hg]; exact (keep_size (w := w) (g := g) (row := none) (by repeat (first | (with_reducible first | exact HK.out | apply KeepBut.set_ | apply keep_drewN | apply keep_drew | apply keep_alloc) | exact HK.out))) : w.heap.size ≤ gb267) : w0.heap.size ≤ gb267)); have n6_ := Aside0.mk ((by rw [hg]; exact Nat.ne_of_lt (IsS112.lt (show IsS112 w0 _ g s0_0 s0_1 from by repeat (first | (with_reducible first | exact HI0.out | apply IsS112.alloc | apply IsS112.drewN | apply IsS112.drew | apply IsS112.set_1) | exact HI0.out))) : g ≠ gb267)); have n7_ := Aside0.mk ((by rw [hg]; exact Nat.ne_of_gt (IsS112.lt (show IsS112 w0 _ g s0_0 s0_1 from by repeat (first | (with_reducible first | exact HI0.out | apply IsS112.alloc | apply IsS112.drewN | apply IsS112.drew | apply IsS112.set_1) | exact HI0.out))) : gb267 ≠ g)); clear HI0; clear HK; clear HB; have HI0 := n0_; have HK := n1_; have HB := n2_; have BK267 := n3_; have GW267 := n4_; have GE267 := n5_; have NB0_267 := n6_; have NB267_0 := n7_; clear n0_ n1_ n2_ n3_ n4_ n5_ n6_ n7_; clear hb hbox hg) | ((with_reducible refine gate_callee (f := 72) rfl ?_); refine goesL_ (some 7) rfl rfl Try.func72 (by kernel_rfl) rfl #[.pointer (some ⟨g, 0, none⟩)] rfl (by (try simp only [List.map_toArray, List.map_cons, List.map_nil]); first | done | rfl | (simp only [List.length_drop, List.length_take]; rfl)) ?_; (with_reducible refine (spec_l30AnyNet.calls k g s0_0 s0_1 t268 t269 t272 w0 _ ?side1 ?side2 A2.out).mono ?_); (case side1 => repeat (first | (with_reducible first | exact HI0.out | apply IsS112.alloc | apply IsS112.drewN | apply IsS112.drew | apply IsS112.set_1 | refine IsS112.far ?_ NB0_267.out _) | exact HI0.out)); (case side2 => repeat (first | (with_reducible first | exact HB.out | apply below_alloc | apply pw_below_drewN | apply below_drew1 | refine below_set ?_ (IsS112.ge HI0.out) | refine below_set ?_ GE267.out) | exact HB.out)); rintro e w42 ⟨v270, rfl, ho0, hi, hb, hk⟩; refine ⟨_, rfl, ?_⟩; have n0_ := Aside0.mk (KeepBut.blk hk (g' := gb267) (o := .cells #[.int .i64 0, .slice none 0 0] 38 (0, 0)) (by (with_reducible repeat (first | refine blk_drewN ?_ _ | refine blk_drew ?_ | refine blk_alloc ?_ _)); exact BK267.out) NB267_0.out (by simp)); have n1_ := Aside0.mk (Kd.R_lower ho0 (keep_size (w := w) (g := g) (row := none) (by repeat (first | (with_reducible first | exact HK.out | apply KeepBut.set_ | apply keep_drewN | apply keep_drew | apply keep_alloc | refine keep_far ?_ GW267.out _) | exact HK.out)))); have n2_ := Aside0.mk (KeepBut.trans (by repeat (first | (with_reducible first | exact HK.out | apply KeepBut.set_ | apply keep_drewN | apply keep_drew | apply keep_alloc | refine keep_far ?_ GW267.out _) | exact HK.out)) hk (.inl rfl)); have n3_ := Aside0.mk (hb); have n4_ := Aside0.mk (hi); clear BK267; clear HK; clear HB; clear HI0; have BK267 := n0_; have HO271 := n1_; have HK := n2_; have HB := n3_; have HI0 := n4_; clear n0_ n1_ n2_ n3_ n4_; (try clear hb); (try clear hb2); (try clear hk); (try clear hi); (try clear ho0)) | ((with_reducible refine gate_dst (N := 3) rfl ?_); refine box_event ?hg (N := 3) ?hd (cs := #[.int .i64 0, .slice none 0 0]) (t := 38) ?hr ?_; (case hd => rfl); (case hg => rfl); (case hr => first | (go_simp; done) | (go_simp; rfl)); intro gb273 hg w43 hbox hb; have n0_ := Aside0.mk (Kd.R_below (by (with_reducible repeat (first | apply Kd.R_alloc | apply Kd.R_drewN | apply Kd.R_drew)); exact HO271.out) hb); have n1_ := Aside0.mk (IsS112.below (by repeat (first | (with_reducible first | exact HI0.out | apply IsS112.alloc | apply IsS112.drewN | apply IsS112.drew | apply IsS112.set_1 | refine IsS112.far ?_ NB0_267.out _) | exact HI0.out)) hb); have n2_ := Aside0.mk (blk_below (g := gb267) (o := .cells #[.int .i64 0, .slice none 0 0] 38 (0, 0)) (by (with_reducible repeat (first | refine blk_drewN ?_ _ | refine blk_drew ?_ | refine blk_alloc ?_ _)); exact BK267.out) hb); have n3_ := Aside0.mk (KeepBut.trans (by repeat (first | (with_reducible first | exact HK.out | apply KeepBut.set_ | apply keep_drewN | apply keep_drew | apply keep_alloc | refine keep_far ?_ GW267.out _) | exact HK.out)) (KeepBut.of_below hb g none) (.inl rfl)); have n4_ := Aside0.mk (below_step (by repeat (first | (with_reducible first | exact HB.out | apply below_alloc | apply pw_below_drewN | apply below_drew1 | refine below_set ?_ (IsS112.ge HI0.out) | refine below_set ?_ GE267.out) | exact HB.out)) hb); have n5_ := Aside0.mk (hbox); have n6_ := Aside0.mk ((by rw [hg]; exact (keep_size (w := w) (g := g) (row := none) (by repeat (first | (with_reducible first | exact HK.out | apply KeepBut.set_ | apply keep_drewN | apply keep_drew | apply keep_alloc | refine keep_far ?_ GW267.out _) | exact HK.out))) : w.heap.size ≤ gb273)); have n7_ := Aside0.mk ((Nat.le_trans HW0.out (by rw [hg]; exact (keep_size (w := w) (g := g) (row := none) (by repeat (first | (with_reducible first | exact HK.out | apply KeepBut.set_ | apply keep_drewN | apply keep_drew | apply keep_alloc | refine keep_far ?_ GW267.out _) | exact HK.out))) : w.heap.size ≤ gb273) : w0.heap.size ≤ gb273)); have n8_ := Aside0.mk ((by rw [hg]; exact Nat.ne_of_lt (blk_lt (g := gb267) (o := .cells #[.int .i64 0, .slice none 0 0] 38 (0, 0)) (by (with_reducible repeat (first | refine blk_drewN ?_ _ | refine blk_drew ?_ | refine blk_alloc ?_ _)); exact BK267.out)) : gb267 ≠ gb273)); have n9_ := Aside0.mk ((by rw [hg]; exact Nat.ne_of_gt (blk_lt (g := gb267) (o := .cells #[.int .i64 0, .slice none 0 0] 38 (0, 0)) (by (with_reducible repeat (first | refine blk_drewN ?_ _ | refine blk_drew ?_ | refine blk_alloc ?_ _)); exact BK267.out)) : gb273 ≠ gb267)); have n10_ := Aside0.mk ((by rw [hg]; exact Nat.ne_of_lt (IsS112.lt (show IsS112 w0 _ g s0_0 t272 from by repeat (first | (with_reducible first | exact HI0.out | apply IsS112.alloc | apply IsS112.drewN | apply IsS112.drew | apply IsS112.set_1 | refine IsS112.far ?_ NB0_267.out _) | exact HI0.out))) : g ≠ gb273)); have n11_ := Aside0.mk ((by rw [hg]; exact Nat.ne_of_gt (IsS112.lt (show IsS112 w0 _ g s0_0 t272 from by repeat (first | (with_reducible first | exact HI0.out | apply IsS112.alloc | apply IsS112.drewN | apply IsS112.drew | apply IsS112.set_1 | refine IsS112.far ?_ NB0_267.out _) | exact HI0.out))) : gb273 ≠ g)); clear HO271; clear HI0; clear BK267; clear HK; clear HB; have HO271 := n0_; have HI0 := n1_; have BK267 := n2_; have HK := n3_; have HB := n4_; have BK273 := n5_; have GW273 := n6_; have GE273 := n7_; have NB267_273 := n8_; have NB273_267 := n9_; have NB0_273 := n10_; have NB273_0 := n11_; clear n0_ n1_ n2_ n3_ n4_ n5_ n6_ n7_ n8_ n9_ n10_ n11_; clear hb hbox hg; have hnb44 := NB273_267.out; have hnc44 := NB267_273.out; have hnb45 := NB273_0.out; have hnc45 := NB0_273.out; have hcz46_0 : w43.cell? ⟨gb273, 0, none⟩ = some (.int .i64 0) := (blk_cell BK273.out 0).trans rfl; have hcz46_1 : w43.cell? ⟨gb273, 1, none⟩ = some (.slice none 0 0) := (blk_cell BK273.out 1).trans rfl; have hfz46_0 := blk_frozen BK273.out 0; have hfz46_1 := blk_frozen BK273.out 1; obtain ⟨Ao47, co47, eo47⟩ := Kd.R_slice HO271.out; subst eo47) | ((with_reducible refine gate_callee (f := 74) rfl ?_); refine goesL_ (some 9) rfl rfl Try.func74 (by kernel_rfl) rfl #[.pointer (some ⟨g, 0, none⟩), .int .i64 3] rfl (by (try simp only [List.map_toArray, List.map_cons, List.map_nil]); first | done | rfl | (simp only [List.length_drop, List.length_take]; rfl)) ?_; (with_reducible refine (spec_l30Rd_pick.calls k g s0_0 t272 3 t274 t275 w0 _ ?side1 ?side2 A3.out).mono ?_); (case side1 => repeat (first | (with_reducible first | exact HI0.out | apply IsS112.alloc | apply IsS112.drewN | apply IsS112.drew | apply IsS112.set_1 | refine IsS112.far ?_ NB0_267.out _ | refine IsS112.far ?_ NB0_273.out _) | exact HI0.out)); (case side2 => repeat (first | (with_reducible first | exact HB.out | apply below_alloc | apply pw_below_drewN | apply below_drew1 | refine below_set ?_ (IsS112.ge HI0.out) | refine below_set ?_ GE267.out | refine below_set ?_ GE273.out) | exact HB.out)); rintro e w48 ⟨rfl, hi, hb, hk⟩; refine ⟨_, rfl, ?_⟩; have n0_ := Aside0.mk (KeepBut.blk hk (g' := gb267) (o := .cells #[.int .i64 0, .slice none 0 0] 38 (0, 0)) (by (with_reducible repeat (first | refine blk_drewN ?_ _ | refine blk_drew ?_ | refine blk_alloc ?_ _)); refine blk_far ?_ NB267_273.out _; (with_reducible repeat (first | refine blk_drewN ?_ _ | refine blk_drew ?_ | refine blk_alloc ?_ _)); refine blk_far ?_ NB267_273.out _; (with_reducible repeat (first | refine blk_drewN ?_ _ | refine blk_drew ?_ | refine blk_alloc ?_ _)); exact BK267.out) NB267_0.out (by simp)); have n1_ := Aside0.mk (Kd.R_mono (Kd.R_keep (IsS112.apart (show IsS112 w0 _ g s0_0 t272 from by repeat (first | (with_reducible first | exact HI0.out | apply IsS112.alloc | apply IsS112.drewN | apply IsS112.drew | apply IsS112.set_1 | refine IsS112.far ?_ NB0_267.out _ | refine IsS112.far ?_ NB0_273.out _) | exact HI0.out)) (by (with_reducible repeat (first | apply Kd.R_alloc | apply Kd.R_drewN | apply Kd.R_drew)); exact (Kd.R_mono (Kd.R_far (p := ⟨gb273, 1, none⟩) (Kd.R_far (p := ⟨gb273, 0, none⟩) (Kd.R_types HO271.out BK273.out (by decide)) (fun _ hk => hk.2) (.int .i64 t268)) (fun _ hk => hk.2) (.slice Ao47 t269.length co47)) (fun _ h_ => h_.1))) (by decide)) hk (fun _ h => h.2)) (fun _ h => h.1)); have n2_ := Aside0.mk (KeepBut.blk hk (g' := gb273) (o := .cells #[.int .i64 t268, .slice Ao47 t269.length co47] 38 (0, 0)) (by (with_reducible repeat (first | refine blk_drewN ?_ _ | refine blk_drew ?_ | refine blk_alloc ?_ _)); refine blk_put (cs := #[.int .i64 t268, .slice none 0 0]) ?_ 1 _ rfl; (with_reducible repeat (first | refine blk_drewN ?_ _ | refine blk_drew ?_ | refine blk_alloc ?_ _)); refine blk_put (cs := #[.int .i64 0, .slice none 0 0]) ?_ 0 _ rfl; (with_reducible repeat (first | refine blk_drewN ?_ _ | refine blk_drew ?_ | refine blk_alloc ?_ _)); exact BK273.out) NB273_0.out (by simp)); have n3_ := Aside0.mk (KeepBut.trans (by repeat (first | (with_reducible first | exact HK.out | apply KeepBut.set_ | apply keep_drewN | apply keep_drew | apply keep_alloc | refine keep_far ?_ GW267.out _ | refine keep_far ?_ GW273.out _) | exact HK.out)) hk (.inl rfl)); have n4_ := Aside0.mk (hb); have n5_ := Aside0.mk (hi); clear BK267; clear HO271; clear BK273; clear HK; clear HB; clear HI0; have BK267 := n0_; have HO271 := n1_; have BK273 := n2_; have HK := n3_; have HB := n4_; have HI0 := n5_; clear n0_ n1_ n2_ n3_ n4_ n5_; (try clear hb); (try clear hb2); (try clear hk); (try clear hi); have hcz49_0 : w48.cell? ⟨gb273, 0, none⟩ = some (.int .i64 t268) := (blk_cell BK273.out 0).trans rfl; have hcz49_1 : w48.cell? ⟨gb273, 1, none⟩ = some (.slice Ao47 t269.length co47) := (blk_cell BK273.out 1).trans rfl; have hfz49_0 := blk_frozen BK273.out 0; have hfz49_1 := blk_frozen BK273.out 1; have hnb50 := NB267_0.out; have hnc50 := NB0_267.out; have hcz51_0 : w48.cell? ⟨gb267, 0, none⟩ = some (.int .i64 0) := (blk_cell BK267.out 0).trans rfl; have hcz51_1 : w48.cell? ⟨gb267, 1, none⟩ = some (.slice none 0 0) := (blk_cell BK267.out 1).trans rfl; have hfz51_0 := blk_frozen BK267.out 0; have hfz51_1 := blk_frozen BK267.out 1))
  refine bodyPost_ret (results_cell_row rfl _ _ gb267 38 #[.int .i64 t268, .slice Ao47 t269.length co47] (0, 0) _ rfl (by (with_reducible repeat (first | refine blk_drewN ?_ _ | refine blk_drew ?_ | refine blk_alloc ?_ _)); refine blk_put (cs := #[.int .i64 t268, .slice none 0 0]) ?_ 1 _ rfl; (with_reducible repeat (first | refine blk_drewN ?_ _ | refine blk_drew ?_ | refine blk_alloc ?_ _)); refine blk_put (cs := #[.int .i64 0, .slice none 0 0]) ?_ 0 _ rfl; (with_reducible repeat (first | refine blk_drewN ?_ _ | refine blk_drew ?_ | refine blk_alloc ?_ _)); exact BK267.out) Try.underlying38 rfl (by kernel_rfl)) rfl ?_
  exact ⟨_, by first | rfl | (simp [errW_none, errW_some] <;> rfl) | (simp [*, errW_none, errW_some] <;> rfl), by (with_reducible repeat (first | apply Kd.R_alloc | apply Kd.R_drewN | apply Kd.R_drew)); exact Kd.R_mono (Kd.R_far (p := ⟨gb267, 1, none⟩) (Kd.R_far (p := ⟨gb267, 0, none⟩) (Kd.R_types HO271.out BK267.out (by decide)) (fun _ hk => hk.2) (.int .i64 t268)) (fun _ hk => hk.2) (.slice Ao47 t269.length co47)) (fun _ hk => trivial), by repeat (first | (with_reducible first | exact HI0.out | apply IsS112.alloc | apply IsS112.drewN | apply IsS112.drew | apply IsS112.set_1 | refine IsS112.far ?_ NB0_267.out _ | refine IsS112.far ?_ NB0_273.out _) | exact HI0.out), by repeat (first | (with_reducible first | exact HB.out | apply below_alloc | apply pw_below_drewN | apply below_drew1 | refine below_set ?_ (IsS112.ge HI0.out) | refine below_set ?_ GE267.out | refine below_set ?_ GE273.out) | exact HB.out), by repeat (first | (with_reducible first | exact HK.out | apply KeepBut.set_ | apply keep_drewN | apply keep_drew | apply keep_alloc | refine keep_far ?_ GW267.out _ | refine keep_far ?_ GW273.out _) | exact HK.out)⟩
end Go.Proofs.Ytmabopomecdidaa.Pr
end
section
namespace Go.Proofs.Ytmabopomecdidaa.Pr
open Go.RowKit Go.Proofs.YtmabopomecdidaaW.PrintWords Go.Proofs.YtmabopomecdidaaW.PrintLast Go.Proofs.YtmabopomecdidaaW.PrintMore
attribute [local go_sem] max2_int min2_int max_two min_two max_three min_three max_four min_four
set_option linter.unusedVariables false
set_option linter.unusedSimpArgs false
def spec_l30Open.f (l0 : List Int) : Option (List Int × Int) := if (l0.length : Int) > 2000 then (if 2000 ≤ (l0.length : Int) then (some (l0.take 2000, 0)) else (none)) else (some (l0, 0))
set_option maxHeartbeats 8000000 in
set_option maxRecDepth 100000 in
theorem spec_l30Open.calls (A0 : Option Addr) (c0 : Nat) (l0 : List Int) (r1 : List Int) (r2 : Int) (w0 w : World) (hB : Below w0.heap.size w0 w) (hr0 : Kd.C (Kd.int .u8) w0 A0 l0.length l0) (hc0 : l0.length ≤ c0) (h : spec_l30Open.f l0 = some (r1, r2)) :
  Calls Try.prog 66 #[.slice A0 l0.length c0] w fun e w' => ∃ g_ : Nat, e = .returned (.pointer (some ⟨g_, 0, none⟩)) ∧ IsS112 w0 w' g_ r1 r2 ∧ Below w0.heap.size w0 w' ∧ Below w.heap.size w w' := by
 have hu112 := Try.underlying112
 have HR0 := Aside0.mk hr0
 have HC0 := Aside0.mk hc0
 clear hr0 hc0
 have HBW := Aside0.mk (Below.refl w.heap.size w)
 have HW0 := Aside0.mk hB.size
 have HB := Aside0.mk hB
 clear hB
 have H : (if (l0.length : Int) > 2000 then (if 2000 ≤ (l0.length : Int) then (some (l0.take 2000, 0)) else (none)) else (some (l0, 0))) = some (r1, r2) := h
 clear h
 by_cases c2 : (l0.length : Int) > 2000
 ·rw [if_pos c2] at H
  have c2b0 : decide (2000 < (l0.length : Int)) = true := decide_eq_true c2
  have c2b1 : decide (2000 < l0.length) = true := decide_eq_true (by omega)
  clear c2
  by_cases c3 : 2000 ≤ (l0.length : Int)
  ·rw [if_pos c3] at H
   have c3b0 := eq_true c3
   have c3b1 : decide (2000 ≤ (l0.length : Int)) = true := decide_eq_true c3
   clear c3
   simp only [Option.some.injEq, Prod.mk.injEq] at H
   obtain ⟨rfl, rfl⟩ := H
   obtain ⟨i04, hi04, _, hsz4, _⟩ := info_parts info5
   obtain ⟨hcut4, hA4, hC4⟩ := print_take_of (P := Try.prog) (Value.int .u8) 0 35 5 .i64 Try.underlying35 hi04 hsz4 A0 c0 l0 2000 (by omega) (of_decide_eq_true (by first | (with_reducible assumption) | assumption)) HC0.out
   have HR282 := Aside0.mk (Kd.C_of_reads (h1 := fun _ => rfl) (hA4 _ (Kd.reads_of_C HR0.out)))
   have HC282 := Aside0.mk hC4
   clear hA4 hC4 hi04 hsz4
   go_enter Try.func66, Try.ntmps66
   go_wp2_with (first | ((with_reducible refine gate_dst (N := 10) rfl ?_); refine box_event ?hg (N := 10) ?hd (cs := #[.slice A0 (l0.take 2000).length c0, .int .i64 0]) (t := 112) ?hr ?_; (case hd => rfl); (case hg => rfl); (case hr => first | (go_simp; done) | (go_simp; rfl)); intro gb283 hg w5 hbox hb; have n0_ := Aside0.mk (below_step HBW.out hb); have n1_ := Aside0.mk (below_step (by repeat (first | (with_reducible first | exact HB.out | apply below_alloc | apply pw_below_drewN | apply below_drew1) | exact HB.out)) hb); have n2_ := Aside0.mk (hbox); have n3_ := Aside0.mk ((by rw [hg]; exact (below_size (by repeat (first | (with_reducible first | exact HBW.out | apply below_alloc | apply pw_below_drewN | apply below_drew1) | exact HBW.out))) : w.heap.size ≤ gb283)); have n4_ := Aside0.mk ((Nat.le_trans HW0.out (by rw [hg]; exact (below_size (by repeat (first | (with_reducible first | exact HBW.out | apply below_alloc | apply pw_below_drewN | apply below_drew1) | exact HBW.out))) : w.heap.size ≤ gb283) : w0.heap.size ≤ gb283)); clear HBW; clear HB; have HBW := n0_; have HB := n1_; have BK283 := n2_; have GW283 := n3_; have GE283 := n4_; clear n0_ n1_ n2_ n3_ n4_; clear hb hbox hg))
   go_ret
   exact ⟨_, rfl, (show IsS112 w0 _ gb283 (l0.take 2000) 0 from ⟨_, _, by (with_reducible repeat (first | refine blk_drewN ?_ _ | refine blk_drew ?_ | refine blk_alloc ?_ _)); exact BK283.out, GE283.out, HR282.out⟩), by repeat (first | (with_reducible first | exact HB.out | apply below_alloc | apply pw_below_drewN | apply below_drew1 | refine below_set ?_ GE283.out) | exact HB.out), by repeat (first | (with_reducible first | exact HBW.out | apply below_alloc | apply pw_below_drewN | apply below_drew1 | refine below_set ?_ GW283.out) | exact HBW.out)⟩
  ·rw [if_neg c3] at H
   exact absurd H (by simp)
 ·rw [if_neg c2] at H
  have c2b0 : decide (2000 < (l0.length : Int)) = false := decide_eq_false c2
  have c2b1 : decide (2000 < l0.length) = false := decide_eq_false (by omega)
  clear c2
  simp only [Option.some.injEq, Prod.mk.injEq] at H
  obtain ⟨rfl, rfl⟩ := H
  go_enter Try.func66, Try.ntmps66
  go_wp2_with (first | ((with_reducible refine gate_dst (N := 10) rfl ?_); refine box_event ?hg (N := 10) ?hd (cs := #[.slice A0 l0.length c0, .int .i64 0]) (t := 112) ?hr ?_; (case hd => rfl); (case hg => rfl); (case hr => first | (go_simp; done) | (go_simp; rfl)); intro gb284 hg w6 hbox hb; have n0_ := Aside0.mk (below_step HBW.out hb); have n1_ := Aside0.mk (below_step (by repeat (first | (with_reducible first | exact HB.out | apply below_alloc | apply pw_below_drewN | apply below_drew1) | exact HB.out)) hb); have n2_ := Aside0.mk (hbox); have n3_ := Aside0.mk ((by rw [hg]; exact (below_size (by repeat (first | (with_reducible first | exact HBW.out | apply below_alloc | apply pw_below_drewN | apply below_drew1) | exact HBW.out))) : w.heap.size ≤ gb284)); have n4_ := Aside0.mk ((Nat.le_trans HW0.out (by rw [hg]; exact (below_size (by repeat (first | (with_reducible first | exact HBW.out | apply below_alloc | apply pw_below_drewN | apply below_drew1) | exact HBW.out))) : w.heap.size ≤ gb284) : w0.heap.size ≤ gb284)); clear HBW; clear HB; have HBW := n0_; have HB := n1_; have BK284 := n2_; have GW284 := n3_; have GE284 := n4_; clear n0_ n1_ n2_ n3_ n4_; clear hb hbox hg))
  go_ret
  exact ⟨_, rfl, (show IsS112 w0 _ gb284 l0 0 from ⟨_, _, by (with_reducible repeat (first | refine blk_drewN ?_ _ | refine blk_drew ?_ | refine blk_alloc ?_ _)); exact BK284.out, GE284.out, HR0.out⟩), by repeat (first | (with_reducible first | exact HB.out | apply below_alloc | apply pw_below_drewN | apply below_drew1 | refine below_set ?_ GE284.out) | exact HB.out), by repeat (first | (with_reducible first | exact HBW.out | apply below_alloc | apply pw_below_drewN | apply below_drew1 | refine below_set ?_ GW284.out) | exact HBW.out)⟩
end Go.Proofs.Ytmabopomecdidaa.Pr
end
section
namespace Go.Proofs.Ytmabopomecdidaa.Pr
open Go.RowKit Go.Proofs.YtmabopomecdidaaW.PrintWords Go.Proofs.YtmabopomecdidaaW.PrintLast Go.Proofs.YtmabopomecdidaaW.PrintMore
attribute [local go_sem] max2_int min2_int max_two min_two max_three min_three max_four min_four
set_option linter.unusedVariables false
set_option linter.unusedSimpArgs false
def spec_DrawRingOrder.f (k : Nat) (l0 : List Int) : Option (Int × (List (S45))) := (spec_l30Open.f l0).bind fun bt286 => ((spec_l30Flat.f k bt286.1 bt286.2).bind fun bt289 => (some (bt289.1, bt289.2.1)))
theorem spec_DrawRingOrder.mono : ∀ a0 k, LeO (spec_DrawRingOrder.f k a0) (spec_DrawRingOrder.f (k + 1) a0) := by
 intro a0 k
 unfold spec_DrawRingOrder.f
 repeat' first
   | (with_reducible exact spec_l30Flat.mono _ _ _)
   | (with_reducible exact LeO.refl _)
   | (with_reducible exact LeO.none _)
   | (with_reducible refine LeO.ite ?_ ?_)
   | (with_reducible refine LeO.bind ?_ (fun _ => ?_))
   | exact spec_l30Flat.mono _ _ _
   | exact LeO.none _
   | refine LeO.ite ?_ ?_
   | refine LeO.bind ?_ (fun _ => ?_)
set_option maxHeartbeats 8000000 in
set_option maxRecDepth 100000 in
theorem spec_DrawRingOrder.calls (k : Nat) (A0 : Option Addr) (c0 : Nat) (l0 : List Int) (r1 : Int) (r2 : List (S45)) (w : World) (hr0 : Kd.C (Kd.int .u8) w A0 l0.length l0) (hc0 : l0.length ≤ c0) (h : spec_DrawRingOrder.f k l0 = some (r1, r2)) :
  Calls Try.prog 23 #[.slice A0 l0.length c0] w fun e w' => ∃ v1_ : Value, e = .returned (.agg #[.int .i64 r1, v1_]) ∧ Kd.R k45 45 w' w.heap.size (fun _ => True) v1_ r2 ∧ Below w.heap.size w w' := by
 have hu38 := Try.underlying38
 have HR0 := Aside0.mk hr0
 have HC0 := Aside0.mk hc0
 clear hr0 hc0
 have HB := Aside0.mk (Below.refl w.heap.size w)
 have H : ((spec_l30Open.f l0).bind fun bt286 => ((spec_l30Flat.f k bt286.1 bt286.2).bind fun bt289 => (some (bt289.1, bt289.2.1)))) = some (r1, r2) := h
 clear h
 replace H := Option.bind_eq_some_iff.mp H
 obtain ⟨⟨t286, t287⟩, A20, H⟩ := H
 replace H : ((spec_l30Flat.f k t286 t287).bind fun bt289 => (some (bt289.1, bt289.2.1))) = some (r1, r2) := H
 have A2 := Aside0.mk A20
 clear A20
 replace H := Option.bind_eq_some_iff.mp H
 obtain ⟨⟨t289, t290, t293⟩, A30, H⟩ := H
 replace H : (some (t289, t290)) = some (r1, r2) := H
 have A3 := Aside0.mk A30
 clear A30
 simp only [Option.some.injEq, Prod.mk.injEq] at H
 obtain ⟨rfl, rfl⟩ := H
 go_enter Try.func23, Try.ntmps23
 go_wp2_with (first | ((with_reducible refine gate_dst (N := 2) rfl ?_); refine box_event ?hg (N := 2) ?hd (cs := #[.int .i64 0, .slice none 0 0]) (t := 38) ?hr ?_; (case hd => rfl); (case hg => rfl); (case hr => first | (go_simp; done) | (go_simp; rfl)); intro gb285 hg w4 hbox hb; have n0_ := Aside0.mk (below_step (by repeat (first | (with_reducible first | exact HB.out | apply below_alloc | apply pw_below_drewN | apply below_drew1) | exact HB.out)) hb); have n1_ := Aside0.mk (hbox); have n2_ := Aside0.mk ((by rw [hg]; exact (below_size (by repeat (first | (with_reducible first | exact HB.out | apply below_alloc | apply pw_below_drewN | apply below_drew1) | exact HB.out))) : w.heap.size ≤ gb285)); have n3_ := Aside0.mk ((by rw [hg]; exact (below_size (by repeat (first | (with_reducible first | exact HB.out | apply below_alloc | apply pw_below_drewN | apply below_drew1) | exact HB.out))) : w.heap.size ≤ gb285)); clear HB; have HB := n0_; have BK285 := n1_; have GW285 := n2_; have GE285 := n3_; clear n0_ n1_ n2_ n3_; clear hb hbox hg) | ((with_reducible refine gate_callee (f := 66) rfl ?_); refine goesL_ (some 4) rfl rfl Try.func66 (by kernel_rfl) rfl #[.slice A0 l0.length c0] rfl (by (try simp only [List.map_toArray, List.map_cons, List.map_nil]); first | done | rfl | (simp only [List.length_drop, List.length_take]; rfl)) ?_; (with_reducible refine (spec_l30Open.calls _ _ l0 t286 t287 w _ ?side1 ?side2 ?side3 A2.out).mono ?_); (case side1 => repeat (first | (with_reducible first | exact HB.out | apply below_alloc | apply pw_below_drewN | apply below_drew1 | refine below_set ?_ GE285.out) | exact HB.out)); (case side2 => exact HR0.out); (case side3 => exact HC0.out); rintro e w5 ⟨g288, rfl, hi, hb, hb2⟩; refine ⟨_, rfl, ?_⟩; have n0_ := Aside0.mk (blk_below (g := gb285) (o := .cells #[.int .i64 0, .slice none 0 0] 38 (0, 0)) (by (with_reducible repeat (first | refine blk_drewN ?_ _ | refine blk_drew ?_ | refine blk_alloc ?_ _)); exact BK285.out) hb2); have n1_ := Aside0.mk (hb); have n2_ := Aside0.mk (hi); have n3_ := Aside0.mk (IsS112.ne_blk hi (blk_below (g := gb285) (o := .cells #[.int .i64 0, .slice none 0 0] 38 (0, 0)) (by (with_reducible repeat (first | refine blk_drewN ?_ _ | refine blk_drew ?_ | refine blk_alloc ?_ _)); exact BK285.out) hb2) (by decide)); have n4_ := Aside0.mk (Ne.symm (IsS112.ne_blk hi (blk_below (g := gb285) (o := .cells #[.int .i64 0, .slice none 0 0] 38 (0, 0)) (by (with_reducible repeat (first | refine blk_drewN ?_ _ | refine blk_drew ?_ | refine blk_alloc ?_ _)); exact BK285.out) hb2) (by decide))); clear BK285; clear HB; have BK285 := n0_; have HB := n1_; have HI288 := n2_; have NB288_285 := n3_; have NB285_288 := n4_; clear n0_ n1_ n2_ n3_ n4_; (try clear hb); (try clear hb2); (try clear hk); (try clear hi)) | ((with_reducible refine gate_callee (f := 65) rfl ?_); refine goesL_ (some 5) rfl rfl Try.func65 (by kernel_rfl) rfl #[.pointer (some ⟨g288, 0, none⟩)] rfl (by (try simp only [List.map_toArray, List.map_cons, List.map_nil]); first | done | rfl | (simp only [List.length_drop, List.length_take]; rfl)) ?_; (with_reducible refine (spec_l30Flat.calls k g288 t286 t287 t289 t290 t293 w _ ?side1 ?side2 A3.out).mono ?_); (case side1 => repeat (first | (with_reducible first | exact HI288.out | apply IsS112.alloc | apply IsS112.drewN | apply IsS112.drew | apply IsS112.set_1 | refine IsS112.far ?_ NB288_285.out _) | exact HI288.out)); (case side2 => repeat (first | (with_reducible first | exact HB.out | apply below_alloc | apply pw_below_drewN | apply below_drew1 | refine below_set ?_ (IsS112.ge HI288.out) | refine below_set ?_ GE285.out) | exact HB.out)); rintro e w6 ⟨v291, rfl, ho0, hi, hb, hk⟩; refine ⟨_, rfl, ?_⟩; have n0_ := Aside0.mk (KeepBut.blk hk (g' := gb285) (o := .cells #[.int .i64 0, .slice none 0 0] 38 (0, 0)) (by (with_reducible repeat (first | refine blk_drewN ?_ _ | refine blk_drew ?_ | refine blk_alloc ?_ _)); exact BK285.out) NB285_288.out (by simp)); have n1_ := Aside0.mk (Kd.R_lower ho0 (below_size (by repeat (first | (with_reducible first | exact HB.out | apply below_alloc | apply pw_below_drewN | apply below_drew1 | refine below_set ?_ (IsS112.ge HI288.out) | refine below_set ?_ GE285.out) | exact HB.out)))); have n2_ := Aside0.mk (hb); have n3_ := Aside0.mk (hi); clear BK285; clear HB; clear HI288; have BK285 := n0_; have HO292 := n1_; have HB := n2_; have HI288 := n3_; clear n0_ n1_ n2_ n3_; (try clear hb); (try clear hb2); (try clear hk); (try clear hi); (try clear ho0); have hnb7 := NB285_288.out; have hnc7 := NB288_285.out; have hcz8_0 : w6.cell? ⟨gb285, 0, none⟩ = some (.int .i64 0) := (blk_cell BK285.out 0).trans rfl; have hcz8_1 : w6.cell? ⟨gb285, 1, none⟩ = some (.slice none 0 0) := (blk_cell BK285.out 1).trans rfl; have hfz8_0 := blk_frozen BK285.out 0; have hfz8_1 := blk_frozen BK285.out 1; obtain ⟨Ao9, co9, eo9⟩ := Kd.R_slice HO292.out; subst eo9))
 refine bodyPost_ret (results_cell_row rfl _ _ gb285 38 #[.int .i64 t289, .slice Ao9 t290.length co9] (0, 0) _ rfl (by (with_reducible repeat (first | refine blk_drewN ?_ _ | refine blk_drew ?_ | refine blk_alloc ?_ _)); refine blk_put (cs := #[.int .i64 t289, .slice none 0 0]) ?_ 1 _ rfl; (with_reducible repeat (first | refine blk_drewN ?_ _ | refine blk_drew ?_ | refine blk_alloc ?_ _)); refine blk_put (cs := #[.int .i64 0, .slice none 0 0]) ?_ 0 _ rfl; (with_reducible repeat (first | refine blk_drewN ?_ _ | refine blk_drew ?_ | refine blk_alloc ?_ _)); exact BK285.out) Try.underlying38 rfl (by kernel_rfl)) rfl ?_
 exact ⟨_, by first | rfl | (simp [errW_none, errW_some] <;> rfl) | (simp [*, errW_none, errW_some] <;> rfl), by (with_reducible repeat (first | apply Kd.R_alloc | apply Kd.R_drewN | apply Kd.R_drew)); exact Kd.R_mono (Kd.R_far (p := ⟨gb285, 1, none⟩) (Kd.R_far (p := ⟨gb285, 0, none⟩) (Kd.R_types HO292.out BK285.out (by decide)) (fun _ hk => hk.2) (.int .i64 t289)) (fun _ hk => hk.2) (.slice Ao9 t290.length co9)) (fun _ hk => trivial), by repeat (first | (with_reducible first | exact HB.out | apply below_alloc | apply pw_below_drewN | apply below_drew1 | refine below_set ?_ (IsS112.ge HI288.out) | refine below_set ?_ GE285.out) | exact HB.out)⟩
end Go.Proofs.Ytmabopomecdidaa.Pr
end
section
namespace Go.Proofs.Ytmabopomecdidaa.Pr
open Go.RowKit Go.Proofs.YtmabopomecdidaaW.PrintWords Go.Proofs.YtmabopomecdidaaW.PrintLast Go.Proofs.YtmabopomecdidaaW.PrintMore
attribute [local go_sem] max2_int min2_int max_two min_two max_three min_three max_four min_four
set_option linter.unusedVariables false
set_option linter.unusedSimpArgs false
def impl_within.f (a0 : Int) (a1 : Int) (a2 : Int) : Option (Bool) := if a0 ≥ a1 then (some (decide (a0 ≤ a2))) else (some false)
set_option maxHeartbeats 8000000 in
set_option maxRecDepth 100000 in
theorem impl_within.calls (a0 : Int) (a1 : Int) (a2 : Int) (r : Bool) (w : World) (h : impl_within.f a0 a1 a2 = some r) :
  Calls Try.prog 77 #[.int .i64 a0, .int .i64 a1, .int .i64 a2] w fun e w' => e = .returned (.bool r) ∧ Drawn0 w w' := by
 have H : (if a0 ≥ a1 then (some (decide (a0 ≤ a2))) else (some false)) = some r := h
 clear h
 by_cases c4 : a0 ≥ a1
 ·rw [if_pos c4] at H
  have c4b0 : decide (a1 ≤ a0) = true := decide_eq_true c4
  clear c4
  obtain rfl := Option.some.inj H
  go_enter Try.func77, Try.ntmps77
  go_wp2
  go_ret
  exact ⟨by first | rfl | (simp; done) | (simp [*]; done), by repeat (first | exact Drawn0.refl _ | apply Drawn0.step)⟩
 ·rw [if_neg c4] at H
  have c4b0 : decide (a1 ≤ a0) = false := decide_eq_false c4
  clear c4
  obtain rfl := Option.some.inj H
  go_enter Try.func77, Try.ntmps77
  go_wp2
  go_ret
  exact ⟨by first | rfl | (simp; done) | (simp [*]; done), by repeat (first | exact Drawn0.refl _ | apply Drawn0.step)⟩
end Go.Proofs.Ytmabopomecdidaa.Pr
end
section
namespace Go.Proofs.Ytmabopomecdidaa.Pr
open Go.RowKit Go.Proofs.YtmabopomecdidaaW.PrintWords Go.Proofs.YtmabopomecdidaaW.PrintLast Go.Proofs.YtmabopomecdidaaW.PrintMore
attribute [local go_sem] max2_int min2_int max_two min_two max_three min_three max_four min_four
set_option linter.unusedVariables false
set_option linter.unusedSimpArgs false
def impl_costOk.f (a0 : Int) : Option (Bool) := (impl_within.f a0 0 99).bind fun t141 => (some t141)
set_option maxHeartbeats 8000000 in
set_option maxRecDepth 100000 in
theorem impl_costOk.calls (a0 : Int) (r : Bool) (w : World) (h : impl_costOk.f a0 = some r) :
  Calls Try.prog 100 #[.int .i64 a0] w fun e w' => e = .returned (.bool r) ∧ Drawn0 w w' := by
 have H : ((impl_within.f a0 0 99).bind fun t141 => (some t141)) = some r := h
 clear h
 replace H := Option.bind_eq_some_iff.mp H
 obtain ⟨t141, A20, H⟩ := H
 replace H : (some t141) = some r := H
 have A2 := Aside0.mk A20
 clear A20
 obtain rfl := Option.some.inj H
 go_enter Try.func100, Try.ntmps100
 go_wp2_with (first | ((with_reducible refine gate_callee (f := 77) rfl ?_); refine goesL_ (some 4) rfl rfl Try.func77 (by kernel_rfl) rfl #[.int .i64 a0, .int .i64 0, .int .i64 99] rfl (by (try simp only [List.map_toArray, List.map_cons, List.map_nil]); first | done | rfl | (simp only [List.length_drop, List.length_take]; rfl)) ?_; (with_reducible refine (impl_within.calls a0 0 99 t141 _ A2.out).mono ?_); rintro e w' ⟨rfl, ⟨nd, rfl⟩⟩; refine ⟨_, rfl, ?_⟩))
 go_ret
 exact ⟨by first | rfl | (simp; done) | (simp [*]; done), by repeat (first | exact Drawn0.refl _ | apply Drawn0.step)⟩
end Go.Proofs.Ytmabopomecdidaa.Pr
end
section
namespace Go.Proofs.Ytmabopomecdidaa.Pr
open Go.RowKit Go.Proofs.YtmabopomecdidaaW.PrintWords Go.Proofs.YtmabopomecdidaaW.PrintLast Go.Proofs.YtmabopomecdidaaW.PrintMore
attribute [local go_sem] max2_int min2_int max_two min_two max_three min_three max_four min_four
set_option linter.unusedVariables false
set_option linter.unusedSimpArgs false
def idxI {α : Type} (p : α → Bool) (l : List α) : Int := match l.findIdx? p with | some i => (i : Int) | none => -1
theorem idxI_hit {α : Type} {p : α → Bool} {l : List α} (k : Nat) (hk : k < l.length) (h : p l[k] = true) (hne : ∀ j (hj : j < k), p (l[j]'(by omega)) = false) : idxI p l = k := by
 have : l.findIdx? p = some k := by
  rw [List.findIdx?_eq_some_iff_getElem]
  exact ⟨hk, h, fun j hj => by rw [hne j hj]; simp⟩
 simp [idxI, this]
theorem idxI_miss {α : Type} {p : α → Bool} {l : List α} (h : ∀ x ∈ l, p x = false) : idxI p l = -1 := by
 have : l.findIdx? p = none := by
  rw [List.findIdx?_eq_none_iff]
  exact h
 simp [idxI, this]
theorem idxI_any {α : Type} (p : α → Bool) (l : List α) : decide (idxI p l ≥ 0) = l.any p := by
 cases h : l.findIdx? p with
 | none =>
  rw [List.findIdx?_eq_none_iff] at h
  simp only [idxI, List.findIdx?_eq_none_iff.2 h]
  rw [eq_comm]
  simpa using h
 | some i =>
  have h' := h
  rw [List.findIdx?_eq_some_iff_getElem] at h'
  obtain ⟨hi, hp, _⟩ := h'
  simp only [idxI, h]
  have : l.any p = true := List.any_eq_true.2 ⟨_, List.getElem_mem hi, hp⟩
  rw [this]
  simp
set_option maxHeartbeats 8000000 in
set_option maxRecDepth 100000 in
theorem slices_IndexFunc_int_int.calls (p : Int → Bool) (g : Nat) (lb : Array Value) (eg : ∀ args w, (callFunc g args).run Try.prog w = .ok (.enter g args) w) (A0 : Option Addr) (c0 : Nat) (l0 : List Int) (w : World) (hr0 : Kd.C (Kd.int .i64) w A0 l0.length l0) (_hc0 : l0.length ≤ c0)
  (hp : ∀ (W : World) (x : Int), x ∈ l0 → Below w.heap.size w W → Calls Try.prog g (#[.int .i64 x] ++ lb) W fun e w' => e = .returned (.bool (p x)) ∧ Below W.heap.size W w') :
  Calls Try.prog 133 #[.slice A0 l0.length c0, .func (.func g) #[] lb] w fun e w' => e = .returned (.int .i64 (idxI p l0)) ∧ Below w.heap.size w w' := by
 have HR0 := Aside0.mk hr0
 have hlen := hr0.2.1
 clear hr0
 go_enter Try.func133, Try.ntmps133
 go_wp2
 go_loopg [5, 8] l0.length (fun gg _ s8 wr => ∃ x : Int, s8 = .int .i64 x ∧ Aside0 (0 ≤ x) ∧ Aside0 (x ≤ (l0.length : Int)) ∧ Aside0 ((l0.length : Int) - x ≤ gg) ∧ Aside0 (Below w.heap.size w wr) ∧ Aside0 (∀ j (hl : j < l0.length), (j : Int) < x → p l0[j] = false))
 case atStart => exact ⟨0, rfl, ⟨by omega⟩, ⟨by omega⟩, ⟨by omega⟩, ⟨Below.refl _ w⟩, ⟨fun j hj h => absurd h (by omega)⟩⟩
 case round =>
  obtain ⟨x, rfl, X0, X1, X2, BW, AA⟩ := hrel
  by_cases c2 : x < (l0.length : Int)
  ·have c2b0 : decide (x < (l0.length : Int)) = true := decide_eq_true c2
   have h0 := X0.out
   have hg := X2.out
   have hlt : x.toNat < l0.length := by omega
   obtain ⟨ad, e, hx⟩ := Kd.at_int (Kd.C_below HR0.out BW.out) x h0 c2
   cases e
   have hw : wrap64 (x + 1) = x + 1 := by unfold wrap64; omega
   have HW := Aside0.mk hw
   clear hw
   have hcall := hp wr l0[x.toNat] (List.getElem_mem hlt) BW.out
   clear hp
   have hrd : rd l0 x = l0[x.toNat] := by simp [rd, hlt]
   rw [← hrd] at hcall
   have B : Aside0 (∀ h : x.toNat < l0.length, rd l0 x = l0[x.toNat]) := ⟨fun _ => hrd⟩
   clear hrd
   generalize hy : rd l0 x = y at hx hcall B
   clear hy
   have p108 := eq_true h0
   have q108 := eq_true c2
   have E0 := Aside0.mk h0
   have E1 := Aside0.mk c2
   have E2 := Aside0.mk hg
   have E3 := Aside0.mk hlt
   clear h0 hg hlt c2
   cases hq : p y with
   | true =>
    rw [hq] at hcall
    have HQ := Aside0.mk hq
    clear hq
    go_wp2_with (go_at_fn g; refine hcall.mono ?_; rintro e w' ⟨rfl, hb'⟩)
    go_ret
    refine ⟨?_, below_then BW.out BW.out.size hb'⟩
    have h0 := E0.out
    rw [idxI_hit x.toNat E3.out (by rw [← B.out E3.out]; exact HQ.out) (fun j hj => AA.out j _ (by omega))]
    rw [Int.toNat_of_nonneg h0]
    rfl
   | false =>
    rw [hq] at hcall
    have HQ := Aside0.mk hq
    clear hq
    go_wp2_with (go_at_fn g; refine hcall.mono ?_; rintro e w' ⟨rfl, hb'⟩)
    have h0 := E0.out
    have h1 := E1.out
    have h2 := E2.out
    go_roundg (l0.length - (x.toNat + 1))
    case measure => omega
    case rel =>
     refine ⟨x + 1, by first | rfl | rw [HW.out], ⟨by omega⟩, ⟨by omega⟩, ⟨by omega⟩, ⟨below_then BW.out BW.out.size hb'⟩, ⟨fun j hj hl => ?_⟩⟩
     by_cases e : (j : Int) = x
     ·have e' : j = x.toNat := by omega
      subst e'
      rw [← B.out E3.out]; exact HQ.out
     ·exact AA.out j hj (by omega)
  ·have c2b0 : decide (x < (l0.length : Int)) = false := decide_eq_false c2
   have E1 := Aside0.mk c2
   clear c2 hp
   go_wp2
   go_ret
   refine ⟨?_, BW.out⟩
   rw [idxI_miss (fun y hy => by
    obtain ⟨j, hj, rfl⟩ := List.getElem_of_mem hy
    have h1 := E1.out
    exact AA.out j hj (by omega))]
   rfl
end Go.Proofs.Ytmabopomecdidaa.Pr
end
section
namespace Go.Proofs.Ytmabopomecdidaa.Pr
open Go.RowKit Go.Proofs.YtmabopomecdidaaW.PrintWords Go.Proofs.YtmabopomecdidaaW.PrintLast Go.Proofs.YtmabopomecdidaaW.PrintMore
attribute [local go_sem] max2_int min2_int max_two min_two max_three min_three max_four min_four
set_option linter.unusedVariables false
set_option linter.unusedSimpArgs false
set_option maxHeartbeats 8000000 in
theorem slices_ContainsFunc_int_int.calls (p : Int → Bool) (g : Nat) (lb : Array Value) (eg : ∀ args w, (callFunc g args).run Try.prog w = .ok (.enter g args) w) (A0 : Option Addr) (c0 : Nat) (l0 : List Int) (w : World) (hr0 : Kd.C (Kd.int .i64) w A0 l0.length l0) (hc0 : l0.length ≤ c0)
  (hp : ∀ (W : World) (x : Int), x ∈ l0 → Below w.heap.size w W → Calls Try.prog g (#[.int .i64 x] ++ lb) W fun e w' => e = .returned (.bool (p x)) ∧ Below W.heap.size W w') :
  Calls Try.prog 117 #[.slice A0 l0.length c0, .func (.func g) #[] lb] w fun e w' => e = .returned (.bool (l0.any p)) ∧ Below w.heap.size w w' := by
 rw [← idxI_any]
 have hcall := slices_IndexFunc_int_int.calls p g lb eg A0 c0 l0 w hr0 hc0 hp
 clear hp eg hr0
 go_enter Try.func117, Try.ntmps117
 go_wp2_with (go_at_call 133; refine hcall.mono ?_; rintro e w' ⟨rfl, hb'⟩)
 go_ret
 exact ⟨rfl, hb'⟩
end Go.Proofs.Ytmabopomecdidaa.Pr
end
section
namespace Go.Proofs.Ytmabopomecdidaa.Pr
open Go.RowKit Go.Proofs.YtmabopomecdidaaW.PrintWords Go.Proofs.YtmabopomecdidaaW.PrintLast Go.Proofs.YtmabopomecdidaaW.PrintMore
attribute [local go_sem] max2_int min2_int max_two min_two max_three min_three max_four min_four
set_option linter.unusedVariables false
set_option linter.unusedSimpArgs false
def impl_pricesOk_1.f (a0 : Int) : Option (Bool) := (impl_costOk.f a0).bind fun t142 => (some (!t142))
set_option maxHeartbeats 8000000 in
set_option maxRecDepth 100000 in
theorem impl_pricesOk_1.calls (a0 : Int) (r : Bool) (w : World) (h : impl_pricesOk_1.f a0 = some r) :
  Calls Try.prog 123 #[.int .i64 a0] w fun e w' => e = .returned (.bool r) ∧ Drawn0 w w' := by
 have H : ((impl_costOk.f a0).bind fun t142 => (some (!t142))) = some r := h
 clear h
 replace H := Option.bind_eq_some_iff.mp H
 obtain ⟨t142, A20, H⟩ := H
 replace H : (some (!t142)) = some r := H
 have A2 := Aside0.mk A20
 clear A20
 obtain rfl := Option.some.inj H
 go_enter Try.func123, Try.ntmps123
 go_wp2_with (first | ((with_reducible refine gate_callee (f := 100) rfl ?_); refine goesL_ (some 4) rfl rfl Try.func100 (by kernel_rfl) rfl #[.int .i64 a0] rfl (by (try simp only [List.map_toArray, List.map_cons, List.map_nil]); first | done | rfl | (simp only [List.length_drop, List.length_take]; rfl)) ?_; (with_reducible refine (impl_costOk.calls a0 t142 _ A2.out).mono ?_); rintro e w' ⟨rfl, ⟨nd, rfl⟩⟩; refine ⟨_, rfl, ?_⟩))
 go_ret
 exact ⟨by first | rfl | (simp; done) | (simp [*]; done), by repeat (first | exact Drawn0.refl _ | apply Drawn0.step)⟩
end Go.Proofs.Ytmabopomecdidaa.Pr
end
section
namespace Go.Proofs.Ytmabopomecdidaa.Pr
open Go.RowKit Go.Proofs.YtmabopomecdidaaW.PrintWords Go.Proofs.YtmabopomecdidaaW.PrintLast Go.Proofs.YtmabopomecdidaaW.PrintMore
attribute [local go_sem] max2_int min2_int max_two min_two max_three min_three max_four min_four
set_option linter.unusedVariables false
set_option linter.unusedSimpArgs false
def okC (c : Int) : Bool := decide (0 ≤ c) && decide (c ≤ 99)
theorem okC_costOk (c : Int) : impl_costOk.f c = some (okC c) := by
 unfold impl_costOk.f impl_within.f okC
 by_cases h : c ≥ 0
 ·rw [if_pos h]; simp [show (0 : Int) ≤ c from h]
 ·rw [if_neg h]; simp [show ¬ (0 : Int) ≤ c from h]
def impl_pricesOk.f (l0 : List Int) : Option Bool := some (!(l0.any fun c => !okC c))
set_option maxHeartbeats 8000000 in
theorem impl_pricesOk.calls (A0 : Option Addr) (c0 : Nat) (l0 : List Int) (r : Bool) (w : World) (hr0 : Kd.C (Kd.int .i64) w A0 l0.length l0) (hc0 : l0.length ≤ c0) (h : impl_pricesOk.f l0 = some r) :
  Calls Try.prog 98 #[.slice A0 l0.length c0] w fun e w' => e = .returned (.bool r) ∧ Below w.heap.size w w' := by
 obtain rfl := Option.some.inj h
 clear h
 have hcall := slices_ContainsFunc_int_int.calls (fun c => !okC c) 123 #[] (enters_of Try.func123 (by kernel_rfl) rfl) A0 c0 l0 w hr0 hc0 (fun W x _ _ => (impl_pricesOk_1.calls x (!okC x) W (by unfold impl_pricesOk_1.f; rw [okC_costOk]; rfl)).mono fun e w' ⟨he, hb⟩ => ⟨he, hb.below⟩)
 clear hr0
 generalize l0.any (fun c => !okC c) = b at hcall
 go_enter Try.func98, Try.ntmps98
 go_wp2_with (go_at_call 117; refine hcall.mono ?_; rintro e w' ⟨rfl, hb'⟩)
 go_ret
 exact ⟨rfl, hb'⟩
end Go.Proofs.Ytmabopomecdidaa.Pr
end
section
namespace Go.Proofs.Ytmabopomecdidaa.Pr
open Go.RowKit Go.Proofs.YtmabopomecdidaaW.PrintWords Go.Proofs.YtmabopomecdidaaW.PrintLast Go.Proofs.YtmabopomecdidaaW.PrintMore
attribute [local go_sem] max2_int min2_int max_two min_two max_three min_three max_four min_four
set_option linter.unusedVariables false
set_option linter.unusedSimpArgs false
theorem rd_at_T {l : List S45} {k : Int} (h : k.toNat < l.length) : rd_T45 l k = l[k.toNat] := by
 simp [rd_T45, h]
def encA (x : S45) : Value := .agg #[.int .i64 x.f0, .int .i64 x.f1, .int .i64 x.f2, .int .i64 x.f3, .int .i64 x.f4]
set_option maxHeartbeats 8000000 in
set_option maxRecDepth 100000 in
theorem slices_IndexFunc_Arc.calls (p : S45 → Bool) (g : Nat) (lb : Array Value) (eg : ∀ args w, (callFunc g args).run Try.prog w = .ok (.enter g args) w) (A0 : Option Addr) (c0 : Nat) (l0 : List S45) (w : World) (hr0 : Kd.C k45 w A0 l0.length l0) (_hc0 : l0.length ≤ c0)
  (hp : ∀ (W : World) (x : S45), x ∈ l0 → Below w.heap.size w W → Calls Try.prog g (#[encA x] ++ lb) W fun e w' => e = .returned (.bool (p x)) ∧ Below W.heap.size W w') :
  Calls Try.prog 130 #[.slice A0 l0.length c0, .func (.func g) #[] lb] w fun e w' => e = .returned (.int .i64 (idxI p l0)) ∧ Below w.heap.size w w' := by
 have HR0 := Aside0.mk hr0
 have hlen := hr0.2.1
 clear hr0
 have hu := Try.underlying45
 go_enter Try.func130, Try.ntmps130
 go_wp2
 go_loopg [5, 8] l0.length (fun gg _ s8 wr => ∃ x : Int, s8 = .int .i64 x ∧ Aside0 (0 ≤ x) ∧ Aside0 (x ≤ (l0.length : Int)) ∧ Aside0 ((l0.length : Int) - x ≤ gg) ∧ Aside0 (Below w.heap.size w wr) ∧ Aside0 (∀ j (hl : j < l0.length), (j : Int) < x → p l0[j] = false))
 case atStart => exact ⟨0, rfl, ⟨by omega⟩, ⟨by omega⟩, ⟨by omega⟩, ⟨Below.refl _ w⟩, ⟨fun j hj h => absurd h (by omega)⟩⟩
 case round =>
  obtain ⟨x, rfl, X0, X1, X2, BW, AA⟩ := hrel
  by_cases c2 : x < (l0.length : Int)
  ·have c2b0 : decide (x < (l0.length : Int)) = true := decide_eq_true c2
   have h0 := X0.out
   have hg := X2.out
   have hlt : x.toNat < l0.length := by omega
   obtain ⟨ad, e, hx0, hx1, hx2, hx3, hx4⟩ := at_T45 (Kd.C_below HR0.out BW.out) x h0 c2
   cases e
   have hw : wrap64 (x + 1) = x + 1 := by unfold wrap64; omega
   have HW := Aside0.mk hw
   clear hw
   have hcall := hp wr l0[x.toNat] (List.getElem_mem hlt) BW.out
   clear hp
   have hrd : rd_T45 l0 x = l0[x.toNat] := rd_at_T hlt
   rw [← hrd] at hcall
   have B : Aside0 (∀ h : x.toNat < l0.length, rd_T45 l0 x = l0[x.toNat]) := ⟨fun _ => hrd⟩
   clear hrd
   generalize hy : rd_T45 l0 x = y at hx0 hx1 hx2 hx3 hx4 hcall B
   clear hy
   unfold encA at hcall
   have p108 := eq_true h0
   have q108 := eq_true c2
   have E0 := Aside0.mk h0
   have E1 := Aside0.mk c2
   have E2 := Aside0.mk hg
   have E3 := Aside0.mk hlt
   clear h0 hg hlt c2
   cases hq : p y with
   | true =>
    rw [hq] at hcall
    have HQ := Aside0.mk hq
    clear hq
    go_wp2_with (go_at_fn g; refine hcall.mono ?_; rintro e w' ⟨rfl, hb'⟩)
    go_ret
    refine ⟨?_, below_then BW.out BW.out.size hb'⟩
    have h0 := E0.out
    rw [idxI_hit x.toNat E3.out (by rw [← B.out E3.out]; exact HQ.out) (fun j hj => AA.out j _ (by omega))]
    rw [Int.toNat_of_nonneg h0]
    rfl
   | false =>
    rw [hq] at hcall
    have HQ := Aside0.mk hq
    clear hq
    go_wp2_with (go_at_fn g; refine hcall.mono ?_; rintro e w' ⟨rfl, hb'⟩)
    have h0 := E0.out
    have h1 := E1.out
    have h2 := E2.out
    go_roundg (l0.length - (x.toNat + 1))
    case measure => omega
    case rel =>
     refine ⟨x + 1, by first | rfl | rw [HW.out], ⟨by omega⟩, ⟨by omega⟩, ⟨by omega⟩, ⟨below_then BW.out BW.out.size hb'⟩, ⟨fun j hj hl => ?_⟩⟩
     by_cases e : (j : Int) = x
     ·have e' : j = x.toNat := by omega
      subst e'
      rw [← B.out E3.out]; exact HQ.out
     ·exact AA.out j hj (by omega)
  ·have c2b0 : decide (x < (l0.length : Int)) = false := decide_eq_false c2
   have E1 := Aside0.mk c2
   clear c2 hp
   go_wp2
   go_ret
   refine ⟨?_, BW.out⟩
   rw [idxI_miss (fun y hy => by
    obtain ⟨j, hj, rfl⟩ := List.getElem_of_mem hy
    have h1 := E1.out
    exact AA.out j hj (by omega))]
   rfl
end Go.Proofs.Ytmabopomecdidaa.Pr
end
section
namespace Go.Proofs.Ytmabopomecdidaa.Pr
open Go.RowKit Go.Proofs.YtmabopomecdidaaW.PrintWords Go.Proofs.YtmabopomecdidaaW.PrintLast Go.Proofs.YtmabopomecdidaaW.PrintMore
attribute [local go_sem] max2_int min2_int max_two min_two max_three min_three max_four min_four
set_option linter.unusedVariables false
set_option linter.unusedSimpArgs false
set_option maxHeartbeats 8000000 in
theorem slices_ContainsFunc_Arc.calls (p : S45 → Bool) (g : Nat) (lb : Array Value) (eg : ∀ args w, (callFunc g args).run Try.prog w = .ok (.enter g args) w) (A0 : Option Addr) (c0 : Nat) (l0 : List S45) (w : World) (hr0 : Kd.C k45 w A0 l0.length l0) (hc0 : l0.length ≤ c0)
  (hp : ∀ (W : World) (x : S45), x ∈ l0 → Below w.heap.size w W → Calls Try.prog g (#[encA x] ++ lb) W fun e w' => e = .returned (.bool (p x)) ∧ Below W.heap.size W w') :
  Calls Try.prog 110 #[.slice A0 l0.length c0, .func (.func g) #[] lb] w fun e w' => e = .returned (.bool (l0.any p)) ∧ Below w.heap.size w w' := by
 rw [← idxI_any]
 have hcall := slices_IndexFunc_Arc.calls p g lb eg A0 c0 l0 w hr0 hc0 hp
 clear hp eg hr0
 have hu := Try.underlying45
 go_enter Try.func110, Try.ntmps110
 go_wp2_with (go_at_call 130; refine hcall.mono ?_; rintro e w' ⟨rfl, hb'⟩)
 go_ret
 exact ⟨rfl, hb'⟩
end Go.Proofs.Ytmabopomecdidaa.Pr
end
section
namespace Go.Proofs.Ytmabopomecdidaa.Pr
open Go.RowKit Go.Proofs.YtmabopomecdidaaW.PrintWords Go.Proofs.YtmabopomecdidaaW.PrintLast Go.Proofs.YtmabopomecdidaaW.PrintMore
attribute [local go_sem] max2_int min2_int max_two min_two max_three min_three max_four min_four
set_option linter.unusedVariables false
set_option linter.unusedSimpArgs false
def okN (n v : Int) : Bool := decide (0 ≤ v) && decide (v ≤ n - 1)
theorem okN_within (n x : Int) : impl_within.f x 0 (n - 1) = some (okN n x) := by
 unfold impl_within.f okN
 by_cases h : x ≥ 0
 ·rw [if_pos h]; simp [show (0 : Int) ≤ x from h]
 ·rw [if_neg h]; simp [show ¬ (0 : Int) ≤ x from h]
def impl_Net_has.f (a0_0 : Int) (_l0_1 : List S45) (l1 : List Int) : Option Bool := if -9223372036854775807 ≤ a0_0 then if a0_0 ≤ 9223372036854775807 then some (l1.all (okN a0_0)) else none else none
set_option maxHeartbeats 8000000 in
set_option maxRecDepth 100000 in
theorem has_closure (x n : Int) (g : Nat) (v : Value) (w : World) (hn : -9223372036854775807 ≤ n) (hn2 : n ≤ 9223372036854775807) (hb : w.heap[g]? = some (.cells #[.int .i64 n, v] 38 (0, 0))) :
  Calls Try.prog 131 #[.int .i64 x, .pointer (some ⟨g, 0, none⟩)] w fun e w' => e = .returned (.bool (!okN n x)) ∧ Below w.heap.size w w' := by
 have hcell : w.cell? ⟨g, 0, none⟩ = some (.int .i64 n) := (blk_cell hb 0).trans rfl
 have hcall := impl_within.calls x 0 (n - 1) (okN n x) w (okN_within n x)
 have hu := Try.underlying38
 generalize okN n x = b at hcall
 clear hb
 go_enter Try.func131, Try.ntmps131
 go_wp2_with (go_at_call 77; refine hcall.mono ?_; rintro e w' ⟨rfl, ⟨nd, rfl⟩⟩)
 go_ret
 exact ⟨rfl, pw_below_drewN (Below.refl _ _) _⟩
set_option maxHeartbeats 8000000 in
set_option maxRecDepth 100000 in
theorem impl_Net_has.calls (a0_0 : Int) (A0_1 : Option Addr) (c0_1 : Nat) (l0_1 : List S45) (A1 : Option Addr) (c1 : Nat) (l1 : List Int) (r : Bool) (w : World) (_hr0_1 : Kd.C k45 w A0_1 l0_1.length l0_1) (_hc0_1 : l0_1.length ≤ c0_1) (hr1 : Kd.C (Kd.int .i64) w A1 l1.length l1) (hc1 : l1.length ≤ c1) (h : impl_Net_has.f a0_0 l0_1 l1 = some r) :
  Calls Try.prog 112 #[.agg #[.int .i64 a0_0, .slice A0_1 l0_1.length c0_1], .slice A1 l1.length c1] w fun e w' => e = .returned (.bool r) ∧ Below w.heap.size w w' := by
 have hn : -9223372036854775807 ≤ a0_0 := by
  apply Decidable.byContradiction
  intro c
  unfold impl_Net_has.f at h
  rw [if_neg c] at h
  exact absurd h (by simp)
 have hn2 : a0_0 ≤ 9223372036854775807 := by
  apply Decidable.byContradiction
  intro c
  unfold impl_Net_has.f at h
  rw [if_pos hn, if_neg c] at h
  exact absurd h (by simp)
 have hr : l1.all (okN a0_0) = r := by
  unfold impl_Net_has.f at h
  rw [if_pos hn, if_pos hn2] at h
  exact Option.some.inj h
 clear h
 have hr' : (!(l1.any fun v => !okN a0_0 v)) = r := by
  rw [← hr, List.not_any_eq_all_not]
  congr 1
  funext v
  simp
 have hcall := slices_ContainsFunc_int_int.calls (fun v => !okN a0_0 v) 131 #[.pointer (some ⟨w.heap.size, 0, none⟩)] (enters_of Try.func131 (by kernel_rfl) rfl) A1 c1 l1 (w.alloc (.cells #[.int .i64 a0_0, .slice A0_1 l0_1.length c0_1] 38)) (Kd.C_below hr1 (below_alloc (Below.refl _ _) _)) hc1
  (fun W x _ hB => has_closure x a0_0 w.heap.size (.slice A0_1 l0_1.length c0_1) W hn hn2 ((hB.block w.heap.size (by simp)).trans (heap_alloc_new w _)))
 have HN := Aside0.mk hn
 have HR := Aside0.mk hr'
 clear hr1 hr hr' hn hn2
 generalize l1.any (fun v => !okN a0_0 v) = b at hcall HR
 go_enter Try.func112, Try.ntmps112
 go_wp2_with (go_at_call 117; refine hcall.mono ?_; rintro e w' ⟨rfl, hb'⟩)
 go_ret
 exact ⟨by rw [← HR.out]; rfl, below_then (below_alloc (Below.refl _ _) _) (by simp) hb'⟩
end Go.Proofs.Ytmabopomecdidaa.Pr
end
