/- For the statement FnRingLong of this seat: it is proved here, with no further conditions (part 6 of its texts: words, walks of the functions, the plain law, the row). -/
import Derived.Test.YtmabopomecdidaaKFnRingLong4
section
namespace Go.Proofs.Ytmabopomecdidaa.Pr
open Go.RowKit Go.Proofs.YtmabopomecdidaaW.PrintWords Go.Proofs.YtmabopomecdidaaW.PrintLast Go.Proofs.YtmabopomecdidaaW.PrintMore
attribute [local go_sem] max2_int min2_int max_two min_two max_three min_three max_four min_four
set_option linter.unusedVariables false
set_option linter.unusedSimpArgs false
abbrev Y31 := true
abbrev N31 := false
def spec_l30AnyNet.f (k : Nat) (s0_0 : List Int) (s0_1 : Int) : Option (Int × (List (S45)) × Int) := (spec_l30Net.f k s0_0 s0_1).bind fun bt239 => (if (bt239.2.1.length : Int) > 0 then ((spec_l30Rd_pick.f k s0_0 bt239.2.2 (bt239.2.1.length : Int)).bind fun bt245 => ((spec_l30Rd_pick.f k s0_0 bt245.2 16).bind fun bt247 => (if bt247.1 = 0 then (if 0 ≤ bt245.1 then (if bt245.1 < (bt239.2.1.length : Int) then ((spec_l30Rd_one.f k s0_0 bt247.2 (([(-1), 8, (rd_T45 bt239.2.1 bt245.1).f0] : List Int))).bind fun bt253 => (some (bt239.1, (bt239.2.1.set (bt245.1 : Int).toNat (⟨(rd_T45 bt239.2.1 bt245.1).f0, bt253.1, (rd_T45 bt239.2.1 bt245.1).f2, (rd_T45 bt239.2.1 bt245.1).f3, (rd_T45 bt239.2.1 bt245.1).f4⟩ : S45)), bt253.2))) else (none)) else (none)) else (if bt247.1 = 1 then ((spec_l30Rd_one.f k s0_0 bt247.2 (([(-1), 100] : List Int))).bind fun bt259 => (if 0 ≤ bt245.1 then (if bt245.1 < (bt239.2.1.length : Int) then (some (bt239.1, (bt239.2.1.set (bt245.1 : Int).toNat (⟨(rd_T45 bt239.2.1 bt245.1).f0, (rd_T45 bt239.2.1 bt245.1).f1, bt259.1, (rd_T45 bt239.2.1 bt245.1).f3, (rd_T45 bt239.2.1 bt245.1).f4⟩ : S45)), bt259.2)) else (none)) else (none))) else (if bt247.1 = 2 then ((spec_l30Rd_one.f k s0_0 bt247.2 (([0, 1, 9, 8] : List Int))).bind fun bt265 => (some (bt265.1, bt239.2.1, bt265.2))) else (some (bt239.1, bt239.2.1, bt247.2))))))) else (some (bt239.1, bt239.2.1, bt239.2.2)))
def spec_l30AnyNet.T6 : Bool × List (List Nat × List Nat) := (true, [([], []), ([0], [0]), ([], []), ([], []), ([], []), ([4], [4]), ([], []), ([5, 6], [5, 6]), ([7], [7]), ([8], [8]), ([9], [9]), ([3, 10], [3, 10]), ([1, 2, 0, 1, 2, 3, 4, 5, 6, 7, 8, 9, 10, 11], [1, 2]), ([12, 0, 1, 2, 3, 4, 5, 6, 7, 8, 9, 10, 11], [12]), ([13, 11, 11, 0, 1, 2, 3, 4, 5, 6, 7, 8, 9, 10, 11], [11, 13])])
def spec_l30AnyNet.B6 : List Nat := [0, 1, 0, 0, 0, 16, 0, 112, 240, 496, 1008, 2040, 4095, 8191, 16383]
theorem spec_l30AnyNet.tab6 : rtab .any (opsOf Try.f72 6) = spec_l30AnyNet.T6 := by kernel_rfl
theorem spec_l30AnyNet.bits6 : waitsOk spec_l30AnyNet.T6.2 spec_l30AnyNet.B6 = true := by kernel_rfl
def spec_l30AnyNet.T8 : Bool × List (List Nat × List Nat) := (true, [([], []), ([0], [0]), ([], []), ([], []), ([], []), ([3, 4], [3, 4]), ([1, 2, 0, 1, 2, 3, 4, 5], [1, 2]), ([6, 0, 1, 2, 3, 4, 5], [6]), ([7, 5, 5, 0, 1, 2, 3, 4, 5], [5, 7])])
def spec_l30AnyNet.B8 : List Nat := [0, 1, 0, 0, 0, 24, 63, 127, 255]
theorem spec_l30AnyNet.tab8 : rtab .any (opsOf Try.f72 8) = spec_l30AnyNet.T8 := by kernel_rfl
theorem spec_l30AnyNet.bits8 : waitsOk spec_l30AnyNet.T8.2 spec_l30AnyNet.B8 = true := by kernel_rfl
set_option maxHeartbeats 8000000 in
set_option maxRecDepth 100000 in
theorem spec_l30AnyNet.calls (k : Nat) (g : Nat) (s0_0 : List Int) (s0_1 : Int) (r1 : Int) (r2 : List (S45)) (r3 : Int) (w0 w : World) (hI : IsS112 w0 w g s0_0 s0_1) (hB : Below w0.heap.size w0 w) (h : spec_l30AnyNet.f k s0_0 s0_1 = some (r1, r2, r3)) :
  Calls Try.prog 72 #[.pointer (some ⟨g, 0, none⟩)] w fun e w' => ∃ v1_ : Value, e = .returned (.agg #[.int .i64 r1, v1_]) ∧ Kd.R k45 45 w' w.heap.size (fun _ => True) v1_ r2 ∧ IsS112 w0 w' g s0_0 r3 ∧ Below w0.heap.size w0 w' ∧ KeepBut w w' g none := by
 have hu38 := Try.underlying38
 have HI0 := Aside0.mk hI
 have HK := Aside0.mk (KeepBut.refl w g none)
 have HL := Aside0.mk hB.size
 clear hI
 have HW0 := Aside0.mk hB.size
 have HB := Aside0.mk hB
 clear hB
 have H : ((spec_l30Net.f k s0_0 s0_1).bind fun bt239 => (if (bt239.2.1.length : Int) > 0 then ((spec_l30Rd_pick.f k s0_0 bt239.2.2 (bt239.2.1.length : Int)).bind fun bt245 => ((spec_l30Rd_pick.f k s0_0 bt245.2 16).bind fun bt247 => (if bt247.1 = 0 then (if 0 ≤ bt245.1 then (if bt245.1 < (bt239.2.1.length : Int) then ((spec_l30Rd_one.f k s0_0 bt247.2 (([(-1), 8, (rd_T45 bt239.2.1 bt245.1).f0] : List Int))).bind fun bt253 => (some (bt239.1, (bt239.2.1.set (bt245.1 : Int).toNat (⟨(rd_T45 bt239.2.1 bt245.1).f0, bt253.1, (rd_T45 bt239.2.1 bt245.1).f2, (rd_T45 bt239.2.1 bt245.1).f3, (rd_T45 bt239.2.1 bt245.1).f4⟩ : S45)), bt253.2))) else (none)) else (none)) else (if bt247.1 = 1 then ((spec_l30Rd_one.f k s0_0 bt247.2 (([(-1), 100] : List Int))).bind fun bt259 => (if 0 ≤ bt245.1 then (if bt245.1 < (bt239.2.1.length : Int) then (some (bt239.1, (bt239.2.1.set (bt245.1 : Int).toNat (⟨(rd_T45 bt239.2.1 bt245.1).f0, (rd_T45 bt239.2.1 bt245.1).f1, bt259.1, (rd_T45 bt239.2.1 bt245.1).f3, (rd_T45 bt239.2.1 bt245.1).f4⟩ : S45)), bt259.2)) else (none)) else (none))) else (if bt247.1 = 2 then ((spec_l30Rd_one.f k s0_0 bt247.2 (([0, 1, 9, 8] : List Int))).bind fun bt265 => (some (bt265.1, bt239.2.1, bt265.2))) else (some (bt239.1, bt239.2.1, bt247.2))))))) else (some (bt239.1, bt239.2.1, bt239.2.2)))) = some (r1, r2, r3) := h
 clear h
 replace H := Option.bind_eq_some_iff.mp H
 obtain ⟨⟨t239, t240, t243⟩, A20, H⟩ := H
 replace H : (if (t240.length : Int) > 0 then ((spec_l30Rd_pick.f k s0_0 t243 (t240.length : Int)).bind fun bt245 => ((spec_l30Rd_pick.f k s0_0 bt245.2 16).bind fun bt247 => (if bt247.1 = 0 then (if 0 ≤ bt245.1 then (if bt245.1 < (t240.length : Int) then ((spec_l30Rd_one.f k s0_0 bt247.2 (([(-1), 8, (rd_T45 t240 bt245.1).f0] : List Int))).bind fun bt253 => (some (t239, (t240.set (bt245.1 : Int).toNat (⟨(rd_T45 t240 bt245.1).f0, bt253.1, (rd_T45 t240 bt245.1).f2, (rd_T45 t240 bt245.1).f3, (rd_T45 t240 bt245.1).f4⟩ : S45)), bt253.2))) else (none)) else (none)) else (if bt247.1 = 1 then ((spec_l30Rd_one.f k s0_0 bt247.2 (([(-1), 100] : List Int))).bind fun bt259 => (if 0 ≤ bt245.1 then (if bt245.1 < (t240.length : Int) then (some (t239, (t240.set (bt245.1 : Int).toNat (⟨(rd_T45 t240 bt245.1).f0, (rd_T45 t240 bt245.1).f1, bt259.1, (rd_T45 t240 bt245.1).f3, (rd_T45 t240 bt245.1).f4⟩ : S45)), bt259.2)) else (none)) else (none))) else (if bt247.1 = 2 then ((spec_l30Rd_one.f k s0_0 bt247.2 (([0, 1, 9, 8] : List Int))).bind fun bt265 => (some (bt265.1, t240, bt265.2))) else (some (t239, t240, bt247.2))))))) else (some (t239, t240, t243))) = some (r1, r2, r3) := H
 have A2 := Aside0.mk A20
 clear A20
 by_cases c3 : (t240.length : Int) > 0
 ·rw [if_pos c3] at H
  have c3b0 : decide (0 < (t240.length : Int)) = true := decide_eq_true c3
  have c3b1 : decide (0 < t240.length) = true := decide_eq_true (by omega)
  clear c3
  replace H := Option.bind_eq_some_iff.mp H
  obtain ⟨⟨t245, t246⟩, A40, H⟩ := H
  replace H : ((spec_l30Rd_pick.f k s0_0 t246 16).bind fun bt247 => (if bt247.1 = 0 then (if 0 ≤ t245 then (if t245 < (t240.length : Int) then ((spec_l30Rd_one.f k s0_0 bt247.2 (([(-1), 8, (rd_T45 t240 t245).f0] : List Int))).bind fun bt253 => (some (t239, (t240.set (t245 : Int).toNat (⟨(rd_T45 t240 t245).f0, bt253.1, (rd_T45 t240 t245).f2, (rd_T45 t240 t245).f3, (rd_T45 t240 t245).f4⟩ : S45)), bt253.2))) else (none)) else (none)) else (if bt247.1 = 1 then ((spec_l30Rd_one.f k s0_0 bt247.2 (([(-1), 100] : List Int))).bind fun bt259 => (if 0 ≤ t245 then (if t245 < (t240.length : Int) then (some (t239, (t240.set (t245 : Int).toNat (⟨(rd_T45 t240 t245).f0, (rd_T45 t240 t245).f1, bt259.1, (rd_T45 t240 t245).f3, (rd_T45 t240 t245).f4⟩ : S45)), bt259.2)) else (none)) else (none))) else (if bt247.1 = 2 then ((spec_l30Rd_one.f k s0_0 bt247.2 (([0, 1, 9, 8] : List Int))).bind fun bt265 => (some (bt265.1, t240, bt265.2))) else (some (t239, t240, bt247.2)))))) = some (r1, r2, r3) := H
  have A4 := Aside0.mk A40
  clear A40
  replace H := Option.bind_eq_some_iff.mp H
  obtain ⟨⟨t247, t248⟩, A50, H⟩ := H
  replace H : (if t247 = 0 then (if 0 ≤ t245 then (if t245 < (t240.length : Int) then ((spec_l30Rd_one.f k s0_0 t248 (([(-1), 8, (rd_T45 t240 t245).f0] : List Int))).bind fun bt253 => (some (t239, (t240.set (t245 : Int).toNat (⟨(rd_T45 t240 t245).f0, bt253.1, (rd_T45 t240 t245).f2, (rd_T45 t240 t245).f3, (rd_T45 t240 t245).f4⟩ : S45)), bt253.2))) else (none)) else (none)) else (if t247 = 1 then ((spec_l30Rd_one.f k s0_0 t248 (([(-1), 100] : List Int))).bind fun bt259 => (if 0 ≤ t245 then (if t245 < (t240.length : Int) then (some (t239, (t240.set (t245 : Int).toNat (⟨(rd_T45 t240 t245).f0, (rd_T45 t240 t245).f1, bt259.1, (rd_T45 t240 t245).f3, (rd_T45 t240 t245).f4⟩ : S45)), bt259.2)) else (none)) else (none))) else (if t247 = 2 then ((spec_l30Rd_one.f k s0_0 t248 (([0, 1, 9, 8] : List Int))).bind fun bt265 => (some (bt265.1, t240, bt265.2))) else (some (t239, t240, t248))))) = some (r1, r2, r3) := H
  have A5 := Aside0.mk A50
  clear A50
  by_cases c6 : t247 = 0
  ·rw [if_pos c6] at H
   have c6b0 : (t247 == 0) = true := beq_iff_eq.mpr c6
   have c6b1 : (t247 != 0) = false := bne_eq_false_iff_eq.mpr c6
   clear c6
   by_cases c7 : 0 ≤ t245
   ·rw [if_pos c7] at H
    have c7b0 : decide (0 ≤ t245) = true := decide_eq_true c7
    clear c7
    by_cases c8 : t245 < (t240.length : Int)
    ·rw [if_pos c8] at H
     have c8b0 : decide (t245 < (t240.length : Int)) = true := decide_eq_true c8
     clear c8
     obtain ⟨y250, hy250⟩ : ∃ y_ : List Int, y_ = (([(-1), 8, (rd_T45 t240 t245).f0] : List Int)) := ⟨_, rfl⟩
     replace H : ((spec_l30Rd_one.f k s0_0 t248 y250).bind fun bt253 => (some (t239, (t240.set (t245 : Int).toNat (⟨(rd_T45 t240 t245).f0, bt253.1, (rd_T45 t240 t245).f2, (rd_T45 t240 t245).f3, (rd_T45 t240 t245).f4⟩ : S45)), bt253.2))) = some (r1, r2, r3) := by first | (rw [hy250]; with_reducible exact H) | (have H2_ := (Option.bind_some _ _).symm.trans H; rw [hy250]; with_reducible exact H2_) | (have H2_ := (Option.bind_some _ _).symm.trans H; with_reducible exact H2_) | with_reducible exact H | (rw [hy250]; exact H) | exact H
     have Ny250 := Aside0.mk hy250
     clear hy250
     replace H := Option.bind_eq_some_iff.mp H
     obtain ⟨⟨t253, t254⟩, A90, H⟩ := H
     replace H : (some (t239, (t240.set (t245 : Int).toNat (⟨(rd_T45 t240 t245).f0, t253, (rd_T45 t240 t245).f2, (rd_T45 t240 t245).f3, (rd_T45 t240 t245).f4⟩ : S45)), t254)) = some (r1, r2, r3) := H
     have A9 := Aside0.mk A90
     clear A90
     obtain ⟨y255, hy255⟩ : ∃ y_ : List (S45), y_ = (t240.set (t245 : Int).toNat (⟨(rd_T45 t240 t245).f0, t253, (rd_T45 t240 t245).f2, (rd_T45 t240 t245).f3, (rd_T45 t240 t245).f4⟩ : S45)) := ⟨_, rfl⟩
     replace H : (some (t239, y255, t254)) = some (r1, r2, r3) := by first | (rw [hy255]; with_reducible exact H) | (have H2_ := (Option.bind_some _ _).symm.trans H; rw [hy255]; with_reducible exact H2_) | (have H2_ := (Option.bind_some _ _).symm.trans H; with_reducible exact H2_) | with_reducible exact H | (rw [hy255]; exact H) | exact H
     have Ny255 := Aside0.mk hy255
     clear hy255
     simp only [Option.some.injEq, Prod.mk.injEq] at H
     obtain ⟨rfl, rfl, rfl⟩ := H
     go_enter Try.func72, Try.ntmps72
     try go_wp2_with (first | ((with_reducible refine gate_dst (N := 2) rfl ?_); refine box_event ?hg (N := 2) ?hd (cs := #[.int .i64 0, .slice none 0 0]) (t := 38) ?hr ?_; (case hd => rfl); (case hg => rfl); (case hr => first | (go_simp; done) | (go_simp; rfl)); intro p2 hg w11 hbox hb; have n0_ := Aside0.mk (IsS112.below HI0.out hb); have n1_ := Aside0.mk (KeepBut.trans HK.out (KeepBut.of_below hb g none) (.inl rfl)); have n2_ := Aside0.mk (below_step HB.out hb); have n3_ := Aside0.mk (hbox); have n4_ := Aside0.mk ((by rw [hg]; exact (keep_size (w := w) (g := g) (row := none) HK.out) : w.heap.size ≤ p2)); have n5_ := Aside0.mk ((Nat.le_trans HW0.out (by rw [hg]; exact (keep_size (w := w) (g := g) (row := none) HK.out) : w.heap.size ≤ p2) : w0.heap.size ≤ p2)); have n6_ := Aside0.mk ((by rw [hg]; exact Nat.ne_of_lt (IsS112.lt (show IsS112 w0 _ g s0_0 s0_1 from by repeat (first | (with_reducible first | exact HI0.out | apply IsS112.alloc | apply IsS112.drewN | apply IsS112.drew | apply IsS112.set_1) | exact HI0.out))) : g ≠ p2)); have n7_ := Aside0.mk ((by rw [hg]; exact Nat.ne_of_gt (IsS112.lt (show IsS112 w0 _ g s0_0 s0_1 from by repeat (first | (with_reducible first | exact HI0.out | apply IsS112.alloc | apply IsS112.drewN | apply IsS112.drew | apply IsS112.set_1) | exact HI0.out))) : p2 ≠ g)); clear HI0; clear HK; clear HB; have HI0 := n0_; have HK := n1_; have HB := n2_; have p0 := n3_; have q0 := n4_; have q1 := n5_; have p4 := n6_; have p7 := n7_; clear n0_ n1_ n2_ n3_ n4_ n5_ n6_ n7_; clear hb hbox hg) | ((with_reducible refine gate_callee (f := 115) rfl ?_); refine goesL_ (some 6) rfl rfl Try.func115 (by kernel_rfl) rfl #[.pointer (some ⟨g, 0, none⟩)] rfl (by (try simp only [List.map_toArray, List.map_cons, List.map_nil]); first | done | rfl | (simp only [List.length_drop, List.length_take]; rfl)) ?_; (with_reducible refine (spec_l30Net.calls k g s0_0 s0_1 t239 t240 t243 w0 _ ?side1 ?side2 A2.out).mono ?_); (case side1 => exact HI0.out); (case side2 => exact HB.out); rintro e w12 ⟨v241, rfl, ho0, hi, hb, hk⟩; refine ⟨_, rfl, ?_⟩; have n0_ := Aside0.mk (KeepBut.blk hk (g' := p2) (o := .cells #[.int .i64 0, .slice none 0 0] 38 (0, 0)) p0.out p7.out (by simp)); have n1_ := Aside0.mk (Kd.R_lower ho0 (keep_size (w := w) (g := g) (row := none) HK.out)); have n2_ := Aside0.mk (KeepBut.trans HK.out hk (.inl rfl)); have n3_ := Aside0.mk (hb); have n4_ := Aside0.mk (hi); clear p0; clear HK; clear HB; clear HI0; have p0 := n0_; have HO242 := n1_; have HK := n2_; have HB := n3_; have HI0 := n4_; clear n0_ n1_ n2_ n3_ n4_; (try clear hb); (try clear hb2); (try clear hk); (try clear hi); (try clear ho0)) | ((with_reducible refine gate_dst (N := 3) rfl ?_); refine box_event ?hg (N := 3) ?hd (cs := #[.int .i64 0, .slice none 0 0]) (t := 38) ?hr ?_; (case hd => rfl); (case hg => rfl); (case hr => first | (go_simp; done) | (go_simp; rfl)); intro p3 hg w13 hbox hb; have n0_ := Aside0.mk (Kd.R_below HO242.out hb); have n1_ := Aside0.mk (IsS112.below HI0.out hb); have n2_ := Aside0.mk (blk_below (g := p2) (o := .cells #[.int .i64 0, .slice none 0 0] 38 (0, 0)) p0.out hb); have n3_ := Aside0.mk (KeepBut.trans HK.out (KeepBut.of_below hb g none) (.inl rfl)); have n4_ := Aside0.mk (below_step HB.out hb); have n5_ := Aside0.mk (hbox); have n6_ := Aside0.mk ((by rw [hg]; exact (keep_size (w := w) (g := g) (row := none) HK.out) : w.heap.size ≤ p3)); have n7_ := Aside0.mk ((Nat.le_trans HW0.out (by rw [hg]; exact (keep_size (w := w) (g := g) (row := none) HK.out) : w.heap.size ≤ p3) : w0.heap.size ≤ p3)); have n8_ := Aside0.mk ((by rw [hg]; exact Nat.ne_of_lt (blk_lt (g := p2) (o := .cells #[.int .i64 0, .slice none 0 0] 38 (0, 0)) p0.out) : p2 ≠ p3)); have n9_ := Aside0.mk ((by rw [hg]; exact Nat.ne_of_gt (blk_lt (g := p2) (o := .cells #[.int .i64 0, .slice none 0 0] 38 (0, 0)) p0.out) : p3 ≠ p2)); have n10_ := Aside0.mk ((by rw [hg]; exact Nat.ne_of_lt (IsS112.lt (show IsS112 w0 _ g s0_0 t243 from by repeat (first | (with_reducible first | exact HI0.out | apply IsS112.alloc | apply IsS112.drewN | apply IsS112.drew | apply IsS112.set_1 | refine IsS112.far ?_ p4.out _) | exact HI0.out))) : g ≠ p3)); have n11_ := Aside0.mk ((by rw [hg]; exact Nat.ne_of_gt (IsS112.lt (show IsS112 w0 _ g s0_0 t243 from by repeat (first | (with_reducible first | exact HI0.out | apply IsS112.alloc | apply IsS112.drewN | apply IsS112.drew | apply IsS112.set_1 | refine IsS112.far ?_ p4.out _) | exact HI0.out))) : p3 ≠ g)); clear HO242; clear HI0; clear p0; clear HK; clear HB; have HO242 := n0_; have HI0 := n1_; have p0 := n2_; have HK := n3_; have HB := n4_; have p1 := n5_; have q2 := n6_; have q3 := n7_; have p6 := n8_; have p9 := n9_; have p5 := n10_; have p8 := n11_; clear n0_ n1_ n2_ n3_ n4_ n5_ n6_ n7_ n8_ n9_ n10_ n11_; clear hb hbox hg; have hnb14 := p9.out; have hnc14 := p6.out; have hnb15 := p8.out; have hnc15 := p5.out; have hcz16_0 : w13.cell? ⟨p3, 0, none⟩ = some (.int .i64 0) := (blk_cell p1.out 0).trans rfl; have hcz16_1 : w13.cell? ⟨p3, 1, none⟩ = some (.slice none 0 0) := (blk_cell p1.out 1).trans rfl; have hfz16_0 := blk_frozen p1.out 0; have hfz16_1 := blk_frozen p1.out 1; obtain ⟨Ao17, co17, eo17⟩ := Kd.R_slice HO242.out; subst eo17) | ((with_reducible refine gate_callee (f := 74) rfl ?_); refine goesL_ (some 15) rfl rfl Try.func74 (by kernel_rfl) rfl #[.pointer (some ⟨g, 0, none⟩), .int .i64 (t240.length : Int)] rfl (by (try simp only [List.map_toArray, List.map_cons, List.map_nil]); first | done | rfl | (simp only [List.length_drop, List.length_take]; rfl)) ?_; (with_reducible refine (spec_l30Rd_pick.calls k g s0_0 t243 (t240.length : Int) t245 t246 w0 _ ?side1 ?side2 A4.out).mono ?_); (case side1 => repeat (first | (with_reducible first | exact HI0.out | apply IsS112.alloc | apply IsS112.drewN | apply IsS112.drew | apply IsS112.set_1 | refine IsS112.far ?_ p4.out _ | refine IsS112.far ?_ p5.out _) | exact HI0.out)); (case side2 => repeat (first | (with_reducible first | exact HB.out | apply below_alloc | apply pw_below_drewN | apply below_drew1 | refine below_set ?_ (IsS112.ge HI0.out) | refine below_set ?_ q1.out | refine below_set ?_ q3.out) | exact HB.out)); rintro e w18 ⟨rfl, hi, hb, hk⟩; refine ⟨_, rfl, ?_⟩; have n0_ := Aside0.mk (KeepBut.blk hk (g' := p2) (o := .cells #[.int .i64 0, .slice none 0 0] 38 (0, 0)) (by (with_reducible repeat (first | refine blk_drewN ?_ _ | refine blk_drew ?_ | refine blk_alloc ?_ _)); refine blk_far ?_ p6.out _; (with_reducible repeat (first | refine blk_drewN ?_ _ | refine blk_drew ?_ | refine blk_alloc ?_ _)); refine blk_far ?_ p6.out _; (with_reducible repeat (first | refine blk_drewN ?_ _ | refine blk_drew ?_ | refine blk_alloc ?_ _)); exact p0.out) p7.out (by simp)); have n1_ := Aside0.mk (Kd.R_mono (Kd.R_keep (IsS112.apart (show IsS112 w0 _ g s0_0 t243 from by repeat (first | (with_reducible first | exact HI0.out | apply IsS112.alloc | apply IsS112.drewN | apply IsS112.drew | apply IsS112.set_1 | refine IsS112.far ?_ p4.out _ | refine IsS112.far ?_ p5.out _) | exact HI0.out)) (Kd.R_mono (Kd.R_far (p := ⟨p3, 1, none⟩) (Kd.R_far (p := ⟨p3, 0, none⟩) (Kd.R_types HO242.out p1.out (by decide)) (fun _ hk => hk.2) (.int .i64 t239)) (fun _ hk => hk.2) (.slice Ao17 t240.length co17)) (fun _ h_ => h_.1)) (by decide)) hk (fun _ h => h.2)) (fun _ h => h.1)); have n2_ := Aside0.mk (KeepBut.blk hk (g' := p3) (o := .cells #[.int .i64 t239, .slice Ao17 t240.length co17] 38 (0, 0)) (by (with_reducible repeat (first | refine blk_drewN ?_ _ | refine blk_drew ?_ | refine blk_alloc ?_ _)); refine blk_put (cs := #[.int .i64 t239, .slice none 0 0]) ?_ 1 _ rfl; (with_reducible repeat (first | refine blk_drewN ?_ _ | refine blk_drew ?_ | refine blk_alloc ?_ _)); refine blk_put (cs := #[.int .i64 0, .slice none 0 0]) ?_ 0 _ rfl; (with_reducible repeat (first | refine blk_drewN ?_ _ | refine blk_drew ?_ | refine blk_alloc ?_ _)); exact p1.out) p8.out (by simp)); have n3_ := Aside0.mk (KeepBut.trans (by repeat (first | (with_reducible first | exact HK.out | apply KeepBut.set_ | apply keep_drewN | apply keep_drew | apply keep_alloc | refine keep_far ?_ q0.out _ | refine keep_far ?_ q2.out _) | exact HK.out)) hk (.inl rfl)); have n4_ := Aside0.mk (hb); have n5_ := Aside0.mk (hi); clear p0; clear HO242; clear p1; clear HK; clear HB; clear HI0; have p0 := n0_; have HO242 := n1_; have p1 := n2_; have HK := n3_; have HB := n4_; have HI0 := n5_; clear n0_ n1_ n2_ n3_ n4_ n5_; (try clear hb); (try clear hb2); (try clear hk); (try clear hi)) | ((with_reducible refine gate_callee (f := 74) rfl ?_); refine goesL_ (some 17) rfl rfl Try.func74 (by kernel_rfl) rfl #[.pointer (some ⟨g, 0, none⟩), .int .i64 16] rfl (by (try simp only [List.map_toArray, List.map_cons, List.map_nil]); first | done | rfl | (simp only [List.length_drop, List.length_take]; rfl)) ?_; (with_reducible refine (spec_l30Rd_pick.calls k g s0_0 t246 16 t247 t248 w0 _ ?side1 ?side2 A5.out).mono ?_); (case side1 => exact HI0.out); (case side2 => exact HB.out); rintro e w19 ⟨rfl, hi, hb, hk⟩; refine ⟨_, rfl, ?_⟩; have n0_ := Aside0.mk (KeepBut.blk hk (g' := p2) (o := .cells #[.int .i64 0, .slice none 0 0] 38 (0, 0)) p0.out p7.out (by simp)); have n1_ := Aside0.mk (Kd.R_mono (Kd.R_keep (IsS112.apart (show IsS112 w0 _ g s0_0 t246 from by repeat (first | (with_reducible first | exact HI0.out | apply IsS112.alloc | apply IsS112.drewN | apply IsS112.drew | apply IsS112.set_1 | refine IsS112.far ?_ p4.out _ | refine IsS112.far ?_ p5.out _) | exact HI0.out)) HO242.out (by decide)) hk (fun _ h => h.2)) (fun _ h => h.1)); have n2_ := Aside0.mk (KeepBut.blk hk (g' := p3) (o := .cells #[.int .i64 t239, .slice Ao17 t240.length co17] 38 (0, 0)) p1.out p8.out (by simp)); have n3_ := Aside0.mk (KeepBut.trans HK.out hk (.inl rfl)); have n4_ := Aside0.mk (hb); have n5_ := Aside0.mk (hi); clear p0; clear HO242; clear p1; clear HK; clear HB; clear HI0; have p0 := n0_; have HO242 := n1_; have p1 := n2_; have HK := n3_; have HB := n4_; have HI0 := n5_; clear n0_ n1_ n2_ n3_ n4_ n5_; (try clear hb); (try clear hb2); (try clear hk); (try clear hi)))
     have n0_ := Aside0.mk (Kd.R_drew HO242.out)
     have n1_ := Aside0.mk (blk_drew p0.out)
     have n2_ := Aside0.mk (blk_drew p1.out)
     have n3_ := Aside0.mk (IsS112.drew HI0.out)
     have n4_ := Aside0.mk (keep_drew HK.out)
     have n5_ := Aside0.mk (below_drew1 HB.out)
     clear HO242
     clear p0
     clear p1
     clear HI0
     clear HK
     clear HB
     have HO242 := n0_
     have p0 := n1_
     have p1 := n2_
     have HI0 := n3_
     have HK := n4_
     have HB := n5_
     clear n0_ n1_ n2_ n3_ n4_ n5_
     have p249 : 0 ≤ (t245 : Int) := of_decide_eq_true (by first | (with_reducible assumption) | assumption)
     have q249 : t245 < (t240.length : Int) := of_decide_eq_true (by first | (with_reducible assumption) | assumption)
     obtain ⟨q4, e249, q7, q8, q9, r0, r4⟩ := at_T45 (Kd.R_reads' HO242.out).2.2 t245 p249 q249
     cases e249
     replace p249 := eq_true p249
     replace q249 := eq_true q249
     refine start_ (n := 15) (S := fun w' => w'.cell? ⟨p3, 0, none⟩ = some (.int .i64 t239) ∧ w'.cell? ⟨p3, 1, none⟩ = some (.slice (some q4) t240.length co17) ∧ w'.cell? (q4.add ((t245).toNat * 5)) = some (.int .i64 ((rd_T45 t240 t245).f0)) ∧ w'.cell? ⟨(q4.add ((t245).toNat * 5)).block, (q4.add ((t245).toNat * 5)).off + 1, none⟩ = some (.int .i64 ((rd_T45 t240 t245).f1)) ∧ w'.cell? ⟨(q4.add ((t245).toNat * 5)).block, (q4.add ((t245).toNat * 5)).off + 2, none⟩ = some (.int .i64 ((rd_T45 t240 t245).f2)) ∧ w'.cell? ⟨(q4.add ((t245).toNat * 5)).block, (q4.add ((t245).toNat * 5)).off + 3, none⟩ = some (.int .i64 ((rd_T45 t240 t245).f3)) ∧ w'.cell? ⟨(q4.add ((t245).toNat * 5)).block, (q4.add ((t245).toNat * 5)).off + 4, none⟩ = some (.int .i64 ((rd_T45 t240 t245).f4))) (ds := [14]) #[N31,N31,N31,N31,N31,N31,N31,N31,N31,N31,N31,N31,N31,N31,N31] (by kernel_rfl) rfl rfl ⟨(blk_cell p1.out 0).trans rfl, (blk_cell p1.out 1).trans rfl, q7, q8, q9, r0, r4⟩ (fun hHeld => ?_); refine with_tabW spec_l30AnyNet.tab6 spec_l30AnyNet.bits6 (fun HT_ HW_ => ?_)
     generalize w19.drew = w20 at HO242 p0 p1 HI0 HK HB q7 q8 q9 r0 r4 hHeld ⊢
     refine pure_ (i := 0) (N := some 20) (v := ?_) (a' := ?_) #[Y31,N31,N31,N31,N31,N31,N31,N31,N31,N31,N31,N31,N31,N31,N31] rfl rfl (any_of HT_.out (by kernel_rfl)) (fun _ _ _ h => h) (Or.inl ⟨by rfl, ?_⟩) ?_ ?_
     rotate_left
     ·intro w'
      go_simp
      with_reducible rfl
     rotate_left
     ·simp only [Act.put, List.setIfInBounds_toArray, List.set_cons_zero, List.set_cons_succ, i64_w, i32_w]
      rfl
     refine pure_ (i := 2) (N := some 22) (v := ?_) (a' := ?_) #[Y31,N31,Y31,N31,N31,N31,N31,N31,N31,N31,N31,N31,N31,N31,N31] rfl rfl (any_of HT_.out (by kernel_rfl)) (fun _ _ _ h => h) (Or.inl ⟨by rfl, ?_⟩) ?_ ?_
     rotate_left
     ·intro w'
      go_simp
      with_reducible rfl
     rotate_left
     ·simp only [Act.put, List.setIfInBounds_toArray, List.set_cons_zero, List.set_cons_succ, i64_w, i32_w]
      rfl
     refine pure_ (i := 3) (N := some 23) (v := ?_) (a' := ?_) #[Y31,N31,Y31,Y31,N31,N31,N31,N31,N31,N31,N31,N31,N31,N31,N31] rfl rfl (any_of HT_.out (by kernel_rfl)) (fun _ _ _ h => h) (Or.inl ⟨by rfl, ?_⟩) ?_ ?_
     rotate_left
     ·intro w'
      go_simp
      with_reducible rfl
     rotate_left
     ·simp only [Act.put, List.setIfInBounds_toArray, List.set_cons_zero, List.set_cons_succ, i64_w, i32_w]
      rfl
     refine pure_ (i := 4) (N := some 24) (v := ?_) (a' := ?_) #[Y31,N31,Y31,Y31,Y31,N31,N31,N31,N31,N31,N31,N31,N31,N31,N31] rfl rfl (any_of HT_.out (by kernel_rfl)) (fun _ _ _ h => h) (Or.inl ⟨by rfl, ?_⟩) ?_ ?_
     rotate_left
     ·intro w'
      go_simp
      with_reducible rfl
     rotate_left
     ·simp only [Act.put, List.setIfInBounds_toArray, List.set_cons_zero, List.set_cons_succ, i64_w, i32_w]
      rfl
     refine pure_ (i := 6) (N := some 26) (v := ?_) (a' := ?_) #[Y31,N31,Y31,Y31,Y31,N31,Y31,N31,N31,N31,N31,N31,N31,N31,N31] rfl rfl (any_of HT_.out (by kernel_rfl)) (fun _ _ _ h => h) (Or.inl ⟨by rfl, ?_⟩) ?_ ?_
     rotate_left
     ·intro w'
      go_simp
      with_reducible rfl
     rotate_left
     ·simp only [Act.put, List.setIfInBounds_toArray, List.set_cons_zero, List.set_cons_succ, i64_w, i32_w]
      rfl
     refine take_ (i := 1) (N := some 21) (v := ?_) (a' := ?_) #[Y31,Y31,Y31,Y31,Y31,N31,Y31,N31,N31,N31,N31,N31,N31,N31,N31] rfl rfl (take_ofW HT_.out HW_.out (by kernel_rfl)) (fun _ _ _ h => h) (Or.inl ⟨by rfl, ?_⟩) hHeld ?_ ?_
     rotate_left
     ·rintro w' ⟨s0, s1, s2, s3, s4, s5, s6⟩
      go_simp
      with_reducible rfl
     rotate_left
     ·simp only [Act.put, List.setIfInBounds_toArray, List.set_cons_zero, List.set_cons_succ, i64_w, i32_w]
      rfl
     refine take_ (i := 5) (N := some 25) (v := ?_) (a' := ?_) #[Y31,Y31,Y31,Y31,Y31,Y31,Y31,N31,N31,N31,N31,N31,N31,N31,N31] rfl rfl (take_ofW HT_.out HW_.out (by kernel_rfl)) (fun _ _ _ h => h) (Or.inl ⟨by rfl, ?_⟩) hHeld ?_ ?_
     rotate_left
     ·rintro w' ⟨s0, s1, s2, s3, s4, s5, s6⟩
      go_simp
      with_reducible rfl
     rotate_left
     ·simp only [Act.put, List.setIfInBounds_toArray, List.set_cons_zero, List.set_cons_succ, i64_w, i32_w]
      rfl
     refine pure_ (i := 7) (N := some 27) (v := ?_) (a' := ?_) #[Y31,Y31,Y31,Y31,Y31,Y31,Y31,Y31,N31,N31,N31,N31,N31,N31,N31] rfl rfl (any_of HT_.out (by kernel_rfl)) (fun _ _ _ h => h) (Or.inl ⟨by rfl, ?_⟩) ?_ ?_
     rotate_left
     ·intro w'
      go_simp
      with_reducible rfl
     rotate_left
     ·simp only [Act.put, List.setIfInBounds_toArray, List.set_cons_zero, List.set_cons_succ, i64_w, i32_w]
      rfl
     refine pure_ (i := 8) (N := some 28) (v := ?_) (a' := ?_) #[Y31,Y31,Y31,Y31,Y31,Y31,Y31,Y31,Y31,N31,N31,N31,N31,N31,N31] rfl rfl (any_of HT_.out (by kernel_rfl)) (fun _ _ _ h => h) (Or.inl ⟨by rfl, ?_⟩) ?_ ?_
     rotate_left
     ·intro w'
      go_simp
      with_reducible rfl
     rotate_left
     ·simp only [Act.put, List.setIfInBounds_toArray, List.set_cons_zero, List.set_cons_succ, i64_w, i32_w]
      rfl
     refine take_ (i := 9) (N := some 29) (v := ?_) (a' := ?_) #[Y31,Y31,Y31,Y31,Y31,Y31,Y31,Y31,Y31,Y31,N31,N31,N31,N31,N31] rfl rfl (take_ofW HT_.out HW_.out (by kernel_rfl)) (fun _ _ _ h => h) (Or.inl ⟨by rfl, ?_⟩) hHeld ?_ ?_
     rotate_left
     ·rintro w' ⟨s0, s1, s2, s3, s4, s5, s6⟩
      go_simp
      with_reducible rfl
     rotate_left
     ·simp only [Act.put, List.setIfInBounds_toArray, List.set_cons_zero, List.set_cons_succ, i64_w, i32_w]
      rfl
     refine one_ (i := 10) (N := some 30) #[Y31,Y31,Y31,Y31,Y31,Y31,Y31,Y31,Y31,Y31,Y31,N31,N31,N31,N31] rfl rfl (one_of HT_.out (by kernel_rfl)) (by decide) (fun K hK => ?_)
     refine Kd.R_lit_step (Kd.int .i64) _ 3 ?hg (N := 30) ?hd (xs := ([(-1), 8, (rd_T45 t240 t245).f0] : List Int)) (inner := [.int .i64 (-1), .int .i64 8, .int .i64 ((rd_T45 t240 t245).f0)]) (ok := fun _ => True) (okp := fun _ => True) ?hr ?hp (fun _ hk => hk) trivial (Below.refl _ _) (Nat.le_refl _) (by simp) ?_; (case hd => rfl); (case hg => rfl); (case hr => first | (go_simp; done) | (go_simp; rfl)); (case hp => exact (Reps.one (show Kd.M (Kd.int .i64) _ _ _ (-1) [.int .i64 (-1)] from rfl) (Reps.one (show Kd.M (Kd.int .i64) _ _ _ 8 [.int .i64 8] from rfl) (Reps.one (show Kd.M (Kd.int .i64) _ _ _ ((rd_T45 t240 t245).f0) [.int .i64 ((rd_T45 t240 t245).f0)] from rfl) (Reps.none _ _)))))
     intro v251 w21 ho22 hb hg_ hnew_
     have HS2_ := (hb.cell (World.block_lt_of_cell? _ _ (hHeld.2.2.1))).trans (hHeld.2.2.1)
     have HS3_ := (hb.cell (World.block_lt_of_cell? _ _ (hHeld.2.2.2.1))).trans (hHeld.2.2.2.1)
     have HS4_ := (hb.cell (World.block_lt_of_cell? _ _ (hHeld.2.2.2.2.1))).trans (hHeld.2.2.2.2.1)
     have HS5_ := (hb.cell (World.block_lt_of_cell? _ _ (hHeld.2.2.2.2.2.1))).trans (hHeld.2.2.2.2.2.1)
     have HS6_ := (hb.cell (World.block_lt_of_cell? _ _ (hHeld.2.2.2.2.2.2))).trans (hHeld.2.2.2.2.2.2)
     clear hg_ hnew_
     (first | rw [← Ny250.out] at ho22 | (simp only [Int.reduceToNat] at ho22; rw [← Ny250.out] at ho22))
     have n0_ := Aside0.mk (Kd.R_below HO242.out hb)
     have n1_ := Aside0.mk (Kd.R_lower ho22 (keep_size (w := w) (g := g) (row := none) HK.out))
     have n2_ := Aside0.mk (IsS112.below HI0.out hb)
     have n3_ := Aside0.mk (blk_below (g := p2) (o := .cells #[.int .i64 0, .slice none 0 0] 38 (0, 0)) p0.out hb)
     have n4_ := Aside0.mk (blk_below (g := p3) (o := .cells #[.int .i64 t239, .slice (some q4) t240.length co17] 38 (0, 0)) p1.out hb)
     have n5_ := Aside0.mk (KeepBut.trans HK.out (KeepBut.of_below hb g none) (.inl rfl))
     have n6_ := Aside0.mk (below_step HB.out hb)
     clear HO242
     clear HI0
     clear p0
     clear p1
     clear HK
     clear HB
     have HO242 := n0_
     have HO252 := n1_
     have HI0 := n2_
     have p0 := n3_
     have p1 := n4_
     have HK := n5_
     have HB := n6_
     clear n0_ n1_ n2_ n3_ n4_ n5_ n6_
     clear hb ho22
     obtain ⟨Ao23, co23, eo23⟩ := Kd.R_slice HO252.out
     (first | subst eo23 | (injection eo23 with f1_ f2_ f3_; have f4_ := f1_.symm; have f5_ := f3_.symm; clear f1_ f2_ f3_; subst f4_; subst f5_))
     refine hK.out _ _ ⟨(blk_cell p1.out 0).trans rfl, (blk_cell p1.out 1).trans rfl, HS2_, HS3_, HS4_, HS5_, HS6_⟩ (fun hHeld => ?_)
     clear hK K
     refine norm_ (a' := ?_) ?_ ?_
     rotate_left
     ·show Act.put _ (some 30) _ = _
      simp only [Act.put, List.setIfInBounds_toArray, List.set_cons_zero, List.set_cons_succ, i64_w, i32_w]
      rfl
     refine one_ (i := 11) (N := some 31) #[Y31,Y31,Y31,Y31,Y31,Y31,Y31,Y31,Y31,Y31,Y31,Y31,N31,N31,N31] rfl rfl (one_of HT_.out (by kernel_rfl)) (by decide) (fun K hK => ?_)
     refine goes_ Try.func75 (by kernel_rfl) rfl #[.pointer (some ⟨g, 0, none⟩), .slice Ao23 y250.length co23] (by rfl) rfl rfl (by (try simp only [List.map_toArray, List.map_cons, List.map_nil]); first | done | rfl | (simp only [List.length_drop, List.length_take]; rfl)) ?_
     with_reducible refine (spec_l30Rd_one.calls k g s0_0 t248 _ _ y250 t253 t254 w0 _ ?side1 ?side2 ?side3 ?side4 ?side5 A9.out).mono ?_
     (case side1 => exact HI0.out)
     (case side2 => exact HB.out)
     (case side3 => repeat (first | exact (Kd.R_reads' HO252.out).2.2 | (with_reducible refine Kd.C_alloc ?_ _) | (with_reducible refine Kd.C_drewN ?_ _) | (with_reducible refine Kd.C_drew ?_)))
     (case side4 => exact (Kd.R_reads' HO252.out).2.1)
     (case side5 => exact far_slice (IsS112.own_ne HI0.out HO252.out (by decide)))
     rintro e w24 ⟨rfl, hi, hb, hk⟩
     have HS2_ := keep_cell hk (hHeld.2.2.1) (by first | (rw [add_block]; exact Kd.own_blk (IsS112.own_ne HI0.out HO242.out (by decide))) | (show (Addr.add _ _).block ≠ _; rw [add_block]; exact Kd.own_blk (IsS112.own_ne HI0.out HO242.out (by decide))) | exact Kd.own_blk (IsS112.own_ne HI0.out HO242.out (by decide)))
     have HS3_ := keep_cell hk (hHeld.2.2.2.1) (by first | (rw [add_block]; exact Kd.own_blk (IsS112.own_ne HI0.out HO242.out (by decide))) | (show (Addr.add _ _).block ≠ _; rw [add_block]; exact Kd.own_blk (IsS112.own_ne HI0.out HO242.out (by decide))) | exact Kd.own_blk (IsS112.own_ne HI0.out HO242.out (by decide)))
     have HS4_ := keep_cell hk (hHeld.2.2.2.2.1) (by first | (rw [add_block]; exact Kd.own_blk (IsS112.own_ne HI0.out HO242.out (by decide))) | (show (Addr.add _ _).block ≠ _; rw [add_block]; exact Kd.own_blk (IsS112.own_ne HI0.out HO242.out (by decide))) | exact Kd.own_blk (IsS112.own_ne HI0.out HO242.out (by decide)))
     have HS5_ := keep_cell hk (hHeld.2.2.2.2.2.1) (by first | (rw [add_block]; exact Kd.own_blk (IsS112.own_ne HI0.out HO242.out (by decide))) | (show (Addr.add _ _).block ≠ _; rw [add_block]; exact Kd.own_blk (IsS112.own_ne HI0.out HO242.out (by decide))) | exact Kd.own_blk (IsS112.own_ne HI0.out HO242.out (by decide)))
     have HS6_ := keep_cell hk (hHeld.2.2.2.2.2.2) (by first | (rw [add_block]; exact Kd.own_blk (IsS112.own_ne HI0.out HO242.out (by decide))) | (show (Addr.add _ _).block ≠ _; rw [add_block]; exact Kd.own_blk (IsS112.own_ne HI0.out HO242.out (by decide))) | exact Kd.own_blk (IsS112.own_ne HI0.out HO242.out (by decide)))
     refine ⟨_, rfl, ?_⟩
     have n0_ := Aside0.mk (KeepBut.blk hk (g' := p2) (o := .cells #[.int .i64 0, .slice none 0 0] 38 (0, 0)) p0.out p7.out (by simp))
     have n1_ := Aside0.mk (Kd.R_mono (Kd.R_keep (IsS112.apart (show IsS112 w0 _ g s0_0 t248 from by repeat (first | (with_reducible first | exact HI0.out | apply IsS112.alloc | apply IsS112.drewN | apply IsS112.drew | apply IsS112.set_1 | refine IsS112.far ?_ p4.out _ | refine IsS112.far ?_ p5.out _) | exact HI0.out)) HO242.out (by decide)) hk (fun _ h => h.2)) (fun _ h => h.1))
     have n2_ := Aside0.mk (KeepBut.blk hk (g' := p3) (o := .cells #[.int .i64 t239, .slice (some q4) t240.length co17] 38 (0, 0)) p1.out p8.out (by simp))
     have n3_ := Aside0.mk (Kd.R_mono (Kd.R_keep (IsS112.apart (show IsS112 w0 _ g s0_0 t248 from by repeat (first | (with_reducible first | exact HI0.out | apply IsS112.alloc | apply IsS112.drewN | apply IsS112.drew | apply IsS112.set_1 | refine IsS112.far ?_ p4.out _ | refine IsS112.far ?_ p5.out _) | exact HI0.out)) HO252.out (by decide)) hk (fun _ h => h.2)) (fun _ h => h.1))
     have n4_ := Aside0.mk (KeepBut.trans HK.out hk (.inl rfl))
     have n5_ := Aside0.mk (hb)
     have n6_ := Aside0.mk (hi)
     clear p0
     clear HO242
     clear p1
     clear HO252
     clear HK
     clear HB
     clear HI0
     have p0 := n0_
     have HO242 := n1_
     have p1 := n2_
     have HO252 := n3_
     have HK := n4_
     have HB := n5_
     have HI0 := n6_
     clear n0_ n1_ n2_ n3_ n4_ n5_ n6_
     (try clear hb)
     (try clear hb2)
     (try clear hk)
     (try clear hi)
     have p10 : 0 ≤ (t245 : Int) := of_decide_eq_true (by first | (with_reducible assumption) | assumption)
     have q10 : (t245 : Int) < ((t240.length : Int) : Int) := of_decide_eq_true (by first | (with_reducible assumption) | assumption)
     obtain ⟨go10, co10, eo10, gb10, gl10, cl10, HG10⟩ := Kd.R_form HO242.out (by omega)
     (first | cases eo10 | (injection eo10 with ea_ en_ ec_; (first | subst ea_ | (injection ea_ with ea_; subst ea_)); subst ec_; clear en_))
     have GB10 := Aside0.mk gb10
     have GG10 := Aside0.mk HG10
     clear gb10 gl10 HG10
     (first | simp only [add_plain] at q7 | skip)
     (first | simp only [add_plain] at q8 | skip)
     (first | simp only [add_plain] at q9 | skip)
     (first | simp only [add_plain] at r0 | skip)
     (first | simp only [add_plain] at r4 | skip)
     obtain ⟨ce10, hcl10, hM10, q5, hfr10⟩ := Kd.R_elem HO242.out z45 (t245 : Int) p10 q10
     obtain rfl := k45_openM hM10
     have hx10_0 : World.cell? _ ⟨go10, (t245 : Int).toNat * 5, none⟩ = some (.int .i64 ((rd_T45 t240 t245).f0)) := q5 0 _ rfl
     have hx10_1 : World.cell? _ ⟨go10, (t245 : Int).toNat * 5 + 1, none⟩ = some (.int .i64 ((rd_T45 t240 t245).f1)) := q5 1 _ rfl
     have hx10_2 : World.cell? _ ⟨go10, (t245 : Int).toNat * 5 + 2, none⟩ = some (.int .i64 ((rd_T45 t240 t245).f2)) := q5 2 _ rfl
     have hx10_3 : World.cell? _ ⟨go10, (t245 : Int).toNat * 5 + 3, none⟩ = some (.int .i64 ((rd_T45 t240 t245).f3)) := q5 3 _ rfl
     have hx10_4 : World.cell? _ ⟨go10, (t245 : Int).toNat * 5 + 4, none⟩ = some (.int .i64 ((rd_T45 t240 t245).f4)) := q5 4 _ rfl
     have hf10_0 : World.frozen? _ ⟨go10, (t245 : Int).toNat * 5, none⟩ = false := hfr10 0
     have hf10_1 : World.frozen? _ ⟨go10, (t245 : Int).toNat * 5 + 1, none⟩ = false := hfr10 1
     have hf10_2 : World.frozen? _ ⟨go10, (t245 : Int).toNat * 5 + 2, none⟩ = false := hfr10 2
     have hf10_3 : World.frozen? _ ⟨go10, (t245 : Int).toNat * 5 + 3, none⟩ = false := hfr10 3
     have hf10_4 : World.frozen? _ ⟨go10, (t245 : Int).toNat * 5 + 4, none⟩ = false := hfr10 4
     clear hcl10 q5 hfr10; (try clear hM10)
     replace p10 := eq_true p10
     replace q10 := eq_true q10
     have HN0_go10 := Aside0.mk (show g ≠ go10 from by have h_ := IsS112.own_ne HI0.out HO242.out (by decide); intro e_; exact h_ (by rw [e_]; rfl))
     obtain ⟨ce25, hcl25, hM25, hcc25, hfr25⟩ := Kd.R_elem HO242.out z45 (t245 : Int) (of_decide_eq_true (by first | (with_reducible assumption) | assumption)) (by have h_ : (t245 : Int) < ((t240.length : Int) : Int) := of_decide_eq_true (by first | (with_reducible assumption) | assumption); first | exact h_ | (have e_ := (Kd.R_reads' HO242.out).1; omega) | simpa using h_)
     obtain rfl := k45_openM hM25
     have HP25 := (Kd.R_seg HO242.out (t245 : Int) (of_decide_eq_true (by first | (with_reducible assumption) | assumption)) (by have h_ : (t245 : Int) < ((t240.length : Int) : Int) := of_decide_eq_true (by first | (with_reducible assumption) | assumption); first | exact h_ | (have e_ := (Kd.R_reads' HO242.out).1; omega) | simpa using h_) (seg := [.int .i64 t253]) (j := 1) hcl25 hcc25 (show 2 ≤ 5 from by decide) (x' := (⟨(rd_T45 t240 t245).f0, t253, (rd_T45 t240 t245).f2, (rd_T45 t240 t245).f3, (rd_T45 t240 t245).f4⟩ : S45)) (k45_mkM _ _ _ (⟨(rd_T45 t240 t245).f0, t253, (rd_T45 t240 t245).f2, (rd_T45 t240 t245).f3, (rd_T45 t240 t245).f4⟩ : S45) ) (fun _ hk => hk)).1
     rw [← Ny255.out] at HP25
     have HQ25 := Aside0.mk HP25
     clear hcl25 hcc25 hfr25 HP25; (try clear hM25)
     refine hK.out _ _ ⟨(blk_cell p1.out 0).trans rfl, (blk_cell p1.out 1).trans rfl, HS2_, HS3_, HS4_, HS5_, HS6_⟩ (fun hHeld => ?_)
     clear hK K
     refine norm_ (a' := ?_) ?_ ?_
     rotate_left
     ·show Act.put _ (some 31) _ = _
      simp only [Act.put, List.setIfInBounds_toArray, List.set_cons_zero, List.set_cons_succ, i64_w, i32_w]
      rfl
     refine pure_ (i := 12) (N := some 32) (v := ?_) (a' := ?_) #[Y31,Y31,Y31,Y31,Y31,Y31,Y31,Y31,Y31,Y31,Y31,Y31,Y31,N31,N31] rfl rfl (any_of HT_.out (by kernel_rfl)) (fun _ _ _ h => h) (Or.inl ⟨by rfl, ?_⟩) ?_ ?_
     rotate_left
     ·intro w'
      go_simp
      with_reducible rfl
     rotate_left
     ·simp only [Act.put, List.setIfInBounds_toArray, List.set_cons_zero, List.set_cons_succ, i64_w, i32_w]
      rfl
     refine pure_ (i := 13) (N := some 33) (v := ?_) (a' := ?_) #[Y31,Y31,Y31,Y31,Y31,Y31,Y31,Y31,Y31,Y31,Y31,Y31,Y31,Y31,N31] rfl rfl (any_of HT_.out (by kernel_rfl)) (fun _ _ _ h => h) (Or.inl ⟨by rfl, ?_⟩) ?_ ?_
     rotate_left
     ·intro w'
      go_simp
      with_reducible rfl
     rotate_left
     ·simp only [Act.put, List.setIfInBounds_toArray, List.set_cons_zero, List.set_cons_succ, i64_w, i32_w]
      rfl
     refine last_ (i := 14) (N := none) #[true, true, true, true, true, true, true, true, true, true, true, true, true, true, true] rfl rfl (one_of HT_.out (by kernel_rfl)) (by decide) (fun K hK => ?_)
     refine skip_ (w1 := ?_) (by rfl) rfl ?_ ?_
     rotate_left
     ·go_simp
      rfl
     refine hK.out _ _ ?_
     clear hK K
     refine done_ (done_of HT_.out (by kernel_rfl)) ?_
     have n0_ : Aside0 (Kd.R k45 45 (w24.setCell ⟨go10, (t245 : Int).toNat * 5 + 1, none⟩ (.int .i64 t253)) w.heap.size (fun _ => True) (.slice (some ⟨go10, 0, none⟩) t240.length co17) y255) := ⟨by (with_reducible repeat (first | apply Kd.R_alloc | apply Kd.R_drewN | apply Kd.R_drew)); exact HQ25.out⟩
     have n1_ : Aside0 (Kd.R (Kd.int .i64) 3 (w24.setCell ⟨go10, (t245 : Int).toNat * 5 + 1, none⟩ (.int .i64 t253)) w.heap.size (fun _ => True) (.slice Ao23 y250.length co23) y250) := ⟨by (with_reducible repeat (first | apply Kd.R_alloc | apply Kd.R_drewN | apply Kd.R_drew)); exact Kd.R_mono (Kd.R_far (p := ⟨go10, (t245 : Int).toNat * 5 + 1, none⟩) (Kd.R_types HO252.out GG10.out (by decide)) (fun _ hk => hk.2) (.int .i64 t253)) (fun _ hk => trivial)⟩
     have n2_ : Aside0 ((w24.setCell ⟨go10, (t245 : Int).toNat * 5 + 1, none⟩ (.int .i64 t253)).heap[p2]? = some (.cells #[.int .i64 0, .slice none 0 0] 38 (0, 0))) := ⟨by (with_reducible repeat (first | refine blk_drewN ?_ _ | refine blk_drew ?_ | refine blk_alloc ?_ _)); refine blk_far ?_ (by have h_ := Kd.R_ne HO242.out p0.out (by decide); intro e_; exact h_ (by rw [e_]; rfl)) _; (with_reducible repeat (first | refine blk_drewN ?_ _ | refine blk_drew ?_ | refine blk_alloc ?_ _)); exact p0.out⟩
     have n3_ : Aside0 ((w24.setCell ⟨go10, (t245 : Int).toNat * 5 + 1, none⟩ (.int .i64 t253)).heap[p3]? = some (.cells #[.int .i64 t239, .slice (some ⟨go10, 0, none⟩) t240.length co17] 38 (0, 0))) := ⟨by (with_reducible repeat (first | refine blk_drewN ?_ _ | refine blk_drew ?_ | refine blk_alloc ?_ _)); refine blk_far ?_ (by have h_ := Kd.R_ne HO242.out p1.out (by decide); intro e_; exact h_ (by rw [e_]; rfl)) _; (with_reducible repeat (first | refine blk_drewN ?_ _ | refine blk_drew ?_ | refine blk_alloc ?_ _)); exact p1.out⟩
     have n4_ : Aside0 (IsS112 w0 (w24.setCell ⟨go10, (t245 : Int).toNat * 5 + 1, none⟩ (.int .i64 t253)) g s0_0 t254) := ⟨by repeat (first | (with_reducible first | exact HI0.out | apply IsS112.alloc | apply IsS112.drewN | apply IsS112.drew | apply IsS112.set_1 | refine IsS112.far ?_ HN0_go10.out _ | refine IsS112.far ?_ p4.out _ | refine IsS112.far ?_ p5.out _) | exact HI0.out)⟩
     have n5_ : Aside0 (KeepBut w (w24.setCell ⟨go10, (t245 : Int).toNat * 5 + 1, none⟩ (.int .i64 t253)) g none) := ⟨by repeat (first | (with_reducible first | exact HK.out | apply KeepBut.set_ | apply keep_drewN | apply keep_drew | apply keep_alloc | refine keep_far ?_ GB10.out _ | refine keep_far ?_ q0.out _ | refine keep_far ?_ q2.out _) | exact HK.out)⟩
     have n6_ : Aside0 (Below w0.heap.size w0 (w24.setCell ⟨go10, (t245 : Int).toNat * 5 + 1, none⟩ (.int .i64 t253))) := ⟨by repeat (first | (with_reducible first | exact HB.out | apply below_alloc | apply pw_below_drewN | apply below_drew1 | refine below_set ?_ (Nat.le_trans HL.out GB10.out) | refine below_set ?_ (IsS112.ge HI0.out) | refine below_set ?_ q1.out | refine below_set ?_ q3.out) | exact HB.out)⟩
     (try clear HO242)
     (try clear HO252)
     (try clear p0)
     (try clear p1)
     (try clear HI0)
     (try clear HK)
     (try clear HB)
     generalize (w24.setCell ⟨go10, (t245 : Int).toNat * 5 + 1, none⟩ (.int .i64 t253)) = w26 at n0_ n1_ n2_ n3_ n4_ n5_ n6_ ⊢
     have HO242 := n0_
     have HO252 := n1_
     have p0 := n2_
     have p1 := n3_
     have HI0 := n4_
     have HK := n5_
     have HB := n6_
     clear n0_ n1_ n2_ n3_ n4_ n5_ n6_
     have hcz27_0 : w26.cell? ⟨p3, 0, none⟩ = some (.int .i64 t239) := (blk_cell p1.out 0).trans rfl
     have hcz27_1 : w26.cell? ⟨p3, 1, none⟩ = some (.slice (some ⟨go10, 0, none⟩) t240.length co17) := (blk_cell p1.out 1).trans rfl
     have hfz27_0 := blk_frozen p1.out 0
     have hfz27_1 := blk_frozen p1.out 1
     have hnb28 := p7.out
     have hnc28 := p4.out
     have hcz29_0 : w26.cell? ⟨p2, 0, none⟩ = some (.int .i64 0) := (blk_cell p0.out 0).trans rfl
     have hcz29_1 : w26.cell? ⟨p2, 1, none⟩ = some (.slice none 0 0) := (blk_cell p0.out 1).trans rfl
     have hfz29_0 := blk_frozen p0.out 0
     have hfz29_1 := blk_frozen p0.out 1
     try go_wp2
     refine bodyPost_ret (results_cell_row rfl _ _ p2 38 #[.int .i64 t239, .slice (some ⟨go10, 0, none⟩) t240.length co17] (0, 0) _ rfl (by (with_reducible repeat (first | refine blk_drewN ?_ _ | refine blk_drew ?_ | refine blk_alloc ?_ _)); refine blk_put (cs := #[.int .i64 t239, .slice none 0 0]) ?_ 1 _ rfl; (with_reducible repeat (first | refine blk_drewN ?_ _ | refine blk_drew ?_ | refine blk_alloc ?_ _)); refine blk_put (cs := #[.int .i64 0, .slice none 0 0]) ?_ 0 _ rfl; (with_reducible repeat (first | refine blk_drewN ?_ _ | refine blk_drew ?_ | refine blk_alloc ?_ _)); exact p0.out) Try.underlying38 rfl (by kernel_rfl)) rfl ?_
     exact ⟨_, by first | rfl | (simp [errW_none, errW_some] <;> rfl) | (simp [*, errW_none, errW_some] <;> rfl), by (with_reducible repeat (first | apply Kd.R_alloc | apply Kd.R_drewN | apply Kd.R_drew)); exact Kd.R_mono (Kd.R_far (p := ⟨p2, 1, none⟩) (Kd.R_far (p := ⟨p2, 0, none⟩) (Kd.R_types HO242.out p0.out (by decide)) (fun _ hk => hk.2) (.int .i64 t239)) (fun _ hk => hk.2) (.slice (some ⟨go10, 0, none⟩) t240.length co17)) (fun _ hk => trivial), by repeat (first | (with_reducible first | exact HI0.out | apply IsS112.alloc | apply IsS112.drewN | apply IsS112.drew | apply IsS112.set_1 | refine IsS112.far ?_ p4.out _ | refine IsS112.far ?_ p5.out _) | exact HI0.out), by repeat (first | (with_reducible first | exact HB.out | apply below_alloc | apply pw_below_drewN | apply below_drew1 | refine below_set ?_ (IsS112.ge HI0.out) | refine below_set ?_ q1.out | refine below_set ?_ q3.out) | exact HB.out), by repeat (first | (with_reducible first | exact HK.out | apply KeepBut.set_ | apply keep_drewN | apply keep_drew | apply keep_alloc | refine keep_far ?_ q0.out _ | refine keep_far ?_ q2.out _) | exact HK.out)⟩
    ·rw [if_neg c8] at H
     exact absurd H (by simp)
   ·rw [if_neg c7] at H
    exact absurd H (by simp)
  ·rw [if_neg c6] at H
   have c6b0 : (t247 == 0) = false := beq_eq_false_iff_ne.mpr c6
   have c6b1 : (t247 != 0) = true := bne_iff_ne.mpr c6
   by_cases c30 : t247 = 1
   ·rw [if_pos c30] at H
    have c30b0 : (t247 == 1) = true := beq_iff_eq.mpr c30
    have c30b1 : (t247 != 1) = false := bne_eq_false_iff_eq.mpr c30
    clear c30
    obtain ⟨y256, hy256⟩ : ∃ y_ : List Int, y_ = (([(-1), 100] : List Int)) := ⟨_, rfl⟩
    replace H : ((spec_l30Rd_one.f k s0_0 t248 y256).bind fun bt259 => (if 0 ≤ t245 then (if t245 < (t240.length : Int) then (some (t239, (t240.set (t245 : Int).toNat (⟨(rd_T45 t240 t245).f0, (rd_T45 t240 t245).f1, bt259.1, (rd_T45 t240 t245).f3, (rd_T45 t240 t245).f4⟩ : S45)), bt259.2)) else (none)) else (none))) = some (r1, r2, r3) := by first | (rw [hy256]; with_reducible exact H) | (have H2_ := (Option.bind_some _ _).symm.trans H; rw [hy256]; with_reducible exact H2_) | (have H2_ := (Option.bind_some _ _).symm.trans H; with_reducible exact H2_) | with_reducible exact H | (rw [hy256]; exact H) | exact H
    have Ny256 := Aside0.mk hy256
    clear hy256
    replace H := Option.bind_eq_some_iff.mp H
    obtain ⟨⟨t259, t260⟩, A310, H⟩ := H
    replace H : (if 0 ≤ t245 then (if t245 < (t240.length : Int) then (some (t239, (t240.set (t245 : Int).toNat (⟨(rd_T45 t240 t245).f0, (rd_T45 t240 t245).f1, t259, (rd_T45 t240 t245).f3, (rd_T45 t240 t245).f4⟩ : S45)), t260)) else (none)) else (none)) = some (r1, r2, r3) := H
    have A31 := Aside0.mk A310
    clear A310
    by_cases c32 : 0 ≤ t245
    ·rw [if_pos c32] at H
     have c32b0 : decide (0 ≤ t245) = true := decide_eq_true c32
     clear c32
     by_cases c33 : t245 < (t240.length : Int)
     ·rw [if_pos c33] at H
      have c33b0 : decide (t245 < (t240.length : Int)) = true := decide_eq_true c33
      clear c33
      obtain ⟨y261, hy261⟩ : ∃ y_ : List (S45), y_ = (t240.set (t245 : Int).toNat (⟨(rd_T45 t240 t245).f0, (rd_T45 t240 t245).f1, t259, (rd_T45 t240 t245).f3, (rd_T45 t240 t245).f4⟩ : S45)) := ⟨_, rfl⟩
      replace H : (some (t239, y261, t260)) = some (r1, r2, r3) := by first | (rw [hy261]; with_reducible exact H) | (have H2_ := (Option.bind_some _ _).symm.trans H; rw [hy261]; with_reducible exact H2_) | (have H2_ := (Option.bind_some _ _).symm.trans H; with_reducible exact H2_) | with_reducible exact H | (rw [hy261]; exact H) | exact H
      have Ny261 := Aside0.mk hy261
      clear hy261
      simp only [Option.some.injEq, Prod.mk.injEq] at H
      obtain ⟨rfl, rfl, rfl⟩ := H
      go_enter Try.func72, Try.ntmps72
      try go_wp2_with (first | ((with_reducible refine gate_dst (N := 2) rfl ?_); refine box_event ?hg (N := 2) ?hd (cs := #[.int .i64 0, .slice none 0 0]) (t := 38) ?hr ?_; (case hd => rfl); (case hg => rfl); (case hr => first | (go_simp; done) | (go_simp; rfl)); intro p2 hg w35 hbox hb; have n0_ := Aside0.mk (IsS112.below HI0.out hb); have n1_ := Aside0.mk (KeepBut.trans HK.out (KeepBut.of_below hb g none) (.inl rfl)); have n2_ := Aside0.mk (below_step HB.out hb); have n3_ := Aside0.mk (hbox); have n4_ := Aside0.mk ((by rw [hg]; exact (keep_size (w := w) (g := g) (row := none) HK.out) : w.heap.size ≤ p2)); have n5_ := Aside0.mk ((Nat.le_trans HW0.out (by rw [hg]; exact (keep_size (w := w) (g := g) (row := none) HK.out) : w.heap.size ≤ p2) : w0.heap.size ≤ p2)); have n6_ := Aside0.mk ((by rw [hg]; exact Nat.ne_of_lt (IsS112.lt (show IsS112 w0 _ g s0_0 s0_1 from by repeat (first | (with_reducible first | exact HI0.out | apply IsS112.alloc | apply IsS112.drewN | apply IsS112.drew | apply IsS112.set_1) | exact HI0.out))) : g ≠ p2)); have n7_ := Aside0.mk ((by rw [hg]; exact Nat.ne_of_gt (IsS112.lt (show IsS112 w0 _ g s0_0 s0_1 from by repeat (first | (with_reducible first | exact HI0.out | apply IsS112.alloc | apply IsS112.drewN | apply IsS112.drew | apply IsS112.set_1) | exact HI0.out))) : p2 ≠ g)); clear HI0; clear HK; clear HB; have HI0 := n0_; have HK := n1_; have HB := n2_; have p0 := n3_; have q0 := n4_; have q1 := n5_; have p4 := n6_; have p7 := n7_; clear n0_ n1_ n2_ n3_ n4_ n5_ n6_ n7_; clear hb hbox hg) | ((with_reducible refine gate_callee (f := 115) rfl ?_); refine goesL_ (some 6) rfl rfl Try.func115 (by kernel_rfl) rfl #[.pointer (some ⟨g, 0, none⟩)] rfl (by (try simp only [List.map_toArray, List.map_cons, List.map_nil]); first | done | rfl | (simp only [List.length_drop, List.length_take]; rfl)) ?_; (with_reducible refine (spec_l30Net.calls k g s0_0 s0_1 t239 t240 t243 w0 _ ?side1 ?side2 A2.out).mono ?_); (case side1 => exact HI0.out); (case side2 => exact HB.out); rintro e w36 ⟨v241, rfl, ho0, hi, hb, hk⟩; refine ⟨_, rfl, ?_⟩; have n0_ := Aside0.mk (KeepBut.blk hk (g' := p2) (o := .cells #[.int .i64 0, .slice none 0 0] 38 (0, 0)) p0.out p7.out (by simp)); have n1_ := Aside0.mk (Kd.R_lower ho0 (keep_size (w := w) (g := g) (row := none) HK.out)); have n2_ := Aside0.mk (KeepBut.trans HK.out hk (.inl rfl)); have n3_ := Aside0.mk (hb); have n4_ := Aside0.mk (hi); clear p0; clear HK; clear HB; clear HI0; have p0 := n0_; have HO242 := n1_; have HK := n2_; have HB := n3_; have HI0 := n4_; clear n0_ n1_ n2_ n3_ n4_; (try clear hb); (try clear hb2); (try clear hk); (try clear hi); (try clear ho0)) | ((with_reducible refine gate_dst (N := 3) rfl ?_); refine box_event ?hg (N := 3) ?hd (cs := #[.int .i64 0, .slice none 0 0]) (t := 38) ?hr ?_; (case hd => rfl); (case hg => rfl); (case hr => first | (go_simp; done) | (go_simp; rfl)); intro p3 hg w37 hbox hb; have n0_ := Aside0.mk (Kd.R_below HO242.out hb); have n1_ := Aside0.mk (IsS112.below HI0.out hb); have n2_ := Aside0.mk (blk_below (g := p2) (o := .cells #[.int .i64 0, .slice none 0 0] 38 (0, 0)) p0.out hb); have n3_ := Aside0.mk (KeepBut.trans HK.out (KeepBut.of_below hb g none) (.inl rfl)); have n4_ := Aside0.mk (below_step HB.out hb); have n5_ := Aside0.mk (hbox); have n6_ := Aside0.mk ((by rw [hg]; exact (keep_size (w := w) (g := g) (row := none) HK.out) : w.heap.size ≤ p3)); have n7_ := Aside0.mk ((Nat.le_trans HW0.out (by rw [hg]; exact (keep_size (w := w) (g := g) (row := none) HK.out) : w.heap.size ≤ p3) : w0.heap.size ≤ p3)); have n8_ := Aside0.mk ((by rw [hg]; exact Nat.ne_of_lt (blk_lt (g := p2) (o := .cells #[.int .i64 0, .slice none 0 0] 38 (0, 0)) p0.out) : p2 ≠ p3)); have n9_ := Aside0.mk ((by rw [hg]; exact Nat.ne_of_gt (blk_lt (g := p2) (o := .cells #[.int .i64 0, .slice none 0 0] 38 (0, 0)) p0.out) : p3 ≠ p2)); have n10_ := Aside0.mk ((by rw [hg]; exact Nat.ne_of_lt (IsS112.lt (show IsS112 w0 _ g s0_0 t243 from by repeat (first | (with_reducible first | exact HI0.out | apply IsS112.alloc | apply IsS112.drewN | apply IsS112.drew | apply IsS112.set_1 | refine IsS112.far ?_ p4.out _) | exact HI0.out))) : g ≠ p3)); have n11_ := Aside0.mk ((by rw [hg]; exact Nat.ne_of_gt (IsS112.lt (show IsS112 w0 _ g s0_0 t243 from by repeat (first | (with_reducible first | exact HI0.out | apply IsS112.alloc | apply IsS112.drewN | apply IsS112.drew | apply IsS112.set_1 | refine IsS112.far ?_ p4.out _) | exact HI0.out))) : p3 ≠ g)); clear HO242; clear HI0; clear p0; clear HK; clear HB; have HO242 := n0_; have HI0 := n1_; have p0 := n2_; have HK := n3_; have HB := n4_; have p1 := n5_; have q2 := n6_; have q3 := n7_; have p6 := n8_; have p9 := n9_; have p5 := n10_; have p8 := n11_; clear n0_ n1_ n2_ n3_ n4_ n5_ n6_ n7_ n8_ n9_ n10_ n11_; clear hb hbox hg; have hnb38 := p9.out; have hnc38 := p6.out; have hnb39 := p8.out; have hnc39 := p5.out; have hcz40_0 : w37.cell? ⟨p3, 0, none⟩ = some (.int .i64 0) := (blk_cell p1.out 0).trans rfl; have hcz40_1 : w37.cell? ⟨p3, 1, none⟩ = some (.slice none 0 0) := (blk_cell p1.out 1).trans rfl; have hfz40_0 := blk_frozen p1.out 0; have hfz40_1 := blk_frozen p1.out 1; obtain ⟨Ao41, co41, eo41⟩ := Kd.R_slice HO242.out; subst eo41) | ((with_reducible refine gate_callee (f := 74) rfl ?_); refine goesL_ (some 15) rfl rfl Try.func74 (by kernel_rfl) rfl #[.pointer (some ⟨g, 0, none⟩), .int .i64 (t240.length : Int)] rfl (by (try simp only [List.map_toArray, List.map_cons, List.map_nil]); first | done | rfl | (simp only [List.length_drop, List.length_take]; rfl)) ?_; (with_reducible refine (spec_l30Rd_pick.calls k g s0_0 t243 (t240.length : Int) t245 t246 w0 _ ?side1 ?side2 A4.out).mono ?_); (case side1 => repeat (first | (with_reducible first | exact HI0.out | apply IsS112.alloc | apply IsS112.drewN | apply IsS112.drew | apply IsS112.set_1 | refine IsS112.far ?_ p4.out _ | refine IsS112.far ?_ p5.out _) | exact HI0.out)); (case side2 => repeat (first | (with_reducible first | exact HB.out | apply below_alloc | apply pw_below_drewN | apply below_drew1 | refine below_set ?_ (IsS112.ge HI0.out) | refine below_set ?_ q1.out | refine below_set ?_ q3.out) | exact HB.out)); rintro e w42 ⟨rfl, hi, hb, hk⟩; refine ⟨_, rfl, ?_⟩; have n0_ := Aside0.mk (KeepBut.blk hk (g' := p2) (o := .cells #[.int .i64 0, .slice none 0 0] 38 (0, 0)) (by (with_reducible repeat (first | refine blk_drewN ?_ _ | refine blk_drew ?_ | refine blk_alloc ?_ _)); refine blk_far ?_ p6.out _; (with_reducible repeat (first | refine blk_drewN ?_ _ | refine blk_drew ?_ | refine blk_alloc ?_ _)); refine blk_far ?_ p6.out _; (with_reducible repeat (first | refine blk_drewN ?_ _ | refine blk_drew ?_ | refine blk_alloc ?_ _)); exact p0.out) p7.out (by simp)); have n1_ := Aside0.mk (Kd.R_mono (Kd.R_keep (IsS112.apart (show IsS112 w0 _ g s0_0 t243 from by repeat (first | (with_reducible first | exact HI0.out | apply IsS112.alloc | apply IsS112.drewN | apply IsS112.drew | apply IsS112.set_1 | refine IsS112.far ?_ p4.out _ | refine IsS112.far ?_ p5.out _) | exact HI0.out)) (Kd.R_mono (Kd.R_far (p := ⟨p3, 1, none⟩) (Kd.R_far (p := ⟨p3, 0, none⟩) (Kd.R_types HO242.out p1.out (by decide)) (fun _ hk => hk.2) (.int .i64 t239)) (fun _ hk => hk.2) (.slice Ao41 t240.length co41)) (fun _ h_ => h_.1)) (by decide)) hk (fun _ h => h.2)) (fun _ h => h.1)); have n2_ := Aside0.mk (KeepBut.blk hk (g' := p3) (o := .cells #[.int .i64 t239, .slice Ao41 t240.length co41] 38 (0, 0)) (by (with_reducible repeat (first | refine blk_drewN ?_ _ | refine blk_drew ?_ | refine blk_alloc ?_ _)); refine blk_put (cs := #[.int .i64 t239, .slice none 0 0]) ?_ 1 _ rfl; (with_reducible repeat (first | refine blk_drewN ?_ _ | refine blk_drew ?_ | refine blk_alloc ?_ _)); refine blk_put (cs := #[.int .i64 0, .slice none 0 0]) ?_ 0 _ rfl; (with_reducible repeat (first | refine blk_drewN ?_ _ | refine blk_drew ?_ | refine blk_alloc ?_ _)); exact p1.out) p8.out (by simp)); have n3_ := Aside0.mk (KeepBut.trans (by repeat (first | (with_reducible first | exact HK.out | apply KeepBut.set_ | apply keep_drewN | apply keep_drew | apply keep_alloc | refine keep_far ?_ q0.out _ | refine keep_far ?_ q2.out _) | exact HK.out)) hk (.inl rfl)); have n4_ := Aside0.mk (hb); have n5_ := Aside0.mk (hi); clear p0; clear HO242; clear p1; clear HK; clear HB; clear HI0; have p0 := n0_; have HO242 := n1_; have p1 := n2_; have HK := n3_; have HB := n4_; have HI0 := n5_; clear n0_ n1_ n2_ n3_ n4_ n5_; (try clear hb); (try clear hb2); (try clear hk); (try clear hi)) | ((with_reducible refine gate_callee (f := 74) rfl ?_); refine goesL_ (some 17) rfl rfl Try.func74 (by kernel_rfl) rfl #[.pointer (some ⟨g, 0, none⟩), .int .i64 16] rfl (by (try simp only [List.map_toArray, List.map_cons, List.map_nil]); first | done | rfl | (simp only [List.length_drop, List.length_take]; rfl)) ?_; (with_reducible refine (spec_l30Rd_pick.calls k g s0_0 t246 16 t247 t248 w0 _ ?side1 ?side2 A5.out).mono ?_); (case side1 => exact HI0.out); (case side2 => exact HB.out); rintro e w43 ⟨rfl, hi, hb, hk⟩; refine ⟨_, rfl, ?_⟩; have n0_ := Aside0.mk (KeepBut.blk hk (g' := p2) (o := .cells #[.int .i64 0, .slice none 0 0] 38 (0, 0)) p0.out p7.out (by simp)); have n1_ := Aside0.mk (Kd.R_mono (Kd.R_keep (IsS112.apart (show IsS112 w0 _ g s0_0 t246 from by repeat (first | (with_reducible first | exact HI0.out | apply IsS112.alloc | apply IsS112.drewN | apply IsS112.drew | apply IsS112.set_1 | refine IsS112.far ?_ p4.out _ | refine IsS112.far ?_ p5.out _) | exact HI0.out)) HO242.out (by decide)) hk (fun _ h => h.2)) (fun _ h => h.1)); have n2_ := Aside0.mk (KeepBut.blk hk (g' := p3) (o := .cells #[.int .i64 t239, .slice Ao41 t240.length co41] 38 (0, 0)) p1.out p8.out (by simp)); have n3_ := Aside0.mk (KeepBut.trans HK.out hk (.inl rfl)); have n4_ := Aside0.mk (hb); have n5_ := Aside0.mk (hi); clear p0; clear HO242; clear p1; clear HK; clear HB; clear HI0; have p0 := n0_; have HO242 := n1_; have p1 := n2_; have HK := n3_; have HB := n4_; have HI0 := n5_; clear n0_ n1_ n2_ n3_ n4_ n5_; (try clear hb); (try clear hb2); (try clear hk); (try clear hi)))
      have n0_ := Aside0.mk (Kd.R_drew HO242.out)
      have n1_ := Aside0.mk (blk_drew p0.out)
      have n2_ := Aside0.mk (blk_drew p1.out)
      have n3_ := Aside0.mk (IsS112.drew HI0.out)
      have n4_ := Aside0.mk (keep_drew HK.out)
      have n5_ := Aside0.mk (below_drew1 HB.out)
      clear HO242
      clear p0
      clear p1
      clear HI0
      clear HK
      clear HB
      have HO242 := n0_
      have p0 := n1_
      have p1 := n2_
      have HI0 := n3_
      have HK := n4_
      have HB := n5_
      clear n0_ n1_ n2_ n3_ n4_ n5_
      refine start_ (n := 9) (S := fun w' => w'.cell? ⟨p3, 0, none⟩ = some (.int .i64 t239) ∧ w'.cell? ⟨p3, 1, none⟩ = some (.slice Ao41 t240.length co41)) (ds := [8]) #[N31,N31,N31,N31,N31,N31,N31,N31,N31] (by kernel_rfl) rfl rfl ⟨(blk_cell p1.out 0).trans rfl, (blk_cell p1.out 1).trans rfl⟩ (fun hHeld => ?_); refine with_tabW spec_l30AnyNet.tab8 spec_l30AnyNet.bits8 (fun HT_ HW_ => ?_)
      generalize w43.drew = w44 at HO242 p0 p1 HI0 HK HB hHeld ⊢
      refine pure_ (i := 0) (N := some 36) (v := ?_) (a' := ?_) #[Y31,N31,N31,N31,N31,N31,N31,N31,N31] rfl rfl (any_of HT_.out (by kernel_rfl)) (fun _ _ _ h => h) (Or.inl ⟨by rfl, ?_⟩) ?_ ?_
      rotate_left
      ·intro w'
       go_simp
       with_reducible rfl
      rotate_left
      ·simp only [Act.put, List.setIfInBounds_toArray, List.set_cons_zero, List.set_cons_succ, i64_w, i32_w]
       rfl
      refine pure_ (i := 2) (N := some 38) (v := ?_) (a' := ?_) #[Y31,N31,Y31,N31,N31,N31,N31,N31,N31] rfl rfl (any_of HT_.out (by kernel_rfl)) (fun _ _ _ h => h) (Or.inl ⟨by rfl, ?_⟩) ?_ ?_
      rotate_left
      ·intro w'
       go_simp
       with_reducible rfl
      rotate_left
      ·simp only [Act.put, List.setIfInBounds_toArray, List.set_cons_zero, List.set_cons_succ, i64_w, i32_w]
       rfl
      refine pure_ (i := 3) (N := some 39) (v := ?_) (a' := ?_) #[Y31,N31,Y31,Y31,N31,N31,N31,N31,N31] rfl rfl (any_of HT_.out (by kernel_rfl)) (fun _ _ _ h => h) (Or.inl ⟨by rfl, ?_⟩) ?_ ?_
      rotate_left
      ·intro w'
       go_simp
       with_reducible rfl
      rotate_left
      ·simp only [Act.put, List.setIfInBounds_toArray, List.set_cons_zero, List.set_cons_succ, i64_w, i32_w]
       rfl
      refine take_ (i := 1) (N := some 37) (v := ?_) (a' := ?_) #[Y31,Y31,Y31,Y31,N31,N31,N31,N31,N31] rfl rfl (take_ofW HT_.out HW_.out (by kernel_rfl)) (fun _ _ _ h => h) (Or.inl ⟨by rfl, ?_⟩) hHeld ?_ ?_
      rotate_left
      ·rintro w' ⟨s0, s1⟩
       go_simp
       with_reducible rfl
      rotate_left
      ·simp only [Act.put, List.setIfInBounds_toArray, List.set_cons_zero, List.set_cons_succ, i64_w, i32_w]
       rfl
      refine one_ (i := 4) (N := some 40) #[Y31,Y31,Y31,Y31,Y31,N31,N31,N31,N31] rfl rfl (one_of HT_.out (by kernel_rfl)) (by decide) (fun K hK => ?_)
      refine Kd.R_lit_step (Kd.int .i64) _ 3 ?hg (N := 40) ?hd (xs := ([(-1), 100] : List Int)) (inner := [.int .i64 (-1), .int .i64 100]) (ok := fun _ => True) (okp := fun _ => True) ?hr ?hp (fun _ hk => hk) trivial (Below.refl _ _) (Nat.le_refl _) (by simp) ?_; (case hd => rfl); (case hg => rfl); (case hr => first | (go_simp; done) | (go_simp; rfl)); (case hp => exact (Reps.one (show Kd.M (Kd.int .i64) _ _ _ (-1) [.int .i64 (-1)] from rfl) (Reps.one (show Kd.M (Kd.int .i64) _ _ _ 100 [.int .i64 100] from rfl) (Reps.none _ _))))
      intro v257 w45 ho46 hb hg_ hnew_
      clear hg_ hnew_
      (first | rw [← Ny256.out] at ho46 | (simp only [Int.reduceToNat] at ho46; rw [← Ny256.out] at ho46))
      have n0_ := Aside0.mk (Kd.R_below HO242.out hb)
      have n1_ := Aside0.mk (Kd.R_lower ho46 (keep_size (w := w) (g := g) (row := none) HK.out))
      have n2_ := Aside0.mk (IsS112.below HI0.out hb)
      have n3_ := Aside0.mk (blk_below (g := p2) (o := .cells #[.int .i64 0, .slice none 0 0] 38 (0, 0)) p0.out hb)
      have n4_ := Aside0.mk (blk_below (g := p3) (o := .cells #[.int .i64 t239, .slice Ao41 t240.length co41] 38 (0, 0)) p1.out hb)
      have n5_ := Aside0.mk (KeepBut.trans HK.out (KeepBut.of_below hb g none) (.inl rfl))
      have n6_ := Aside0.mk (below_step HB.out hb)
      clear HO242
      clear HI0
      clear p0
      clear p1
      clear HK
      clear HB
      have HO242 := n0_
      have HO258 := n1_
      have HI0 := n2_
      have p0 := n3_
      have p1 := n4_
      have HK := n5_
      have HB := n6_
      clear n0_ n1_ n2_ n3_ n4_ n5_ n6_
      clear hb ho46
      obtain ⟨Ao47, co47, eo47⟩ := Kd.R_slice HO258.out
      (first | subst eo47 | (injection eo47 with f1_ f2_ f3_; have f4_ := f1_.symm; have f5_ := f3_.symm; clear f1_ f2_ f3_; subst f4_; subst f5_))
      refine hK.out _ _ ⟨(blk_cell p1.out 0).trans rfl, (blk_cell p1.out 1).trans rfl⟩ (fun hHeld => ?_)
      clear hK K
      refine norm_ (a' := ?_) ?_ ?_
      rotate_left
      ·show Act.put _ (some 40) _ = _
       simp only [Act.put, List.setIfInBounds_toArray, List.set_cons_zero, List.set_cons_succ, i64_w, i32_w]
       rfl
      refine one_ (i := 5) (N := some 41) #[Y31,Y31,Y31,Y31,Y31,Y31,N31,N31,N31] rfl rfl (one_of HT_.out (by kernel_rfl)) (by decide) (fun K hK => ?_)
      refine goes_ Try.func75 (by kernel_rfl) rfl #[.pointer (some ⟨g, 0, none⟩), .slice Ao47 y256.length co47] (by rfl) rfl rfl (by (try simp only [List.map_toArray, List.map_cons, List.map_nil]); first | done | rfl | (simp only [List.length_drop, List.length_take]; rfl)) ?_
      with_reducible refine (spec_l30Rd_one.calls k g s0_0 t248 _ _ y256 t259 t260 w0 _ ?side1 ?side2 ?side3 ?side4 ?side5 A31.out).mono ?_
      (case side1 => exact HI0.out)
      (case side2 => exact HB.out)
      (case side3 => repeat (first | exact (Kd.R_reads' HO258.out).2.2 | (with_reducible refine Kd.C_alloc ?_ _) | (with_reducible refine Kd.C_drewN ?_ _) | (with_reducible refine Kd.C_drew ?_)))
      (case side4 => exact (Kd.R_reads' HO258.out).2.1)
      (case side5 => exact far_slice (IsS112.own_ne HI0.out HO258.out (by decide)))
      rintro e w48 ⟨rfl, hi, hb, hk⟩
      refine ⟨_, rfl, ?_⟩
      have n0_ := Aside0.mk (KeepBut.blk hk (g' := p2) (o := .cells #[.int .i64 0, .slice none 0 0] 38 (0, 0)) p0.out p7.out (by simp))
      have n1_ := Aside0.mk (Kd.R_mono (Kd.R_keep (IsS112.apart (show IsS112 w0 _ g s0_0 t248 from by repeat (first | (with_reducible first | exact HI0.out | apply IsS112.alloc | apply IsS112.drewN | apply IsS112.drew | apply IsS112.set_1 | refine IsS112.far ?_ p4.out _ | refine IsS112.far ?_ p5.out _) | exact HI0.out)) HO242.out (by decide)) hk (fun _ h => h.2)) (fun _ h => h.1))
      have n2_ := Aside0.mk (KeepBut.blk hk (g' := p3) (o := .cells #[.int .i64 t239, .slice Ao41 t240.length co41] 38 (0, 0)) p1.out p8.out (by simp))
      have n3_ := Aside0.mk (Kd.R_mono (Kd.R_keep (IsS112.apart (show IsS112 w0 _ g s0_0 t248 from by repeat (first | (with_reducible first | exact HI0.out | apply IsS112.alloc | apply IsS112.drewN | apply IsS112.drew | apply IsS112.set_1 | refine IsS112.far ?_ p4.out _ | refine IsS112.far ?_ p5.out _) | exact HI0.out)) HO258.out (by decide)) hk (fun _ h => h.2)) (fun _ h => h.1))
      have n4_ := Aside0.mk (KeepBut.trans HK.out hk (.inl rfl))
      have n5_ := Aside0.mk (hb)
      have n6_ := Aside0.mk (hi)
      clear p0
      clear HO242
      clear p1
      clear HO258
      clear HK
      clear HB
      clear HI0
      have p0 := n0_
      have HO242 := n1_
      have p1 := n2_
      have HO258 := n3_
      have HK := n4_
      have HB := n5_
      have HI0 := n6_
      clear n0_ n1_ n2_ n3_ n4_ n5_ n6_
      (try clear hb)
      (try clear hb2)
      (try clear hk)
      (try clear hi)
      have p34 : 0 ≤ (t245 : Int) := of_decide_eq_true (by first | (with_reducible assumption) | assumption)
      have q34 : (t245 : Int) < ((t240.length : Int) : Int) := of_decide_eq_true (by first | (with_reducible assumption) | assumption)
      obtain ⟨go34, co34, eo34, gb34, gl34, cl34, HG34⟩ := Kd.R_form HO242.out (by omega)
      (first | cases eo34 | (injection eo34 with ea_ en_ ec_; (first | subst ea_ | (injection ea_ with ea_; subst ea_)); subst ec_; clear en_))
      have GB34 := Aside0.mk gb34
      have GG34 := Aside0.mk HG34
      clear gb34 gl34 HG34
      obtain ⟨ce34, hcl34, hM34, q6, hfr34⟩ := Kd.R_elem HO242.out z45 (t245 : Int) p34 q34
      obtain rfl := k45_openM hM34
      have hx34_0 : World.cell? _ ⟨go34, (t245 : Int).toNat * 5, none⟩ = some (.int .i64 ((rd_T45 t240 t245).f0)) := q6 0 _ rfl
      have hx34_1 : World.cell? _ ⟨go34, (t245 : Int).toNat * 5 + 1, none⟩ = some (.int .i64 ((rd_T45 t240 t245).f1)) := q6 1 _ rfl
      have hx34_2 : World.cell? _ ⟨go34, (t245 : Int).toNat * 5 + 2, none⟩ = some (.int .i64 ((rd_T45 t240 t245).f2)) := q6 2 _ rfl
      have hx34_3 : World.cell? _ ⟨go34, (t245 : Int).toNat * 5 + 3, none⟩ = some (.int .i64 ((rd_T45 t240 t245).f3)) := q6 3 _ rfl
      have hx34_4 : World.cell? _ ⟨go34, (t245 : Int).toNat * 5 + 4, none⟩ = some (.int .i64 ((rd_T45 t240 t245).f4)) := q6 4 _ rfl
      have hf34_0 : World.frozen? _ ⟨go34, (t245 : Int).toNat * 5, none⟩ = false := hfr34 0
      have hf34_1 : World.frozen? _ ⟨go34, (t245 : Int).toNat * 5 + 1, none⟩ = false := hfr34 1
      have hf34_2 : World.frozen? _ ⟨go34, (t245 : Int).toNat * 5 + 2, none⟩ = false := hfr34 2
      have hf34_3 : World.frozen? _ ⟨go34, (t245 : Int).toNat * 5 + 3, none⟩ = false := hfr34 3
      have hf34_4 : World.frozen? _ ⟨go34, (t245 : Int).toNat * 5 + 4, none⟩ = false := hfr34 4
      clear hcl34 q6 hfr34; (try clear hM34)
      replace p34 := eq_true p34
      replace q34 := eq_true q34
      have HN0_go34 := Aside0.mk (show g ≠ go34 from by have h_ := IsS112.own_ne HI0.out HO242.out (by decide); intro e_; exact h_ (by rw [e_]; rfl))
      obtain ⟨ce49, hcl49, hM49, hcc49, hfr49⟩ := Kd.R_elem HO242.out z45 (t245 : Int) (of_decide_eq_true (by first | (with_reducible assumption) | assumption)) (by have h_ : (t245 : Int) < ((t240.length : Int) : Int) := of_decide_eq_true (by first | (with_reducible assumption) | assumption); first | exact h_ | (have e_ := (Kd.R_reads' HO242.out).1; omega) | simpa using h_)
      obtain rfl := k45_openM hM49
      have HP49 := (Kd.R_seg HO242.out (t245 : Int) (of_decide_eq_true (by first | (with_reducible assumption) | assumption)) (by have h_ : (t245 : Int) < ((t240.length : Int) : Int) := of_decide_eq_true (by first | (with_reducible assumption) | assumption); first | exact h_ | (have e_ := (Kd.R_reads' HO242.out).1; omega) | simpa using h_) (seg := [.int .i64 t259]) (j := 2) hcl49 hcc49 (show 3 ≤ 5 from by decide) (x' := (⟨(rd_T45 t240 t245).f0, (rd_T45 t240 t245).f1, t259, (rd_T45 t240 t245).f3, (rd_T45 t240 t245).f4⟩ : S45)) (k45_mkM _ _ _ (⟨(rd_T45 t240 t245).f0, (rd_T45 t240 t245).f1, t259, (rd_T45 t240 t245).f3, (rd_T45 t240 t245).f4⟩ : S45) ) (fun _ hk => hk)).1
      rw [← Ny261.out] at HP49
      have HQ49 := Aside0.mk HP49
      clear hcl49 hcc49 hfr49 HP49; (try clear hM49)
      refine hK.out _ _ ⟨(blk_cell p1.out 0).trans rfl, (blk_cell p1.out 1).trans rfl⟩ (fun hHeld => ?_)
      clear hK K
      refine norm_ (a' := ?_) ?_ ?_
      rotate_left
      ·show Act.put _ (some 41) _ = _
       simp only [Act.put, List.setIfInBounds_toArray, List.set_cons_zero, List.set_cons_succ, i64_w, i32_w]
       rfl
      refine pure_ (i := 6) (N := some 42) (v := ?_) (a' := ?_) #[Y31,Y31,Y31,Y31,Y31,Y31,Y31,N31,N31] rfl rfl (any_of HT_.out (by kernel_rfl)) (fun _ _ _ h => h) (Or.inl ⟨by rfl, ?_⟩) ?_ ?_
      rotate_left
      ·intro w'
       go_simp
       with_reducible rfl
      rotate_left
      ·simp only [Act.put, List.setIfInBounds_toArray, List.set_cons_zero, List.set_cons_succ, i64_w, i32_w]
       rfl
      refine pure_ (i := 7) (N := some 43) (v := ?_) (a' := ?_) #[Y31,Y31,Y31,Y31,Y31,Y31,Y31,Y31,N31] rfl rfl (any_of HT_.out (by kernel_rfl)) (fun _ _ _ h => h) (Or.inl ⟨by rfl, ?_⟩) ?_ ?_
      rotate_left
      ·intro w'
       go_simp
       with_reducible rfl
      rotate_left
      ·simp only [Act.put, List.setIfInBounds_toArray, List.set_cons_zero, List.set_cons_succ, i64_w, i32_w]
       rfl
      refine last_ (i := 8) (N := none) #[true, true, true, true, true, true, true, true, true] rfl rfl (one_of HT_.out (by kernel_rfl)) (by decide) (fun K hK => ?_)
      refine skip_ (w1 := ?_) (by rfl) rfl ?_ ?_
      rotate_left
      ·go_simp
       rfl
      refine hK.out _ _ ?_
      clear hK K
      refine done_ (done_of HT_.out (by kernel_rfl)) ?_
      have n0_ : Aside0 (Kd.R k45 45 (w48.setCell ⟨go34, (t245 : Int).toNat * 5 + 2, none⟩ (.int .i64 t259)) w.heap.size (fun _ => True) (.slice (some ⟨go34, 0, none⟩) t240.length co41) y261) := ⟨by (with_reducible repeat (first | apply Kd.R_alloc | apply Kd.R_drewN | apply Kd.R_drew)); exact HQ49.out⟩
      have n1_ : Aside0 (Kd.R (Kd.int .i64) 3 (w48.setCell ⟨go34, (t245 : Int).toNat * 5 + 2, none⟩ (.int .i64 t259)) w.heap.size (fun _ => True) (.slice Ao47 y256.length co47) y256) := ⟨by (with_reducible repeat (first | apply Kd.R_alloc | apply Kd.R_drewN | apply Kd.R_drew)); exact Kd.R_mono (Kd.R_far (p := ⟨go34, (t245 : Int).toNat * 5 + 2, none⟩) (Kd.R_types HO258.out GG34.out (by decide)) (fun _ hk => hk.2) (.int .i64 t259)) (fun _ hk => trivial)⟩
      have n2_ : Aside0 ((w48.setCell ⟨go34, (t245 : Int).toNat * 5 + 2, none⟩ (.int .i64 t259)).heap[p2]? = some (.cells #[.int .i64 0, .slice none 0 0] 38 (0, 0))) := ⟨by (with_reducible repeat (first | refine blk_drewN ?_ _ | refine blk_drew ?_ | refine blk_alloc ?_ _)); refine blk_far ?_ (by have h_ := Kd.R_ne HO242.out p0.out (by decide); intro e_; exact h_ (by rw [e_]; rfl)) _; (with_reducible repeat (first | refine blk_drewN ?_ _ | refine blk_drew ?_ | refine blk_alloc ?_ _)); exact p0.out⟩
      have n3_ : Aside0 ((w48.setCell ⟨go34, (t245 : Int).toNat * 5 + 2, none⟩ (.int .i64 t259)).heap[p3]? = some (.cells #[.int .i64 t239, .slice (some ⟨go34, 0, none⟩) t240.length co41] 38 (0, 0))) := ⟨by (with_reducible repeat (first | refine blk_drewN ?_ _ | refine blk_drew ?_ | refine blk_alloc ?_ _)); refine blk_far ?_ (by have h_ := Kd.R_ne HO242.out p1.out (by decide); intro e_; exact h_ (by rw [e_]; rfl)) _; (with_reducible repeat (first | refine blk_drewN ?_ _ | refine blk_drew ?_ | refine blk_alloc ?_ _)); exact p1.out⟩
      have n4_ : Aside0 (IsS112 w0 (w48.setCell ⟨go34, (t245 : Int).toNat * 5 + 2, none⟩ (.int .i64 t259)) g s0_0 t260) := ⟨by repeat (first | (with_reducible first | exact HI0.out | apply IsS112.alloc | apply IsS112.drewN | apply IsS112.drew | apply IsS112.set_1 | refine IsS112.far ?_ HN0_go34.out _ | refine IsS112.far ?_ p4.out _ | refine IsS112.far ?_ p5.out _) | exact HI0.out)⟩
      have n5_ : Aside0 (KeepBut w (w48.setCell ⟨go34, (t245 : Int).toNat * 5 + 2, none⟩ (.int .i64 t259)) g none) := ⟨by repeat (first | (with_reducible first | exact HK.out | apply KeepBut.set_ | apply keep_drewN | apply keep_drew | apply keep_alloc | refine keep_far ?_ GB34.out _ | refine keep_far ?_ q0.out _ | refine keep_far ?_ q2.out _) | exact HK.out)⟩
      have n6_ : Aside0 (Below w0.heap.size w0 (w48.setCell ⟨go34, (t245 : Int).toNat * 5 + 2, none⟩ (.int .i64 t259))) := ⟨by repeat (first | (with_reducible first | exact HB.out | apply below_alloc | apply pw_below_drewN | apply below_drew1 | refine below_set ?_ (Nat.le_trans HL.out GB34.out) | refine below_set ?_ (IsS112.ge HI0.out) | refine below_set ?_ q1.out | refine below_set ?_ q3.out) | exact HB.out)⟩
      (try clear HO242)
      (try clear HO258)
      (try clear p0)
      (try clear p1)
      (try clear HI0)
      (try clear HK)
      (try clear HB)
      generalize (w48.setCell ⟨go34, (t245 : Int).toNat * 5 + 2, none⟩ (.int .i64 t259)) = w50 at n0_ n1_ n2_ n3_ n4_ n5_ n6_ ⊢
      have HO242 := n0_
      have HO258 := n1_
      have p0 := n2_
      have p1 := n3_
      have HI0 := n4_
      have HK := n5_
      have HB := n6_
      clear n0_ n1_ n2_ n3_ n4_ n5_ n6_
      have hcz51_0 : w50.cell? ⟨p3, 0, none⟩ = some (.int .i64 t239) := (blk_cell p1.out 0).trans rfl
      have hcz51_1 : w50.cell? ⟨p3, 1, none⟩ = some (.slice (some ⟨go34, 0, none⟩) t240.length co41) := (blk_cell p1.out 1).trans rfl
      have hfz51_0 := blk_frozen p1.out 0
      have hfz51_1 := blk_frozen p1.out 1
      have hnb52 := p7.out
      have hnc52 := p4.out
      have hcz53_0 : w50.cell? ⟨p2, 0, none⟩ = some (.int .i64 0) := (blk_cell p0.out 0).trans rfl
      have hcz53_1 : w50.cell? ⟨p2, 1, none⟩ = some (.slice none 0 0) := (blk_cell p0.out 1).trans rfl
      have hfz53_0 := blk_frozen p0.out 0
      have hfz53_1 := blk_frozen p0.out 1
      try go_wp2
      refine bodyPost_ret (results_cell_row rfl _ _ p2 38 #[.int .i64 t239, .slice (some ⟨go34, 0, none⟩) t240.length co41] (0, 0) _ rfl (by (with_reducible repeat (first | refine blk_drewN ?_ _ | refine blk_drew ?_ | refine blk_alloc ?_ _)); refine blk_put (cs := #[.int .i64 t239, .slice none 0 0]) ?_ 1 _ rfl; (with_reducible repeat (first | refine blk_drewN ?_ _ | refine blk_drew ?_ | refine blk_alloc ?_ _)); refine blk_put (cs := #[.int .i64 0, .slice none 0 0]) ?_ 0 _ rfl; (with_reducible repeat (first | refine blk_drewN ?_ _ | refine blk_drew ?_ | refine blk_alloc ?_ _)); exact p0.out) Try.underlying38 rfl (by kernel_rfl)) rfl ?_
      exact ⟨_, by first | rfl | (simp [errW_none, errW_some] <;> rfl) | (simp [*, errW_none, errW_some] <;> rfl), by (with_reducible repeat (first | apply Kd.R_alloc | apply Kd.R_drewN | apply Kd.R_drew)); exact Kd.R_mono (Kd.R_far (p := ⟨p2, 1, none⟩) (Kd.R_far (p := ⟨p2, 0, none⟩) (Kd.R_types HO242.out p0.out (by decide)) (fun _ hk => hk.2) (.int .i64 t239)) (fun _ hk => hk.2) (.slice (some ⟨go34, 0, none⟩) t240.length co41)) (fun _ hk => trivial), by repeat (first | (with_reducible first | exact HI0.out | apply IsS112.alloc | apply IsS112.drewN | apply IsS112.drew | apply IsS112.set_1 | refine IsS112.far ?_ p4.out _ | refine IsS112.far ?_ p5.out _) | exact HI0.out), by repeat (first | (with_reducible first | exact HB.out | apply below_alloc | apply pw_below_drewN | apply below_drew1 | refine below_set ?_ (IsS112.ge HI0.out) | refine below_set ?_ q1.out | refine below_set ?_ q3.out) | exact HB.out), by repeat (first | (with_reducible first | exact HK.out | apply KeepBut.set_ | apply keep_drewN | apply keep_drew | apply keep_alloc | refine keep_far ?_ q0.out _ | refine keep_far ?_ q2.out _) | exact HK.out)⟩
     ·rw [if_neg c33] at H
      exact absurd H (by simp)
    ·rw [if_neg c32] at H
     exact absurd H (by simp)
   ·rw [if_neg c30] at H
    have c30b0 : (t247 == 1) = false := beq_eq_false_iff_ne.mpr c30
    have c30b1 : (t247 != 1) = true := bne_iff_ne.mpr c30
    by_cases c54 : t247 = 2
    ·rw [if_pos c54] at H
     have c54b0 : (t247 == 2) = true := beq_iff_eq.mpr c54
     have c54b1 : (t247 != 2) = false := bne_eq_false_iff_eq.mpr c54
     clear c54
     obtain ⟨y262, hy262⟩ : ∃ y_ : List Int, y_ = (([0, 1, 9, 8] : List Int)) := ⟨_, rfl⟩
     replace H : ((spec_l30Rd_one.f k s0_0 t248 y262).bind fun bt265 => (some (bt265.1, t240, bt265.2))) = some (r1, r2, r3) := by first | (rw [hy262]; with_reducible exact H) | (have H2_ := (Option.bind_some _ _).symm.trans H; rw [hy262]; with_reducible exact H2_) | (have H2_ := (Option.bind_some _ _).symm.trans H; with_reducible exact H2_) | with_reducible exact H | (rw [hy262]; exact H) | exact H
     have Ny262 := Aside0.mk hy262
     clear hy262
     replace H := Option.bind_eq_some_iff.mp H
     obtain ⟨⟨t265, t266⟩, A550, H⟩ := H
     replace H : (some (t265, t240, t266)) = some (r1, r2, r3) := H
     have A55 := Aside0.mk A550
     clear A550
     simp only [Option.some.injEq, Prod.mk.injEq] at H
     obtain ⟨rfl, rfl, rfl⟩ := H
     go_enter Try.func72, Try.ntmps72
     go_wp2_with (first | ((with_reducible refine gate_dst (N := 2) rfl ?_); refine box_event ?hg (N := 2) ?hd (cs := #[.int .i64 0, .slice none 0 0]) (t := 38) ?hr ?_; (case hd => rfl); (case hg => rfl); (case hr => first | (go_simp; done) | (go_simp; rfl)); intro p2 hg w56 hbox hb; have n0_ := Aside0.mk (IsS112.below HI0.out hb); have n1_ := Aside0.mk (KeepBut.trans HK.out (KeepBut.of_below hb g none) (.inl rfl)); have n2_ := Aside0.mk (below_step HB.out hb); have n3_ := Aside0.mk (hbox); have n4_ := Aside0.mk ((by rw [hg]; exact (keep_size (w := w) (g := g) (row := none) HK.out) : w.heap.size ≤ p2)); have n5_ := Aside0.mk ((Nat.le_trans HW0.out (by rw [hg]; exact (keep_size (w := w) (g := g) (row := none) HK.out) : w.heap.size ≤ p2) : w0.heap.size ≤ p2)); have n6_ := Aside0.mk ((by rw [hg]; exact Nat.ne_of_lt (IsS112.lt (show IsS112 w0 _ g s0_0 s0_1 from by repeat (first | (with_reducible first | exact HI0.out | apply IsS112.alloc | apply IsS112.drewN | apply IsS112.drew | apply IsS112.set_1) | exact HI0.out))) : g ≠ p2)); have n7_ := Aside0.mk ((by rw [hg]; exact Nat.ne_of_gt (IsS112.lt (show IsS112 w0 _ g s0_0 s0_1 from by repeat (first | (with_reducible first | exact HI0.out | apply IsS112.alloc | apply IsS112.drewN | apply IsS112.drew | apply IsS112.set_1) | exact HI0.out))) : p2 ≠ g)); clear HI0; clear HK; clear HB; have HI0 := n0_; have HK := n1_; have HB := n2_; have p0 := n3_; have q0 := n4_; have q1 := n5_; have p4 := n6_; have p7 := n7_; clear n0_ n1_ n2_ n3_ n4_ n5_ n6_ n7_; clear hb hbox hg) | ((with_reducible refine gate_callee (f := 115) rfl ?_); refine goesL_ (some 6) rfl rfl Try.func115 (by kernel_rfl) rfl #[.pointer (some ⟨g, 0, none⟩)] rfl (by (try simp only [List.map_toArray, List.map_cons, List.map_nil]); first | done | rfl | (simp only [List.length_drop, List.length_take]; rfl)) ?_; (with_reducible refine (spec_l30Net.calls k g s0_0 s0_1 t239 t240 t243 w0 _ ?side1 ?side2 A2.out).mono ?_); (case side1 => exact HI0.out); (case side2 => exact HB.out); rintro e w57 ⟨v241, rfl, ho0, hi, hb, hk⟩; refine ⟨_, rfl, ?_⟩; have n0_ := Aside0.mk (KeepBut.blk hk (g' := p2) (o := .cells #[.int .i64 0, .slice none 0 0] 38 (0, 0)) p0.out p7.out (by simp)); have n1_ := Aside0.mk (Kd.R_lower ho0 (keep_size (w := w) (g := g) (row := none) HK.out)); have n2_ := Aside0.mk (KeepBut.trans HK.out hk (.inl rfl)); have n3_ := Aside0.mk (hb); have n4_ := Aside0.mk (hi); clear p0; clear HK; clear HB; clear HI0; have p0 := n0_; have HO242 := n1_; have HK := n2_; have HB := n3_; have HI0 := n4_; clear n0_ n1_ n2_ n3_ n4_; (try clear hb); (try clear hb2); (try clear hk); (try clear hi); (try clear ho0)) | ((with_reducible refine gate_dst (N := 3) rfl ?_); refine box_event ?hg (N := 3) ?hd (cs := #[.int .i64 0, .slice none 0 0]) (t := 38) ?hr ?_; (case hd => rfl); (case hg => rfl); (case hr => first | (go_simp; done) | (go_simp; rfl)); intro p3 hg w58 hbox hb; have n0_ := Aside0.mk (Kd.R_below HO242.out hb); have n1_ := Aside0.mk (IsS112.below HI0.out hb); have n2_ := Aside0.mk (blk_below (g := p2) (o := .cells #[.int .i64 0, .slice none 0 0] 38 (0, 0)) p0.out hb); have n3_ := Aside0.mk (KeepBut.trans HK.out (KeepBut.of_below hb g none) (.inl rfl)); have n4_ := Aside0.mk (below_step HB.out hb); have n5_ := Aside0.mk (hbox); have n6_ := Aside0.mk ((by rw [hg]; exact (keep_size (w := w) (g := g) (row := none) HK.out) : w.heap.size ≤ p3)); have n7_ := Aside0.mk ((Nat.le_trans HW0.out (by rw [hg]; exact (keep_size (w := w) (g := g) (row := none) HK.out) : w.heap.size ≤ p3) : w0.heap.size ≤ p3)); have n8_ := Aside0.mk ((by rw [hg]; exact Nat.ne_of_lt (blk_lt (g := p2) (o := .cells #[.int .i64 0, .slice none 0 0] 38 (0, 0)) p0.out) : p2 ≠ p3)); have n9_ := Aside0.mk ((by rw [hg]; exact Nat.ne_of_gt (blk_lt (g := p2) (o := .cells #[.int .i64 0, .slice none 0 0] 38 (0, 0)) p0.out) : p3 ≠ p2)); have n10_ := Aside0.mk ((by rw [hg]; exact Nat.ne_of_lt (IsS112.lt (show IsS112 w0 _ g s0_0 t243 from by repeat (first | (with_reducible first | exact HI0.out | apply IsS112.alloc | apply IsS112.drewN | apply IsS112.drew | apply IsS112.set_1 | refine IsS112.far ?_ p4.out _) | exact HI0.out))) : g ≠ p3)); have n11_ := Aside0.mk ((by rw [hg]; exact Nat.ne_of_gt (IsS112.lt (show IsS112 w0 _ g s0_0 t243 from by repeat (first | (with_reducible first | exact HI0.out | apply IsS112.alloc | apply IsS112.drewN | apply IsS112.drew | apply IsS112.set_1 | refine IsS112.far ?_ p4.out _) | exact HI0.out))) : p3 ≠ g)); clear HO242; clear HI0; clear p0; clear HK; clear HB; have HO242 := n0_; have HI0 := n1_; have p0 := n2_; have HK := n3_; have HB := n4_; have p1 := n5_; have q2 := n6_; have q3 := n7_; have p6 := n8_; have p9 := n9_; have p5 := n10_; have p8 := n11_; clear n0_ n1_ n2_ n3_ n4_ n5_ n6_ n7_ n8_ n9_ n10_ n11_; clear hb hbox hg; have hnb59 := p9.out; have hnc59 := p6.out; have hnb60 := p8.out; have hnc60 := p5.out; have hcz61_0 : w58.cell? ⟨p3, 0, none⟩ = some (.int .i64 0) := (blk_cell p1.out 0).trans rfl; have hcz61_1 : w58.cell? ⟨p3, 1, none⟩ = some (.slice none 0 0) := (blk_cell p1.out 1).trans rfl; have hfz61_0 := blk_frozen p1.out 0; have hfz61_1 := blk_frozen p1.out 1; obtain ⟨Ao62, co62, eo62⟩ := Kd.R_slice HO242.out; subst eo62) | ((with_reducible refine gate_callee (f := 74) rfl ?_); refine goesL_ (some 15) rfl rfl Try.func74 (by kernel_rfl) rfl #[.pointer (some ⟨g, 0, none⟩), .int .i64 (t240.length : Int)] rfl (by (try simp only [List.map_toArray, List.map_cons, List.map_nil]); first | done | rfl | (simp only [List.length_drop, List.length_take]; rfl)) ?_; (with_reducible refine (spec_l30Rd_pick.calls k g s0_0 t243 (t240.length : Int) t245 t246 w0 _ ?side1 ?side2 A4.out).mono ?_); (case side1 => repeat (first | (with_reducible first | exact HI0.out | apply IsS112.alloc | apply IsS112.drewN | apply IsS112.drew | apply IsS112.set_1 | refine IsS112.far ?_ p4.out _ | refine IsS112.far ?_ p5.out _) | exact HI0.out)); (case side2 => repeat (first | (with_reducible first | exact HB.out | apply below_alloc | apply pw_below_drewN | apply below_drew1 | refine below_set ?_ (IsS112.ge HI0.out) | refine below_set ?_ q1.out | refine below_set ?_ q3.out) | exact HB.out)); rintro e w63 ⟨rfl, hi, hb, hk⟩; refine ⟨_, rfl, ?_⟩; have n0_ := Aside0.mk (KeepBut.blk hk (g' := p2) (o := .cells #[.int .i64 0, .slice none 0 0] 38 (0, 0)) (by (with_reducible repeat (first | refine blk_drewN ?_ _ | refine blk_drew ?_ | refine blk_alloc ?_ _)); refine blk_far ?_ p6.out _; (with_reducible repeat (first | refine blk_drewN ?_ _ | refine blk_drew ?_ | refine blk_alloc ?_ _)); refine blk_far ?_ p6.out _; (with_reducible repeat (first | refine blk_drewN ?_ _ | refine blk_drew ?_ | refine blk_alloc ?_ _)); exact p0.out) p7.out (by simp)); have n1_ := Aside0.mk (Kd.R_mono (Kd.R_keep (IsS112.apart (show IsS112 w0 _ g s0_0 t243 from by repeat (first | (with_reducible first | exact HI0.out | apply IsS112.alloc | apply IsS112.drewN | apply IsS112.drew | apply IsS112.set_1 | refine IsS112.far ?_ p4.out _ | refine IsS112.far ?_ p5.out _) | exact HI0.out)) (Kd.R_mono (Kd.R_far (p := ⟨p3, 1, none⟩) (Kd.R_far (p := ⟨p3, 0, none⟩) (Kd.R_types HO242.out p1.out (by decide)) (fun _ hk => hk.2) (.int .i64 t239)) (fun _ hk => hk.2) (.slice Ao62 t240.length co62)) (fun _ h_ => h_.1)) (by decide)) hk (fun _ h => h.2)) (fun _ h => h.1)); have n2_ := Aside0.mk (KeepBut.blk hk (g' := p3) (o := .cells #[.int .i64 t239, .slice Ao62 t240.length co62] 38 (0, 0)) (by (with_reducible repeat (first | refine blk_drewN ?_ _ | refine blk_drew ?_ | refine blk_alloc ?_ _)); refine blk_put (cs := #[.int .i64 t239, .slice none 0 0]) ?_ 1 _ rfl; (with_reducible repeat (first | refine blk_drewN ?_ _ | refine blk_drew ?_ | refine blk_alloc ?_ _)); refine blk_put (cs := #[.int .i64 0, .slice none 0 0]) ?_ 0 _ rfl; (with_reducible repeat (first | refine blk_drewN ?_ _ | refine blk_drew ?_ | refine blk_alloc ?_ _)); exact p1.out) p8.out (by simp)); have n3_ := Aside0.mk (KeepBut.trans (by repeat (first | (with_reducible first | exact HK.out | apply KeepBut.set_ | apply keep_drewN | apply keep_drew | apply keep_alloc | refine keep_far ?_ q0.out _ | refine keep_far ?_ q2.out _) | exact HK.out)) hk (.inl rfl)); have n4_ := Aside0.mk (hb); have n5_ := Aside0.mk (hi); clear p0; clear HO242; clear p1; clear HK; clear HB; clear HI0; have p0 := n0_; have HO242 := n1_; have p1 := n2_; have HK := n3_; have HB := n4_; have HI0 := n5_; clear n0_ n1_ n2_ n3_ n4_ n5_; (try clear hb); (try clear hb2); (try clear hk); (try clear hi)) | ((with_reducible refine gate_callee (f := 74) rfl ?_); refine goesL_ (some 17) rfl rfl Try.func74 (by kernel_rfl) rfl #[.pointer (some ⟨g, 0, none⟩), .int .i64 16] rfl (by (try simp only [List.map_toArray, List.map_cons, List.map_nil]); first | done | rfl | (simp only [List.length_drop, List.length_take]; rfl)) ?_; (with_reducible refine (spec_l30Rd_pick.calls k g s0_0 t246 16 t247 t248 w0 _ ?side1 ?side2 A5.out).mono ?_); (case side1 => exact HI0.out); (case side2 => exact HB.out); rintro e w64 ⟨rfl, hi, hb, hk⟩; refine ⟨_, rfl, ?_⟩; have n0_ := Aside0.mk (KeepBut.blk hk (g' := p2) (o := .cells #[.int .i64 0, .slice none 0 0] 38 (0, 0)) p0.out p7.out (by simp)); have n1_ := Aside0.mk (Kd.R_mono (Kd.R_keep (IsS112.apart (show IsS112 w0 _ g s0_0 t246 from by repeat (first | (with_reducible first | exact HI0.out | apply IsS112.alloc | apply IsS112.drewN | apply IsS112.drew | apply IsS112.set_1 | refine IsS112.far ?_ p4.out _ | refine IsS112.far ?_ p5.out _) | exact HI0.out)) HO242.out (by decide)) hk (fun _ h => h.2)) (fun _ h => h.1)); have n2_ := Aside0.mk (KeepBut.blk hk (g' := p3) (o := .cells #[.int .i64 t239, .slice Ao62 t240.length co62] 38 (0, 0)) p1.out p8.out (by simp)); have n3_ := Aside0.mk (KeepBut.trans HK.out hk (.inl rfl)); have n4_ := Aside0.mk (hb); have n5_ := Aside0.mk (hi); clear p0; clear HO242; clear p1; clear HK; clear HB; clear HI0; have p0 := n0_; have HO242 := n1_; have p1 := n2_; have HK := n3_; have HB := n4_; have HI0 := n5_; clear n0_ n1_ n2_ n3_ n4_ n5_; (try clear hb); (try clear hb2); (try clear hk); (try clear hi)) | ((with_reducible refine gate_dst (N := 47) rfl ?_); refine Kd.R_lit (Kd.int .i64) _ 3 ?hg (N := 47) ?hd (xs := ([0, 1, 9, 8] : List Int)) (inner := [.int .i64 0, .int .i64 1, .int .i64 9, .int .i64 8]) (ok := fun _ => True) (okp := fun _ => True) ?hr ?hp (fun _ hk => hk) trivial (Below.refl _ _) (Nat.le_refl _) (by simp) ?_; (case hd => rfl); (case hg => rfl); (case hr => first | (go_simp; done) | (go_simp; rfl)); (case hp => exact (Reps.one (show Kd.M (Kd.int .i64) _ _ _ 0 [.int .i64 0] from rfl) (Reps.one (show Kd.M (Kd.int .i64) _ _ _ 1 [.int .i64 1] from rfl) (Reps.one (show Kd.M (Kd.int .i64) _ _ _ 9 [.int .i64 9] from rfl) (Reps.one (show Kd.M (Kd.int .i64) _ _ _ 8 [.int .i64 8] from rfl) (Reps.none _ _)))))); intro v263 w65 ho66 hb hg_ hnew_; clear hg_ hnew_; (first | rw [← Ny262.out] at ho66 | (simp only [Int.reduceToNat] at ho66; rw [← Ny262.out] at ho66)); have n0_ := Aside0.mk (Kd.R_below HO242.out hb); have n1_ := Aside0.mk (Kd.R_lower ho66 (keep_size (w := w) (g := g) (row := none) HK.out)); have n2_ := Aside0.mk (IsS112.below HI0.out hb); have n3_ := Aside0.mk (blk_below (g := p2) (o := .cells #[.int .i64 0, .slice none 0 0] 38 (0, 0)) p0.out hb); have n4_ := Aside0.mk (blk_below (g := p3) (o := .cells #[.int .i64 t239, .slice Ao62 t240.length co62] 38 (0, 0)) p1.out hb); have n5_ := Aside0.mk (KeepBut.trans HK.out (KeepBut.of_below hb g none) (.inl rfl)); have n6_ := Aside0.mk (below_step HB.out hb); clear HO242; clear HI0; clear p0; clear p1; clear HK; clear HB; have HO242 := n0_; have HO264 := n1_; have HI0 := n2_; have p0 := n3_; have p1 := n4_; have HK := n5_; have HB := n6_; clear n0_ n1_ n2_ n3_ n4_ n5_ n6_; clear hb ho66; obtain ⟨Ao67, co67, eo67⟩ := Kd.R_slice HO264.out; subst eo67) | ((with_reducible refine gate_callee (f := 75) rfl ?_); refine goesL_ (some 48) rfl rfl Try.func75 (by kernel_rfl) rfl #[.pointer (some ⟨g, 0, none⟩), .slice Ao67 y262.length co67] rfl (by (try simp only [List.map_toArray, List.map_cons, List.map_nil]); first | done | rfl | (simp only [List.length_drop, List.length_take]; rfl)) ?_; (with_reducible refine (spec_l30Rd_one.calls k g s0_0 t248 _ _ y262 t265 t266 w0 _ ?side1 ?side2 ?side3 ?side4 ?side5 A55.out).mono ?_); (case side1 => exact HI0.out); (case side2 => exact HB.out); (case side3 => repeat (first | exact (Kd.R_reads' HO264.out).2.2 | (with_reducible refine Kd.C_alloc ?_ _) | (with_reducible refine Kd.C_drewN ?_ _) | (with_reducible refine Kd.C_drew ?_))); (case side4 => exact (Kd.R_reads' HO264.out).2.1); (case side5 => exact far_slice (IsS112.own_ne HI0.out HO264.out (by decide))); rintro e w68 ⟨rfl, hi, hb, hk⟩; refine ⟨_, rfl, ?_⟩; have n0_ := Aside0.mk (KeepBut.blk hk (g' := p2) (o := .cells #[.int .i64 0, .slice none 0 0] 38 (0, 0)) p0.out p7.out (by simp)); have n1_ := Aside0.mk (Kd.R_mono (Kd.R_keep (IsS112.apart (show IsS112 w0 _ g s0_0 t248 from by repeat (first | (with_reducible first | exact HI0.out | apply IsS112.alloc | apply IsS112.drewN | apply IsS112.drew | apply IsS112.set_1 | refine IsS112.far ?_ p4.out _ | refine IsS112.far ?_ p5.out _) | exact HI0.out)) HO242.out (by decide)) hk (fun _ h => h.2)) (fun _ h => h.1)); have n2_ := Aside0.mk (KeepBut.blk hk (g' := p3) (o := .cells #[.int .i64 t239, .slice Ao62 t240.length co62] 38 (0, 0)) p1.out p8.out (by simp)); have n3_ := Aside0.mk (Kd.R_mono (Kd.R_keep (IsS112.apart (show IsS112 w0 _ g s0_0 t248 from by repeat (first | (with_reducible first | exact HI0.out | apply IsS112.alloc | apply IsS112.drewN | apply IsS112.drew | apply IsS112.set_1 | refine IsS112.far ?_ p4.out _ | refine IsS112.far ?_ p5.out _) | exact HI0.out)) HO264.out (by decide)) hk (fun _ h => h.2)) (fun _ h => h.1)); have n4_ := Aside0.mk (KeepBut.trans HK.out hk (.inl rfl)); have n5_ := Aside0.mk (hb); have n6_ := Aside0.mk (hi); clear p0; clear HO242; clear p1; clear HO264; clear HK; clear HB; clear HI0; have p0 := n0_; have HO242 := n1_; have p1 := n2_; have HO264 := n3_; have HK := n4_; have HB := n5_; have HI0 := n6_; clear n0_ n1_ n2_ n3_ n4_ n5_ n6_; (try clear hb); (try clear hb2); (try clear hk); (try clear hi); have hcz69_0 : w68.cell? ⟨p3, 0, none⟩ = some (.int .i64 t239) := (blk_cell p1.out 0).trans rfl; have hcz69_1 : w68.cell? ⟨p3, 1, none⟩ = some (.slice Ao62 t240.length co62) := (blk_cell p1.out 1).trans rfl; have hfz69_0 := blk_frozen p1.out 0; have hfz69_1 := blk_frozen p1.out 1; have hnb70 := p7.out; have hnc70 := p4.out; have hcz71_0 : w68.cell? ⟨p2, 0, none⟩ = some (.int .i64 0) := (blk_cell p0.out 0).trans rfl; have hcz71_1 : w68.cell? ⟨p2, 1, none⟩ = some (.slice none 0 0) := (blk_cell p0.out 1).trans rfl; have hfz71_0 := blk_frozen p0.out 0; have hfz71_1 := blk_frozen p0.out 1))
     refine bodyPost_ret (results_cell_row rfl _ _ p2 38 #[.int .i64 t265, .slice Ao62 t240.length co62] (0, 0) _ rfl (by (with_reducible repeat (first | refine blk_drewN ?_ _ | refine blk_drew ?_ | refine blk_alloc ?_ _)); refine blk_put (cs := #[.int .i64 t265, .slice none 0 0]) ?_ 1 _ rfl; (with_reducible repeat (first | refine blk_drewN ?_ _ | refine blk_drew ?_ | refine blk_alloc ?_ _)); refine blk_put (cs := #[.int .i64 0, .slice none 0 0]) ?_ 0 _ rfl; (with_reducible repeat (first | refine blk_drewN ?_ _ | refine blk_drew ?_ | refine blk_alloc ?_ _)); refine blk_far ?_ p6.out _; (with_reducible repeat (first | refine blk_drewN ?_ _ | refine blk_drew ?_ | refine blk_alloc ?_ _)); exact p0.out) Try.underlying38 rfl (by kernel_rfl)) rfl ?_
     exact ⟨_, by first | rfl | (simp [errW_none, errW_some] <;> rfl) | (simp [*, errW_none, errW_some] <;> rfl), by (with_reducible repeat (first | apply Kd.R_alloc | apply Kd.R_drewN | apply Kd.R_drew)); exact Kd.R_mono (Kd.R_far (p := ⟨p2, 1, none⟩) (Kd.R_far (p := ⟨p2, 0, none⟩) (Kd.R_far (p := ⟨p3, 0, none⟩) (Kd.R_types (Kd.R_types HO242.out p1.out (by decide)) p0.out (by decide)) (fun _ hk => hk.1.2) (.int .i64 t265)) (fun _ hk => hk.2) (.int .i64 t265)) (fun _ hk => hk.2) (.slice Ao62 t240.length co62)) (fun _ hk => trivial), by repeat (first | (with_reducible first | exact HI0.out | apply IsS112.alloc | apply IsS112.drewN | apply IsS112.drew | apply IsS112.set_1 | refine IsS112.far ?_ p4.out _ | refine IsS112.far ?_ p5.out _) | exact HI0.out), by repeat (first | (with_reducible first | exact HB.out | apply below_alloc | apply pw_below_drewN | apply below_drew1 | refine below_set ?_ (IsS112.ge HI0.out) | refine below_set ?_ q1.out | refine below_set ?_ q3.out) | exact HB.out), by repeat (first | (with_reducible first | exact HK.out | apply KeepBut.set_ | apply keep_drewN | apply keep_drew | apply keep_alloc | refine keep_far ?_ q0.out _ | refine keep_far ?_ q2.out _) | exact HK.out)⟩
    ·rw [if_neg c54] at H
     have c54b0 : (t247 == 2) = false := beq_eq_false_iff_ne.mpr c54
     have c54b1 : (t247 != 2) = true := bne_iff_ne.mpr c54
     simp only [Option.some.injEq, Prod.mk.injEq] at H
     obtain ⟨rfl, rfl, rfl⟩ := H
     go_enter Try.func72, Try.ntmps72
     go_wp2_with (first | ((with_reducible refine gate_dst (N := 2) rfl ?_); refine box_event ?hg (N := 2) ?hd (cs := #[.int .i64 0, .slice none 0 0]) (t := 38) ?hr ?_; (case hd => rfl); (case hg => rfl); (case hr => first | (go_simp; done) | (go_simp; rfl)); intro p2 hg w72 hbox hb; have n0_ := Aside0.mk (IsS112.below HI0.out hb); have n1_ := Aside0.mk (KeepBut.trans HK.out (KeepBut.of_below hb g none) (.inl rfl)); have n2_ := Aside0.mk (below_step HB.out hb); have n3_ := Aside0.mk (hbox); have n4_ := Aside0.mk ((by rw [hg]; exact (keep_size (w := w) (g := g) (row := none) HK.out) : w.heap.size ≤ p2)); have n5_ := Aside0.mk ((Nat.le_trans HW0.out (by rw [hg]; exact (keep_size (w := w) (g := g) (row := none) HK.out) : w.heap.size ≤ p2) : w0.heap.size ≤ p2)); have n6_ := Aside0.mk ((by rw [hg]; exact Nat.ne_of_lt (IsS112.lt (show IsS112 w0 _ g s0_0 s0_1 from by repeat (first | (with_reducible first | exact HI0.out | apply IsS112.alloc | apply IsS112.drewN | apply IsS112.drew | apply IsS112.set_1) | exact HI0.out))) : g ≠ p2)); have n7_ := Aside0.mk ((by rw [hg]; exact Nat.ne_of_gt (IsS112.lt (show IsS112 w0 _ g s0_0 s0_1 from by repeat (first | (with_reducible first | exact HI0.out | apply IsS112.alloc | apply IsS112.drewN | apply IsS112.drew | apply IsS112.set_1) | exact HI0.out))) : p2 ≠ g)); clear HI0; clear HK; clear HB; have HI0 := n0_; have HK := n1_; have HB := n2_; have p0 := n3_; have q0 := n4_; have q1 := n5_; have p4 := n6_; have p7 := n7_; clear n0_ n1_ n2_ n3_ n4_ n5_ n6_ n7_; clear hb hbox hg) | ((with_reducible refine gate_callee (f := 115) rfl ?_); refine goesL_ (some 6) rfl rfl Try.func115 (by kernel_rfl) rfl #[.pointer (some ⟨g, 0, none⟩)] rfl (by (try simp only [List.map_toArray, List.map_cons, List.map_nil]); first | done | rfl | (simp only [List.length_drop, List.length_take]; rfl)) ?_; (with_reducible refine (spec_l30Net.calls k g s0_0 s0_1 t239 t240 t243 w0 _ ?side1 ?side2 A2.out).mono ?_); (case side1 => exact HI0.out); (case side2 => exact HB.out); rintro e w73 ⟨v241, rfl, ho0, hi, hb, hk⟩; refine ⟨_, rfl, ?_⟩; have n0_ := Aside0.mk (KeepBut.blk hk (g' := p2) (o := .cells #[.int .i64 0, .slice none 0 0] 38 (0, 0)) p0.out p7.out (by simp)); have n1_ := Aside0.mk (Kd.R_lower ho0 (keep_size (w := w) (g := g) (row := none) HK.out)); have n2_ := Aside0.mk (KeepBut.trans HK.out hk (.inl rfl)); have n3_ := Aside0.mk (hb); have n4_ := Aside0.mk (hi); clear p0; clear HK; clear HB; clear HI0; have p0 := n0_; have HO242 := n1_; have HK := n2_; have HB := n3_; have HI0 := n4_; clear n0_ n1_ n2_ n3_ n4_; (try clear hb); (try clear hb2); (try clear hk); (try clear hi); (try clear ho0)) | ((with_reducible refine gate_dst (N := 3) rfl ?_); refine box_event ?hg (N := 3) ?hd (cs := #[.int .i64 0, .slice none 0 0]) (t := 38) ?hr ?_; (case hd => rfl); (case hg => rfl); (case hr => first | (go_simp; done) | (go_simp; rfl)); intro p3 hg w74 hbox hb; have n0_ := Aside0.mk (Kd.R_below HO242.out hb); have n1_ := Aside0.mk (IsS112.below HI0.out hb); have n2_ := Aside0.mk (blk_below (g := p2) (o := .cells #[.int .i64 0, .slice none 0 0] 38 (0, 0)) p0.out hb); have n3_ := Aside0.mk (KeepBut.trans HK.out (KeepBut.of_below hb g none) (.inl rfl)); have n4_ := Aside0.mk (below_step HB.out hb); have n5_ := Aside0.mk (hbox); have n6_ := Aside0.mk ((by rw [hg]; exact (keep_size (w := w) (g := g) (row := none) HK.out) : w.heap.size ≤ p3)); have n7_ := Aside0.mk ((Nat.le_trans HW0.out (by rw [hg]; exact (keep_size (w := w) (g := g) (row := none) HK.out) : w.heap.size ≤ p3) : w0.heap.size ≤ p3)); have n8_ := Aside0.mk ((by rw [hg]; exact Nat.ne_of_lt (blk_lt (g := p2) (o := .cells #[.int .i64 0, .slice none 0 0] 38 (0, 0)) p0.out) : p2 ≠ p3)); have n9_ := Aside0.mk ((by rw [hg]; exact Nat.ne_of_gt (blk_lt (g := p2) (o := .cells #[.int .i64 0, .slice none 0 0] 38 (0, 0)) p0.out) : p3 ≠ p2)); have n10_ := Aside0.mk ((by rw [hg]; exact Nat.ne_of_lt (IsS112.lt (show IsS112 w0 _ g s0_0 t243 from by repeat (first | (with_reducible first | exact HI0.out | apply IsS112.alloc | apply IsS112.drewN | apply IsS112.drew | apply IsS112.set_1 | refine IsS112.far ?_ p4.out _) | exact HI0.out))) : g ≠ p3)); have n11_ := Aside0.mk ((by rw [hg]; exact Nat.ne_of_gt (IsS112.lt (show IsS112 w0 _ g s0_0 t243 from by repeat (first | (with_reducible first | exact HI0.out | apply IsS112.alloc | apply IsS112.drewN | apply IsS112.drew | apply IsS112.set_1 | refine IsS112.far ?_ p4.out _) | exact HI0.out))) : p3 ≠ g)); clear HO242; clear HI0; clear p0; clear HK; clear HB; have HO242 := n0_; have HI0 := n1_; have p0 := n2_; have HK := n3_; have HB := n4_; have p1 := n5_; have q2 := n6_; have q3 := n7_; have p6 := n8_; have p9 := n9_; have p5 := n10_; have p8 := n11_; clear n0_ n1_ n2_ n3_ n4_ n5_ n6_ n7_ n8_ n9_ n10_ n11_; clear hb hbox hg; have hnb75 := p9.out; have hnc75 := p6.out; have hnb76 := p8.out; have hnc76 := p5.out; have hcz77_0 : w74.cell? ⟨p3, 0, none⟩ = some (.int .i64 0) := (blk_cell p1.out 0).trans rfl; have hcz77_1 : w74.cell? ⟨p3, 1, none⟩ = some (.slice none 0 0) := (blk_cell p1.out 1).trans rfl; have hfz77_0 := blk_frozen p1.out 0; have hfz77_1 := blk_frozen p1.out 1; obtain ⟨Ao78, co78, eo78⟩ := Kd.R_slice HO242.out; subst eo78) | ((with_reducible refine gate_callee (f := 74) rfl ?_); refine goesL_ (some 15) rfl rfl Try.func74 (by kernel_rfl) rfl #[.pointer (some ⟨g, 0, none⟩), .int .i64 (t240.length : Int)] rfl (by (try simp only [List.map_toArray, List.map_cons, List.map_nil]); first | done | rfl | (simp only [List.length_drop, List.length_take]; rfl)) ?_; (with_reducible refine (spec_l30Rd_pick.calls k g s0_0 t243 (t240.length : Int) t245 t246 w0 _ ?side1 ?side2 A4.out).mono ?_); (case side1 => repeat (first | (with_reducible first | exact HI0.out | apply IsS112.alloc | apply IsS112.drewN | apply IsS112.drew | apply IsS112.set_1 | refine IsS112.far ?_ p4.out _ | refine IsS112.far ?_ p5.out _) | exact HI0.out)); (case side2 => repeat (first | (with_reducible first | exact HB.out | apply below_alloc | apply pw_below_drewN | apply below_drew1 | refine below_set ?_ (IsS112.ge HI0.out) | refine below_set ?_ q1.out | refine below_set ?_ q3.out) | exact HB.out)); rintro e w79 ⟨rfl, hi, hb, hk⟩; refine ⟨_, rfl, ?_⟩; have n0_ := Aside0.mk (KeepBut.blk hk (g' := p2) (o := .cells #[.int .i64 0, .slice none 0 0] 38 (0, 0)) (by (with_reducible repeat (first | refine blk_drewN ?_ _ | refine blk_drew ?_ | refine blk_alloc ?_ _)); refine blk_far ?_ p6.out _; (with_reducible repeat (first | refine blk_drewN ?_ _ | refine blk_drew ?_ | refine blk_alloc ?_ _)); refine blk_far ?_ p6.out _; (with_reducible repeat (first | refine blk_drewN ?_ _ | refine blk_drew ?_ | refine blk_alloc ?_ _)); exact p0.out) p7.out (by simp)); have n1_ := Aside0.mk (Kd.R_mono (Kd.R_keep (IsS112.apart (show IsS112 w0 _ g s0_0 t243 from by repeat (first | (with_reducible first | exact HI0.out | apply IsS112.alloc | apply IsS112.drewN | apply IsS112.drew | apply IsS112.set_1 | refine IsS112.far ?_ p4.out _ | refine IsS112.far ?_ p5.out _) | exact HI0.out)) (Kd.R_mono (Kd.R_far (p := ⟨p3, 1, none⟩) (Kd.R_far (p := ⟨p3, 0, none⟩) (Kd.R_types HO242.out p1.out (by decide)) (fun _ hk => hk.2) (.int .i64 t239)) (fun _ hk => hk.2) (.slice Ao78 t240.length co78)) (fun _ h_ => h_.1)) (by decide)) hk (fun _ h => h.2)) (fun _ h => h.1)); have n2_ := Aside0.mk (KeepBut.blk hk (g' := p3) (o := .cells #[.int .i64 t239, .slice Ao78 t240.length co78] 38 (0, 0)) (by (with_reducible repeat (first | refine blk_drewN ?_ _ | refine blk_drew ?_ | refine blk_alloc ?_ _)); refine blk_put (cs := #[.int .i64 t239, .slice none 0 0]) ?_ 1 _ rfl; (with_reducible repeat (first | refine blk_drewN ?_ _ | refine blk_drew ?_ | refine blk_alloc ?_ _)); refine blk_put (cs := #[.int .i64 0, .slice none 0 0]) ?_ 0 _ rfl; (with_reducible repeat (first | refine blk_drewN ?_ _ | refine blk_drew ?_ | refine blk_alloc ?_ _)); exact p1.out) p8.out (by simp)); have n3_ := Aside0.mk (KeepBut.trans (by repeat (first | (with_reducible first | exact HK.out | apply KeepBut.set_ | apply keep_drewN | apply keep_drew | apply keep_alloc | refine keep_far ?_ q0.out _ | refine keep_far ?_ q2.out _) | exact HK.out)) hk (.inl rfl)); have n4_ := Aside0.mk (hb); have n5_ := Aside0.mk (hi); clear p0; clear HO242; clear p1; clear HK; clear HB; clear HI0; have p0 := n0_; have HO242 := n1_; have p1 := n2_; have HK := n3_; have HB := n4_; have HI0 := n5_; clear n0_ n1_ n2_ n3_ n4_ n5_; (try clear hb); (try clear hb2); (try clear hk); (try clear hi)) | ((with_reducible refine gate_callee (f := 74) rfl ?_); refine goesL_ (some 17) rfl rfl Try.func74 (by kernel_rfl) rfl #[.pointer (some ⟨g, 0, none⟩), .int .i64 16] rfl (by (try simp only [List.map_toArray, List.map_cons, List.map_nil]); first | done | rfl | (simp only [List.length_drop, List.length_take]; rfl)) ?_; (with_reducible refine (spec_l30Rd_pick.calls k g s0_0 t246 16 t247 t248 w0 _ ?side1 ?side2 A5.out).mono ?_); (case side1 => exact HI0.out); (case side2 => exact HB.out); rintro e w80 ⟨rfl, hi, hb, hk⟩; refine ⟨_, rfl, ?_⟩; have n0_ := Aside0.mk (KeepBut.blk hk (g' := p2) (o := .cells #[.int .i64 0, .slice none 0 0] 38 (0, 0)) p0.out p7.out (by simp)); have n1_ := Aside0.mk (Kd.R_mono (Kd.R_keep (IsS112.apart (show IsS112 w0 _ g s0_0 t246 from by repeat (first | (with_reducible first | exact HI0.out | apply IsS112.alloc | apply IsS112.drewN | apply IsS112.drew | apply IsS112.set_1 | refine IsS112.far ?_ p4.out _ | refine IsS112.far ?_ p5.out _) | exact HI0.out)) HO242.out (by decide)) hk (fun _ h => h.2)) (fun _ h => h.1)); have n2_ := Aside0.mk (KeepBut.blk hk (g' := p3) (o := .cells #[.int .i64 t239, .slice Ao78 t240.length co78] 38 (0, 0)) p1.out p8.out (by simp)); have n3_ := Aside0.mk (KeepBut.trans HK.out hk (.inl rfl)); have n4_ := Aside0.mk (hb); have n5_ := Aside0.mk (hi); clear p0; clear HO242; clear p1; clear HK; clear HB; clear HI0; have p0 := n0_; have HO242 := n1_; have p1 := n2_; have HK := n3_; have HB := n4_; have HI0 := n5_; clear n0_ n1_ n2_ n3_ n4_ n5_; (try clear hb); (try clear hb2); (try clear hk); (try clear hi); have hcz81_0 : w80.cell? ⟨p3, 0, none⟩ = some (.int .i64 t239) := (blk_cell p1.out 0).trans rfl; have hcz81_1 : w80.cell? ⟨p3, 1, none⟩ = some (.slice Ao78 t240.length co78) := (blk_cell p1.out 1).trans rfl; have hfz81_0 := blk_frozen p1.out 0; have hfz81_1 := blk_frozen p1.out 1; have hnb82 := p7.out; have hnc82 := p4.out; have hcz83_0 : w80.cell? ⟨p2, 0, none⟩ = some (.int .i64 0) := (blk_cell p0.out 0).trans rfl; have hcz83_1 : w80.cell? ⟨p2, 1, none⟩ = some (.slice none 0 0) := (blk_cell p0.out 1).trans rfl; have hfz83_0 := blk_frozen p0.out 0; have hfz83_1 := blk_frozen p0.out 1))
     refine bodyPost_ret (results_cell_row rfl _ _ p2 38 #[.int .i64 t239, .slice Ao78 t240.length co78] (0, 0) _ rfl (by (with_reducible repeat (first | refine blk_drewN ?_ _ | refine blk_drew ?_ | refine blk_alloc ?_ _)); refine blk_put (cs := #[.int .i64 t239, .slice none 0 0]) ?_ 1 _ rfl; (with_reducible repeat (first | refine blk_drewN ?_ _ | refine blk_drew ?_ | refine blk_alloc ?_ _)); refine blk_put (cs := #[.int .i64 0, .slice none 0 0]) ?_ 0 _ rfl; (with_reducible repeat (first | refine blk_drewN ?_ _ | refine blk_drew ?_ | refine blk_alloc ?_ _)); exact p0.out) Try.underlying38 rfl (by kernel_rfl)) rfl ?_
     exact ⟨_, by first | rfl | (simp [errW_none, errW_some] <;> rfl) | (simp [*, errW_none, errW_some] <;> rfl), by (with_reducible repeat (first | apply Kd.R_alloc | apply Kd.R_drewN | apply Kd.R_drew)); exact Kd.R_mono (Kd.R_far (p := ⟨p2, 1, none⟩) (Kd.R_far (p := ⟨p2, 0, none⟩) (Kd.R_types HO242.out p0.out (by decide)) (fun _ hk => hk.2) (.int .i64 t239)) (fun _ hk => hk.2) (.slice Ao78 t240.length co78)) (fun _ hk => trivial), by repeat (first | (with_reducible first | exact HI0.out | apply IsS112.alloc | apply IsS112.drewN | apply IsS112.drew | apply IsS112.set_1 | refine IsS112.far ?_ p4.out _ | refine IsS112.far ?_ p5.out _) | exact HI0.out), by repeat (first | (with_reducible first | exact HB.out | apply below_alloc | apply pw_below_drewN | apply below_drew1 | refine below_set ?_ (IsS112.ge HI0.out) | refine below_set ?_ q1.out | refine below_set ?_ q3.out) | exact HB.out), by repeat (first | (with_reducible first | exact HK.out | apply KeepBut.set_ | apply keep_drewN | apply keep_drew | apply keep_alloc | refine keep_far ?_ q0.out _ | refine keep_far ?_ q2.out _) | exact HK.out)⟩
 ·rw [if_neg c3] at H
  have c3b0 : decide (0 < (t240.length : Int)) = false := decide_eq_false c3
  have c3b1 : decide (0 < t240.length) = false := decide_eq_false (by omega)
  clear c3
  simp only [Option.some.injEq, Prod.mk.injEq] at H
  obtain ⟨rfl, rfl, rfl⟩ := H
  go_enter Try.func72, Try.ntmps72
  go_wp2_with (first | ((with_reducible refine gate_dst (N := 2) rfl ?_); refine box_event ?hg (N := 2) ?hd (cs := #[.int .i64 0, .slice none 0 0]) (t := 38) ?hr ?_; (case hd => rfl); (case hg => rfl); (case hr => first | (go_simp; done) | (go_simp; rfl)); intro p2 hg w84 hbox hb; have n0_ := Aside0.mk (IsS112.below HI0.out hb); have n1_ := Aside0.mk (KeepBut.trans HK.out (KeepBut.of_below hb g none) (.inl rfl)); have n2_ := Aside0.mk (below_step HB.out hb); have n3_ := Aside0.mk (hbox); have n4_ := Aside0.mk ((by rw [hg]; exact (keep_size (w := w) (g := g) (row := none) HK.out) : w.heap.size ≤ p2)); have n5_ := Aside0.mk ((Nat.le_trans HW0.out (by rw [hg]; exact (keep_size (w := w) (g := g) (row := none) HK.out) : w.heap.size ≤ p2) : w0.heap.size ≤ p2)); have n6_ := Aside0.mk ((by rw [hg]; exact Nat.ne_of_lt (IsS112.lt (show IsS112 w0 _ g s0_0 s0_1 from by repeat (first | (with_reducible first | exact HI0.out | apply IsS112.alloc | apply IsS112.drewN | apply IsS112.drew | apply IsS112.set_1) | exact HI0.out))) : g ≠ p2)); have n7_ := Aside0.mk ((by rw [hg]; exact Nat.ne_of_gt (IsS112.lt (show IsS112 w0 _ g s0_0 s0_1 from by repeat (first | (with_reducible first | exact HI0.out | apply IsS112.alloc | apply IsS112.drewN | apply IsS112.drew | apply IsS112.set_1) | exact HI0.out))) : p2 ≠ g)); clear HI0; clear HK; clear HB; have HI0 := n0_; have HK := n1_; have HB := n2_; have p0 := n3_; have q0 := n4_; have q1 := n5_; have p4 := n6_; have p7 := n7_; clear n0_ n1_ n2_ n3_ n4_ n5_ n6_ n7_; clear hb hbox hg) | ((with_reducible refine gate_callee (f := 115) rfl ?_); refine goesL_ (some 6) rfl rfl Try.func115 (by kernel_rfl) rfl #[.pointer (some ⟨g, 0, none⟩)] rfl (by (try simp only [List.map_toArray, List.map_cons, List.map_nil]); first | done | rfl | (simp only [List.length_drop, List.length_take]; rfl)) ?_; (with_reducible refine (spec_l30Net.calls k g s0_0 s0_1 t239 t240 t243 w0 _ ?side1 ?side2 A2.out).mono ?_); (case side1 => exact HI0.out); (case side2 => exact HB.out); rintro e w85 ⟨v241, rfl, ho0, hi, hb, hk⟩; refine ⟨_, rfl, ?_⟩; have n0_ := Aside0.mk (KeepBut.blk hk (g' := p2) (o := .cells #[.int .i64 0, .slice none 0 0] 38 (0, 0)) p0.out p7.out (by simp)); have n1_ := Aside0.mk (Kd.R_lower ho0 (keep_size (w := w) (g := g) (row := none) HK.out)); have n2_ := Aside0.mk (KeepBut.trans HK.out hk (.inl rfl)); have n3_ := Aside0.mk (hb); have n4_ := Aside0.mk (hi); clear p0; clear HK; clear HB; clear HI0; have p0 := n0_; have HO242 := n1_; have HK := n2_; have HB := n3_; have HI0 := n4_; clear n0_ n1_ n2_ n3_ n4_; (try clear hb); (try clear hb2); (try clear hk); (try clear hi); (try clear ho0)) | ((with_reducible refine gate_dst (N := 3) rfl ?_); refine box_event ?hg (N := 3) ?hd (cs := #[.int .i64 0, .slice none 0 0]) (t := 38) ?hr ?_; (case hd => rfl); (case hg => rfl); (case hr => first | (go_simp; done) | (go_simp; rfl)); intro p3 hg w86 hbox hb; have n0_ := Aside0.mk (Kd.R_below HO242.out hb); have n1_ := Aside0.mk (IsS112.below HI0.out hb); have n2_ := Aside0.mk (blk_below (g := p2) (o := .cells #[.int .i64 0, .slice none 0 0] 38 (0, 0)) p0.out hb); have n3_ := Aside0.mk (KeepBut.trans HK.out (KeepBut.of_below hb g none) (.inl rfl)); have n4_ := Aside0.mk (below_step HB.out hb); have n5_ := Aside0.mk (hbox); have n6_ := Aside0.mk ((by rw [hg]; exact (keep_size (w := w) (g := g) (row := none) HK.out) : w.heap.size ≤ p3)); have n7_ := Aside0.mk ((Nat.le_trans HW0.out (by rw [hg]; exact (keep_size (w := w) (g := g) (row := none) HK.out) : w.heap.size ≤ p3) : w0.heap.size ≤ p3)); have n8_ := Aside0.mk ((by rw [hg]; exact Nat.ne_of_lt (blk_lt (g := p2) (o := .cells #[.int .i64 0, .slice none 0 0] 38 (0, 0)) p0.out) : p2 ≠ p3)); have n9_ := Aside0.mk ((by rw [hg]; exact Nat.ne_of_gt (blk_lt (g := p2) (o := .cells #[.int .i64 0, .slice none 0 0] 38 (0, 0)) p0.out) : p3 ≠ p2)); have n10_ := Aside0.mk ((by rw [hg]; exact Nat.ne_of_lt (IsS112.lt (show IsS112 w0 _ g s0_0 t243 from by repeat (first | (with_reducible first | exact HI0.out | apply IsS112.alloc | apply IsS112.drewN | apply IsS112.drew | apply IsS112.set_1 | refine IsS112.far ?_ p4.out _) | exact HI0.out))) : g ≠ p3)); have n11_ := Aside0.mk ((by rw [hg]; exact Nat.ne_of_gt (IsS112.lt (show IsS112 w0 _ g s0_0 t243 from by repeat (first | (with_reducible first | exact HI0.out | apply IsS112.alloc | apply IsS112.drewN | apply IsS112.drew | apply IsS112.set_1 | refine IsS112.far ?_ p4.out _) | exact HI0.out))) : p3 ≠ g)); clear HO242; clear HI0; clear p0; clear HK; clear HB; have HO242 := n0_; have HI0 := n1_; have p0 := n2_; have HK := n3_; have HB := n4_; have p1 := n5_; have q2 := n6_; have q3 := n7_; have p6 := n8_; have p9 := n9_; have p5 := n10_; have p8 := n11_; clear n0_ n1_ n2_ n3_ n4_ n5_ n6_ n7_ n8_ n9_ n10_ n11_; clear hb hbox hg; have hnb87 := p9.out; have hnc87 := p6.out; have hnb88 := p8.out; have hnc88 := p5.out; have hcz89_0 : w86.cell? ⟨p3, 0, none⟩ = some (.int .i64 0) := (blk_cell p1.out 0).trans rfl; have hcz89_1 : w86.cell? ⟨p3, 1, none⟩ = some (.slice none 0 0) := (blk_cell p1.out 1).trans rfl; have hfz89_0 := blk_frozen p1.out 0; have hfz89_1 := blk_frozen p1.out 1; obtain ⟨Ao90, co90, eo90⟩ := Kd.R_slice HO242.out; subst eo90; have hnb91 := p7.out; have hnc91 := p4.out; have hcz92_0 : w86.cell? ⟨p2, 0, none⟩ = some (.int .i64 0) := (blk_cell p0.out 0).trans rfl; have hcz92_1 : w86.cell? ⟨p2, 1, none⟩ = some (.slice none 0 0) := (blk_cell p0.out 1).trans rfl; have hfz92_0 := blk_frozen p0.out 0; have hfz92_1 := blk_frozen p0.out 1))
  refine bodyPost_ret (results_cell_row rfl _ _ p2 38 #[.int .i64 t239, .slice Ao90 t240.length co90] (0, 0) _ rfl (by (with_reducible repeat (first | refine blk_drewN ?_ _ | refine blk_drew ?_ | refine blk_alloc ?_ _)); refine blk_put (cs := #[.int .i64 t239, .slice none 0 0]) ?_ 1 _ rfl; (with_reducible repeat (first | refine blk_drewN ?_ _ | refine blk_drew ?_ | refine blk_alloc ?_ _)); refine blk_put (cs := #[.int .i64 0, .slice none 0 0]) ?_ 0 _ rfl; (with_reducible repeat (first | refine blk_drewN ?_ _ | refine blk_drew ?_ | refine blk_alloc ?_ _)); refine blk_far ?_ p6.out _; (with_reducible repeat (first | refine blk_drewN ?_ _ | refine blk_drew ?_ | refine blk_alloc ?_ _)); refine blk_far ?_ p6.out _; (with_reducible repeat (first | refine blk_drewN ?_ _ | refine blk_drew ?_ | refine blk_alloc ?_ _)); exact p0.out) Try.underlying38 rfl (by kernel_rfl)) rfl ?_
  exact ⟨_, by first | rfl | (simp [errW_none, errW_some] <;> rfl) | (simp [*, errW_none, errW_some] <;> rfl), by (with_reducible repeat (first | apply Kd.R_alloc | apply Kd.R_drewN | apply Kd.R_drew)); exact Kd.R_mono (Kd.R_far (p := ⟨p2, 1, none⟩) (Kd.R_far (p := ⟨p2, 0, none⟩) (Kd.R_far (p := ⟨p3, 1, none⟩) (Kd.R_far (p := ⟨p3, 0, none⟩) (Kd.R_types (Kd.R_types HO242.out p1.out (by decide)) p0.out (by decide)) (fun _ hk => hk.1.2) (.int .i64 t239)) (fun _ hk => hk.1.2) (.slice Ao90 t240.length co90)) (fun _ hk => hk.2) (.int .i64 t239)) (fun _ hk => hk.2) (.slice Ao90 t240.length co90)) (fun _ hk => trivial), by repeat (first | (with_reducible first | exact HI0.out | apply IsS112.alloc | apply IsS112.drewN | apply IsS112.drew | apply IsS112.set_1 | refine IsS112.far ?_ p4.out _ | refine IsS112.far ?_ p5.out _) | exact HI0.out), by repeat (first | (with_reducible first | exact HB.out | apply below_alloc | apply pw_below_drewN | apply below_drew1 | refine below_set ?_ (IsS112.ge HI0.out) | refine below_set ?_ q1.out | refine below_set ?_ q3.out) | exact HB.out), by repeat (first | (with_reducible first | exact HK.out | apply KeepBut.set_ | apply keep_drewN | apply keep_drew | apply keep_alloc | refine keep_far ?_ q0.out _ | refine keep_far ?_ q2.out _) | exact HK.out)⟩
end Go.Proofs.Ytmabopomecdidaa.Pr
end
section
namespace Go.Proofs.Ytmabopomecdidaa.Pr
open Go.RowKit Go.Proofs.YtmabopomecdidaaW.PrintWords Go.Proofs.YtmabopomecdidaaW.PrintLast Go.Proofs.YtmabopomecdidaaW.PrintMore
attribute [local go_sem] max2_int min2_int max_two min_two max_three min_three max_four min_four
set_option linter.unusedVariables false
set_option linter.unusedSimpArgs false
abbrev Y32 := true
abbrev N32 := false
def spec_l30Flat.l0 : Nat → Int → List Int → Int → Int → List (S45) → Option (Int × (List (S45)) × Int)
 | 0, _, _, _, _, _ => none
 | k + 1, x4, x1000, u5, t4, q1 => if x4 < (q1.length : Int) then (if 0 ≤ x4 then (if ((rd_T45 q1 x4).f0) > ((rd_T45 q1 x4).f1) then ((some (q1.set (x4 : Int).toNat (⟨(rd_T45 q1 x4).f1, (rd_T45 q1 x4).f1, (rd_T45 q1 x4).f2, (rd_T45 q1 x4).f3, (rd_T45 q1 x4).f4⟩ : S45) : List (S45))).bind fun y280 => (spec_l30Flat.l0 k (wrap64 (x4 + 1)) x1000 u5 t4 (y280.set (x4 : Int).toNat (⟨(rd_T45 y280 x4).f0, (rd_T45 q1 x4).f0, (rd_T45 y280 x4).f2, (rd_T45 y280 x4).f3, (rd_T45 y280 x4).f4⟩ : S45)))) else (spec_l30Flat.l0 k (wrap64 (x4 + 1)) x1000 u5 t4 q1)) else (none)) else (some (t4, q1, u5))
def spec_l30Flat.f (k : Nat) (s0_0 : List Int) (s0_1 : Int) : Option (Int × (List (S45)) × Int) := (spec_l30AnyNet.f k s0_0 s0_1).bind fun bt268 => ((spec_l30Rd_pick.f k s0_0 bt268.2.2 3).bind fun bt274 => (if bt274.1 > 0 then (spec_l30Flat.l0 k 0 s0_0 bt274.2 bt268.1 bt268.2.1) else (some (bt268.1, bt268.2.1, bt274.2))))
def spec_l30Flat.T6 : Bool × List (List Nat × List Nat) := (true, [([], []), ([0], [0]), ([], []), ([1, 2], [1, 2]), ([3], [3]), ([4], [4]), ([], []), ([6], [6]), ([], []), ([7, 8], [7, 8]), ([9], [9]), ([10], [10]), ([5, 11], [5, 11])])
def spec_l30Flat.B6 : List Nat := [0, 1, 0, 7, 15, 31, 0, 64, 0, 448, 960, 1984, 4095]
theorem spec_l30Flat.tab6 : rtab .any (opsOf Try.f65 6) = spec_l30Flat.T6 := by kernel_rfl
theorem spec_l30Flat.bits6 : waitsOk spec_l30Flat.T6.2 spec_l30Flat.B6 = true := by kernel_rfl
def spec_l30Flat.T8 : Bool × List (List Nat × List Nat) := (true, [([], []), ([0], [0]), ([], []), ([], []), ([3], [3]), ([], []), ([4, 5], [4, 5]), ([6], [6]), ([7], [7]), ([1, 2, 0, 1, 2, 3, 4, 5, 6, 7, 8], [1, 2]), ([9, 0, 1, 2, 3, 4, 5, 6, 7, 8], [9]), ([10, 8, 0, 1, 2, 3, 4, 5, 6, 7, 8], [8, 10])])
def spec_l30Flat.B8 : List Nat := [0, 1, 0, 0, 8, 0, 56, 120, 248, 511, 1023, 2047]
theorem spec_l30Flat.tab8 : rtab .any (opsOf Try.f65 8) = spec_l30Flat.T8 := by kernel_rfl
theorem spec_l30Flat.bits8 : waitsOk spec_l30Flat.T8.2 spec_l30Flat.B8 = true := by kernel_rfl
set_option maxHeartbeats 8000000 in
set_option maxRecDepth 100000 in
theorem spec_l30Flat.calls (k : Nat) (g : Nat) (s0_0 : List Int) (s0_1 : Int) (r1 : Int) (r2 : List (S45)) (r3 : Int) (w0 w : World) (hI : IsS112 w0 w g s0_0 s0_1) (hB : Below w0.heap.size w0 w) (h : spec_l30Flat.f k s0_0 s0_1 = some (r1, r2, r3)) :
  Calls Try.prog 65 #[.pointer (some ⟨g, 0, none⟩)] w fun e w' => ∃ v1_ : Value, e = .returned (.agg #[.int .i64 r1, v1_]) ∧ Kd.R k45 45 w' w.heap.size (fun _ => True) v1_ r2 ∧ IsS112 w0 w' g s0_0 r3 ∧ Below w0.heap.size w0 w' ∧ KeepBut w w' g none := by
 have hu38 := Try.underlying38
 have HI0 := Aside0.mk hI
 have HK := Aside0.mk (KeepBut.refl w g none)
 have HL := Aside0.mk hB.size
 clear hI
 have HW0 := Aside0.mk hB.size
 have HB := Aside0.mk hB
 clear hB
 have H : ((spec_l30AnyNet.f k s0_0 s0_1).bind fun bt268 => ((spec_l30Rd_pick.f k s0_0 bt268.2.2 3).bind fun bt274 => (if bt274.1 > 0 then (spec_l30Flat.l0 k 0 s0_0 bt274.2 bt268.1 bt268.2.1) else (some (bt268.1, bt268.2.1, bt274.2))))) = some (r1, r2, r3) := h
 clear h
 replace H := Option.bind_eq_some_iff.mp H
 obtain ⟨⟨t268, t269, t272⟩, A20, H⟩ := H
 replace H : ((spec_l30Rd_pick.f k s0_0 t272 3).bind fun bt274 => (if bt274.1 > 0 then (spec_l30Flat.l0 k 0 s0_0 bt274.2 t268 t269) else (some (t268, t269, bt274.2)))) = some (r1, r2, r3) := H
 have A2 := Aside0.mk A20
 clear A20
 replace H := Option.bind_eq_some_iff.mp H
 obtain ⟨⟨t274, t275⟩, A30, H⟩ := H
 replace H : (if t274 > 0 then (spec_l30Flat.l0 k 0 s0_0 t275 t268 t269) else (some (t268, t269, t275))) = some (r1, r2, r3) := H
 have A3 := Aside0.mk A30
 clear A30
 by_cases c4 : t274 > 0
 ·rw [if_pos c4] at H
  have c4b0 : decide (0 < t274) = true := decide_eq_true c4
  clear c4
  have H' := Aside0.mk H
  clear H
  go_enter Try.func65, Try.ntmps65
  go_wp2_with (first | ((with_reducible refine gate_dst (N := 2) rfl ?_); refine box_event ?hg (N := 2) ?hd (cs := #[.int .i64 0, .slice none 0 0]) (t := 38) ?hr ?_; (case hd => rfl); (case hg => rfl); (case hr => first | (go_simp; done) | (go_simp; rfl)); intro p7 hg w5 hbox hb; have n0_ := Aside0.mk (IsS112.below HI0.out hb); have n1_ := Aside0.mk (KeepBut.trans HK.out (KeepBut.of_below hb g none) (.inl rfl)); have n2_ := Aside0.mk (below_step HB.out hb); have n3_ := Aside0.mk (hbox); have n4_ := Aside0.mk ((by rw [hg]; exact (keep_size (w := w) (g := g) (row := none) HK.out) : w.heap.size ≤ p7)); have n5_ := Aside0.mk ((Nat.le_trans HW0.out (by rw [hg]; exact (keep_size (w := w) (g := g) (row := none) HK.out) : w.heap.size ≤ p7) : w0.heap.size ≤ p7)); have n6_ := Aside0.mk ((by rw [hg]; exact Nat.ne_of_lt (IsS112.lt (show IsS112 w0 _ g s0_0 s0_1 from by repeat (first | (with_reducible first | exact HI0.out | apply IsS112.alloc | apply IsS112.drewN | apply IsS112.drew | apply IsS112.set_1) | exact HI0.out))) : g ≠ p7)); have n7_ := Aside0.mk ((by rw [hg]; exact Nat.ne_of_gt (IsS112.lt (show IsS112 w0 _ g s0_0 s0_1 from by repeat (first | (with_reducible first | exact HI0.out | apply IsS112.alloc | apply IsS112.drewN | apply IsS112.drew | apply IsS112.set_1) | exact HI0.out))) : p7 ≠ g)); clear HI0; clear HK; clear HB; have HI0 := n0_; have HK := n1_; have HB := n2_; have p4 := n3_; have r9 := n4_; have t0 := n5_; have p8 := n6_; have q4 := n7_; clear n0_ n1_ n2_ n3_ n4_ n5_ n6_ n7_; clear hb hbox hg) | ((with_reducible refine gate_callee (f := 72) rfl ?_); refine goesL_ (some 7) rfl rfl Try.func72 (by kernel_rfl) rfl #[.pointer (some ⟨g, 0, none⟩)] rfl (by (try simp only [List.map_toArray, List.map_cons, List.map_nil]); first | done | rfl | (simp only [List.length_drop, List.length_take]; rfl)) ?_; (with_reducible refine (spec_l30AnyNet.calls k g s0_0 s0_1 t268 t269 t272 w0 _ ?side1 ?side2 A2.out).mono ?_); (case side1 => exact HI0.out); (case side2 => exact HB.out); rintro e w6 ⟨v270, rfl, ho0, hi, hb, hk⟩; refine ⟨_, rfl, ?_⟩; have n0_ := Aside0.mk (KeepBut.blk hk (g' := p7) (o := .cells #[.int .i64 0, .slice none 0 0] 38 (0, 0)) p4.out q4.out (by simp)); have n1_ := Aside0.mk (Kd.R_lower ho0 (keep_size (w := w) (g := g) (row := none) HK.out)); have n2_ := Aside0.mk (KeepBut.trans HK.out hk (.inl rfl)); have n3_ := Aside0.mk (hb); have n4_ := Aside0.mk (hi); clear p4; clear HK; clear HB; clear HI0; have p4 := n0_; have HO271 := n1_; have HK := n2_; have HB := n3_; have HI0 := n4_; clear n0_ n1_ n2_ n3_ n4_; (try clear hb); (try clear hb2); (try clear hk); (try clear hi); (try clear ho0)) | ((with_reducible refine gate_dst (N := 3) rfl ?_); refine box_event ?hg (N := 3) ?hd (cs := #[.int .i64 0, .slice none 0 0]) (t := 38) ?hr ?_; (case hd => rfl); (case hg => rfl); (case hr => first | (go_simp; done) | (go_simp; rfl)); intro p5 hg w7 hbox hb; have n0_ := Aside0.mk (Kd.R_below HO271.out hb); have n1_ := Aside0.mk (IsS112.below HI0.out hb); have n2_ := Aside0.mk (blk_below (g := p7) (o := .cells #[.int .i64 0, .slice none 0 0] 38 (0, 0)) p4.out hb); have n3_ := Aside0.mk (KeepBut.trans HK.out (KeepBut.of_below hb g none) (.inl rfl)); have n4_ := Aside0.mk (below_step HB.out hb); have n5_ := Aside0.mk (hbox); have n6_ := Aside0.mk ((by rw [hg]; exact (keep_size (w := w) (g := g) (row := none) HK.out) : w.heap.size ≤ p5)); have n7_ := Aside0.mk ((Nat.le_trans HW0.out (by rw [hg]; exact (keep_size (w := w) (g := g) (row := none) HK.out) : w.heap.size ≤ p5) : w0.heap.size ≤ p5)); have n8_ := Aside0.mk ((by rw [hg]; exact Nat.ne_of_lt (blk_lt (g := p7) (o := .cells #[.int .i64 0, .slice none 0 0] 38 (0, 0)) p4.out) : p7 ≠ p5)); have n9_ := Aside0.mk ((by rw [hg]; exact Nat.ne_of_gt (blk_lt (g := p7) (o := .cells #[.int .i64 0, .slice none 0 0] 38 (0, 0)) p4.out) : p5 ≠ p7)); have n10_ := Aside0.mk ((by rw [hg]; exact Nat.ne_of_lt (IsS112.lt (show IsS112 w0 _ g s0_0 t272 from by repeat (first | (with_reducible first | exact HI0.out | apply IsS112.alloc | apply IsS112.drewN | apply IsS112.drew | apply IsS112.set_1 | refine IsS112.far ?_ p8.out _) | exact HI0.out))) : g ≠ p5)); have n11_ := Aside0.mk ((by rw [hg]; exact Nat.ne_of_gt (IsS112.lt (show IsS112 w0 _ g s0_0 t272 from by repeat (first | (with_reducible first | exact HI0.out | apply IsS112.alloc | apply IsS112.drewN | apply IsS112.drew | apply IsS112.set_1 | refine IsS112.far ?_ p8.out _) | exact HI0.out))) : p5 ≠ g)); clear HO271; clear HI0; clear p4; clear HK; clear HB; have HO271 := n0_; have HI0 := n1_; have p4 := n2_; have HK := n3_; have HB := n4_; have p3 := n5_; have t1 := n6_; have t2 := n7_; have q0 := n8_; have q2 := n9_; have p9 := n10_; have q3 := n11_; clear n0_ n1_ n2_ n3_ n4_ n5_ n6_ n7_ n8_ n9_ n10_ n11_; clear hb hbox hg; have hnb8 := q2.out; have hnc8 := q0.out; have hnb9 := q3.out; have hnc9 := p9.out; have u8 : w7.cell? ⟨p5, 0, none⟩ = some (.int .i64 0) := (blk_cell p3.out 0).trans rfl; have u9 : w7.cell? ⟨p5, 1, none⟩ = some (.slice none 0 0) := (blk_cell p3.out 1).trans rfl; have v0 := blk_frozen p3.out 0; have v1 := blk_frozen p3.out 1; obtain ⟨Ao11, co11, eo11⟩ := Kd.R_slice HO271.out; subst eo11) | ((with_reducible refine gate_callee (f := 74) rfl ?_); refine goesL_ (some 9) rfl rfl Try.func74 (by kernel_rfl) rfl #[.pointer (some ⟨g, 0, none⟩), .int .i64 3] rfl (by (try simp only [List.map_toArray, List.map_cons, List.map_nil]); first | done | rfl | (simp only [List.length_drop, List.length_take]; rfl)) ?_; (with_reducible refine (spec_l30Rd_pick.calls k g s0_0 t272 3 t274 t275 w0 _ ?side1 ?side2 A3.out).mono ?_); (case side1 => repeat (first | (with_reducible first | exact HI0.out | apply IsS112.alloc | apply IsS112.drewN | apply IsS112.drew | apply IsS112.set_1 | refine IsS112.far ?_ p8.out _ | refine IsS112.far ?_ p9.out _) | exact HI0.out)); (case side2 => repeat (first | (with_reducible first | exact HB.out | apply below_alloc | apply pw_below_drewN | apply below_drew1 | refine below_set ?_ (IsS112.ge HI0.out) | refine below_set ?_ t0.out | refine below_set ?_ t2.out) | exact HB.out)); rintro e w12 ⟨rfl, hi, hb, hk⟩; refine ⟨_, rfl, ?_⟩; have n0_ := Aside0.mk (KeepBut.blk hk (g' := p7) (o := .cells #[.int .i64 0, .slice none 0 0] 38 (0, 0)) (by (with_reducible repeat (first | refine blk_drewN ?_ _ | refine blk_drew ?_ | refine blk_alloc ?_ _)); refine blk_far ?_ q0.out _; (with_reducible repeat (first | refine blk_drewN ?_ _ | refine blk_drew ?_ | refine blk_alloc ?_ _)); refine blk_far ?_ q0.out _; (with_reducible repeat (first | refine blk_drewN ?_ _ | refine blk_drew ?_ | refine blk_alloc ?_ _)); exact p4.out) q4.out (by simp)); have n1_ := Aside0.mk (Kd.R_mono (Kd.R_keep (IsS112.apart (show IsS112 w0 _ g s0_0 t272 from by repeat (first | (with_reducible first | exact HI0.out | apply IsS112.alloc | apply IsS112.drewN | apply IsS112.drew | apply IsS112.set_1 | refine IsS112.far ?_ p8.out _ | refine IsS112.far ?_ p9.out _) | exact HI0.out)) (Kd.R_mono (Kd.R_far (p := ⟨p5, 1, none⟩) (Kd.R_far (p := ⟨p5, 0, none⟩) (Kd.R_types HO271.out p3.out (by decide)) (fun _ hk => hk.2) (.int .i64 t268)) (fun _ hk => hk.2) (.slice Ao11 t269.length co11)) (fun _ h_ => h_.1)) (by decide)) hk (fun _ h => h.2)) (fun _ h => h.1)); have n2_ := Aside0.mk (KeepBut.blk hk (g' := p5) (o := .cells #[.int .i64 t268, .slice Ao11 t269.length co11] 38 (0, 0)) (by (with_reducible repeat (first | refine blk_drewN ?_ _ | refine blk_drew ?_ | refine blk_alloc ?_ _)); refine blk_put (cs := #[.int .i64 t268, .slice none 0 0]) ?_ 1 _ rfl; (with_reducible repeat (first | refine blk_drewN ?_ _ | refine blk_drew ?_ | refine blk_alloc ?_ _)); refine blk_put (cs := #[.int .i64 0, .slice none 0 0]) ?_ 0 _ rfl; (with_reducible repeat (first | refine blk_drewN ?_ _ | refine blk_drew ?_ | refine blk_alloc ?_ _)); exact p3.out) q3.out (by simp)); have n3_ := Aside0.mk (KeepBut.trans (by repeat (first | (with_reducible first | exact HK.out | apply KeepBut.set_ | apply keep_drewN | apply keep_drew | apply keep_alloc | refine keep_far ?_ r9.out _ | refine keep_far ?_ t1.out _) | exact HK.out)) hk (.inl rfl)); have n4_ := Aside0.mk (hb); have n5_ := Aside0.mk (hi); clear p4; clear HO271; clear p3; clear HK; clear HB; clear HI0; have p4 := n0_; have HO271 := n1_; have p3 := n2_; have HK := n3_; have HB := n4_; have HI0 := n5_; clear n0_ n1_ n2_ n3_ n4_ n5_; (try clear hb); (try clear hb2); (try clear hk); (try clear hi)))
  go_loopg [4] k (fun kq v4 w' => ∃ (x4_1 : Int) (p0 : List (S45)) (r8 : Value), v4 = .int .i64 x4_1 ∧ Aside0 (spec_l30Flat.l0 kq x4_1 s0_0 t275 t268 p0 = some (r1, r2, r3)) ∧ Aside0 (kq ≤ k) ∧ Aside0 (Kd.R k45 45 w' w.heap.size (fun _ => True) r8 p0) ∧ Aside0 (w'.heap[p7]? = some (.cells #[.int .i64 0, (.slice none 0 0)] 38 (0, 0))) ∧ Aside0 (w'.heap[p5]? = some (.cells #[.int .i64 t268, r8] 38 (0, 0))) ∧ Aside0 (IsS112 w0 w' g s0_0 t275) ∧ Aside0 (KeepBut w w' g none) ∧ Aside0 (Below w0.heap.size w0 w'))
  case atStart => exact ⟨(0), (t269), (.slice Ao11 t269.length co11), (by first | rfl | (simp; done) | (simp [*]; done)), H', ⟨Nat.le_refl _⟩, ⟨by (with_reducible repeat (first | apply Kd.R_alloc | apply Kd.R_drewN | apply Kd.R_drew)); exact HO271.out⟩, ⟨by (with_reducible repeat (first | refine blk_drewN ?_ _ | refine blk_drew ?_ | refine blk_alloc ?_ _)); exact p4.out⟩, ⟨by (with_reducible repeat (first | refine blk_drewN ?_ _ | refine blk_drew ?_ | refine blk_alloc ?_ _)); exact p3.out⟩, ⟨by repeat (first | (with_reducible first | exact HI0.out | apply IsS112.alloc | apply IsS112.drewN | apply IsS112.drew | apply IsS112.set_1 | refine IsS112.far ?_ p8.out _ | refine IsS112.far ?_ p9.out _) | exact HI0.out)⟩, ⟨by repeat (first | (with_reducible first | exact HK.out | apply KeepBut.set_ | apply keep_drewN | apply keep_drew | apply keep_alloc | refine keep_far ?_ r9.out _ | refine keep_far ?_ t1.out _) | exact HK.out)⟩, ⟨by repeat (first | (with_reducible first | exact HB.out | apply below_alloc | apply pw_below_drewN | apply below_drew1 | refine below_set ?_ (IsS112.ge HI0.out) | refine below_set ?_ t0.out | refine below_set ?_ t2.out) | exact HB.out)⟩⟩
  case round =>
   clear H'
   try clear p2
   try clear c4
   try clear c4b0
   try clear c6
   try clear c7
   try clear c8
   try clear c9
   try clear u8
   try clear u9
   try clear v0
   try clear v1
   obtain ⟨x4_1, p0, r8, rfl, HA, HK1, p1, p4, p3, HI0, HK, HB⟩ := hrel
   cases gk with
   | zero => exact absurd HA.out (by simp [spec_l30Flat.l0])
   | succ k1 =>
    have H := HA.out
    clear HA
    simp only [spec_l30Flat.l0] at H
    by_cases c13 : x4_1 < (p0.length : Int)
    ·rw [if_pos c13] at H
     have c13b0 : decide (x4_1 < (p0.length : Int)) = true := decide_eq_true c13
     clear c13
     by_cases c14 : 0 ≤ x4_1
     ·rw [if_pos c14] at H
      have c14b0 : decide (0 ≤ x4_1) = true := decide_eq_true c14
      clear c14
      by_cases c15 : ((rd_T45 p0 x4_1).f0) > ((rd_T45 p0 x4_1).f1)
      ·rw [if_pos c15] at H
       have c15b0 : decide (((rd_T45 p0 x4_1).f1) < ((rd_T45 p0 x4_1).f0)) = true := decide_eq_true c15
       clear c15
       obtain ⟨y280, hy280⟩ : ∃ y_ : List (S45), y_ = (p0.set (x4_1 : Int).toNat (⟨(rd_T45 p0 x4_1).f1, (rd_T45 p0 x4_1).f1, (rd_T45 p0 x4_1).f2, (rd_T45 p0 x4_1).f3, (rd_T45 p0 x4_1).f4⟩ : S45)) := ⟨_, rfl⟩
       replace H : (spec_l30Flat.l0 k1 (wrap64 (x4_1 + 1)) s0_0 t275 t268 (y280.set (x4_1 : Int).toNat (⟨(rd_T45 y280 x4_1).f0, (rd_T45 p0 x4_1).f0, (rd_T45 y280 x4_1).f2, (rd_T45 y280 x4_1).f3, (rd_T45 y280 x4_1).f4⟩ : S45))) = some (r1, r2, r3) := by first | (rw [hy280]; with_reducible exact H) | (have H2_ := (Option.bind_some _ _).symm.trans H; rw [hy280]; with_reducible exact H2_) | (have H2_ := (Option.bind_some _ _).symm.trans H; with_reducible exact H2_) | with_reducible exact H | (rw [hy280]; exact H) | exact H
       have Ny280 := Aside0.mk hy280
       clear hy280
       obtain ⟨y281, hy281⟩ : ∃ y_ : List (S45), y_ = (y280.set (x4_1 : Int).toNat (⟨(rd_T45 y280 x4_1).f0, (rd_T45 p0 x4_1).f0, (rd_T45 y280 x4_1).f2, (rd_T45 y280 x4_1).f3, (rd_T45 y280 x4_1).f4⟩ : S45)) := ⟨_, rfl⟩
       replace H : (spec_l30Flat.l0 k1 (wrap64 (x4_1 + 1)) s0_0 t275 t268 y281) = some (r1, r2, r3) := by first | (rw [hy281]; with_reducible exact H) | (have H2_ := (Option.bind_some _ _).symm.trans H; rw [hy281]; with_reducible exact H2_) | (have H2_ := (Option.bind_some _ _).symm.trans H; with_reducible exact H2_) | with_reducible exact H | (rw [hy281]; exact H) | exact H
       have Ny281 := Aside0.mk hy281
       clear hy281
       have H' := Aside0.mk H
       clear H
       have hnb18 := q2.out
       have hnc18 := q0.out
       have hnb19 := q3.out
       have hnc19 := p9.out
       have hcz20_0 : wr.cell? ⟨p5, 0, none⟩ = some (.int .i64 t268) := (blk_cell p3.out 0).trans rfl
       have hcz20_1 : wr.cell? ⟨p5, 1, none⟩ = some (r8) := (blk_cell p3.out 1).trans rfl
       have hfz20_0 := blk_frozen p3.out 0
       have hfz20_1 := blk_frozen p3.out 1
       obtain ⟨Ao21, co21, eo21⟩ := Kd.R_slice p1.out
       subst eo21
       try go_wp2
       have n0_ := Aside0.mk (Kd.R_drew p1.out)
       have n1_ := Aside0.mk (blk_drew p4.out)
       have n2_ := Aside0.mk (blk_drew p3.out)
       have n3_ := Aside0.mk (IsS112.drew HI0.out)
       have n4_ := Aside0.mk (keep_drew HK.out)
       have n5_ := Aside0.mk (below_drew1 HB.out)
       clear p1
       clear p4
       clear p3
       clear HI0
       clear HK
       clear HB
       have p1 := n0_
       have p4 := n1_
       have p3 := n2_
       have HI0 := n3_
       have HK := n4_
       have HB := n5_
       clear n0_ n1_ n2_ n3_ n4_ n5_
       have p276 : 0 ≤ (x4_1 : Int) := of_decide_eq_true (by first | (with_reducible assumption) | assumption)
       have q276 : x4_1 < (p0.length : Int) := of_decide_eq_true (by first | (with_reducible assumption) | assumption)
       obtain ⟨p6, e276, q5, q6, q7, q8, q9⟩ := at_T45 (Kd.R_reads' p1.out).2.2 x4_1 p276 q276
       cases e276
       replace p276 := eq_true p276
       replace q276 := eq_true q276
       have p277 : 0 ≤ (x4_1 : Int) := of_decide_eq_true (by first | (with_reducible assumption) | assumption)
       have q277 : x4_1 < (p0.length : Int) := of_decide_eq_true (by first | (with_reducible assumption) | assumption)
       obtain ⟨u6, e277, r0, r4, r5, r6, r7⟩ := at_T45 (Kd.R_reads' p1.out).2.2 x4_1 p277 q277
       obtain rfl : p6 = u6 := (by injection e277)
       replace p277 := eq_true p277
       replace q277 := eq_true q277
       refine start_ (n := 13) (S := fun w' => w'.cell? ⟨p5, 0, none⟩ = some (.int .i64 t268) ∧ w'.cell? ⟨p5, 1, none⟩ = some (.slice (some p6) p0.length co21) ∧ w'.cell? (p6.add ((x4_1).toNat * 5)) = some (.int .i64 ((rd_T45 p0 x4_1).f0)) ∧ w'.cell? ⟨(p6.add ((x4_1).toNat * 5)).block, (p6.add ((x4_1).toNat * 5)).off + 1, none⟩ = some (.int .i64 ((rd_T45 p0 x4_1).f1)) ∧ w'.cell? ⟨(p6.add ((x4_1).toNat * 5)).block, (p6.add ((x4_1).toNat * 5)).off + 2, none⟩ = some (.int .i64 ((rd_T45 p0 x4_1).f2)) ∧ w'.cell? ⟨(p6.add ((x4_1).toNat * 5)).block, (p6.add ((x4_1).toNat * 5)).off + 3, none⟩ = some (.int .i64 ((rd_T45 p0 x4_1).f3)) ∧ w'.cell? ⟨(p6.add ((x4_1).toNat * 5)).block, (p6.add ((x4_1).toNat * 5)).off + 4, none⟩ = some (.int .i64 ((rd_T45 p0 x4_1).f4)) ∧ w'.cell? (p6.add ((x4_1).toNat * 5)) = some (.int .i64 ((rd_T45 p0 x4_1).f0)) ∧ w'.cell? ⟨(p6.add ((x4_1).toNat * 5)).block, (p6.add ((x4_1).toNat * 5)).off + 1, none⟩ = some (.int .i64 ((rd_T45 p0 x4_1).f1)) ∧ w'.cell? ⟨(p6.add ((x4_1).toNat * 5)).block, (p6.add ((x4_1).toNat * 5)).off + 2, none⟩ = some (.int .i64 ((rd_T45 p0 x4_1).f2)) ∧ w'.cell? ⟨(p6.add ((x4_1).toNat * 5)).block, (p6.add ((x4_1).toNat * 5)).off + 3, none⟩ = some (.int .i64 ((rd_T45 p0 x4_1).f3)) ∧ w'.cell? ⟨(p6.add ((x4_1).toNat * 5)).block, (p6.add ((x4_1).toNat * 5)).off + 4, none⟩ = some (.int .i64 ((rd_T45 p0 x4_1).f4))) (ds := []) #[N32,N32,N32,N32,N32,N32,N32,N32,N32,N32,N32,N32,N32] (by kernel_rfl) rfl rfl ⟨(blk_cell p3.out 0).trans rfl, (blk_cell p3.out 1).trans rfl, q5, q6, q7, q8, q9, r0, r4, r5, r6, r7⟩ (fun hHeld => ?_); refine with_tabW spec_l30Flat.tab6 spec_l30Flat.bits6 (fun HT_ HW_ => ?_)
       generalize wr.drew = w22 at p1 p4 p3 HI0 HK HB q5 q6 q7 q8 q9 r0 r4 r5 r6 r7 hHeld ⊢
       refine pure_ (i := 0) (N := some 18) (v := ?_) (a' := ?_) #[Y32,N32,N32,N32,N32,N32,N32,N32,N32,N32,N32,N32,N32] rfl rfl (any_of HT_.out (by kernel_rfl)) (fun _ _ _ h => h) (Or.inl ⟨by rfl, ?_⟩) ?_ ?_
       rotate_left
       ·intro w'
        go_simp
        with_reducible rfl
       rotate_left
       ·simp only [Act.put, List.setIfInBounds_toArray, List.set_cons_zero, List.set_cons_succ, i64_w, i32_w]
        rfl
       refine pure_ (i := 2) (N := some 20) (v := ?_) (a' := ?_) #[Y32,N32,Y32,N32,N32,N32,N32,N32,N32,N32,N32,N32,N32] rfl rfl (any_of HT_.out (by kernel_rfl)) (fun _ _ _ h => h) (Or.inl ⟨by rfl, ?_⟩) ?_ ?_
       rotate_left
       ·intro w'
        go_simp
        with_reducible rfl
       rotate_left
       ·simp only [Act.put, List.setIfInBounds_toArray, List.set_cons_zero, List.set_cons_succ, i64_w, i32_w]
        rfl
       refine pure_ (i := 6) (N := some 24) (v := ?_) (a' := ?_) #[Y32,N32,Y32,N32,N32,N32,Y32,N32,N32,N32,N32,N32,N32] rfl rfl (any_of HT_.out (by kernel_rfl)) (fun _ _ _ h => h) (Or.inl ⟨by rfl, ?_⟩) ?_ ?_
       rotate_left
       ·intro w'
        go_simp
        with_reducible rfl
       rotate_left
       ·simp only [Act.put, List.setIfInBounds_toArray, List.set_cons_zero, List.set_cons_succ, i64_w, i32_w]
        rfl
       refine pure_ (i := 8) (N := some 26) (v := ?_) (a' := ?_) #[Y32,N32,Y32,N32,N32,N32,Y32,N32,Y32,N32,N32,N32,N32] rfl rfl (any_of HT_.out (by kernel_rfl)) (fun _ _ _ h => h) (Or.inl ⟨by rfl, ?_⟩) ?_ ?_
       rotate_left
       ·intro w'
        go_simp
        with_reducible rfl
       rotate_left
       ·simp only [Act.put, List.setIfInBounds_toArray, List.set_cons_zero, List.set_cons_succ, i64_w, i32_w]
        rfl
       refine take_ (i := 1) (N := some 19) (v := ?_) (a' := ?_) #[Y32,Y32,Y32,N32,N32,N32,Y32,N32,Y32,N32,N32,N32,N32] rfl rfl (take_ofW HT_.out HW_.out (by kernel_rfl)) (fun _ _ _ h => h) (Or.inl ⟨by rfl, ?_⟩) hHeld ?_ ?_
       rotate_left
       ·rintro w' ⟨s0, s1, s2, s3, s4, s5, s6, s7, s8, s9, s10, s11⟩
        go_simp
        with_reducible rfl
       rotate_left
       ·simp only [Act.put, List.setIfInBounds_toArray, List.set_cons_zero, List.set_cons_succ, i64_w, i32_w]
        rfl
       refine pure_ (i := 3) (N := some 21) (v := ?_) (a' := ?_) #[Y32,Y32,Y32,Y32,N32,N32,Y32,N32,Y32,N32,N32,N32,N32] rfl rfl (any_of HT_.out (by kernel_rfl)) (fun _ _ _ h => h) (Or.inl ⟨by rfl, ?_⟩) ?_ ?_
       rotate_left
       ·intro w'
        go_simp
        with_reducible rfl
       rotate_left
       ·simp only [Act.put, List.setIfInBounds_toArray, List.set_cons_zero, List.set_cons_succ, i64_w, i32_w]
        rfl
       refine pure_ (i := 4) (N := some 22) (v := ?_) (a' := ?_) #[Y32,Y32,Y32,Y32,Y32,N32,Y32,N32,Y32,N32,N32,N32,N32] rfl rfl (any_of HT_.out (by kernel_rfl)) (fun _ _ _ h => h) (Or.inl ⟨by rfl, ?_⟩) ?_ ?_
       rotate_left
       ·intro w'
        go_simp
        with_reducible rfl
       rotate_left
       ·simp only [Act.put, List.setIfInBounds_toArray, List.set_cons_zero, List.set_cons_succ, i64_w, i32_w]
        rfl
       refine take_ (i := 5) (N := some 23) (v := ?_) (a' := ?_) #[Y32,Y32,Y32,Y32,Y32,Y32,Y32,N32,Y32,N32,N32,N32,N32] rfl rfl (take_ofW HT_.out HW_.out (by kernel_rfl)) (fun _ _ _ h => h) (Or.inl ⟨by rfl, ?_⟩) hHeld ?_ ?_
       rotate_left
       ·rintro w' ⟨s0, s1, s2, s3, s4, s5, s6, s7, s8, s9, s10, s11⟩
        go_simp
        with_reducible rfl
       rotate_left
       ·simp only [Act.put, List.setIfInBounds_toArray, List.set_cons_zero, List.set_cons_succ, i64_w, i32_w]
        rfl
       refine take_ (i := 7) (N := some 25) (v := ?_) (a' := ?_) #[Y32,Y32,Y32,Y32,Y32,Y32,Y32,Y32,Y32,N32,N32,N32,N32] rfl rfl (take_ofW HT_.out HW_.out (by kernel_rfl)) (fun _ _ _ h => h) (Or.inl ⟨by rfl, ?_⟩) hHeld ?_ ?_
       rotate_left
       ·rintro w' ⟨s0, s1, s2, s3, s4, s5, s6, s7, s8, s9, s10, s11⟩
        go_simp
        with_reducible rfl
       rotate_left
       ·simp only [Act.put, List.setIfInBounds_toArray, List.set_cons_zero, List.set_cons_succ, i64_w, i32_w]
        rfl
       refine pure_ (i := 9) (N := some 27) (v := ?_) (a' := ?_) #[Y32,Y32,Y32,Y32,Y32,Y32,Y32,Y32,Y32,Y32,N32,N32,N32] rfl rfl (any_of HT_.out (by kernel_rfl)) (fun _ _ _ h => h) (Or.inl ⟨by rfl, ?_⟩) ?_ ?_
       rotate_left
       ·intro w'
        go_simp
        with_reducible rfl
       rotate_left
       ·simp only [Act.put, List.setIfInBounds_toArray, List.set_cons_zero, List.set_cons_succ, i64_w, i32_w]
        rfl
       refine pure_ (i := 10) (N := some 28) (v := ?_) (a' := ?_) #[Y32,Y32,Y32,Y32,Y32,Y32,Y32,Y32,Y32,Y32,Y32,N32,N32] rfl rfl (any_of HT_.out (by kernel_rfl)) (fun _ _ _ h => h) (Or.inl ⟨by rfl, ?_⟩) ?_ ?_
       rotate_left
       ·intro w'
        go_simp
        with_reducible rfl
       rotate_left
       ·simp only [Act.put, List.setIfInBounds_toArray, List.set_cons_zero, List.set_cons_succ, i64_w, i32_w]
        rfl
       refine take_ (i := 11) (N := some 29) (v := ?_) (a' := ?_) #[Y32,Y32,Y32,Y32,Y32,Y32,Y32,Y32,Y32,Y32,Y32,Y32,N32] rfl rfl (take_ofW HT_.out HW_.out (by kernel_rfl)) (fun _ _ _ h => h) (Or.inl ⟨by rfl, ?_⟩) hHeld ?_ ?_
       rotate_left
       ·rintro w' ⟨s0, s1, s2, s3, s4, s5, s6, s7, s8, s9, s10, s11⟩
        go_simp
        with_reducible rfl
       rotate_left
       ·simp only [Act.put, List.setIfInBounds_toArray, List.set_cons_zero, List.set_cons_succ, i64_w, i32_w]
        rfl
       refine pure_ (i := 12) (N := some 30) (v := ?_) (a' := ?_) #[Y32,Y32,Y32,Y32,Y32,Y32,Y32,Y32,Y32,Y32,Y32,Y32,Y32] rfl rfl (any_of HT_.out (by kernel_rfl)) (fun _ _ _ h => h) (Or.inl ⟨by rfl, ?_⟩) ?_ ?_
       rotate_left
       ·intro w'
        go_simp
        with_reducible rfl
       rotate_left
       ·simp only [Act.put, List.setIfInBounds_toArray, List.set_cons_zero, List.set_cons_succ, i64_w, i32_w]
        rfl
       refine done_ (done_of HT_.out (by kernel_rfl)) ?_
       have hcz23_0 : w22.cell? ⟨p5, 0, none⟩ = some (.int .i64 t268) := (blk_cell p3.out 0).trans rfl
       have hcz23_1 : w22.cell? ⟨p5, 1, none⟩ = some (.slice (some p6) p0.length co21) := (blk_cell p3.out 1).trans rfl
       have hfz23_0 := blk_frozen p3.out 0
       have hfz23_1 := blk_frozen p3.out 1
       have p278 : 0 ≤ (x4_1 : Int) := of_decide_eq_true (by first | (with_reducible assumption) | assumption)
       have q278 : x4_1 < (p0.length : Int) := of_decide_eq_true (by first | (with_reducible assumption) | assumption)
       obtain ⟨ad278, e278, u0, u1, u2, u3, u4⟩ := at_T45 (Kd.R_reads' p1.out).2.2 x4_1 p278 q278
       obtain rfl : p6 = ad278 := (by injection e278)
       replace p278 := eq_true p278
       replace q278 := eq_true q278
       try go_wp2
       have n0_ := Aside0.mk (Kd.R_drew p1.out)
       have n1_ := Aside0.mk (blk_drew p4.out)
       have n2_ := Aside0.mk (blk_drew p3.out)
       have n3_ := Aside0.mk (IsS112.drew HI0.out)
       have n4_ := Aside0.mk (keep_drew HK.out)
       have n5_ := Aside0.mk (below_drew1 HB.out)
       clear p1
       clear p4
       clear p3
       clear HI0
       clear HK
       clear HB
       have p1 := n0_
       have p4 := n1_
       have p3 := n2_
       have HI0 := n3_
       have HK := n4_
       have HB := n5_
       clear n0_ n1_ n2_ n3_ n4_ n5_
       have p279 : 0 ≤ (x4_1 : Int) := of_decide_eq_true (by first | (with_reducible assumption) | assumption)
       have q279 : x4_1 < (p0.length : Int) := of_decide_eq_true (by first | (with_reducible assumption) | assumption)
       obtain ⟨ad279, e279, t5, t6, t7, t8, t9⟩ := at_T45 (Kd.R_reads' p1.out).2.2 x4_1 p279 q279
       obtain rfl : p6 = ad279 := (by injection e279)
       replace p279 := eq_true p279
       replace q279 := eq_true q279
       have p16 : 0 ≤ (x4_1 : Int) := of_decide_eq_true (by first | (with_reducible assumption) | assumption)
       have q16 : (x4_1 : Int) < ((p0.length : Int) : Int) := of_decide_eq_true (by first | (with_reducible assumption) | assumption)
       obtain ⟨go16, co16, eo16, gb16, gl16, cl16, HG16⟩ := Kd.R_form p1.out (by omega)
       (first | cases eo16 | (injection eo16 with ea_ en_ ec_; (first | subst ea_ | (injection ea_ with ea_; subst ea_)); subst ec_; clear en_))
       have GB16 := Aside0.mk gb16
       have GG16 := Aside0.mk HG16
       clear gb16 gl16 HG16
       (first | simp only [add_plain] at q5 | skip)
       (first | simp only [add_plain] at q6 | skip)
       (first | simp only [add_plain] at q7 | skip)
       (first | simp only [add_plain] at q8 | skip)
       (first | simp only [add_plain] at q9 | skip)
       (first | simp only [add_plain] at r0 | skip)
       (first | simp only [add_plain] at r4 | skip)
       (first | simp only [add_plain] at r5 | skip)
       (first | simp only [add_plain] at r6 | skip)
       (first | simp only [add_plain] at r7 | skip)
       (first | simp only [add_plain] at u0 | skip)
       (first | simp only [add_plain] at u1 | skip)
       (first | simp only [add_plain] at u2 | skip)
       (first | simp only [add_plain] at u3 | skip)
       (first | simp only [add_plain] at u4 | skip)
       (first | simp only [add_plain] at t5 | skip)
       (first | simp only [add_plain] at t6 | skip)
       (first | simp only [add_plain] at t7 | skip)
       (first | simp only [add_plain] at t8 | skip)
       (first | simp only [add_plain] at t9 | skip)
       obtain ⟨ce16, hcl16, hM16, t3, hfr16⟩ := Kd.R_elem p1.out z45 (x4_1 : Int) p16 q16
       obtain rfl := k45_openM hM16
       have hx16_0 : World.cell? _ ⟨go16, (x4_1 : Int).toNat * 5, none⟩ = some (.int .i64 ((rd_T45 p0 x4_1).f0)) := t3 0 _ rfl
       have hx16_1 : World.cell? _ ⟨go16, (x4_1 : Int).toNat * 5 + 1, none⟩ = some (.int .i64 ((rd_T45 p0 x4_1).f1)) := t3 1 _ rfl
       have hx16_2 : World.cell? _ ⟨go16, (x4_1 : Int).toNat * 5 + 2, none⟩ = some (.int .i64 ((rd_T45 p0 x4_1).f2)) := t3 2 _ rfl
       have hx16_3 : World.cell? _ ⟨go16, (x4_1 : Int).toNat * 5 + 3, none⟩ = some (.int .i64 ((rd_T45 p0 x4_1).f3)) := t3 3 _ rfl
       have hx16_4 : World.cell? _ ⟨go16, (x4_1 : Int).toNat * 5 + 4, none⟩ = some (.int .i64 ((rd_T45 p0 x4_1).f4)) := t3 4 _ rfl
       have hf16_0 : World.frozen? _ ⟨go16, (x4_1 : Int).toNat * 5, none⟩ = false := hfr16 0
       have hf16_1 : World.frozen? _ ⟨go16, (x4_1 : Int).toNat * 5 + 1, none⟩ = false := hfr16 1
       have hf16_2 : World.frozen? _ ⟨go16, (x4_1 : Int).toNat * 5 + 2, none⟩ = false := hfr16 2
       have hf16_3 : World.frozen? _ ⟨go16, (x4_1 : Int).toNat * 5 + 3, none⟩ = false := hfr16 3
       have hf16_4 : World.frozen? _ ⟨go16, (x4_1 : Int).toNat * 5 + 4, none⟩ = false := hfr16 4
       clear hcl16 t3 hfr16; (try clear hM16)
       replace p16 := eq_true p16
       replace q16 := eq_true q16
       have HN0_go16 := Aside0.mk (show g ≠ go16 from by have h_ := IsS112.own_ne HI0.out p1.out (by decide); intro e_; exact h_ (by rw [e_]; rfl))
       obtain ⟨ce25, hcl25, hM25, hcc25, hfr25⟩ := Kd.R_elem p1.out z45 (x4_1 : Int) (of_decide_eq_true (by first | (with_reducible assumption) | assumption)) (by have h_ : (x4_1 : Int) < ((p0.length : Int) : Int) := of_decide_eq_true (by first | (with_reducible assumption) | assumption); first | exact h_ | (have e_ := (Kd.R_reads' p1.out).1; omega) | simpa using h_)
       obtain rfl := k45_openM hM25
       have HP25 := (Kd.R_seg p1.out (x4_1 : Int) (of_decide_eq_true (by first | (with_reducible assumption) | assumption)) (by have h_ : (x4_1 : Int) < ((p0.length : Int) : Int) := of_decide_eq_true (by first | (with_reducible assumption) | assumption); first | exact h_ | (have e_ := (Kd.R_reads' p1.out).1; omega) | simpa using h_) (seg := [.int .i64 ((rd_T45 p0 x4_1).f1)]) (j := 0) hcl25 hcc25 (show 1 ≤ 5 from by decide) (x' := (⟨(rd_T45 p0 x4_1).f1, (rd_T45 p0 x4_1).f1, (rd_T45 p0 x4_1).f2, (rd_T45 p0 x4_1).f3, (rd_T45 p0 x4_1).f4⟩ : S45)) (k45_mkM _ _ _ (⟨(rd_T45 p0 x4_1).f1, (rd_T45 p0 x4_1).f1, (rd_T45 p0 x4_1).f2, (rd_T45 p0 x4_1).f3, (rd_T45 p0 x4_1).f4⟩ : S45) ) (fun _ hk => hk)).1
       rw [← Ny280.out] at HP25
       have HQ25 := Aside0.mk HP25
       clear hcl25 hcc25 hfr25 HP25; (try clear hM25)
       refine start_ (n := 12) (S := fun w' => w'.cell? ⟨p5, 0, none⟩ = some (.int .i64 t268) ∧ w'.cell? ⟨p5, 1, none⟩ = some (.slice (some ⟨go16, 0, none⟩) p0.length co21) ∧ w'.cell? ⟨go16, ((x4_1).toNat * 5), none⟩ = some (.int .i64 ((rd_T45 p0 x4_1).f0)) ∧ w'.cell? ⟨go16, ((x4_1).toNat * 5) + 1, none⟩ = some (.int .i64 ((rd_T45 p0 x4_1).f1)) ∧ w'.cell? ⟨go16, ((x4_1).toNat * 5) + 2, none⟩ = some (.int .i64 ((rd_T45 p0 x4_1).f2)) ∧ w'.cell? ⟨go16, ((x4_1).toNat * 5) + 3, none⟩ = some (.int .i64 ((rd_T45 p0 x4_1).f3)) ∧ w'.cell? ⟨go16, ((x4_1).toNat * 5) + 4, none⟩ = some (.int .i64 ((rd_T45 p0 x4_1).f4))) (ds := [11]) #[N32,N32,N32,N32,N32,N32,N32,N32,N32,N32,N32,N32] (by kernel_rfl) rfl rfl ⟨(blk_cell p3.out 0).trans rfl, (blk_cell p3.out 1).trans rfl, t5, t6, t7, t8, t9⟩ (fun hHeld => ?_); refine with_tabW spec_l30Flat.tab8 spec_l30Flat.bits8 (fun HT_ HW_ => ?_)
       generalize w22.drew = w24 at p1 p4 p3 HI0 HK HB GG16 HQ25 hf16_0 hf16_1 hf16_2 hf16_3 hf16_4 hx16_0 hx16_1 hx16_2 hx16_3 hx16_4 q5 q6 q7 q8 q9 r0 r4 r5 r6 r7 u0 u1 u2 u3 u4 t5 t6 t7 t8 t9 hHeld ⊢
       refine pure_ (i := 0) (N := some 37) (v := ?_) (a' := ?_) #[Y32,N32,N32,N32,N32,N32,N32,N32,N32,N32,N32,N32] rfl rfl (any_of HT_.out (by kernel_rfl)) (fun _ _ _ h => h) (Or.inl ⟨by rfl, ?_⟩) ?_ ?_
       rotate_left
       ·intro w'
        go_simp
        with_reducible rfl
       rotate_left
       ·simp only [Act.put, List.setIfInBounds_toArray, List.set_cons_zero, List.set_cons_succ, i64_w, i32_w]
        rfl
       refine pure_ (i := 2) (N := some 39) (v := ?_) (a' := ?_) #[Y32,N32,Y32,N32,N32,N32,N32,N32,N32,N32,N32,N32] rfl rfl (any_of HT_.out (by kernel_rfl)) (fun _ _ _ h => h) (Or.inl ⟨by rfl, ?_⟩) ?_ ?_
       rotate_left
       ·intro w'
        go_simp
        with_reducible rfl
       rotate_left
       ·simp only [Act.put, List.setIfInBounds_toArray, List.set_cons_zero, List.set_cons_succ, i64_w, i32_w]
        rfl
       refine pure_ (i := 3) (N := some 40) (v := ?_) (a' := ?_) #[Y32,N32,Y32,Y32,N32,N32,N32,N32,N32,N32,N32,N32] rfl rfl (any_of HT_.out (by kernel_rfl)) (fun _ _ _ h => h) (Or.inl ⟨by rfl, ?_⟩) ?_ ?_
       rotate_left
       ·intro w'
        go_simp
        with_reducible rfl
       rotate_left
       ·simp only [Act.put, List.setIfInBounds_toArray, List.set_cons_zero, List.set_cons_succ, i64_w, i32_w]
        rfl
       refine pure_ (i := 5) (N := some 42) (v := ?_) (a' := ?_) #[Y32,N32,Y32,Y32,N32,Y32,N32,N32,N32,N32,N32,N32] rfl rfl (any_of HT_.out (by kernel_rfl)) (fun _ _ _ h => h) (Or.inl ⟨by rfl, ?_⟩) ?_ ?_
       rotate_left
       ·intro w'
        go_simp
        with_reducible rfl
       rotate_left
       ·simp only [Act.put, List.setIfInBounds_toArray, List.set_cons_zero, List.set_cons_succ, i64_w, i32_w]
        rfl
       refine take_ (i := 1) (N := some 38) (v := ?_) (a' := ?_) #[Y32,Y32,Y32,Y32,N32,Y32,N32,N32,N32,N32,N32,N32] rfl rfl (take_ofW HT_.out HW_.out (by kernel_rfl)) (fun _ _ _ h => h) (Or.inl ⟨by rfl, ?_⟩) hHeld ?_ ?_
       rotate_left
       ·rintro w' ⟨s0, s1, s2, s3, s4, s5, s6⟩
        go_simp
        with_reducible rfl
       rotate_left
       ·simp only [Act.put, List.setIfInBounds_toArray, List.set_cons_zero, List.set_cons_succ, i64_w, i32_w]
        rfl
       refine take_ (i := 4) (N := some 41) (v := ?_) (a' := ?_) #[Y32,Y32,Y32,Y32,Y32,Y32,N32,N32,N32,N32,N32,N32] rfl rfl (take_ofW HT_.out HW_.out (by kernel_rfl)) (fun _ _ _ h => h) (Or.inl ⟨by rfl, ?_⟩) hHeld ?_ ?_
       rotate_left
       ·rintro w' ⟨s0, s1, s2, s3, s4, s5, s6⟩
        go_simp
        with_reducible rfl
       rotate_left
       ·simp only [Act.put, List.setIfInBounds_toArray, List.set_cons_zero, List.set_cons_succ, i64_w, i32_w]
        rfl
       refine pure_ (i := 6) (N := some 43) (v := ?_) (a' := ?_) #[Y32,Y32,Y32,Y32,Y32,Y32,Y32,N32,N32,N32,N32,N32] rfl rfl (any_of HT_.out (by kernel_rfl)) (fun _ _ _ h => h) (Or.inl ⟨by rfl, ?_⟩) ?_ ?_
       rotate_left
       ·intro w'
        go_simp
        with_reducible rfl
       rotate_left
       ·simp only [Act.put, List.setIfInBounds_toArray, List.set_cons_zero, List.set_cons_succ, i64_w, i32_w]
        rfl
       refine pure_ (i := 7) (N := some 44) (v := ?_) (a' := ?_) #[Y32,Y32,Y32,Y32,Y32,Y32,Y32,Y32,N32,N32,N32,N32] rfl rfl (any_of HT_.out (by kernel_rfl)) (fun _ _ _ h => h) (Or.inl ⟨by rfl, ?_⟩) ?_ ?_
       rotate_left
       ·intro w'
        go_simp
        with_reducible rfl
       rotate_left
       ·simp only [Act.put, List.setIfInBounds_toArray, List.set_cons_zero, List.set_cons_succ, i64_w, i32_w]
        rfl
       refine take_ (i := 8) (N := some 45) (v := ?_) (a' := ?_) #[Y32,Y32,Y32,Y32,Y32,Y32,Y32,Y32,Y32,N32,N32,N32] rfl rfl (take_ofW HT_.out HW_.out (by kernel_rfl)) (fun _ _ _ h => h) (Or.inl ⟨by rfl, ?_⟩) hHeld ?_ ?_
       rotate_left
       ·rintro w' ⟨s0, s1, s2, s3, s4, s5, s6⟩
        go_simp
        with_reducible rfl
       rotate_left
       ·simp only [Act.put, List.setIfInBounds_toArray, List.set_cons_zero, List.set_cons_succ, i64_w, i32_w]
        rfl
       refine pure_ (i := 9) (N := some 46) (v := ?_) (a' := ?_) #[Y32,Y32,Y32,Y32,Y32,Y32,Y32,Y32,Y32,Y32,N32,N32] rfl rfl (any_of HT_.out (by kernel_rfl)) (fun _ _ _ h => h) (Or.inl ⟨by rfl, ?_⟩) ?_ ?_
       rotate_left
       ·intro w'
        go_simp
        with_reducible rfl
       rotate_left
       ·simp only [Act.put, List.setIfInBounds_toArray, List.set_cons_zero, List.set_cons_succ, i64_w, i32_w]
        rfl
       refine pure_ (i := 10) (N := some 47) (v := ?_) (a' := ?_) #[Y32,Y32,Y32,Y32,Y32,Y32,Y32,Y32,Y32,Y32,Y32,N32] rfl rfl (any_of HT_.out (by kernel_rfl)) (fun _ _ _ h => h) (Or.inl ⟨by rfl, ?_⟩) ?_ ?_
       rotate_left
       ·intro w'
        go_simp
        with_reducible rfl
       rotate_left
       ·simp only [Act.put, List.setIfInBounds_toArray, List.set_cons_zero, List.set_cons_succ, i64_w, i32_w]
        rfl
       refine last_ (i := 11) (N := none) #[true, true, true, true, true, true, true, true, true, true, true, true] rfl rfl (one_of HT_.out (by kernel_rfl)) (by decide) (fun K hK => ?_)
       refine skip_ (w1 := ?_) (by rfl) rfl ?_ ?_
       rotate_left
       ·go_simp
        rfl
       refine hK.out _ _ ?_
       clear hK K
       refine done_ (done_of HT_.out (by kernel_rfl)) ?_
       have n0_ : Aside0 (Kd.R k45 45 (w24.setCell ⟨go16, (x4_1 : Int).toNat * 5, none⟩ (.int .i64 ((rd_T45 p0 x4_1).f1))) w.heap.size (fun _ => True) (.slice (some ⟨go16, 0, none⟩) p0.length co21) y280) := ⟨by (with_reducible repeat (first | apply Kd.R_alloc | apply Kd.R_drewN | apply Kd.R_drew)); exact HQ25.out⟩
       have n1_ : Aside0 ((w24.setCell ⟨go16, (x4_1 : Int).toNat * 5, none⟩ (.int .i64 ((rd_T45 p0 x4_1).f1))).heap[p7]? = some (.cells #[.int .i64 0, .slice none 0 0] 38 (0, 0))) := ⟨by (with_reducible repeat (first | refine blk_drewN ?_ _ | refine blk_drew ?_ | refine blk_alloc ?_ _)); refine blk_far ?_ (by have h_ := Kd.R_ne p1.out p4.out (by decide); intro e_; exact h_ (by rw [e_]; rfl)) _; (with_reducible repeat (first | refine blk_drewN ?_ _ | refine blk_drew ?_ | refine blk_alloc ?_ _)); exact p4.out⟩
       have n2_ : Aside0 ((w24.setCell ⟨go16, (x4_1 : Int).toNat * 5, none⟩ (.int .i64 ((rd_T45 p0 x4_1).f1))).heap[p5]? = some (.cells #[.int .i64 t268, .slice (some ⟨go16, 0, none⟩) p0.length co21] 38 (0, 0))) := ⟨by (with_reducible repeat (first | refine blk_drewN ?_ _ | refine blk_drew ?_ | refine blk_alloc ?_ _)); refine blk_far ?_ (by have h_ := Kd.R_ne p1.out p3.out (by decide); intro e_; exact h_ (by rw [e_]; rfl)) _; (with_reducible repeat (first | refine blk_drewN ?_ _ | refine blk_drew ?_ | refine blk_alloc ?_ _)); exact p3.out⟩
       have n3_ : Aside0 (IsS112 w0 (w24.setCell ⟨go16, (x4_1 : Int).toNat * 5, none⟩ (.int .i64 ((rd_T45 p0 x4_1).f1))) g s0_0 t275) := ⟨by repeat (first | (with_reducible first | exact HI0.out | apply IsS112.alloc | apply IsS112.drewN | apply IsS112.drew | apply IsS112.set_1 | refine IsS112.far ?_ HN0_go16.out _ | refine IsS112.far ?_ p8.out _ | refine IsS112.far ?_ p9.out _) | exact HI0.out)⟩
       have n4_ : Aside0 (KeepBut w (w24.setCell ⟨go16, (x4_1 : Int).toNat * 5, none⟩ (.int .i64 ((rd_T45 p0 x4_1).f1))) g none) := ⟨by repeat (first | (with_reducible first | exact HK.out | apply KeepBut.set_ | apply keep_drewN | apply keep_drew | apply keep_alloc | refine keep_far ?_ GB16.out _ | refine keep_far ?_ r9.out _ | refine keep_far ?_ t1.out _) | exact HK.out)⟩
       have n5_ : Aside0 (Below w0.heap.size w0 (w24.setCell ⟨go16, (x4_1 : Int).toNat * 5, none⟩ (.int .i64 ((rd_T45 p0 x4_1).f1)))) := ⟨by repeat (first | (with_reducible first | exact HB.out | apply below_alloc | apply pw_below_drewN | apply below_drew1 | refine below_set ?_ (Nat.le_trans HL.out GB16.out) | refine below_set ?_ (IsS112.ge HI0.out) | refine below_set ?_ t0.out | refine below_set ?_ t2.out) | exact HB.out)⟩
       (try clear p1)
       (try clear p4)
       (try clear p3)
       (try clear HI0)
       (try clear HK)
       (try clear HB)
       generalize (w24.setCell ⟨go16, (x4_1 : Int).toNat * 5, none⟩ (.int .i64 ((rd_T45 p0 x4_1).f1))) = w26 at n0_ n1_ n2_ n3_ n4_ n5_ ⊢
       have p1 := n0_
       have p4 := n1_
       have p3 := n2_
       have HI0 := n3_
       have HK := n4_
       have HB := n5_
       clear n0_ n1_ n2_ n3_ n4_ n5_
       have hcz27_0 : w26.cell? ⟨p5, 0, none⟩ = some (.int .i64 t268) := (blk_cell p3.out 0).trans rfl
       have hcz27_1 : w26.cell? ⟨p5, 1, none⟩ = some (.slice (some ⟨go16, 0, none⟩) p0.length co21) := (blk_cell p3.out 1).trans rfl
       have hfz27_0 := blk_frozen p3.out 0
       have hfz27_1 := blk_frozen p3.out 1
       have p17 : 0 ≤ (x4_1 : Int) := of_decide_eq_true (by first | (with_reducible assumption) | assumption)
       have q17 : (x4_1 : Int) < ((p0.length : Int) : Int) := of_decide_eq_true (by first | (with_reducible assumption) | assumption)
       replace p17 := eq_true p17
       replace q17 := eq_true q17
       have HX28 := Aside0.mk (show Kd.R k45 45 w26 w.heap.size (fun _ => True) (.slice (some ⟨go16, 0, none⟩) p0.length co21) y280 from p1.out)
       obtain ⟨ce28, hcl28, hM28, u7, hfr28⟩ := Kd.R_elem HX28.out z45 (x4_1 : Int) (of_decide_eq_true (by first | (with_reducible assumption) | assumption)) (by have h_ : (x4_1 : Int) < ((p0.length : Int) : Int) := of_decide_eq_true (by first | (with_reducible assumption) | assumption); first | exact h_ | (have e_ := (Kd.R_reads' p1.out).1; omega) | simpa using h_)
       obtain rfl := k45_openM hM28
       have HP28 := Kd.R_seg HX28.out (x4_1 : Int) (of_decide_eq_true (by first | (with_reducible assumption) | assumption)) (by have h_ : (x4_1 : Int) < ((p0.length : Int) : Int) := of_decide_eq_true (by first | (with_reducible assumption) | assumption); first | exact h_ | (have e_ := (Kd.R_reads' p1.out).1; omega) | simpa using h_) (seg := [.int .i64 ((rd_T45 p0 x4_1).f0)]) (j := 1) hcl28 u7 (show 2 ≤ 5 from by decide) (x' := (⟨(rd_T45 y280 x4_1).f0, (rd_T45 p0 x4_1).f0, (rd_T45 y280 x4_1).f2, (rd_T45 y280 x4_1).f3, (rd_T45 y280 x4_1).f4⟩ : S45)) (k45_mkM _ _ _ (⟨(rd_T45 y280 x4_1).f0, (rd_T45 p0 x4_1).f0, (rd_T45 y280 x4_1).f2, (rd_T45 y280 x4_1).f3, (rd_T45 y280 x4_1).f4⟩ : S45) ) (fun _ hk => hk)
       have hx28_1 := u7 1 _ rfl
       (try simp only [show (k45).sz = 5 from rfl, Nat.mul_one, Nat.add_zero] at hx28_1)
       have hf28_1 := hfr28 1
       (try simp only [show (k45).sz = 5 from rfl, Nat.mul_one, Nat.add_zero] at hf28_1)
       clear hcl28 u7 hfr28; (try clear hM28)
       try go_wp2_with (first | ((with_reducible refine gate_store (t := 3) (p := 53) rfl ?_); refine store_event (t := 3) (p := 53) (v := ?vo_w29) (w1 := (w26.setCell ⟨go16, (x4_1 : Int).toNat * 5 + 1, none⟩ (.int .i64 ((rd_T45 p0 x4_1).f0)))) ?hg ?ho ?hn ?hr ?_; (case ho => rfl); (case hg => rfl); (case hn => rfl); (case hr => first | (go_simp; done) | (go_simp; rfl)); intro w29 hw; have hg : w26.grownBy w29 (some go16) := (by rw [hw]; exact HP28.2); have hp_ : Kd.R k45 45 w29 w.heap.size (fun _ => True) (.slice (some ⟨go16, 0, none⟩) p0.length co21) y281 := (by rw [hw, Ny281.out]; exact HP28.1); clear HP28; have n0_ := Aside0.mk (hp_); have n1_ := Aside0.mk (blk_grown (g := p7) (o := .cells #[.int .i64 0, .slice none 0 0] 38 (0, 0)) p4.out hg (Kd.R_ne p1.out p4.out (by decide))); have n2_ := Aside0.mk (blk_grown (g := p5) (o := .cells #[.int .i64 t268, .slice (some ⟨go16, 0, none⟩) p0.length co21] 38 (0, 0)) p3.out hg (Kd.R_ne p1.out p3.out (by decide))); have n3_ := Aside0.mk (IsS112.grown2 HI0.out HI0.out hg (IsS112.own_ne HI0.out p1.out (by decide))); have n4_ := Aside0.mk ((by rw [hw]; exact below_set (HB.out) (Nat.le_trans HL.out GB16.out) : Below w0.heap.size w0 w29)); have n5_ := Aside0.mk (KeepBut.trans HK.out (KeepBut.of_grown hg g) (Kd.R_base2 p1.out)); clear p1; clear p4; clear p3; clear HI0; clear HB; clear HK; have p1 := n0_; have p4 := n1_; have p3 := n2_; have HI0 := n3_; have HB := n4_; have HK := n5_; clear n0_ n1_ n2_ n3_ n4_ n5_; clear hg hw hp_))
       go_roundg k1
       case measure => have := HK1.out; omega
       case rel => exact ⟨(wrap64 (x4_1 + 1)), (y281), (.slice (some ⟨go16, 0, none⟩) p0.length co21), (by first | rfl | (simp; done) | (simp [*]; done)), H', ⟨by have := HK1.out; omega⟩, ⟨by (with_reducible repeat (first | apply Kd.R_alloc | apply Kd.R_drewN | apply Kd.R_drew)); exact p1.out⟩, ⟨by (with_reducible repeat (first | refine blk_drewN ?_ _ | refine blk_drew ?_ | refine blk_alloc ?_ _)); exact p4.out⟩, ⟨by (with_reducible repeat (first | refine blk_drewN ?_ _ | refine blk_drew ?_ | refine blk_alloc ?_ _)); exact p3.out⟩, ⟨by repeat (first | (with_reducible first | exact HI0.out | apply IsS112.alloc | apply IsS112.drewN | apply IsS112.drew | apply IsS112.set_1 | refine IsS112.far ?_ p8.out _ | refine IsS112.far ?_ p9.out _) | exact HI0.out)⟩, ⟨by repeat (first | (with_reducible first | exact HK.out | apply KeepBut.set_ | apply keep_drewN | apply keep_drew | apply keep_alloc | refine keep_far ?_ r9.out _ | refine keep_far ?_ t1.out _) | exact HK.out)⟩, ⟨by repeat (first | (with_reducible first | exact HB.out | apply below_alloc | apply pw_below_drewN | apply below_drew1 | refine below_set ?_ (IsS112.ge HI0.out) | refine below_set ?_ t0.out | refine below_set ?_ t2.out) | exact HB.out)⟩⟩
      ·rw [if_neg c15] at H
       have c15b0 : decide (((rd_T45 p0 x4_1).f1) < ((rd_T45 p0 x4_1).f0)) = false := decide_eq_false c15
       clear c15
       have H' := Aside0.mk H
       clear H
       have hnb30 := q2.out
       have hnc30 := q0.out
       have hnb31 := q3.out
       have hnc31 := p9.out
       have hcz32_0 : wr.cell? ⟨p5, 0, none⟩ = some (.int .i64 t268) := (blk_cell p3.out 0).trans rfl
       have hcz32_1 : wr.cell? ⟨p5, 1, none⟩ = some (r8) := (blk_cell p3.out 1).trans rfl
       have hfz32_0 := blk_frozen p3.out 0
       have hfz32_1 := blk_frozen p3.out 1
       obtain ⟨Ao33, co33, eo33⟩ := Kd.R_slice p1.out
       subst eo33
       try go_wp2
       have n0_ := Aside0.mk (Kd.R_drew p1.out)
       have n1_ := Aside0.mk (blk_drew p4.out)
       have n2_ := Aside0.mk (blk_drew p3.out)
       have n3_ := Aside0.mk (IsS112.drew HI0.out)
       have n4_ := Aside0.mk (keep_drew HK.out)
       have n5_ := Aside0.mk (below_drew1 HB.out)
       clear p1
       clear p4
       clear p3
       clear HI0
       clear HK
       clear HB
       have p1 := n0_
       have p4 := n1_
       have p3 := n2_
       have HI0 := n3_
       have HK := n4_
       have HB := n5_
       clear n0_ n1_ n2_ n3_ n4_ n5_
       have p276 : 0 ≤ (x4_1 : Int) := of_decide_eq_true (by first | (with_reducible assumption) | assumption)
       have q276 : x4_1 < (p0.length : Int) := of_decide_eq_true (by first | (with_reducible assumption) | assumption)
       obtain ⟨p6, e276, q5, q6, q7, q8, q9⟩ := at_T45 (Kd.R_reads' p1.out).2.2 x4_1 p276 q276
       cases e276
       replace p276 := eq_true p276
       replace q276 := eq_true q276
       have p277 : 0 ≤ (x4_1 : Int) := of_decide_eq_true (by first | (with_reducible assumption) | assumption)
       have q277 : x4_1 < (p0.length : Int) := of_decide_eq_true (by first | (with_reducible assumption) | assumption)
       obtain ⟨u6, e277, r0, r4, r5, r6, r7⟩ := at_T45 (Kd.R_reads' p1.out).2.2 x4_1 p277 q277
       obtain rfl : p6 = u6 := (by injection e277)
       replace p277 := eq_true p277
       replace q277 := eq_true q277
       refine start_ (n := 13) (S := fun w' => w'.cell? ⟨p5, 0, none⟩ = some (.int .i64 t268) ∧ w'.cell? ⟨p5, 1, none⟩ = some (.slice (some p6) p0.length co33) ∧ w'.cell? (p6.add ((x4_1).toNat * 5)) = some (.int .i64 ((rd_T45 p0 x4_1).f0)) ∧ w'.cell? ⟨(p6.add ((x4_1).toNat * 5)).block, (p6.add ((x4_1).toNat * 5)).off + 1, none⟩ = some (.int .i64 ((rd_T45 p0 x4_1).f1)) ∧ w'.cell? ⟨(p6.add ((x4_1).toNat * 5)).block, (p6.add ((x4_1).toNat * 5)).off + 2, none⟩ = some (.int .i64 ((rd_T45 p0 x4_1).f2)) ∧ w'.cell? ⟨(p6.add ((x4_1).toNat * 5)).block, (p6.add ((x4_1).toNat * 5)).off + 3, none⟩ = some (.int .i64 ((rd_T45 p0 x4_1).f3)) ∧ w'.cell? ⟨(p6.add ((x4_1).toNat * 5)).block, (p6.add ((x4_1).toNat * 5)).off + 4, none⟩ = some (.int .i64 ((rd_T45 p0 x4_1).f4)) ∧ w'.cell? (p6.add ((x4_1).toNat * 5)) = some (.int .i64 ((rd_T45 p0 x4_1).f0)) ∧ w'.cell? ⟨(p6.add ((x4_1).toNat * 5)).block, (p6.add ((x4_1).toNat * 5)).off + 1, none⟩ = some (.int .i64 ((rd_T45 p0 x4_1).f1)) ∧ w'.cell? ⟨(p6.add ((x4_1).toNat * 5)).block, (p6.add ((x4_1).toNat * 5)).off + 2, none⟩ = some (.int .i64 ((rd_T45 p0 x4_1).f2)) ∧ w'.cell? ⟨(p6.add ((x4_1).toNat * 5)).block, (p6.add ((x4_1).toNat * 5)).off + 3, none⟩ = some (.int .i64 ((rd_T45 p0 x4_1).f3)) ∧ w'.cell? ⟨(p6.add ((x4_1).toNat * 5)).block, (p6.add ((x4_1).toNat * 5)).off + 4, none⟩ = some (.int .i64 ((rd_T45 p0 x4_1).f4))) (ds := []) #[N32,N32,N32,N32,N32,N32,N32,N32,N32,N32,N32,N32,N32] (by kernel_rfl) rfl rfl ⟨(blk_cell p3.out 0).trans rfl, (blk_cell p3.out 1).trans rfl, q5, q6, q7, q8, q9, r0, r4, r5, r6, r7⟩ (fun hHeld => ?_); refine with_tabW spec_l30Flat.tab6 spec_l30Flat.bits6 (fun HT_ HW_ => ?_)
       generalize wr.drew = w34 at p1 p4 p3 HI0 HK HB q5 q6 q7 q8 q9 r0 r4 r5 r6 r7 hHeld ⊢
       refine pure_ (i := 0) (N := some 18) (v := ?_) (a' := ?_) #[Y32,N32,N32,N32,N32,N32,N32,N32,N32,N32,N32,N32,N32] rfl rfl (any_of HT_.out (by kernel_rfl)) (fun _ _ _ h => h) (Or.inl ⟨by rfl, ?_⟩) ?_ ?_
       rotate_left
       ·intro w'
        go_simp
        with_reducible rfl
       rotate_left
       ·simp only [Act.put, List.setIfInBounds_toArray, List.set_cons_zero, List.set_cons_succ, i64_w, i32_w]
        rfl
       refine pure_ (i := 2) (N := some 20) (v := ?_) (a' := ?_) #[Y32,N32,Y32,N32,N32,N32,N32,N32,N32,N32,N32,N32,N32] rfl rfl (any_of HT_.out (by kernel_rfl)) (fun _ _ _ h => h) (Or.inl ⟨by rfl, ?_⟩) ?_ ?_
       rotate_left
       ·intro w'
        go_simp
        with_reducible rfl
       rotate_left
       ·simp only [Act.put, List.setIfInBounds_toArray, List.set_cons_zero, List.set_cons_succ, i64_w, i32_w]
        rfl
       refine pure_ (i := 6) (N := some 24) (v := ?_) (a' := ?_) #[Y32,N32,Y32,N32,N32,N32,Y32,N32,N32,N32,N32,N32,N32] rfl rfl (any_of HT_.out (by kernel_rfl)) (fun _ _ _ h => h) (Or.inl ⟨by rfl, ?_⟩) ?_ ?_
       rotate_left
       ·intro w'
        go_simp
        with_reducible rfl
       rotate_left
       ·simp only [Act.put, List.setIfInBounds_toArray, List.set_cons_zero, List.set_cons_succ, i64_w, i32_w]
        rfl
       refine pure_ (i := 8) (N := some 26) (v := ?_) (a' := ?_) #[Y32,N32,Y32,N32,N32,N32,Y32,N32,Y32,N32,N32,N32,N32] rfl rfl (any_of HT_.out (by kernel_rfl)) (fun _ _ _ h => h) (Or.inl ⟨by rfl, ?_⟩) ?_ ?_
       rotate_left
       ·intro w'
        go_simp
        with_reducible rfl
       rotate_left
       ·simp only [Act.put, List.setIfInBounds_toArray, List.set_cons_zero, List.set_cons_succ, i64_w, i32_w]
        rfl
       refine take_ (i := 1) (N := some 19) (v := ?_) (a' := ?_) #[Y32,Y32,Y32,N32,N32,N32,Y32,N32,Y32,N32,N32,N32,N32] rfl rfl (take_ofW HT_.out HW_.out (by kernel_rfl)) (fun _ _ _ h => h) (Or.inl ⟨by rfl, ?_⟩) hHeld ?_ ?_
       rotate_left
       ·rintro w' ⟨s0, s1, s2, s3, s4, s5, s6, s7, s8, s9, s10, s11⟩
        go_simp
        with_reducible rfl
       rotate_left
       ·simp only [Act.put, List.setIfInBounds_toArray, List.set_cons_zero, List.set_cons_succ, i64_w, i32_w]
        rfl
       refine pure_ (i := 3) (N := some 21) (v := ?_) (a' := ?_) #[Y32,Y32,Y32,Y32,N32,N32,Y32,N32,Y32,N32,N32,N32,N32] rfl rfl (any_of HT_.out (by kernel_rfl)) (fun _ _ _ h => h) (Or.inl ⟨by rfl, ?_⟩) ?_ ?_
       rotate_left
       ·intro w'
        go_simp
        with_reducible rfl
       rotate_left
       ·simp only [Act.put, List.setIfInBounds_toArray, List.set_cons_zero, List.set_cons_succ, i64_w, i32_w]
        rfl
       refine pure_ (i := 4) (N := some 22) (v := ?_) (a' := ?_) #[Y32,Y32,Y32,Y32,Y32,N32,Y32,N32,Y32,N32,N32,N32,N32] rfl rfl (any_of HT_.out (by kernel_rfl)) (fun _ _ _ h => h) (Or.inl ⟨by rfl, ?_⟩) ?_ ?_
       rotate_left
       ·intro w'
        go_simp
        with_reducible rfl
       rotate_left
       ·simp only [Act.put, List.setIfInBounds_toArray, List.set_cons_zero, List.set_cons_succ, i64_w, i32_w]
        rfl
       refine take_ (i := 5) (N := some 23) (v := ?_) (a' := ?_) #[Y32,Y32,Y32,Y32,Y32,Y32,Y32,N32,Y32,N32,N32,N32,N32] rfl rfl (take_ofW HT_.out HW_.out (by kernel_rfl)) (fun _ _ _ h => h) (Or.inl ⟨by rfl, ?_⟩) hHeld ?_ ?_
       rotate_left
       ·rintro w' ⟨s0, s1, s2, s3, s4, s5, s6, s7, s8, s9, s10, s11⟩
        go_simp
        with_reducible rfl
       rotate_left
       ·simp only [Act.put, List.setIfInBounds_toArray, List.set_cons_zero, List.set_cons_succ, i64_w, i32_w]
        rfl
       refine take_ (i := 7) (N := some 25) (v := ?_) (a' := ?_) #[Y32,Y32,Y32,Y32,Y32,Y32,Y32,Y32,Y32,N32,N32,N32,N32] rfl rfl (take_ofW HT_.out HW_.out (by kernel_rfl)) (fun _ _ _ h => h) (Or.inl ⟨by rfl, ?_⟩) hHeld ?_ ?_
       rotate_left
       ·rintro w' ⟨s0, s1, s2, s3, s4, s5, s6, s7, s8, s9, s10, s11⟩
        go_simp
        with_reducible rfl
       rotate_left
       ·simp only [Act.put, List.setIfInBounds_toArray, List.set_cons_zero, List.set_cons_succ, i64_w, i32_w]
        rfl
       refine pure_ (i := 9) (N := some 27) (v := ?_) (a' := ?_) #[Y32,Y32,Y32,Y32,Y32,Y32,Y32,Y32,Y32,Y32,N32,N32,N32] rfl rfl (any_of HT_.out (by kernel_rfl)) (fun _ _ _ h => h) (Or.inl ⟨by rfl, ?_⟩) ?_ ?_
       rotate_left
       ·intro w'
        go_simp
        with_reducible rfl
       rotate_left
       ·simp only [Act.put, List.setIfInBounds_toArray, List.set_cons_zero, List.set_cons_succ, i64_w, i32_w]
        rfl
       refine pure_ (i := 10) (N := some 28) (v := ?_) (a' := ?_) #[Y32,Y32,Y32,Y32,Y32,Y32,Y32,Y32,Y32,Y32,Y32,N32,N32] rfl rfl (any_of HT_.out (by kernel_rfl)) (fun _ _ _ h => h) (Or.inl ⟨by rfl, ?_⟩) ?_ ?_
       rotate_left
       ·intro w'
        go_simp
        with_reducible rfl
       rotate_left
       ·simp only [Act.put, List.setIfInBounds_toArray, List.set_cons_zero, List.set_cons_succ, i64_w, i32_w]
        rfl
       refine take_ (i := 11) (N := some 29) (v := ?_) (a' := ?_) #[Y32,Y32,Y32,Y32,Y32,Y32,Y32,Y32,Y32,Y32,Y32,Y32,N32] rfl rfl (take_ofW HT_.out HW_.out (by kernel_rfl)) (fun _ _ _ h => h) (Or.inl ⟨by rfl, ?_⟩) hHeld ?_ ?_
       rotate_left
       ·rintro w' ⟨s0, s1, s2, s3, s4, s5, s6, s7, s8, s9, s10, s11⟩
        go_simp
        with_reducible rfl
       rotate_left
       ·simp only [Act.put, List.setIfInBounds_toArray, List.set_cons_zero, List.set_cons_succ, i64_w, i32_w]
        rfl
       refine pure_ (i := 12) (N := some 30) (v := ?_) (a' := ?_) #[Y32,Y32,Y32,Y32,Y32,Y32,Y32,Y32,Y32,Y32,Y32,Y32,Y32] rfl rfl (any_of HT_.out (by kernel_rfl)) (fun _ _ _ h => h) (Or.inl ⟨by rfl, ?_⟩) ?_ ?_
       rotate_left
       ·intro w'
        go_simp
        with_reducible rfl
       rotate_left
       ·simp only [Act.put, List.setIfInBounds_toArray, List.set_cons_zero, List.set_cons_succ, i64_w, i32_w]
        rfl
       refine done_ (done_of HT_.out (by kernel_rfl)) ?_
       try go_wp2
       go_roundg k1
       case measure => have := HK1.out; omega
       case rel => exact ⟨(wrap64 (x4_1 + 1)), (p0), (.slice (some p6) p0.length co33), (by first | rfl | (simp; done) | (simp [*]; done)), H', ⟨by have := HK1.out; omega⟩, ⟨by (with_reducible repeat (first | apply Kd.R_alloc | apply Kd.R_drewN | apply Kd.R_drew)); exact p1.out⟩, ⟨by (with_reducible repeat (first | refine blk_drewN ?_ _ | refine blk_drew ?_ | refine blk_alloc ?_ _)); exact p4.out⟩, ⟨by (with_reducible repeat (first | refine blk_drewN ?_ _ | refine blk_drew ?_ | refine blk_alloc ?_ _)); exact p3.out⟩, ⟨by repeat (first | (with_reducible first | exact HI0.out | apply IsS112.alloc | apply IsS112.drewN | apply IsS112.drew | apply IsS112.set_1 | refine IsS112.far ?_ p8.out _ | refine IsS112.far ?_ p9.out _) | exact HI0.out)⟩, ⟨by repeat (first | (with_reducible first | exact HK.out | apply KeepBut.set_ | apply keep_drewN | apply keep_drew | apply keep_alloc | refine keep_far ?_ r9.out _ | refine keep_far ?_ t1.out _) | exact HK.out)⟩, ⟨by repeat (first | (with_reducible first | exact HB.out | apply below_alloc | apply pw_below_drewN | apply below_drew1 | refine below_set ?_ (IsS112.ge HI0.out) | refine below_set ?_ t0.out | refine below_set ?_ t2.out) | exact HB.out)⟩⟩
     ·rw [if_neg c14] at H
      exact absurd H (by simp)
    ·rw [if_neg c13] at H
     have c13b0 : decide (x4_1 < (p0.length : Int)) = false := decide_eq_false c13
     clear c13
     simp only [Option.some.injEq, Prod.mk.injEq] at H
     obtain ⟨rfl, rfl, rfl⟩ := H
     have hnb35 := q2.out
     have hnc35 := q0.out
     have hnb36 := q3.out
     have hnc36 := p9.out
     have hcz37_0 : wr.cell? ⟨p5, 0, none⟩ = some (.int .i64 t268) := (blk_cell p3.out 0).trans rfl
     have hcz37_1 : wr.cell? ⟨p5, 1, none⟩ = some (r8) := (blk_cell p3.out 1).trans rfl
     have hfz37_0 := blk_frozen p3.out 0
     have hfz37_1 := blk_frozen p3.out 1
     obtain ⟨Ao38, co38, eo38⟩ := Kd.R_slice p1.out
     subst eo38
     have hnb39 := q4.out
     have hnc39 := p8.out
     have hcz40_0 : wr.cell? ⟨p7, 0, none⟩ = some (.int .i64 0) := (blk_cell p4.out 0).trans rfl
     have hcz40_1 : wr.cell? ⟨p7, 1, none⟩ = some (.slice none 0 0) := (blk_cell p4.out 1).trans rfl
     have hfz40_0 := blk_frozen p4.out 0
     have hfz40_1 := blk_frozen p4.out 1
     go_wp2
     refine bodyPost_ret (results_cell_row rfl _ _ p7 38 #[.int .i64 t268, .slice Ao38 p0.length co38] (0, 0) _ rfl (by (with_reducible repeat (first | refine blk_drewN ?_ _ | refine blk_drew ?_ | refine blk_alloc ?_ _)); refine blk_put (cs := #[.int .i64 t268, .slice none 0 0]) ?_ 1 _ rfl; (with_reducible repeat (first | refine blk_drewN ?_ _ | refine blk_drew ?_ | refine blk_alloc ?_ _)); refine blk_put (cs := #[.int .i64 0, .slice none 0 0]) ?_ 0 _ rfl; (with_reducible repeat (first | refine blk_drewN ?_ _ | refine blk_drew ?_ | refine blk_alloc ?_ _)); exact p4.out) Try.underlying38 rfl (by kernel_rfl)) rfl ?_
     exact ⟨_, by first | rfl | (simp [errW_none, errW_some] <;> rfl) | (simp [*, errW_none, errW_some] <;> rfl), by (with_reducible repeat (first | apply Kd.R_alloc | apply Kd.R_drewN | apply Kd.R_drew)); exact Kd.R_mono (Kd.R_far (p := ⟨p7, 1, none⟩) (Kd.R_far (p := ⟨p7, 0, none⟩) (Kd.R_types p1.out p4.out (by decide)) (fun _ hk => hk.2) (.int .i64 t268)) (fun _ hk => hk.2) (.slice Ao38 p0.length co38)) (fun _ hk => trivial), by repeat (first | (with_reducible first | exact HI0.out | apply IsS112.alloc | apply IsS112.drewN | apply IsS112.drew | apply IsS112.set_1 | refine IsS112.far ?_ p8.out _ | refine IsS112.far ?_ p9.out _) | exact HI0.out), by repeat (first | (with_reducible first | exact HB.out | apply below_alloc | apply pw_below_drewN | apply below_drew1 | refine below_set ?_ (IsS112.ge HI0.out) | refine below_set ?_ t0.out | refine below_set ?_ t2.out) | exact HB.out), by repeat (first | (with_reducible first | exact HK.out | apply KeepBut.set_ | apply keep_drewN | apply keep_drew | apply keep_alloc | refine keep_far ?_ r9.out _ | refine keep_far ?_ t1.out _) | exact HK.out)⟩
 ·rw [if_neg c4] at H
  have c4b0 : decide (0 < t274) = false := decide_eq_false c4
  clear c4
  simp only [Option.some.injEq, Prod.mk.injEq] at H
  obtain ⟨rfl, rfl, rfl⟩ := H
  go_enter Try.func65, Try.ntmps65
  go_wp2_with (first | ((with_reducible refine gate_dst (N := 2) rfl ?_); refine box_event ?hg (N := 2) ?hd (cs := #[.int .i64 0, .slice none 0 0]) (t := 38) ?hr ?_; (case hd => rfl); (case hg => rfl); (case hr => first | (go_simp; done) | (go_simp; rfl)); intro p7 hg w41 hbox hb; have n0_ := Aside0.mk (IsS112.below HI0.out hb); have n1_ := Aside0.mk (KeepBut.trans HK.out (KeepBut.of_below hb g none) (.inl rfl)); have n2_ := Aside0.mk (below_step HB.out hb); have n3_ := Aside0.mk (hbox); have n4_ := Aside0.mk ((by rw [hg]; exact (keep_size (w := w) (g := g) (row := none) HK.out) : w.heap.size ≤ p7)); have n5_ := Aside0.mk ((Nat.le_trans HW0.out (by rw [hg]; exact (keep_size (w := w) (g := g) (row := none) HK.out) : w.heap.size ≤ p7) : w0.heap.size ≤ p7)); have n6_ := Aside0.mk ((by rw [hg]; exact Nat.ne_of_lt (IsS112.lt (show IsS112 w0 _ g s0_0 s0_1 from by repeat (first | (with_reducible first | exact HI0.out | apply IsS112.alloc | apply IsS112.drewN | apply IsS112.drew | apply IsS112.set_1) | exact HI0.out))) : g ≠ p7)); have n7_ := Aside0.mk ((by rw [hg]; exact Nat.ne_of_gt (IsS112.lt (show IsS112 w0 _ g s0_0 s0_1 from by repeat (first | (with_reducible first | exact HI0.out | apply IsS112.alloc | apply IsS112.drewN | apply IsS112.drew | apply IsS112.set_1) | exact HI0.out))) : p7 ≠ g)); clear HI0; clear HK; clear HB; have HI0 := n0_; have HK := n1_; have HB := n2_; have p4 := n3_; have r9 := n4_; have t0 := n5_; have p8 := n6_; have q4 := n7_; clear n0_ n1_ n2_ n3_ n4_ n5_ n6_ n7_; clear hb hbox hg) | ((with_reducible refine gate_callee (f := 72) rfl ?_); refine goesL_ (some 7) rfl rfl Try.func72 (by kernel_rfl) rfl #[.pointer (some ⟨g, 0, none⟩)] rfl (by (try simp only [List.map_toArray, List.map_cons, List.map_nil]); first | done | rfl | (simp only [List.length_drop, List.length_take]; rfl)) ?_; (with_reducible refine (spec_l30AnyNet.calls k g s0_0 s0_1 t268 t269 t272 w0 _ ?side1 ?side2 A2.out).mono ?_); (case side1 => exact HI0.out); (case side2 => exact HB.out); rintro e w42 ⟨v270, rfl, ho0, hi, hb, hk⟩; refine ⟨_, rfl, ?_⟩; have n0_ := Aside0.mk (KeepBut.blk hk (g' := p7) (o := .cells #[.int .i64 0, .slice none 0 0] 38 (0, 0)) p4.out q4.out (by simp)); have n1_ := Aside0.mk (Kd.R_lower ho0 (keep_size (w := w) (g := g) (row := none) HK.out)); have n2_ := Aside0.mk (KeepBut.trans HK.out hk (.inl rfl)); have n3_ := Aside0.mk (hb); have n4_ := Aside0.mk (hi); clear p4; clear HK; clear HB; clear HI0; have p4 := n0_; have HO271 := n1_; have HK := n2_; have HB := n3_; have HI0 := n4_; clear n0_ n1_ n2_ n3_ n4_; (try clear hb); (try clear hb2); (try clear hk); (try clear hi); (try clear ho0)) | ((with_reducible refine gate_dst (N := 3) rfl ?_); refine box_event ?hg (N := 3) ?hd (cs := #[.int .i64 0, .slice none 0 0]) (t := 38) ?hr ?_; (case hd => rfl); (case hg => rfl); (case hr => first | (go_simp; done) | (go_simp; rfl)); intro p5 hg w43 hbox hb; have n0_ := Aside0.mk (Kd.R_below HO271.out hb); have n1_ := Aside0.mk (IsS112.below HI0.out hb); have n2_ := Aside0.mk (blk_below (g := p7) (o := .cells #[.int .i64 0, .slice none 0 0] 38 (0, 0)) p4.out hb); have n3_ := Aside0.mk (KeepBut.trans HK.out (KeepBut.of_below hb g none) (.inl rfl)); have n4_ := Aside0.mk (below_step HB.out hb); have n5_ := Aside0.mk (hbox); have n6_ := Aside0.mk ((by rw [hg]; exact (keep_size (w := w) (g := g) (row := none) HK.out) : w.heap.size ≤ p5)); have n7_ := Aside0.mk ((Nat.le_trans HW0.out (by rw [hg]; exact (keep_size (w := w) (g := g) (row := none) HK.out) : w.heap.size ≤ p5) : w0.heap.size ≤ p5)); have n8_ := Aside0.mk ((by rw [hg]; exact Nat.ne_of_lt (blk_lt (g := p7) (o := .cells #[.int .i64 0, .slice none 0 0] 38 (0, 0)) p4.out) : p7 ≠ p5)); have n9_ := Aside0.mk ((by rw [hg]; exact Nat.ne_of_gt (blk_lt (g := p7) (o := .cells #[.int .i64 0, .slice none 0 0] 38 (0, 0)) p4.out) : p5 ≠ p7)); have n10_ := Aside0.mk ((by rw [hg]; exact Nat.ne_of_lt (IsS112.lt (show IsS112 w0 _ g s0_0 t272 from by repeat (first | (with_reducible first | exact HI0.out | apply IsS112.alloc | apply IsS112.drewN | apply IsS112.drew | apply IsS112.set_1 | refine IsS112.far ?_ p8.out _) | exact HI0.out))) : g ≠ p5)); have n11_ := Aside0.mk ((by rw [hg]; exact Nat.ne_of_gt (IsS112.lt (show IsS112 w0 _ g s0_0 t272 from by repeat (first | (with_reducible first | exact HI0.out | apply IsS112.alloc | apply IsS112.drewN | apply IsS112.drew | apply IsS112.set_1 | refine IsS112.far ?_ p8.out _) | exact HI0.out))) : p5 ≠ g)); clear HO271; clear HI0; clear p4; clear HK; clear HB; have HO271 := n0_; have HI0 := n1_; have p4 := n2_; have HK := n3_; have HB := n4_; have p3 := n5_; have t1 := n6_; have t2 := n7_; have q0 := n8_; have q2 := n9_; have p9 := n10_; have q3 := n11_; clear n0_ n1_ n2_ n3_ n4_ n5_ n6_ n7_ n8_ n9_ n10_ n11_; clear hb hbox hg; have hnb44 := q2.out; have hnc44 := q0.out; have hnb45 := q3.out; have hnc45 := p9.out; have hcz46_0 : w43.cell? ⟨p5, 0, none⟩ = some (.int .i64 0) := (blk_cell p3.out 0).trans rfl; have hcz46_1 : w43.cell? ⟨p5, 1, none⟩ = some (.slice none 0 0) := (blk_cell p3.out 1).trans rfl; have hfz46_0 := blk_frozen p3.out 0; have hfz46_1 := blk_frozen p3.out 1; obtain ⟨Ao47, co47, eo47⟩ := Kd.R_slice HO271.out; subst eo47) | ((with_reducible refine gate_callee (f := 74) rfl ?_); refine goesL_ (some 9) rfl rfl Try.func74 (by kernel_rfl) rfl #[.pointer (some ⟨g, 0, none⟩), .int .i64 3] rfl (by (try simp only [List.map_toArray, List.map_cons, List.map_nil]); first | done | rfl | (simp only [List.length_drop, List.length_take]; rfl)) ?_; (with_reducible refine (spec_l30Rd_pick.calls k g s0_0 t272 3 t274 t275 w0 _ ?side1 ?side2 A3.out).mono ?_); (case side1 => repeat (first | (with_reducible first | exact HI0.out | apply IsS112.alloc | apply IsS112.drewN | apply IsS112.drew | apply IsS112.set_1 | refine IsS112.far ?_ p8.out _ | refine IsS112.far ?_ p9.out _) | exact HI0.out)); (case side2 => repeat (first | (with_reducible first | exact HB.out | apply below_alloc | apply pw_below_drewN | apply below_drew1 | refine below_set ?_ (IsS112.ge HI0.out) | refine below_set ?_ t0.out | refine below_set ?_ t2.out) | exact HB.out)); rintro e w48 ⟨rfl, hi, hb, hk⟩; refine ⟨_, rfl, ?_⟩; have n0_ := Aside0.mk (KeepBut.blk hk (g' := p7) (o := .cells #[.int .i64 0, .slice none 0 0] 38 (0, 0)) (by (with_reducible repeat (first | refine blk_drewN ?_ _ | refine blk_drew ?_ | refine blk_alloc ?_ _)); refine blk_far ?_ q0.out _; (with_reducible repeat (first | refine blk_drewN ?_ _ | refine blk_drew ?_ | refine blk_alloc ?_ _)); refine blk_far ?_ q0.out _; (with_reducible repeat (first | refine blk_drewN ?_ _ | refine blk_drew ?_ | refine blk_alloc ?_ _)); exact p4.out) q4.out (by simp)); have n1_ := Aside0.mk (Kd.R_mono (Kd.R_keep (IsS112.apart (show IsS112 w0 _ g s0_0 t272 from by repeat (first | (with_reducible first | exact HI0.out | apply IsS112.alloc | apply IsS112.drewN | apply IsS112.drew | apply IsS112.set_1 | refine IsS112.far ?_ p8.out _ | refine IsS112.far ?_ p9.out _) | exact HI0.out)) (Kd.R_mono (Kd.R_far (p := ⟨p5, 1, none⟩) (Kd.R_far (p := ⟨p5, 0, none⟩) (Kd.R_types HO271.out p3.out (by decide)) (fun _ hk => hk.2) (.int .i64 t268)) (fun _ hk => hk.2) (.slice Ao47 t269.length co47)) (fun _ h_ => h_.1)) (by decide)) hk (fun _ h => h.2)) (fun _ h => h.1)); have n2_ := Aside0.mk (KeepBut.blk hk (g' := p5) (o := .cells #[.int .i64 t268, .slice Ao47 t269.length co47] 38 (0, 0)) (by (with_reducible repeat (first | refine blk_drewN ?_ _ | refine blk_drew ?_ | refine blk_alloc ?_ _)); refine blk_put (cs := #[.int .i64 t268, .slice none 0 0]) ?_ 1 _ rfl; (with_reducible repeat (first | refine blk_drewN ?_ _ | refine blk_drew ?_ | refine blk_alloc ?_ _)); refine blk_put (cs := #[.int .i64 0, .slice none 0 0]) ?_ 0 _ rfl; (with_reducible repeat (first | refine blk_drewN ?_ _ | refine blk_drew ?_ | refine blk_alloc ?_ _)); exact p3.out) q3.out (by simp)); have n3_ := Aside0.mk (KeepBut.trans (by repeat (first | (with_reducible first | exact HK.out | apply KeepBut.set_ | apply keep_drewN | apply keep_drew | apply keep_alloc | refine keep_far ?_ r9.out _ | refine keep_far ?_ t1.out _) | exact HK.out)) hk (.inl rfl)); have n4_ := Aside0.mk (hb); have n5_ := Aside0.mk (hi); clear p4; clear HO271; clear p3; clear HK; clear HB; clear HI0; have p4 := n0_; have HO271 := n1_; have p3 := n2_; have HK := n3_; have HB := n4_; have HI0 := n5_; clear n0_ n1_ n2_ n3_ n4_ n5_; (try clear hb); (try clear hb2); (try clear hk); (try clear hi); have hcz49_0 : w48.cell? ⟨p5, 0, none⟩ = some (.int .i64 t268) := (blk_cell p3.out 0).trans rfl; have hcz49_1 : w48.cell? ⟨p5, 1, none⟩ = some (.slice Ao47 t269.length co47) := (blk_cell p3.out 1).trans rfl; have hfz49_0 := blk_frozen p3.out 0; have hfz49_1 := blk_frozen p3.out 1; have hnb50 := q4.out; have hnc50 := p8.out; have hcz51_0 : w48.cell? ⟨p7, 0, none⟩ = some (.int .i64 0) := (blk_cell p4.out 0).trans rfl; have hcz51_1 : w48.cell? ⟨p7, 1, none⟩ = some (.slice none 0 0) := (blk_cell p4.out 1).trans rfl; have hfz51_0 := blk_frozen p4.out 0; have hfz51_1 := blk_frozen p4.out 1))
  refine bodyPost_ret (results_cell_row rfl _ _ p7 38 #[.int .i64 t268, .slice Ao47 t269.length co47] (0, 0) _ rfl (by (with_reducible repeat (first | refine blk_drewN ?_ _ | refine blk_drew ?_ | refine blk_alloc ?_ _)); refine blk_put (cs := #[.int .i64 t268, .slice none 0 0]) ?_ 1 _ rfl; (with_reducible repeat (first | refine blk_drewN ?_ _ | refine blk_drew ?_ | refine blk_alloc ?_ _)); refine blk_put (cs := #[.int .i64 0, .slice none 0 0]) ?_ 0 _ rfl; (with_reducible repeat (first | refine blk_drewN ?_ _ | refine blk_drew ?_ | refine blk_alloc ?_ _)); exact p4.out) Try.underlying38 rfl (by kernel_rfl)) rfl ?_
  exact ⟨_, by first | rfl | (simp [errW_none, errW_some] <;> rfl) | (simp [*, errW_none, errW_some] <;> rfl), by (with_reducible repeat (first | apply Kd.R_alloc | apply Kd.R_drewN | apply Kd.R_drew)); exact Kd.R_mono (Kd.R_far (p := ⟨p7, 1, none⟩) (Kd.R_far (p := ⟨p7, 0, none⟩) (Kd.R_types HO271.out p4.out (by decide)) (fun _ hk => hk.2) (.int .i64 t268)) (fun _ hk => hk.2) (.slice Ao47 t269.length co47)) (fun _ hk => trivial), by repeat (first | (with_reducible first | exact HI0.out | apply IsS112.alloc | apply IsS112.drewN | apply IsS112.drew | apply IsS112.set_1 | refine IsS112.far ?_ p8.out _ | refine IsS112.far ?_ p9.out _) | exact HI0.out), by repeat (first | (with_reducible first | exact HB.out | apply below_alloc | apply pw_below_drewN | apply below_drew1 | refine below_set ?_ (IsS112.ge HI0.out) | refine below_set ?_ t0.out | refine below_set ?_ t2.out) | exact HB.out), by repeat (first | (with_reducible first | exact HK.out | apply KeepBut.set_ | apply keep_drewN | apply keep_drew | apply keep_alloc | refine keep_far ?_ r9.out _ | refine keep_far ?_ t1.out _) | exact HK.out)⟩
end Go.Proofs.Ytmabopomecdidaa.Pr
end
section
namespace Go.Proofs.Ytmabopomecdidaa.Pr
open Go.RowKit Go.Proofs.YtmabopomecdidaaW.PrintWords Go.Proofs.YtmabopomecdidaaW.PrintLast Go.Proofs.YtmabopomecdidaaW.PrintMore
attribute [local go_sem] max2_int min2_int max_two min_two max_three min_three max_four min_four
set_option linter.unusedVariables false
set_option linter.unusedSimpArgs false
def spec_l30Open.f (l0 : List Int) : Option (List Int × Int) := if (l0.length : Int) > 2000 then (if 2000 ≤ (l0.length : Int) then (some (l0.take 2000, 0)) else (none)) else (some (l0, 0))
set_option maxHeartbeats 8000000 in
set_option maxRecDepth 100000 in
theorem spec_l30Open.calls (A0 : Option Addr) (c0 : Nat) (l0 : List Int) (r1 : List Int) (r2 : Int) (w0 w : World) (hB : Below w0.heap.size w0 w) (hr0 : Kd.C (Kd.int .u8) w0 A0 l0.length l0) (hc0 : l0.length ≤ c0) (h : spec_l30Open.f l0 = some (r1, r2)) :
  Calls Try.prog 66 #[.slice A0 l0.length c0] w fun e w' => ∃ g_ : Nat, e = .returned (.pointer (some ⟨g_, 0, none⟩)) ∧ IsS112 w0 w' g_ r1 r2 ∧ Below w0.heap.size w0 w' ∧ Below w.heap.size w w' := by
 have hu112 := Try.underlying112
 have HR0 := Aside0.mk hr0
 have HC0 := Aside0.mk hc0
 clear hr0 hc0
 have HBW := Aside0.mk (Below.refl w.heap.size w)
 have HW0 := Aside0.mk hB.size
 have HB := Aside0.mk hB
 clear hB
 have H : (if (l0.length : Int) > 2000 then (if 2000 ≤ (l0.length : Int) then (some (l0.take 2000, 0)) else (none)) else (some (l0, 0))) = some (r1, r2) := h
 clear h
 by_cases c2 : (l0.length : Int) > 2000
 ·rw [if_pos c2] at H
  have c2b0 : decide (2000 < (l0.length : Int)) = true := decide_eq_true c2
  have c2b1 : decide (2000 < l0.length) = true := decide_eq_true (by omega)
  clear c2
  by_cases c3 : 2000 ≤ (l0.length : Int)
  ·rw [if_pos c3] at H
   have c3b0 := eq_true c3
   have c3b1 : decide (2000 ≤ (l0.length : Int)) = true := decide_eq_true c3
   clear c3
   simp only [Option.some.injEq, Prod.mk.injEq] at H
   obtain ⟨rfl, rfl⟩ := H
   obtain ⟨i04, hi04, _, hsz4, _⟩ := info_parts info5
   obtain ⟨hcut4, hA4, hC4⟩ := print_take_of (P := Try.prog) (Value.int .u8) 0 35 5 .i64 Try.underlying35 hi04 hsz4 A0 c0 l0 2000 (by omega) (of_decide_eq_true (by first | (with_reducible assumption) | assumption)) HC0.out
   have HR282 := Aside0.mk (Kd.C_of_reads (h1 := fun _ => rfl) (hA4 _ (Kd.reads_of_C HR0.out)))
   have HC282 := Aside0.mk hC4
   clear hA4 hC4 hi04 hsz4
   go_enter Try.func66, Try.ntmps66
   go_wp2_with (first | ((with_reducible refine gate_dst (N := 10) rfl ?_); refine box_event ?hg (N := 10) ?hd (cs := #[.slice A0 (l0.take 2000).length c0, .int .i64 0]) (t := 112) ?hr ?_; (case hd => rfl); (case hg => rfl); (case hr => first | (go_simp; done) | (go_simp; rfl)); intro gb283 hg w5 hbox hb; have n0_ := Aside0.mk (below_step HBW.out hb); have n1_ := Aside0.mk (below_step (by repeat (first | (with_reducible first | exact HB.out | apply below_alloc | apply pw_below_drewN | apply below_drew1) | exact HB.out)) hb); have n2_ := Aside0.mk (hbox); have n3_ := Aside0.mk ((by rw [hg]; exact (below_size (by repeat (first | (with_reducible first | exact HBW.out | apply below_alloc | apply pw_below_drewN | apply below_drew1) | exact HBW.out))) : w.heap.size ≤ gb283)); have n4_ := Aside0.mk ((Nat.le_trans HW0.out (by rw [hg]; exact (below_size (by repeat (first | (with_reducible first | exact HBW.out | apply below_alloc | apply pw_below_drewN | apply below_drew1) | exact HBW.out))) : w.heap.size ≤ gb283) : w0.heap.size ≤ gb283)); clear HBW; clear HB; have HBW := n0_; have HB := n1_; have BK283 := n2_; have GW283 := n3_; have GE283 := n4_; clear n0_ n1_ n2_ n3_ n4_; clear hb hbox hg))
   go_ret
   exact ⟨_, rfl, (show IsS112 w0 _ gb283 (l0.take 2000) 0 from ⟨_, _, by (with_reducible repeat (first | refine blk_drewN ?_ _ | refine blk_drew ?_ | refine blk_alloc ?_ _)); exact BK283.out, GE283.out, HR282.out⟩), by repeat (first | (with_reducible first | exact HB.out | apply below_alloc | apply pw_below_drewN | apply below_drew1 | refine below_set ?_ GE283.out) | exact HB.out), by repeat (first | (with_reducible first | exact HBW.out | apply below_alloc | apply pw_below_drewN | apply below_drew1 | refine below_set ?_ GW283.out) | exact HBW.out)⟩
  ·rw [if_neg c3] at H
   exact absurd H (by simp)
 ·rw [if_neg c2] at H
  have c2b0 : decide (2000 < (l0.length : Int)) = false := decide_eq_false c2
  have c2b1 : decide (2000 < l0.length) = false := decide_eq_false (by omega)
  clear c2
  simp only [Option.some.injEq, Prod.mk.injEq] at H
  obtain ⟨rfl, rfl⟩ := H
  go_enter Try.func66, Try.ntmps66
  go_wp2_with (first | ((with_reducible refine gate_dst (N := 10) rfl ?_); refine box_event ?hg (N := 10) ?hd (cs := #[.slice A0 l0.length c0, .int .i64 0]) (t := 112) ?hr ?_; (case hd => rfl); (case hg => rfl); (case hr => first | (go_simp; done) | (go_simp; rfl)); intro gb284 hg w6 hbox hb; have n0_ := Aside0.mk (below_step HBW.out hb); have n1_ := Aside0.mk (below_step (by repeat (first | (with_reducible first | exact HB.out | apply below_alloc | apply pw_below_drewN | apply below_drew1) | exact HB.out)) hb); have n2_ := Aside0.mk (hbox); have n3_ := Aside0.mk ((by rw [hg]; exact (below_size (by repeat (first | (with_reducible first | exact HBW.out | apply below_alloc | apply pw_below_drewN | apply below_drew1) | exact HBW.out))) : w.heap.size ≤ gb284)); have n4_ := Aside0.mk ((Nat.le_trans HW0.out (by rw [hg]; exact (below_size (by repeat (first | (with_reducible first | exact HBW.out | apply below_alloc | apply pw_below_drewN | apply below_drew1) | exact HBW.out))) : w.heap.size ≤ gb284) : w0.heap.size ≤ gb284)); clear HBW; clear HB; have HBW := n0_; have HB := n1_; have BK284 := n2_; have GW284 := n3_; have GE284 := n4_; clear n0_ n1_ n2_ n3_ n4_; clear hb hbox hg))
  go_ret
  exact ⟨_, rfl, (show IsS112 w0 _ gb284 l0 0 from ⟨_, _, by (with_reducible repeat (first | refine blk_drewN ?_ _ | refine blk_drew ?_ | refine blk_alloc ?_ _)); exact BK284.out, GE284.out, HR0.out⟩), by repeat (first | (with_reducible first | exact HB.out | apply below_alloc | apply pw_below_drewN | apply below_drew1 | refine below_set ?_ GE284.out) | exact HB.out), by repeat (first | (with_reducible first | exact HBW.out | apply below_alloc | apply pw_below_drewN | apply below_drew1 | refine below_set ?_ GW284.out) | exact HBW.out)⟩
end Go.Proofs.Ytmabopomecdidaa.Pr
end
section
namespace Go.Proofs.Ytmabopomecdidaa.Pr
open Go.RowKit Go.Proofs.YtmabopomecdidaaW.PrintWords Go.Proofs.YtmabopomecdidaaW.PrintLast Go.Proofs.YtmabopomecdidaaW.PrintMore
attribute [local go_sem] max2_int min2_int max_two min_two max_three min_three max_four min_four
set_option linter.unusedVariables false
set_option linter.unusedSimpArgs false
def spec_DrawRingLong.f (k : Nat) (l0 : List Int) : Option (Int × (List (S45))) := (spec_l30Open.f l0).bind fun bt1139 => ((spec_l30Flat.f k bt1139.1 bt1139.2).bind fun bt1142 => (some (bt1142.1, bt1142.2.1)))
set_option maxHeartbeats 8000000 in
set_option maxRecDepth 100000 in
theorem spec_DrawRingLong.calls (k : Nat) (A0 : Option Addr) (c0 : Nat) (l0 : List Int) (r1 : Int) (r2 : List (S45)) (w : World) (hr0 : Kd.C (Kd.int .u8) w A0 l0.length l0) (hc0 : l0.length ≤ c0) (h : spec_DrawRingLong.f k l0 = some (r1, r2)) :
  Calls Try.prog 56 #[.slice A0 l0.length c0] w fun e w' => ∃ v1_ : Value, e = .returned (.agg #[.int .i64 r1, v1_]) ∧ Kd.R k45 45 w' w.heap.size (fun _ => True) v1_ r2 ∧ Below w.heap.size w w' := by
 have hu38 := Try.underlying38
 have HR0 := Aside0.mk hr0
 have HC0 := Aside0.mk hc0
 clear hr0 hc0
 have HB := Aside0.mk (Below.refl w.heap.size w)
 have H : ((spec_l30Open.f l0).bind fun bt1139 => ((spec_l30Flat.f k bt1139.1 bt1139.2).bind fun bt1142 => (some (bt1142.1, bt1142.2.1)))) = some (r1, r2) := h
 clear h
 replace H := Option.bind_eq_some_iff.mp H
 obtain ⟨⟨t1139, t1140⟩, A20, H⟩ := H
 replace H : ((spec_l30Flat.f k t1139 t1140).bind fun bt1142 => (some (bt1142.1, bt1142.2.1))) = some (r1, r2) := H
 have A2 := Aside0.mk A20
 clear A20
 replace H := Option.bind_eq_some_iff.mp H
 obtain ⟨⟨t1142, t1143, t1146⟩, A30, H⟩ := H
 replace H : (some (t1142, t1143)) = some (r1, r2) := H
 have A3 := Aside0.mk A30
 clear A30
 simp only [Option.some.injEq, Prod.mk.injEq] at H
 obtain ⟨rfl, rfl⟩ := H
 go_enter Try.func56, Try.ntmps56
 go_wp2_with (first | ((with_reducible refine gate_dst (N := 2) rfl ?_); refine box_event ?hg (N := 2) ?hd (cs := #[.int .i64 0, .slice none 0 0]) (t := 38) ?hr ?_; (case hd => rfl); (case hg => rfl); (case hr => first | (go_simp; done) | (go_simp; rfl)); intro p1 hg w4 hbox hb; have n0_ := Aside0.mk (below_step HB.out hb); have n1_ := Aside0.mk (hbox); have n2_ := Aside0.mk ((by rw [hg]; exact (below_size HB.out) : w.heap.size ≤ p1)); have n3_ := Aside0.mk ((by rw [hg]; exact (below_size HB.out) : w.heap.size ≤ p1)); clear HB; have HB := n0_; have p0 := n1_; have GW1138 := n2_; have GE1138 := n3_; clear n0_ n1_ n2_ n3_; clear hb hbox hg) | ((with_reducible refine gate_callee (f := 66) rfl ?_); refine goesL_ (some 4) rfl rfl Try.func66 (by kernel_rfl) rfl #[.slice A0 l0.length c0] rfl (by (try simp only [List.map_toArray, List.map_cons, List.map_nil]); first | done | rfl | (simp only [List.length_drop, List.length_take]; rfl)) ?_; (with_reducible refine (spec_l30Open.calls _ _ l0 t1139 t1140 w _ ?side1 ?side2 ?side3 A2.out).mono ?_); (case side1 => exact HB.out); (case side2 => exact HR0.out); (case side3 => exact HC0.out); rintro e w5 ⟨g1141, rfl, hi, hb, hb2⟩; refine ⟨_, rfl, ?_⟩; have n0_ := Aside0.mk (blk_below (g := p1) (o := .cells #[.int .i64 0, .slice none 0 0] 38 (0, 0)) p0.out hb2); have n1_ := Aside0.mk (hb); have n2_ := Aside0.mk (hi); have n3_ := Aside0.mk (IsS112.ne_blk hi (blk_below (g := p1) (o := .cells #[.int .i64 0, .slice none 0 0] 38 (0, 0)) p0.out hb2) (by decide)); have n4_ := Aside0.mk (Ne.symm (IsS112.ne_blk hi (blk_below (g := p1) (o := .cells #[.int .i64 0, .slice none 0 0] 38 (0, 0)) p0.out hb2) (by decide))); clear p0; clear HB; have p0 := n0_; have HB := n1_; have HI1141 := n2_; have p3 := n3_; have p2 := n4_; clear n0_ n1_ n2_ n3_ n4_; (try clear hb); (try clear hb2); (try clear hk); (try clear hi)) | ((with_reducible refine gate_callee (f := 65) rfl ?_); refine goesL_ (some 5) rfl rfl Try.func65 (by kernel_rfl) rfl #[.pointer (some ⟨g1141, 0, none⟩)] rfl (by (try simp only [List.map_toArray, List.map_cons, List.map_nil]); first | done | rfl | (simp only [List.length_drop, List.length_take]; rfl)) ?_; (with_reducible refine (spec_l30Flat.calls k g1141 t1139 t1140 t1142 t1143 t1146 w _ ?side1 ?side2 A3.out).mono ?_); (case side1 => exact HI1141.out); (case side2 => exact HB.out); rintro e w6 ⟨v1144, rfl, ho0, hi, hb, hk⟩; refine ⟨_, rfl, ?_⟩; have n0_ := Aside0.mk (KeepBut.blk hk (g' := p1) (o := .cells #[.int .i64 0, .slice none 0 0] 38 (0, 0)) p0.out p2.out (by simp)); have n1_ := Aside0.mk (Kd.R_lower ho0 (below_size HB.out)); have n2_ := Aside0.mk (hb); have n3_ := Aside0.mk (hi); clear p0; clear HB; clear HI1141; have p0 := n0_; have HO1145 := n1_; have HB := n2_; have HI1141 := n3_; clear n0_ n1_ n2_ n3_; (try clear hb); (try clear hb2); (try clear hk); (try clear hi); (try clear ho0); have hnb7 := p2.out; have hnc7 := p3.out; have hcz8_0 : w6.cell? ⟨p1, 0, none⟩ = some (.int .i64 0) := (blk_cell p0.out 0).trans rfl; have hcz8_1 : w6.cell? ⟨p1, 1, none⟩ = some (.slice none 0 0) := (blk_cell p0.out 1).trans rfl; have hfz8_0 := blk_frozen p0.out 0; have hfz8_1 := blk_frozen p0.out 1; obtain ⟨Ao9, co9, eo9⟩ := Kd.R_slice HO1145.out; subst eo9))
 refine bodyPost_ret (results_cell_row rfl _ _ p1 38 #[.int .i64 t1142, .slice Ao9 t1143.length co9] (0, 0) _ rfl (by (with_reducible repeat (first | refine blk_drewN ?_ _ | refine blk_drew ?_ | refine blk_alloc ?_ _)); refine blk_put (cs := #[.int .i64 t1142, .slice none 0 0]) ?_ 1 _ rfl; (with_reducible repeat (first | refine blk_drewN ?_ _ | refine blk_drew ?_ | refine blk_alloc ?_ _)); refine blk_put (cs := #[.int .i64 0, .slice none 0 0]) ?_ 0 _ rfl; (with_reducible repeat (first | refine blk_drewN ?_ _ | refine blk_drew ?_ | refine blk_alloc ?_ _)); exact p0.out) Try.underlying38 rfl (by kernel_rfl)) rfl ?_
 exact ⟨_, by first | rfl | (simp [errW_none, errW_some] <;> rfl) | (simp [*, errW_none, errW_some] <;> rfl), by (with_reducible repeat (first | apply Kd.R_alloc | apply Kd.R_drewN | apply Kd.R_drew)); exact Kd.R_mono (Kd.R_far (p := ⟨p1, 1, none⟩) (Kd.R_far (p := ⟨p1, 0, none⟩) (Kd.R_types HO1145.out p0.out (by decide)) (fun _ hk => hk.2) (.int .i64 t1142)) (fun _ hk => hk.2) (.slice Ao9 t1143.length co9)) (fun _ hk => trivial), by repeat (first | (with_reducible first | exact HB.out | apply below_alloc | apply pw_below_drewN | apply below_drew1 | refine below_set ?_ (IsS112.ge HI1141.out) | refine below_set ?_ GE1138.out) | exact HB.out)⟩
end Go.Proofs.Ytmabopomecdidaa.Pr
end
section
namespace Go.Proofs.Ytmabopomecdidaa.Pr
open Go.RowKit Go.Proofs.YtmabopomecdidaaW.PrintWords Go.Proofs.YtmabopomecdidaaW.PrintLast Go.Proofs.YtmabopomecdidaaW.PrintMore
attribute [local go_sem] max2_int min2_int max_two min_two max_three min_three max_four min_four
set_option linter.unusedVariables false
set_option linter.unusedSimpArgs false
def impl_NetOut.l0 : Nat → Int → List Int → List (S45) → Int → Int → Option (List Int)
 | 0, _, _, _, _, _ => none
 | k + 1, x1, x5, x16, x17, x18 => if x18 < x17 then (if 0 ≤ x18 then (if x18 < (x16.length : Int) then (if ((rd_T45 x16 x18).f0) = x1 then (if x5.length < 17592186044416 then (impl_NetOut.l0 k x1 (x5 ++ [x18]) x16 x17 (wrap64 (x18 + 1))) else (none)) else (impl_NetOut.l0 k x1 x5 x16 x17 (wrap64 (x18 + 1)))) else (none)) else (none)) else (if 0 ≤ (x5.length : Int) then (if (x5.length : Int) ≤ (x5.length : Int) then (some (x5.take ((x5.length : Int) : Int).toNat)) else (none)) else (none))
def impl_NetOut.f (k : Nat) (a0_0 : Int) (l0_1 : List (S45)) (a1 : Int) : Option (List Int) := (impl_NetOk.f a0_0 l0_1).bind fun t1148 => (if t1148 = true then (if 0 ≤ (l0_1.length : Int) then (if ((l0_1.length : Int) : Int).toNat ≤ 35184372088832 then (impl_NetOut.l0 k a1 (([] : List Int)) l0_1 (l0_1.length : Int) 0) else (none)) else (none)) else (some ([] : List Int)))
set_option maxHeartbeats 8000000 in
set_option maxRecDepth 100000 in
theorem impl_NetOut.calls (k : Nat) (a0_0 : Int) (A0_1 : Option Addr) (c0_1 : Nat) (l0_1 : List (S45)) (a1 : Int) (r : List Int) (w : World) (hr0_1 : Kd.C k45 w A0_1 l0_1.length l0_1) (hc0_1 : l0_1.length ≤ c0_1) (h : impl_NetOut.f k a0_0 l0_1 a1 = some r) :
  Calls Try.prog 57 #[.agg #[.int .i64 a0_0, .slice A0_1 l0_1.length c0_1], .int .i64 a1] w fun e w' => ∃ v0_ : Value, e = .returned (v0_) ∧ Kd.R (Kd.int .i64) 3 w' w.heap.size (fun _ => True) v0_ r ∧ Below w.heap.size w w' := by
 have hu38 := Try.underlying38
 have hu45 := Try.underlying45
 have q6 := Aside0.mk hr0_1
 have HC0_1 := Aside0.mk hc0_1
 clear hr0_1 hc0_1
 have HB := Aside0.mk (Below.refl w.heap.size w)
 have H : ((impl_NetOk.f a0_0 l0_1).bind fun t1148 => (if t1148 = true then (if 0 ≤ (l0_1.length : Int) then (if ((l0_1.length : Int) : Int).toNat ≤ 35184372088832 then (impl_NetOut.l0 k a1 (([] : List Int)) l0_1 (l0_1.length : Int) 0) else (none)) else (none)) else (some ([] : List Int)))) = some r := h
 clear h
 replace H := Option.bind_eq_some_iff.mp H
 obtain ⟨t1148, A30, H⟩ := H
 replace H : (if t1148 = true then (if 0 ≤ (l0_1.length : Int) then (if ((l0_1.length : Int) : Int).toNat ≤ 35184372088832 then (impl_NetOut.l0 k a1 (([] : List Int)) l0_1 (l0_1.length : Int) 0) else (none)) else (none)) else (some ([] : List Int))) = some r := H
 have A3 := Aside0.mk A30
 clear A30
 by_cases c4 : t1148 = true
 ·subst c4
  have H1 : (if 0 ≤ (l0_1.length : Int) then (if ((l0_1.length : Int) : Int).toNat ≤ 35184372088832 then (impl_NetOut.l0 k a1 (([] : List Int)) l0_1 (l0_1.length : Int) 0) else (none)) else (none)) = some r := by rw [if_pos rfl] at H; exact H
  clear H
  have H := H1
  clear H1
  by_cases c5 : 0 ≤ (l0_1.length : Int)
  ·rw [if_pos c5] at H
   have c5b0 := eq_true c5
   have c5b1 : decide (0 ≤ (l0_1.length : Int)) = true := decide_eq_true c5
   clear c5
   by_cases c6 : ((l0_1.length : Int) : Int).toNat ≤ 35184372088832
   ·rw [if_pos c6] at H
    have c6b0 := eq_true c6
    have c6b1 : decide (((l0_1.length : Int) : Int).toNat ≤ 35184372088832) = true := decide_eq_true c6
    clear c6
    obtain ⟨y1149, hy1149⟩ : ∃ y_ : List Int, y_ = (([] : List Int)) := ⟨_, rfl⟩
    replace H : (impl_NetOut.l0 k a1 y1149 l0_1 (l0_1.length : Int) 0) = some r := by first | (rw [hy1149]; with_reducible exact H) | (have H2_ := (Option.bind_some _ _).symm.trans H; rw [hy1149]; with_reducible exact H2_) | (have H2_ := (Option.bind_some _ _).symm.trans H; with_reducible exact H2_) | with_reducible exact H | (rw [hy1149]; exact H) | exact H
    have q7 := Aside0.mk hy1149
    clear hy1149
    have H' := Aside0.mk H
    clear H
    go_enter Try.func57, Try.ntmps57
    go_wp2_with (first | ((with_reducible refine gate_dst (N := 2) rfl ?_); refine box_event ?hg (N := 2) ?hd (cs := #[.int .i64 a0_0, .slice A0_1 l0_1.length c0_1]) (t := 38) ?hr ?_; (case hd => rfl); (case hg => rfl); (case hr => first | (go_simp; done) | (go_simp; rfl)); intro p5 hg w7 hbox hb; have n0_ := Aside0.mk (below_step HB.out hb); have n1_ := Aside0.mk (hbox); have n2_ := Aside0.mk ((by rw [hg]; exact (below_size HB.out) : w.heap.size ≤ p5)); have n3_ := Aside0.mk ((by rw [hg]; exact (below_size HB.out) : w.heap.size ≤ p5)); clear HB; have HB := n0_; have p0 := n1_; have GW1147 := n2_; have q2 := n3_; clear n0_ n1_ n2_ n3_; clear hb hbox hg; have hcz8_0 : w7.cell? ⟨p5, 0, none⟩ = some (.int .i64 a0_0) := (blk_cell p0.out 0).trans rfl; have hcz8_1 : w7.cell? ⟨p5, 1, none⟩ = some (.slice A0_1 l0_1.length c0_1) := (blk_cell p0.out 1).trans rfl; have hfz8_0 := blk_frozen p0.out 0; have hfz8_1 := blk_frozen p0.out 1) | ((with_reducible refine gate_callee (f := 67) rfl ?_); refine goesL_ (some 9) rfl rfl Try.func67 (by kernel_rfl) rfl #[.agg #[.int .i64 a0_0, .slice A0_1 l0_1.length c0_1]] rfl (by (try simp only [List.map_toArray, List.map_cons, List.map_nil]); first | done | rfl | (simp only [List.length_drop, List.length_take]; rfl)) ?_; (with_reducible refine (impl_NetOk.calls a0_0 _ _ l0_1 true _ ?side1 ?side2 A3.out).mono ?_); (case side1 => repeat (first | exact (Kd.C_below q6.out HB.out) | (with_reducible refine Kd.C_alloc ?_ _) | (with_reducible refine Kd.C_drewN ?_ _) | (with_reducible refine Kd.C_drew ?_))); (case side2 => exact HC0_1.out); rintro e w9 ⟨rfl, hb⟩; refine ⟨_, rfl, ?_⟩; have n0_ := Aside0.mk (blk_below (g := p5) (o := .cells #[.int .i64 a0_0, .slice A0_1 l0_1.length c0_1] 38 (0, 0)) p0.out hb); have n1_ := Aside0.mk (below_step HB.out hb); clear p0; clear HB; have p0 := n0_; have HB := n1_; clear n0_ n1_; (try clear hb); (try clear hb2); (try clear hk); (try clear hi); have q9 : w9.cell? ⟨p5, 0, none⟩ = some (.int .i64 a0_0) := (blk_cell p0.out 0).trans rfl; have r0 : w9.cell? ⟨p5, 1, none⟩ = some (.slice A0_1 l0_1.length c0_1) := (blk_cell p0.out 1).trans rfl; have r1 := blk_frozen p0.out 0; have r2 := blk_frozen p0.out 1) | ((with_reducible refine gate_dst (N := 14) rfl ?_); refine Kd.R_make0 (Kd.int .i64) _ 3 rfl (N := 14) rfl 22 _ _ rfl (l0_1.length : Int) (by first | rfl | (go_simp; done) | (go_simp; rfl)) (by first | rfl | (go_simp; done) | (go_simp; rfl)) Try.underlying22 (.int .i64 0) 8 info3 rfl (by decide) (by omega) 0 (ok := fun _ => True) (okp := fun _ => True) rfl (fun _ hk => hk) trivial (of_decide_eq_true (by first | (with_reducible assumption) | assumption)) (Nat.le_trans (Nat.mul_le_mul_right _ (of_decide_eq_true (by first | (with_reducible assumption) | assumption) : (l0_1.length : Int).toNat ≤ 35184372088832)) (by omega)) (Below.refl _ _) (Nat.le_refl _) ?_; intro v1150 w11 ho12 hb hg_ hnew_; clear hg_ hnew_; (first | rw [← q7.out] at ho12 | (simp only [Int.reduceToNat] at ho12; rw [← q7.out] at ho12)); have n0_ := Aside0.mk (Kd.R_lower ho12 (below_size HB.out)); have n1_ := Aside0.mk (blk_below (g := p5) (o := .cells #[.int .i64 a0_0, .slice A0_1 l0_1.length c0_1] 38 (0, 0)) p0.out hb); have n2_ := Aside0.mk (below_step HB.out hb); clear p0; clear HB; have HO1151 := n0_; have p0 := n1_; have HB := n2_; clear n0_ n1_ n2_; clear hb ho12; have r3 : w11.cell? ⟨p5, 0, none⟩ = some (.int .i64 a0_0) := (blk_cell p0.out 0).trans rfl; have r4 : w11.cell? ⟨p5, 1, none⟩ = some (.slice A0_1 l0_1.length c0_1) := (blk_cell p0.out 1).trans rfl; have r5 := blk_frozen p0.out 0; have r6 := blk_frozen p0.out 1))
    go_loopg [5, 18] k (fun kq v5 v18 w' => ∃ (x5_1 : List Int) (p1 : Int), v18 = .int .i64 p1 ∧ Aside0 (impl_NetOut.l0 kq a1 x5_1 l0_1 (l0_1.length : Int) p1 = some r) ∧ Aside0 (kq ≤ k) ∧ Aside0 (Kd.R (Kd.int .i64) 3 w' w.heap.size (fun _ => True) v5 x5_1) ∧ Aside0 (w'.heap[p5]? = some (.cells #[.int .i64 a0_0, (.slice A0_1 l0_1.length c0_1)] 38 (0, 0))) ∧ Aside0 (Below w.heap.size w w'))
    case atStart => exact ⟨(y1149), (0), (by first | rfl | (simp; done) | (simp [*]; done)), H', ⟨Nat.le_refl _⟩, ⟨by (with_reducible repeat (first | apply Kd.R_alloc | apply Kd.R_drewN | apply Kd.R_drew)); exact HO1151.out⟩, ⟨by (with_reducible repeat (first | refine blk_drewN ?_ _ | refine blk_drew ?_ | refine blk_alloc ?_ _)); exact p0.out⟩, ⟨by repeat (first | (with_reducible first | exact HB.out | apply below_alloc | apply pw_below_drewN | apply below_drew1 | refine below_set ?_ q2.out) | exact HB.out)⟩⟩
    case round =>
     clear H'
     try clear p2
     try clear c4
     try clear c5
     try clear c5b0
     try clear c5b1
     try clear c6
     try clear c6b0
     try clear c6b1
     try clear q9
     try clear r0
     try clear r3
     try clear r4
     try clear hcz8_0
     try clear hcz8_1
     try clear r1
     try clear r2
     try clear r5
     try clear r6
     try clear hfz8_0
     try clear hfz8_1
     obtain ⟨x5_1, p1, rfl, HA, HK1, HO_5, p0, HB⟩ := hrel
     cases gk with
     | zero => exact absurd HA.out (by simp [impl_NetOut.l0])
     | succ k1 =>
      have H := HA.out
      clear HA
      simp only [impl_NetOut.l0] at H
      by_cases c14 : p1 < (l0_1.length : Int)
      ·rw [if_pos c14] at H
       have c14b0 : decide (p1 < (l0_1.length : Int)) = true := decide_eq_true c14
       clear c14
       by_cases c15 : 0 ≤ p1
       ·rw [if_pos c15] at H
        have c15b0 : decide (0 ≤ p1) = true := decide_eq_true c15
        clear c15
        by_cases c16 : p1 < (l0_1.length : Int)
        ·rw [if_pos c16] at H
         have c16b0 : decide (p1 < (l0_1.length : Int)) = true := decide_eq_true c16
         clear c16
         by_cases c17 : ((rd_T45 l0_1 p1).f0) = a1
         ·rw [if_pos c17] at H
          have c17b0 : (((rd_T45 l0_1 p1).f0) == a1) = true := beq_iff_eq.mpr c17
          have c17b1 : (((rd_T45 l0_1 p1).f0) != a1) = false := bne_eq_false_iff_eq.mpr c17
          clear c17
          by_cases c18 : x5_1.length < 17592186044416
          ·rw [if_pos c18] at H
           have LMc18 := Aside0.mk c18
           clear c18
           obtain ⟨y1154, hy1154⟩ : ∃ y_ : List Int, y_ = (x5_1 ++ [p1]) := ⟨_, rfl⟩
           replace H : (impl_NetOut.l0 k1 a1 y1154 l0_1 (l0_1.length : Int) (wrap64 (p1 + 1))) = some r := by first | (rw [hy1154]; with_reducible exact H) | (have H2_ := (Option.bind_some _ _).symm.trans H; rw [hy1154]; with_reducible exact H2_) | (have H2_ := (Option.bind_some _ _).symm.trans H; with_reducible exact H2_) | with_reducible exact H | (rw [hy1154]; exact H) | exact H
           have Ny1154 := Aside0.mk hy1154
           clear hy1154
           have H' := Aside0.mk H
           clear H
           have p1152 : 0 ≤ (p1 : Int) := of_decide_eq_true (by first | (with_reducible assumption) | assumption)
           have q1152 : p1 < (l0_1.length : Int) := of_decide_eq_true (by first | (with_reducible assumption) | assumption)
           obtain ⟨q3, e1152, p7, p8, p9, q0, q1⟩ := at_T45 q6.out p1 p1152 q1152
           cases e1152
           replace p7 := (HB.out.cell (World.block_lt_of_cell? w _ p7)).trans p7
           replace p8 := (HB.out.cell (World.block_lt_of_cell? w _ p8)).trans p8
           replace p9 := (HB.out.cell (World.block_lt_of_cell? w _ p9)).trans p9
           replace q0 := (HB.out.cell (World.block_lt_of_cell? w _ q0)).trans q0
           replace q1 := (HB.out.cell (World.block_lt_of_cell? w _ q1)).trans q1
           replace p1152 := eq_true p1152
           replace q1152 := eq_true q1152
           go_wp2_with (first | ((with_reducible refine gate_dst (N := 7) rfl ?_); refine box_event ?hg (N := 7) ?hd (cs := #[.int .i64 0, .int .i64 0, .int .i64 0, .int .i64 0, .int .i64 0]) (t := 45) ?hr ?_; (case hd => rfl); (case hg => rfl); (case hr => first | (go_simp; done) | (go_simp; rfl)); intro p4 hg w19 hbox hb; have n0_ := Aside0.mk (Kd.R_below HO_5.out hb); have n1_ := Aside0.mk (blk_below (g := p5) (o := .cells #[.int .i64 a0_0, .slice (some q3) l0_1.length c0_1] 38 (0, 0)) p0.out hb); have n2_ := Aside0.mk (below_step HB.out hb); have n3_ := Aside0.mk (hbox); have n4_ := Aside0.mk ((by rw [hg]; exact (below_size HB.out) : w.heap.size ≤ p4)); have n5_ := Aside0.mk ((by rw [hg]; exact (below_size HB.out) : w.heap.size ≤ p4)); have n6_ := Aside0.mk ((by rw [hg]; exact Nat.ne_of_lt (blk_lt (g := p5) (o := .cells #[.int .i64 a0_0, .slice (some q3) l0_1.length c0_1] 38 (0, 0)) p0.out) : p5 ≠ p4)); have n7_ := Aside0.mk ((by rw [hg]; exact Nat.ne_of_gt (blk_lt (g := p5) (o := .cells #[.int .i64 a0_0, .slice (some q3) l0_1.length c0_1] 38 (0, 0)) p0.out) : p4 ≠ p5)); clear HO_5; clear p0; clear HB; have HO_5 := n0_; have p0 := n1_; have HB := n2_; have p6 := n3_; have GW1153 := n4_; have q5 := n5_; have p3 := n6_; have q4 := n7_; clear n0_ n1_ n2_ n3_ n4_ n5_ n6_ n7_; clear hb hbox hg; have hnb20 := q4.out; have hnc20 := p3.out; have hcz21_0 : w19.cell? ⟨p4, 0, none⟩ = some (.int .i64 0) := (blk_cell p6.out 0).trans rfl; have hcz21_1 : w19.cell? ⟨p4, 1, none⟩ = some (.int .i64 0) := (blk_cell p6.out 1).trans rfl; have hcz21_2 : w19.cell? ⟨p4, 2, none⟩ = some (.int .i64 0) := (blk_cell p6.out 2).trans rfl; have hcz21_3 : w19.cell? ⟨p4, 3, none⟩ = some (.int .i64 0) := (blk_cell p6.out 3).trans rfl; have hcz21_4 : w19.cell? ⟨p4, 4, none⟩ = some (.int .i64 0) := (blk_cell p6.out 4).trans rfl; have hfz21_0 := blk_frozen p6.out 0; have hfz21_1 := blk_frozen p6.out 1; have hfz21_2 := blk_frozen p6.out 2; have hfz21_3 := blk_frozen p6.out 3; have hfz21_4 := blk_frozen p6.out 4) | ((with_reducible refine gate_builtin (b := .append) (xs := #[.tmp 27, .tmp 29]) rfl ?_); at_builtin; refine Kd.R_append (Kd.int .i64) (w0 := w) w.heap.size rfl (.tmp 27) (.tmp 29) 22 3 (.int .i64 0) 8 rfl Try.underlying22 info3 rfl (by decide) (by omega) u5 x5_1 p1 [.int .i64 p1] (fun _ => True) (fun _ => False) rfl (by first | (go_simp; done) | (go_simp; rfl)) ?aP (fun _ hk => hk.elim) ?aF ?aO ?aB ?aS ?aL ?_; (case aP => exact rfl); (case aB => exact (by repeat (first | (with_reducible first | exact HB.out | apply below_alloc | apply pw_below_drewN | apply below_drew1 | refine below_set ?_ q2.out | refine below_set ?_ q5.out) | exact HB.out))); (case aF => exact (fun _ _ => trivial)); (case aO => exact (Kd.R_mono (Kd.R_far (p := ⟨p4, 4, none⟩) (Kd.R_far (p := ⟨p4, 3, none⟩) (Kd.R_far (p := ⟨p4, 2, none⟩) (Kd.R_far (p := ⟨p4, 1, none⟩) (Kd.R_far (p := ⟨p4, 0, none⟩) (Kd.R_types HO_5.out p6.out (by decide)) (fun _ hk => hk.2) (.int .i64 ((rd_T45 l0_1 p1).f0))) (fun _ hk => hk.2) (.int .i64 ((rd_T45 l0_1 p1).f1))) (fun _ hk => hk.2) (.int .i64 ((rd_T45 l0_1 p1).f2))) (fun _ hk => hk.2) (.int .i64 ((rd_T45 l0_1 p1).f3))) (fun _ hk => hk.2) (.int .i64 ((rd_T45 l0_1 p1).f4))) (fun _ hk => trivial))); (case aS => exact (below_size (by repeat (first | (with_reducible first | exact HB.out | apply below_alloc | apply pw_below_drewN | apply below_drew1 | refine below_set ?_ q2.out | refine below_set ?_ q5.out) | exact HB.out)))); (case aL => have := LMc18.out; omega); intro v1155 w22 ho hb hg hat; rw [← Ny1154.out] at ho; have n0_ := Aside0.mk (blk_grown (g := p5) (o := .cells #[.int .i64 a0_0, .slice (some q3) l0_1.length c0_1] 38 (0, 0)) (by (with_reducible repeat (first | refine blk_drewN ?_ _ | refine blk_drew ?_ | refine blk_alloc ?_ _)); refine blk_far ?_ p3.out _; (with_reducible repeat (first | refine blk_drewN ?_ _ | refine blk_drew ?_ | refine blk_alloc ?_ _)); refine blk_far ?_ p3.out _; (with_reducible repeat (first | refine blk_drewN ?_ _ | refine blk_drew ?_ | refine blk_alloc ?_ _)); refine blk_far ?_ p3.out _; (with_reducible repeat (first | refine blk_drewN ?_ _ | refine blk_drew ?_ | refine blk_alloc ?_ _)); refine blk_far ?_ p3.out _; (with_reducible repeat (first | refine blk_drewN ?_ _ | refine blk_drew ?_ | refine blk_alloc ?_ _)); refine blk_far ?_ p3.out _; (with_reducible repeat (first | refine blk_drewN ?_ _ | refine blk_drew ?_ | refine blk_alloc ?_ _)); exact p0.out) hg (Kd.R_ne HO_5.out p0.out (by decide))); have n1_ := Aside0.mk (blk_grown (g := p4) (o := .cells #[.int .i64 ((rd_T45 l0_1 p1).f0), .int .i64 ((rd_T45 l0_1 p1).f1), .int .i64 ((rd_T45 l0_1 p1).f2), .int .i64 ((rd_T45 l0_1 p1).f3), .int .i64 ((rd_T45 l0_1 p1).f4)] 45 (0, 0)) (by (with_reducible repeat (first | refine blk_drewN ?_ _ | refine blk_drew ?_ | refine blk_alloc ?_ _)); refine blk_put (cs := #[.int .i64 ((rd_T45 l0_1 p1).f0), .int .i64 ((rd_T45 l0_1 p1).f1), .int .i64 ((rd_T45 l0_1 p1).f2), .int .i64 ((rd_T45 l0_1 p1).f3), .int .i64 0]) ?_ 4 _ rfl; (with_reducible repeat (first | refine blk_drewN ?_ _ | refine blk_drew ?_ | refine blk_alloc ?_ _)); refine blk_put (cs := #[.int .i64 ((rd_T45 l0_1 p1).f0), .int .i64 ((rd_T45 l0_1 p1).f1), .int .i64 ((rd_T45 l0_1 p1).f2), .int .i64 0, .int .i64 0]) ?_ 3 _ rfl; (with_reducible repeat (first | refine blk_drewN ?_ _ | refine blk_drew ?_ | refine blk_alloc ?_ _)); refine blk_put (cs := #[.int .i64 ((rd_T45 l0_1 p1).f0), .int .i64 ((rd_T45 l0_1 p1).f1), .int .i64 0, .int .i64 0, .int .i64 0]) ?_ 2 _ rfl; (with_reducible repeat (first | refine blk_drewN ?_ _ | refine blk_drew ?_ | refine blk_alloc ?_ _)); refine blk_put (cs := #[.int .i64 ((rd_T45 l0_1 p1).f0), .int .i64 0, .int .i64 0, .int .i64 0, .int .i64 0]) ?_ 1 _ rfl; (with_reducible repeat (first | refine blk_drewN ?_ _ | refine blk_drew ?_ | refine blk_alloc ?_ _)); refine blk_put (cs := #[.int .i64 0, .int .i64 0, .int .i64 0, .int .i64 0, .int .i64 0]) ?_ 0 _ rfl; (with_reducible repeat (first | refine blk_drewN ?_ _ | refine blk_drew ?_ | refine blk_alloc ?_ _)); exact p6.out) hg (Kd.R_ne HO_5.out p6.out (by decide))); have n2_ := Aside0.mk (hb); have n3_ := Aside0.mk (ho); clear p0; clear p6; clear HB; clear HO_5; have p0 := n0_; have p6 := n1_; have HB := n2_; have HO1156 := n3_; clear n0_ n1_ n2_ n3_; clear ho hb hg hat))
           go_roundg k1
           case measure => have := HK1.out; omega
           case rel => exact ⟨(y1154), (wrap64 (p1 + 1)), (by first | rfl | (simp; done) | (simp [*]; done)), H', ⟨by have := HK1.out; omega⟩, ⟨by (with_reducible repeat (first | apply Kd.R_alloc | apply Kd.R_drewN | apply Kd.R_drew)); exact HO1156.out⟩, ⟨by (with_reducible repeat (first | refine blk_drewN ?_ _ | refine blk_drew ?_ | refine blk_alloc ?_ _)); exact p0.out⟩, ⟨by repeat (first | (with_reducible first | exact HB.out | apply below_alloc | apply pw_below_drewN | apply below_drew1 | refine below_set ?_ q2.out | refine below_set ?_ q5.out) | exact HB.out)⟩⟩
          ·rw [if_neg c18] at H
           exact absurd H (by simp)
         ·rw [if_neg c17] at H
          have c17b0 : (((rd_T45 l0_1 p1).f0) == a1) = false := beq_eq_false_iff_ne.mpr c17
          have c17b1 : (((rd_T45 l0_1 p1).f0) != a1) = true := bne_iff_ne.mpr c17
          have H' := Aside0.mk H
          clear H
          have p1152 : 0 ≤ (p1 : Int) := of_decide_eq_true (by first | (with_reducible assumption) | assumption)
          have q1152 : p1 < (l0_1.length : Int) := of_decide_eq_true (by first | (with_reducible assumption) | assumption)
          obtain ⟨q3, e1152, p7, p8, p9, q0, q1⟩ := at_T45 q6.out p1 p1152 q1152
          cases e1152
          replace p7 := (HB.out.cell (World.block_lt_of_cell? w _ p7)).trans p7
          replace p8 := (HB.out.cell (World.block_lt_of_cell? w _ p8)).trans p8
          replace p9 := (HB.out.cell (World.block_lt_of_cell? w _ p9)).trans p9
          replace q0 := (HB.out.cell (World.block_lt_of_cell? w _ q0)).trans q0
          replace q1 := (HB.out.cell (World.block_lt_of_cell? w _ q1)).trans q1
          replace p1152 := eq_true p1152
          replace q1152 := eq_true q1152
          go_wp2_with (first | ((with_reducible refine gate_dst (N := 7) rfl ?_); refine box_event ?hg (N := 7) ?hd (cs := #[.int .i64 0, .int .i64 0, .int .i64 0, .int .i64 0, .int .i64 0]) (t := 45) ?hr ?_; (case hd => rfl); (case hg => rfl); (case hr => first | (go_simp; done) | (go_simp; rfl)); intro p4 hg w23 hbox hb; have n0_ := Aside0.mk (Kd.R_below HO_5.out hb); have n1_ := Aside0.mk (blk_below (g := p5) (o := .cells #[.int .i64 a0_0, .slice (some q3) l0_1.length c0_1] 38 (0, 0)) p0.out hb); have n2_ := Aside0.mk (below_step HB.out hb); have n3_ := Aside0.mk (hbox); have n4_ := Aside0.mk ((by rw [hg]; exact (below_size HB.out) : w.heap.size ≤ p4)); have n5_ := Aside0.mk ((by rw [hg]; exact (below_size HB.out) : w.heap.size ≤ p4)); have n6_ := Aside0.mk ((by rw [hg]; exact Nat.ne_of_lt (blk_lt (g := p5) (o := .cells #[.int .i64 a0_0, .slice (some q3) l0_1.length c0_1] 38 (0, 0)) p0.out) : p5 ≠ p4)); have n7_ := Aside0.mk ((by rw [hg]; exact Nat.ne_of_gt (blk_lt (g := p5) (o := .cells #[.int .i64 a0_0, .slice (some q3) l0_1.length c0_1] 38 (0, 0)) p0.out) : p4 ≠ p5)); clear HO_5; clear p0; clear HB; have HO_5 := n0_; have p0 := n1_; have HB := n2_; have p6 := n3_; have GW1153 := n4_; have q5 := n5_; have p3 := n6_; have q4 := n7_; clear n0_ n1_ n2_ n3_ n4_ n5_ n6_ n7_; clear hb hbox hg; have hnb24 := q4.out; have hnc24 := p3.out; have hcz25_0 : w23.cell? ⟨p4, 0, none⟩ = some (.int .i64 0) := (blk_cell p6.out 0).trans rfl; have hcz25_1 : w23.cell? ⟨p4, 1, none⟩ = some (.int .i64 0) := (blk_cell p6.out 1).trans rfl; have hcz25_2 : w23.cell? ⟨p4, 2, none⟩ = some (.int .i64 0) := (blk_cell p6.out 2).trans rfl; have hcz25_3 : w23.cell? ⟨p4, 3, none⟩ = some (.int .i64 0) := (blk_cell p6.out 3).trans rfl; have hcz25_4 : w23.cell? ⟨p4, 4, none⟩ = some (.int .i64 0) := (blk_cell p6.out 4).trans rfl; have hfz25_0 := blk_frozen p6.out 0; have hfz25_1 := blk_frozen p6.out 1; have hfz25_2 := blk_frozen p6.out 2; have hfz25_3 := blk_frozen p6.out 3; have hfz25_4 := blk_frozen p6.out 4))
          go_roundg k1
          case measure => have := HK1.out; omega
          case rel => exact ⟨(x5_1), (wrap64 (p1 + 1)), (by first | rfl | (simp; done) | (simp [*]; done)), H', ⟨by have := HK1.out; omega⟩, ⟨by (with_reducible repeat (first | apply Kd.R_alloc | apply Kd.R_drewN | apply Kd.R_drew)); exact Kd.R_mono (Kd.R_far (p := ⟨p4, 4, none⟩) (Kd.R_far (p := ⟨p4, 3, none⟩) (Kd.R_far (p := ⟨p4, 2, none⟩) (Kd.R_far (p := ⟨p4, 1, none⟩) (Kd.R_far (p := ⟨p4, 0, none⟩) (Kd.R_types HO_5.out p6.out (by decide)) (fun _ hk => hk.2) (.int .i64 ((rd_T45 l0_1 p1).f0))) (fun _ hk => hk.2) (.int .i64 ((rd_T45 l0_1 p1).f1))) (fun _ hk => hk.2) (.int .i64 ((rd_T45 l0_1 p1).f2))) (fun _ hk => hk.2) (.int .i64 ((rd_T45 l0_1 p1).f3))) (fun _ hk => hk.2) (.int .i64 ((rd_T45 l0_1 p1).f4))) (fun _ hk => trivial)⟩, ⟨by (with_reducible repeat (first | refine blk_drewN ?_ _ | refine blk_drew ?_ | refine blk_alloc ?_ _)); refine blk_far ?_ p3.out _; (with_reducible repeat (first | refine blk_drewN ?_ _ | refine blk_drew ?_ | refine blk_alloc ?_ _)); refine blk_far ?_ p3.out _; (with_reducible repeat (first | refine blk_drewN ?_ _ | refine blk_drew ?_ | refine blk_alloc ?_ _)); refine blk_far ?_ p3.out _; (with_reducible repeat (first | refine blk_drewN ?_ _ | refine blk_drew ?_ | refine blk_alloc ?_ _)); refine blk_far ?_ p3.out _; (with_reducible repeat (first | refine blk_drewN ?_ _ | refine blk_drew ?_ | refine blk_alloc ?_ _)); refine blk_far ?_ p3.out _; (with_reducible repeat (first | refine blk_drewN ?_ _ | refine blk_drew ?_ | refine blk_alloc ?_ _)); exact p0.out⟩, ⟨by repeat (first | (with_reducible first | exact HB.out | apply below_alloc | apply pw_below_drewN | apply below_drew1 | refine below_set ?_ q2.out | refine below_set ?_ q5.out) | exact HB.out)⟩⟩
        ·rw [if_neg c16] at H
         exact absurd H (by simp)
       ·rw [if_neg c15] at H
        exact absurd H (by simp)
      ·rw [if_neg c14] at H
       have c14b0 : decide (p1 < (l0_1.length : Int)) = false := decide_eq_false c14
       clear c14
       by_cases c26 : 0 ≤ (x5_1.length : Int)
       ·rw [if_pos c26] at H
        have c26b0 := eq_true c26
        have c26b1 : decide (0 ≤ (x5_1.length : Int)) = true := decide_eq_true c26
        clear c26
        by_cases c27 : (x5_1.length : Int) ≤ (x5_1.length : Int)
        ·rw [if_pos c27] at H
         have c27b0 := eq_true c27
         have c27b1 : decide ((x5_1.length : Int) ≤ (x5_1.length : Int)) = true := decide_eq_true c27
         clear c27
         obtain ⟨y1157, hy1157⟩ : ∃ y_ : List Int, y_ = (x5_1.take ((x5_1.length : Int) : Int).toNat) := ⟨_, rfl⟩
         replace H : (some y1157) = some r := by first | (rw [hy1157]; with_reducible exact H) | (have H2_ := (Option.bind_some _ _).symm.trans H; rw [hy1157]; with_reducible exact H2_) | (have H2_ := (Option.bind_some _ _).symm.trans H; with_reducible exact H2_) | with_reducible exact H | (rw [hy1157]; exact H) | exact H
         have q8 := Aside0.mk hy1157
         clear hy1157
         obtain rfl := Option.some.inj H
         obtain ⟨Ao28, co28, eo28⟩ := Kd.R_slice HO_5.out
         subst eo28
         have q29 : ((x5_1.length : Int) : Int) ≤ ((x5_1.length : Int) : Int) := of_decide_eq_true (by first | (with_reducible assumption) | assumption)
         obtain ⟨i029, hi029, _, hsz29, _⟩ := info_parts info3
         have hcut29 := cut_cap (P := Try.prog) 22 3 .i64 Try.underlying22 hi029 Ao28 x5_1.length co28 (x5_1.length : Int) (of_decide_eq_true (by first | (with_reducible assumption) | assumption)) q29 (Kd.R_reads' HO_5.out).2.1
         have hr29 := Kd.R_cap (m := ((x5_1.length : Int) : Int).toNat) HO_5.out (by omega)
         have hy29 : y1157.length = ((x5_1.length : Int) : Int).toNat := (by rw [q8.out, List.length_take]; omega)
         rw [← q8.out] at hr29
         rw [← hy29] at hr29 hcut29
         clear hy29 hi029 hsz29 HO_5
         have HO1159 := Aside0.mk hr29
         clear hr29
         replace q29 := eq_true q29
         go_wp2
         go_ret
         exact ⟨_, by first | rfl | (simp [errW_none, errW_some] <;> rfl) | (simp [*, errW_none, errW_some] <;> rfl), by (with_reducible repeat (first | apply Kd.R_alloc | apply Kd.R_drewN | apply Kd.R_drew)); exact HO1159.out, by repeat (first | (with_reducible first | exact HB.out | apply below_alloc | apply pw_below_drewN | apply below_drew1 | refine below_set ?_ q2.out) | exact HB.out)⟩
        ·rw [if_neg c27] at H
         exact absurd H (by simp)
       ·rw [if_neg c26] at H
        exact absurd H (by simp)
   ·rw [if_neg c6] at H
    exact absurd H (by simp)
  ·rw [if_neg c5] at H
   exact absurd H (by simp)
 ·replace c4 := Bool.eq_false_iff.mpr c4
  subst c4
  have H1 : (some ([] : List Int)) = some r := by rw [if_neg (show ¬ (false = true) by decide)] at H; exact H
  clear H
  have H := H1
  clear H1
  obtain rfl := Option.some.inj H
  go_enter Try.func57, Try.ntmps57
  go_wp2_with (first | ((with_reducible refine gate_dst (N := 2) rfl ?_); refine box_event ?hg (N := 2) ?hd (cs := #[.int .i64 a0_0, .slice A0_1 l0_1.length c0_1]) (t := 38) ?hr ?_; (case hd => rfl); (case hg => rfl); (case hr => first | (go_simp; done) | (go_simp; rfl)); intro p5 hg w30 hbox hb; have n0_ := Aside0.mk (below_step HB.out hb); have n1_ := Aside0.mk (hbox); have n2_ := Aside0.mk ((by rw [hg]; exact (below_size HB.out) : w.heap.size ≤ p5)); have n3_ := Aside0.mk ((by rw [hg]; exact (below_size HB.out) : w.heap.size ≤ p5)); clear HB; have HB := n0_; have p0 := n1_; have GW1147 := n2_; have q2 := n3_; clear n0_ n1_ n2_ n3_; clear hb hbox hg; have hcz31_0 : w30.cell? ⟨p5, 0, none⟩ = some (.int .i64 a0_0) := (blk_cell p0.out 0).trans rfl; have hcz31_1 : w30.cell? ⟨p5, 1, none⟩ = some (.slice A0_1 l0_1.length c0_1) := (blk_cell p0.out 1).trans rfl; have hfz31_0 := blk_frozen p0.out 0; have hfz31_1 := blk_frozen p0.out 1) | ((with_reducible refine gate_callee (f := 67) rfl ?_); refine goesL_ (some 9) rfl rfl Try.func67 (by kernel_rfl) rfl #[.agg #[.int .i64 a0_0, .slice A0_1 l0_1.length c0_1]] rfl (by (try simp only [List.map_toArray, List.map_cons, List.map_nil]); first | done | rfl | (simp only [List.length_drop, List.length_take]; rfl)) ?_; (with_reducible refine (impl_NetOk.calls a0_0 _ _ l0_1 false _ ?side1 ?side2 A3.out).mono ?_); (case side1 => repeat (first | exact (Kd.C_below q6.out HB.out) | (with_reducible refine Kd.C_alloc ?_ _) | (with_reducible refine Kd.C_drewN ?_ _) | (with_reducible refine Kd.C_drew ?_))); (case side2 => exact HC0_1.out); rintro e w32 ⟨rfl, hb⟩; refine ⟨_, rfl, ?_⟩; have n0_ := Aside0.mk (blk_below (g := p5) (o := .cells #[.int .i64 a0_0, .slice A0_1 l0_1.length c0_1] 38 (0, 0)) p0.out hb); have n1_ := Aside0.mk (below_step HB.out hb); clear p0; clear HB; have p0 := n0_; have HB := n1_; clear n0_ n1_; (try clear hb); (try clear hb2); (try clear hk); (try clear hi)))
  go_ret
  exact ⟨_, by first | rfl | (simp [errW_none, errW_some] <;> rfl) | (simp [*, errW_none, errW_some] <;> rfl), by first | exact Kd.R_nil _ _ _ _ _ | exact Kd.N_nil _ _ _ _ _ | exact Kd.V_nil _ _ _ _ _ | exact Kd.Q_nil _ _ _ _ _ | exact Kd.S_nil _ _ _ _ _, by repeat (first | (with_reducible first | exact HB.out | apply below_alloc | apply pw_below_drewN | apply below_drew1 | refine below_set ?_ q2.out) | exact HB.out)⟩
end Go.Proofs.Ytmabopomecdidaa.Pr
end
