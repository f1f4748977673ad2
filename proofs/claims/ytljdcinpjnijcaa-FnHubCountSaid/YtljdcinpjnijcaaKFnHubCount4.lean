/- For the statement FnHubCount of this seat: it is proved here, with no further conditions (part 5 of its texts: words, walks of the functions, the plain law, the row). -/
import Derived.StillTailTactics
import Derived.Test.YtljdcinpjnijcaaKFnHubCount3
section
namespace Go.Proofs.Ytljdcinpjnijcaa.Pr
open Go.RowKit Go.Proofs.YtljdcinpjnijcaaW.PrintWords Go.Proofs.YtljdcinpjnijcaaW.PrintLast Go.Proofs.YtljdcinpjnijcaaW.PrintMore
attribute [local go_sem] max2_int min2_int max_two min_two max_three min_three max_four min_four
set_option linter.unusedVariables false
set_option linter.unusedSimpArgs false
abbrev Y5 := true
abbrev N5 := false
def spec_l30AnyNet.f (k : Nat) (s0_0 : List Int) (s0_1 : Int) : Option (Int × (List (S34)) × Int) := (spec_l30Net.f k s0_0 s0_1).bind fun bt142 => (if (bt142.2.1.length : Int) > 0 then ((spec_l30Rd_pick.f k s0_0 bt142.2.2 (bt142.2.1.length : Int)).bind fun bt148 => ((spec_l30Rd_pick.f k s0_0 bt148.2 16).bind fun bt150 => (if bt150.1 = 0 then (if 0 ≤ bt148.1 then (if bt148.1 < (bt142.2.1.length : Int) then ((spec_l30Rd_one.f k s0_0 bt150.2 (([(-1), 8, (rd_T34 bt142.2.1 bt148.1).f0] : List Int))).bind fun bt156 => (some (bt142.1, (bt142.2.1.set (bt148.1 : Int).toNat (⟨(rd_T34 bt142.2.1 bt148.1).f0, bt156.1, (rd_T34 bt142.2.1 bt148.1).f2, (rd_T34 bt142.2.1 bt148.1).f3, (rd_T34 bt142.2.1 bt148.1).f4⟩ : S34)), bt156.2))) else (none)) else (none)) else (if bt150.1 = 1 then ((spec_l30Rd_one.f k s0_0 bt150.2 (([(-1), 100] : List Int))).bind fun bt162 => (if 0 ≤ bt148.1 then (if bt148.1 < (bt142.2.1.length : Int) then (some (bt142.1, (bt142.2.1.set (bt148.1 : Int).toNat (⟨(rd_T34 bt142.2.1 bt148.1).f0, (rd_T34 bt142.2.1 bt148.1).f1, bt162.1, (rd_T34 bt142.2.1 bt148.1).f3, (rd_T34 bt142.2.1 bt148.1).f4⟩ : S34)), bt162.2)) else (none)) else (none))) else (if bt150.1 = 2 then ((spec_l30Rd_one.f k s0_0 bt150.2 (([0, 1, 9, 8] : List Int))).bind fun bt168 => (some (bt168.1, bt142.2.1, bt168.2))) else (some (bt142.1, bt142.2.1, bt150.2))))))) else (some (bt142.1, bt142.2.1, bt142.2.2)))
def spec_l30AnyNet.T6 : Bool × List (List Nat × List Nat) := (true, [([], []), ([0], [0]), ([], []), ([], []), ([], []), ([4], [4]), ([], []), ([5, 6], [5, 6]), ([7], [7]), ([8], [8]), ([9], [9]), ([3, 10], [3, 10]), ([1, 2, 0, 1, 2, 3, 4, 5, 6, 7, 8, 9, 10, 11], [1, 2]), ([12, 0, 1, 2, 3, 4, 5, 6, 7, 8, 9, 10, 11], [12]), ([13, 11, 11, 0, 1, 2, 3, 4, 5, 6, 7, 8, 9, 10, 11], [11, 13])])
def spec_l30AnyNet.B6 : List Nat := [0, 1, 0, 0, 0, 16, 0, 112, 240, 496, 1008, 2040, 4095, 8191, 16383]
theorem spec_l30AnyNet.tab6 : rtab .any (opsOf Try.f49 6) = spec_l30AnyNet.T6 := by kernel_rfl
theorem spec_l30AnyNet.bits6 : waitsOk spec_l30AnyNet.T6.2 spec_l30AnyNet.B6 = true := by kernel_rfl
def spec_l30AnyNet.T8 : Bool × List (List Nat × List Nat) := (true, [([], []), ([0], [0]), ([], []), ([], []), ([], []), ([3, 4], [3, 4]), ([1, 2, 0, 1, 2, 3, 4, 5], [1, 2]), ([6, 0, 1, 2, 3, 4, 5], [6]), ([7, 5, 5, 0, 1, 2, 3, 4, 5], [5, 7])])
def spec_l30AnyNet.B8 : List Nat := [0, 1, 0, 0, 0, 24, 63, 127, 255]
theorem spec_l30AnyNet.tab8 : rtab .any (opsOf Try.f49 8) = spec_l30AnyNet.T8 := by kernel_rfl
theorem spec_l30AnyNet.bits8 : waitsOk spec_l30AnyNet.T8.2 spec_l30AnyNet.B8 = true := by kernel_rfl
set_option maxHeartbeats 8000000 in
set_option maxRecDepth 100000 in
theorem spec_l30AnyNet.calls (k : Nat) (g : Nat) (s0_0 : List Int) (s0_1 : Int) (r1 : Int) (r2 : List (S34)) (r3 : Int) (w0 w : World) (hI : IsS97 w0 w g s0_0 s0_1) (hB : Below w0.heap.size w0 w) (h : spec_l30AnyNet.f k s0_0 s0_1 = some (r1, r2, r3)) :
  Calls Try.prog 49 #[.pointer (some ⟨g, 0, none⟩)] w fun e w' => ∃ v1_ : Value, e = .returned (.agg #[.int .i64 r1, v1_]) ∧ Kd.R k34 34 w' w.heap.size (fun _ => True) v1_ r2 ∧ IsS97 w0 w' g s0_0 r3 ∧ Below w0.heap.size w0 w' ∧ KeepBut w w' g none := by
 have hu25 := Try.underlying25
 have HI0 := Aside0.mk hI
 have HK := Aside0.mk (KeepBut.refl w g none)
 have HL := Aside0.mk hB.size
 clear hI
 have HW0 := Aside0.mk hB.size
 have HB := Aside0.mk hB
 clear hB
 have H : ((spec_l30Net.f k s0_0 s0_1).bind fun bt142 => (if (bt142.2.1.length : Int) > 0 then ((spec_l30Rd_pick.f k s0_0 bt142.2.2 (bt142.2.1.length : Int)).bind fun bt148 => ((spec_l30Rd_pick.f k s0_0 bt148.2 16).bind fun bt150 => (if bt150.1 = 0 then (if 0 ≤ bt148.1 then (if bt148.1 < (bt142.2.1.length : Int) then ((spec_l30Rd_one.f k s0_0 bt150.2 (([(-1), 8, (rd_T34 bt142.2.1 bt148.1).f0] : List Int))).bind fun bt156 => (some (bt142.1, (bt142.2.1.set (bt148.1 : Int).toNat (⟨(rd_T34 bt142.2.1 bt148.1).f0, bt156.1, (rd_T34 bt142.2.1 bt148.1).f2, (rd_T34 bt142.2.1 bt148.1).f3, (rd_T34 bt142.2.1 bt148.1).f4⟩ : S34)), bt156.2))) else (none)) else (none)) else (if bt150.1 = 1 then ((spec_l30Rd_one.f k s0_0 bt150.2 (([(-1), 100] : List Int))).bind fun bt162 => (if 0 ≤ bt148.1 then (if bt148.1 < (bt142.2.1.length : Int) then (some (bt142.1, (bt142.2.1.set (bt148.1 : Int).toNat (⟨(rd_T34 bt142.2.1 bt148.1).f0, (rd_T34 bt142.2.1 bt148.1).f1, bt162.1, (rd_T34 bt142.2.1 bt148.1).f3, (rd_T34 bt142.2.1 bt148.1).f4⟩ : S34)), bt162.2)) else (none)) else (none))) else (if bt150.1 = 2 then ((spec_l30Rd_one.f k s0_0 bt150.2 (([0, 1, 9, 8] : List Int))).bind fun bt168 => (some (bt168.1, bt142.2.1, bt168.2))) else (some (bt142.1, bt142.2.1, bt150.2))))))) else (some (bt142.1, bt142.2.1, bt142.2.2)))) = some (r1, r2, r3) := h
 clear h
 replace H := Option.bind_eq_some_iff.mp H
 obtain ⟨⟨t142, t143, t146⟩, A20, H⟩ := H
 replace H : (if (t143.length : Int) > 0 then ((spec_l30Rd_pick.f k s0_0 t146 (t143.length : Int)).bind fun bt148 => ((spec_l30Rd_pick.f k s0_0 bt148.2 16).bind fun bt150 => (if bt150.1 = 0 then (if 0 ≤ bt148.1 then (if bt148.1 < (t143.length : Int) then ((spec_l30Rd_one.f k s0_0 bt150.2 (([(-1), 8, (rd_T34 t143 bt148.1).f0] : List Int))).bind fun bt156 => (some (t142, (t143.set (bt148.1 : Int).toNat (⟨(rd_T34 t143 bt148.1).f0, bt156.1, (rd_T34 t143 bt148.1).f2, (rd_T34 t143 bt148.1).f3, (rd_T34 t143 bt148.1).f4⟩ : S34)), bt156.2))) else (none)) else (none)) else (if bt150.1 = 1 then ((spec_l30Rd_one.f k s0_0 bt150.2 (([(-1), 100] : List Int))).bind fun bt162 => (if 0 ≤ bt148.1 then (if bt148.1 < (t143.length : Int) then (some (t142, (t143.set (bt148.1 : Int).toNat (⟨(rd_T34 t143 bt148.1).f0, (rd_T34 t143 bt148.1).f1, bt162.1, (rd_T34 t143 bt148.1).f3, (rd_T34 t143 bt148.1).f4⟩ : S34)), bt162.2)) else (none)) else (none))) else (if bt150.1 = 2 then ((spec_l30Rd_one.f k s0_0 bt150.2 (([0, 1, 9, 8] : List Int))).bind fun bt168 => (some (bt168.1, t143, bt168.2))) else (some (t142, t143, bt150.2))))))) else (some (t142, t143, t146))) = some (r1, r2, r3) := H
 have A2 := Aside0.mk A20
 clear A20
 by_cases c3 : (t143.length : Int) > 0
 case neg =>
  rw [if_neg c3] at H
  have c3b0 : decide (0 < (t143.length : Int)) = false := decide_eq_false c3
  have c3b1 : decide (0 < t143.length) = false := decide_eq_false (by omega)
  clear c3
  simp only [Option.some.injEq, Prod.mk.injEq] at H
  obtain ⟨rfl, rfl, rfl⟩ := H
  go_enter Try.func49, Try.ntmps49
  go_wp2_with (first | ((with_reducible refine gate_dst (N := 2) rfl ?_); refine box_event ?hg (N := 2) ?hd (cs := #[.int .i64 0, .slice none 0 0]) (t := 25) ?hr ?_; (case hd => rfl); (case hg => rfl); (case hr => first | (go_simp; done) | (go_simp; rfl)); intro p2 hg w84 hbox hb; have n0_ := Aside0.mk (IsS97.below HI0.out hb); have n1_ := Aside0.mk (KeepBut.trans HK.out (KeepBut.of_below hb g none) (.inl rfl)); have n2_ := Aside0.mk (below_step HB.out hb); have n3_ := Aside0.mk (hbox); have n4_ := Aside0.mk ((by rw [hg]; exact (keep_size (w := w) (g := g) (row := none) HK.out) : w.heap.size ≤ p2)); have n5_ := Aside0.mk ((Nat.le_trans HW0.out (by rw [hg]; exact (keep_size (w := w) (g := g) (row := none) HK.out) : w.heap.size ≤ p2) : w0.heap.size ≤ p2)); have n6_ := Aside0.mk ((by rw [hg]; exact Nat.ne_of_lt (IsS97.lt (show IsS97 w0 _ g s0_0 s0_1 from by repeat (first | (with_reducible first | exact HI0.out | apply IsS97.alloc | apply IsS97.drewN | apply IsS97.drew | apply IsS97.set_1) | exact HI0.out))) : g ≠ p2)); have n7_ := Aside0.mk ((by rw [hg]; exact Nat.ne_of_gt (IsS97.lt (show IsS97 w0 _ g s0_0 s0_1 from by repeat (first | (with_reducible first | exact HI0.out | apply IsS97.alloc | apply IsS97.drewN | apply IsS97.drew | apply IsS97.set_1) | exact HI0.out))) : p2 ≠ g)); clear HI0; clear HK; clear HB; have HI0 := n0_; have HK := n1_; have HB := n2_; have p0 := n3_; have q0 := n4_; have q1 := n5_; have p4 := n6_; have p7 := n7_; clear n0_ n1_ n2_ n3_ n4_ n5_ n6_ n7_; clear hb hbox hg) | ((with_reducible refine gate_callee (f := 88) rfl ?_); refine goesL_ (some 6) rfl rfl Try.func88 (by kernel_rfl) rfl #[.pointer (some ⟨g, 0, none⟩)] rfl (by (try simp only [List.map_toArray, List.map_cons, List.map_nil]); first | done | rfl | (simp only [List.length_drop, List.length_take]; rfl)) ?_; (with_reducible refine (spec_l30Net.calls k g s0_0 s0_1 t142 t143 t146 w0 _ ?side1 ?side2 A2.out).mono ?_); (case side1 => exact HI0.out); (case side2 => exact HB.out); rintro e w85 ⟨v144, rfl, ho0, hi, hb, hk⟩; refine ⟨_, rfl, ?_⟩; have n0_ := Aside0.mk (KeepBut.blk hk (g' := p2) (o := .cells #[.int .i64 0, .slice none 0 0] 25 (0, 0)) p0.out p7.out (by simp)); have n1_ := Aside0.mk (Kd.R_lower ho0 (keep_size (w := w) (g := g) (row := none) HK.out)); have n2_ := Aside0.mk (KeepBut.trans HK.out hk (.inl rfl)); have n3_ := Aside0.mk (hb); have n4_ := Aside0.mk (hi); clear p0; clear HK; clear HB; clear HI0; have p0 := n0_; have HO145 := n1_; have HK := n2_; have HB := n3_; have HI0 := n4_; clear n0_ n1_ n2_ n3_ n4_; (try clear hb); (try clear hb2); (try clear hk); (try clear hi); (try clear ho0)) | ((with_reducible refine gate_dst (N := 3) rfl ?_); refine box_event ?hg (N := 3) ?hd (cs := #[.int .i64 0, .slice none 0 0]) (t := 25) ?hr ?_; (case hd => rfl); (case hg => rfl); (case hr => first | (go_simp; done) | (go_simp; rfl)); intro p3 hg w86 hbox hb; have n0_ := Aside0.mk (Kd.R_below HO145.out hb); have n1_ := Aside0.mk (IsS97.below HI0.out hb); have n2_ := Aside0.mk (blk_below (g := p2) (o := .cells #[.int .i64 0, .slice none 0 0] 25 (0, 0)) p0.out hb); have n3_ := Aside0.mk (KeepBut.trans HK.out (KeepBut.of_below hb g none) (.inl rfl)); have n4_ := Aside0.mk (below_step HB.out hb); have n5_ := Aside0.mk (hbox); have n6_ := Aside0.mk ((by rw [hg]; exact (keep_size (w := w) (g := g) (row := none) HK.out) : w.heap.size ≤ p3)); have n7_ := Aside0.mk ((Nat.le_trans HW0.out (by rw [hg]; exact (keep_size (w := w) (g := g) (row := none) HK.out) : w.heap.size ≤ p3) : w0.heap.size ≤ p3)); have n8_ := Aside0.mk ((by rw [hg]; exact Nat.ne_of_lt (blk_lt (g := p2) (o := .cells #[.int .i64 0, .slice none 0 0] 25 (0, 0)) p0.out) : p2 ≠ p3)); have n9_ := Aside0.mk ((by rw [hg]; exact Nat.ne_of_gt (blk_lt (g := p2) (o := .cells #[.int .i64 0, .slice none 0 0] 25 (0, 0)) p0.out) : p3 ≠ p2)); have n10_ := Aside0.mk ((by rw [hg]; exact Nat.ne_of_lt (IsS97.lt (show IsS97 w0 _ g s0_0 t146 from by repeat (first | (with_reducible first | exact HI0.out | apply IsS97.alloc | apply IsS97.drewN | apply IsS97.drew | apply IsS97.set_1 | refine IsS97.far ?_ p4.out _) | exact HI0.out))) : g ≠ p3)); have n11_ := Aside0.mk ((by rw [hg]; exact Nat.ne_of_gt (IsS97.lt (show IsS97 w0 _ g s0_0 t146 from by repeat (first | (with_reducible first | exact HI0.out | apply IsS97.alloc | apply IsS97.drewN | apply IsS97.drew | apply IsS97.set_1 | refine IsS97.far ?_ p4.out _) | exact HI0.out))) : p3 ≠ g)); clear HO145; clear HI0; clear p0; clear HK; clear HB; have HO145 := n0_; have HI0 := n1_; have p0 := n2_; have HK := n3_; have HB := n4_; have p1 := n5_; have q2 := n6_; have q3 := n7_; have p6 := n8_; have p9 := n9_; have p5 := n10_; have p8 := n11_; clear n0_ n1_ n2_ n3_ n4_ n5_ n6_ n7_ n8_ n9_ n10_ n11_; clear hb hbox hg; have hnb87 := p9.out; have hnc87 := p6.out; have hnb88 := p8.out; have hnc88 := p5.out; have hcz89_0 : w86.cell? ⟨p3, 0, none⟩ = some (.int .i64 0) := (blk_cell p1.out 0).trans rfl; have hcz89_1 : w86.cell? ⟨p3, 1, none⟩ = some (.slice none 0 0) := (blk_cell p1.out 1).trans rfl; have hfz89_0 := blk_frozen p1.out 0; have hfz89_1 := blk_frozen p1.out 1; obtain ⟨Ao90, co90, eo90⟩ := Kd.R_slice HO145.out; subst eo90; have hnb91 := p7.out; have hnc91 := p4.out; have hcz92_0 : w86.cell? ⟨p2, 0, none⟩ = some (.int .i64 0) := (blk_cell p0.out 0).trans rfl; have hcz92_1 : w86.cell? ⟨p2, 1, none⟩ = some (.slice none 0 0) := (blk_cell p0.out 1).trans rfl; have hfz92_0 := blk_frozen p0.out 0; have hfz92_1 := blk_frozen p0.out 1))
  refine bodyPost_ret (results_cell_row rfl _ _ p2 25 #[.int .i64 t142, .slice Ao90 t143.length co90] (0, 0) _ rfl (by refine blk_put (cs := #[.int .i64 t142, .slice none 0 0]) ?_ 1 _ rfl; refine blk_put (cs := #[.int .i64 0, .slice none 0 0]) ?_ 0 _ rfl; refine blk_far ?_ p6.out _; refine blk_far ?_ p6.out _; exact p0.out) Try.underlying25 rfl (by kernel_rfl)) rfl ?_
  exact ⟨_, by first | rfl | (simp [errW_none, errW_some] <;> rfl) | (simp [*, errW_none, errW_some] <;> rfl), by exact Kd.R_mono (Kd.R_far (p := ⟨p2, 1, none⟩) (Kd.R_far (p := ⟨p2, 0, none⟩) (Kd.R_far (p := ⟨p3, 1, none⟩) (Kd.R_far (p := ⟨p3, 0, none⟩) (Kd.R_types (Kd.R_types HO145.out p1.out (by decide)) p0.out (by decide)) (fun _ hk => hk.1.2) (.int .i64 t142)) (fun _ hk => hk.1.2) (.slice Ao90 t143.length co90)) (fun _ hk => hk.2) (.int .i64 t142)) (fun _ hk => hk.2) (.slice Ao90 t143.length co90)) (fun _ hk => trivial), by repeat (first | (with_reducible first | exact HI0.out | apply IsS97.alloc | apply IsS97.drewN | apply IsS97.drew | apply IsS97.set_1 | refine IsS97.far ?_ p4.out _ | refine IsS97.far ?_ p5.out _) | exact HI0.out), by repeat (first | (with_reducible first | exact HB.out | apply below_alloc | apply pw_below_drewN | apply below_drew1 | refine below_set ?_ (IsS97.ge HI0.out) | refine below_set ?_ q1.out | refine below_set ?_ q3.out) | exact HB.out), by repeat (first | (with_reducible first | exact HK.out | apply KeepBut.set_ | apply keep_drewN | apply keep_drew | apply keep_alloc | refine keep_far ?_ q0.out _ | refine keep_far ?_ q2.out _) | exact HK.out)⟩
 rw [if_pos c3] at H
 have c3b0 : decide (0 < (t143.length : Int)) = true := decide_eq_true c3
 have c3b1 : decide (0 < t143.length) = true := decide_eq_true (by omega)
 clear c3
 replace H := Option.bind_eq_some_iff.mp H
 obtain ⟨⟨t148, t149⟩, A40, H⟩ := H
 replace H : ((spec_l30Rd_pick.f k s0_0 t149 16).bind fun bt150 => (if bt150.1 = 0 then (if 0 ≤ t148 then (if t148 < (t143.length : Int) then ((spec_l30Rd_one.f k s0_0 bt150.2 (([(-1), 8, (rd_T34 t143 t148).f0] : List Int))).bind fun bt156 => (some (t142, (t143.set (t148 : Int).toNat (⟨(rd_T34 t143 t148).f0, bt156.1, (rd_T34 t143 t148).f2, (rd_T34 t143 t148).f3, (rd_T34 t143 t148).f4⟩ : S34)), bt156.2))) else (none)) else (none)) else (if bt150.1 = 1 then ((spec_l30Rd_one.f k s0_0 bt150.2 (([(-1), 100] : List Int))).bind fun bt162 => (if 0 ≤ t148 then (if t148 < (t143.length : Int) then (some (t142, (t143.set (t148 : Int).toNat (⟨(rd_T34 t143 t148).f0, (rd_T34 t143 t148).f1, bt162.1, (rd_T34 t143 t148).f3, (rd_T34 t143 t148).f4⟩ : S34)), bt162.2)) else (none)) else (none))) else (if bt150.1 = 2 then ((spec_l30Rd_one.f k s0_0 bt150.2 (([0, 1, 9, 8] : List Int))).bind fun bt168 => (some (bt168.1, t143, bt168.2))) else (some (t142, t143, bt150.2)))))) = some (r1, r2, r3) := H
 have A4 := Aside0.mk A40
 clear A40
 replace H := Option.bind_eq_some_iff.mp H
 obtain ⟨⟨t150, t151⟩, A50, H⟩ := H
 replace H : (if t150 = 0 then (if 0 ≤ t148 then (if t148 < (t143.length : Int) then ((spec_l30Rd_one.f k s0_0 t151 (([(-1), 8, (rd_T34 t143 t148).f0] : List Int))).bind fun bt156 => (some (t142, (t143.set (t148 : Int).toNat (⟨(rd_T34 t143 t148).f0, bt156.1, (rd_T34 t143 t148).f2, (rd_T34 t143 t148).f3, (rd_T34 t143 t148).f4⟩ : S34)), bt156.2))) else (none)) else (none)) else (if t150 = 1 then ((spec_l30Rd_one.f k s0_0 t151 (([(-1), 100] : List Int))).bind fun bt162 => (if 0 ≤ t148 then (if t148 < (t143.length : Int) then (some (t142, (t143.set (t148 : Int).toNat (⟨(rd_T34 t143 t148).f0, (rd_T34 t143 t148).f1, bt162.1, (rd_T34 t143 t148).f3, (rd_T34 t143 t148).f4⟩ : S34)), bt162.2)) else (none)) else (none))) else (if t150 = 2 then ((spec_l30Rd_one.f k s0_0 t151 (([0, 1, 9, 8] : List Int))).bind fun bt168 => (some (bt168.1, t143, bt168.2))) else (some (t142, t143, t151))))) = some (r1, r2, r3) := H
 have A5 := Aside0.mk A50
 clear A50
 by_cases c6 : t150 = 0
 case pos =>
  rw [if_pos c6] at H
  have c6b0 : (t150 == 0) = true := beq_iff_eq.mpr c6
  have c6b1 : (t150 != 0) = false := bne_eq_false_iff_eq.mpr c6
  clear c6
  by_cases c7 : 0 ≤ t148
  case neg =>
   rw [if_neg c7] at H
   exact absurd H (by simp)
  rw [if_pos c7] at H
  have c7b0 : decide (0 ≤ t148) = true := decide_eq_true c7
  clear c7
  by_cases c8 : t148 < (t143.length : Int)
  case neg =>
   rw [if_neg c8] at H
   exact absurd H (by simp)
  rw [if_pos c8] at H
  have c8b0 : decide (t148 < (t143.length : Int)) = true := decide_eq_true c8
  clear c8
  obtain ⟨y153, hy153⟩ : ∃ y_ : List Int, y_ = (([(-1), 8, (rd_T34 t143 t148).f0] : List Int)) := ⟨_, rfl⟩
  replace H : ((spec_l30Rd_one.f k s0_0 t151 y153).bind fun bt156 => (some (t142, (t143.set (t148 : Int).toNat (⟨(rd_T34 t143 t148).f0, bt156.1, (rd_T34 t143 t148).f2, (rd_T34 t143 t148).f3, (rd_T34 t143 t148).f4⟩ : S34)), bt156.2))) = some (r1, r2, r3) := by first | (rw [hy153]; with_reducible exact H) | (have H2_ := (Option.bind_some _ _).symm.trans H; rw [hy153]; with_reducible exact H2_) | (have H2_ := (Option.bind_some _ _).symm.trans H; with_reducible exact H2_) | with_reducible exact H | (rw [hy153]; exact H) | exact H
  have Ny153 := Aside0.mk hy153
  clear hy153
  replace H := Option.bind_eq_some_iff.mp H
  obtain ⟨⟨t156, t157⟩, A90, H⟩ := H
  replace H : (some (t142, (t143.set (t148 : Int).toNat (⟨(rd_T34 t143 t148).f0, t156, (rd_T34 t143 t148).f2, (rd_T34 t143 t148).f3, (rd_T34 t143 t148).f4⟩ : S34)), t157)) = some (r1, r2, r3) := H
  have A9 := Aside0.mk A90
  clear A90
  obtain ⟨y158, hy158⟩ : ∃ y_ : List (S34), y_ = (t143.set (t148 : Int).toNat (⟨(rd_T34 t143 t148).f0, t156, (rd_T34 t143 t148).f2, (rd_T34 t143 t148).f3, (rd_T34 t143 t148).f4⟩ : S34)) := ⟨_, rfl⟩
  replace H : (some (t142, y158, t157)) = some (r1, r2, r3) := by first | (rw [hy158]; with_reducible exact H) | (have H2_ := (Option.bind_some _ _).symm.trans H; rw [hy158]; with_reducible exact H2_) | (have H2_ := (Option.bind_some _ _).symm.trans H; with_reducible exact H2_) | with_reducible exact H | (rw [hy158]; exact H) | exact H
  have Ny158 := Aside0.mk hy158
  clear hy158
  simp only [Option.some.injEq, Prod.mk.injEq] at H
  obtain ⟨rfl, rfl, rfl⟩ := H
  go_enter Try.func49, Try.ntmps49
  try go_wp2_with (first | ((with_reducible refine gate_dst (N := 2) rfl ?_); refine box_event ?hg (N := 2) ?hd (cs := #[.int .i64 0, .slice none 0 0]) (t := 25) ?hr ?_; (case hd => rfl); (case hg => rfl); (case hr => first | (go_simp; done) | (go_simp; rfl)); intro p2 hg w11 hbox hb; have n0_ := Aside0.mk (IsS97.below HI0.out hb); have n1_ := Aside0.mk (KeepBut.trans HK.out (KeepBut.of_below hb g none) (.inl rfl)); have n2_ := Aside0.mk (below_step HB.out hb); have n3_ := Aside0.mk (hbox); have n4_ := Aside0.mk ((by rw [hg]; exact (keep_size (w := w) (g := g) (row := none) HK.out) : w.heap.size ≤ p2)); have n5_ := Aside0.mk ((Nat.le_trans HW0.out (by rw [hg]; exact (keep_size (w := w) (g := g) (row := none) HK.out) : w.heap.size ≤ p2) : w0.heap.size ≤ p2)); have n6_ := Aside0.mk ((by rw [hg]; exact Nat.ne_of_lt (IsS97.lt (show IsS97 w0 _ g s0_0 s0_1 from by repeat (first | (with_reducible first | exact HI0.out | apply IsS97.alloc | apply IsS97.drewN | apply IsS97.drew | apply IsS97.set_1) | exact HI0.out))) : g ≠ p2)); have n7_ := Aside0.mk ((by rw [hg]; exact Nat.ne_of_gt (IsS97.lt (show IsS97 w0 _ g s0_0 s0_1 from by repeat (first | (with_reducible first | exact HI0.out | apply IsS97.alloc | apply IsS97.drewN | apply IsS97.drew | apply IsS97.set_1) | exact HI0.out))) : p2 ≠ g)); clear HI0; clear HK; clear HB; have HI0 := n0_; have HK := n1_; have HB := n2_; have p0 := n3_; have q0 := n4_; have q1 := n5_; have p4 := n6_; have p7 := n7_; clear n0_ n1_ n2_ n3_ n4_ n5_ n6_ n7_; clear hb hbox hg) | ((with_reducible refine gate_callee (f := 88) rfl ?_); refine goesL_ (some 6) rfl rfl Try.func88 (by kernel_rfl) rfl #[.pointer (some ⟨g, 0, none⟩)] rfl (by (try simp only [List.map_toArray, List.map_cons, List.map_nil]); first | done | rfl | (simp only [List.length_drop, List.length_take]; rfl)) ?_; (with_reducible refine (spec_l30Net.calls k g s0_0 s0_1 t142 t143 t146 w0 _ ?side1 ?side2 A2.out).mono ?_); (case side1 => exact HI0.out); (case side2 => exact HB.out); rintro e w12 ⟨v144, rfl, ho0, hi, hb, hk⟩; refine ⟨_, rfl, ?_⟩; have n0_ := Aside0.mk (KeepBut.blk hk (g' := p2) (o := .cells #[.int .i64 0, .slice none 0 0] 25 (0, 0)) p0.out p7.out (by simp)); have n1_ := Aside0.mk (Kd.R_lower ho0 (keep_size (w := w) (g := g) (row := none) HK.out)); have n2_ := Aside0.mk (KeepBut.trans HK.out hk (.inl rfl)); have n3_ := Aside0.mk (hb); have n4_ := Aside0.mk (hi); clear p0; clear HK; clear HB; clear HI0; have p0 := n0_; have HO145 := n1_; have HK := n2_; have HB := n3_; have HI0 := n4_; clear n0_ n1_ n2_ n3_ n4_; (try clear hb); (try clear hb2); (try clear hk); (try clear hi); (try clear ho0)) | ((with_reducible refine gate_dst (N := 3) rfl ?_); refine box_event ?hg (N := 3) ?hd (cs := #[.int .i64 0, .slice none 0 0]) (t := 25) ?hr ?_; (case hd => rfl); (case hg => rfl); (case hr => first | (go_simp; done) | (go_simp; rfl)); intro p3 hg w13 hbox hb; have n0_ := Aside0.mk (Kd.R_below HO145.out hb); have n1_ := Aside0.mk (IsS97.below HI0.out hb); have n2_ := Aside0.mk (blk_below (g := p2) (o := .cells #[.int .i64 0, .slice none 0 0] 25 (0, 0)) p0.out hb); have n3_ := Aside0.mk (KeepBut.trans HK.out (KeepBut.of_below hb g none) (.inl rfl)); have n4_ := Aside0.mk (below_step HB.out hb); have n5_ := Aside0.mk (hbox); have n6_ := Aside0.mk ((by rw [hg]; exact (keep_size (w := w) (g := g) (row := none) HK.out) : w.heap.size ≤ p3)); have n7_ := Aside0.mk ((Nat.le_trans HW0.out (by rw [hg]; exact (keep_size (w := w) (g := g) (row := none) HK.out) : w.heap.size ≤ p3) : w0.heap.size ≤ p3)); have n8_ := Aside0.mk ((by rw [hg]; exact Nat.ne_of_lt (blk_lt (g := p2) (o := .cells #[.int .i64 0, .slice none 0 0] 25 (0, 0)) p0.out) : p2 ≠ p3)); have n9_ := Aside0.mk ((by rw [hg]; exact Nat.ne_of_gt (blk_lt (g := p2) (o := .cells #[.int .i64 0, .slice none 0 0] 25 (0, 0)) p0.out) : p3 ≠ p2)); have n10_ := Aside0.mk ((by rw [hg]; exact Nat.ne_of_lt (IsS97.lt (show IsS97 w0 _ g s0_0 t146 from by repeat (first | (with_reducible first | exact HI0.out | apply IsS97.alloc | apply IsS97.drewN | apply IsS97.drew | apply IsS97.set_1 | refine IsS97.far ?_ p4.out _) | exact HI0.out))) : g ≠ p3)); have n11_ := Aside0.mk ((by rw [hg]; exact Nat.ne_of_gt (IsS97.lt (show IsS97 w0 _ g s0_0 t146 from by repeat (first | (with_reducible first | exact HI0.out | apply IsS97.alloc | apply IsS97.drewN | apply IsS97.drew | apply IsS97.set_1 | refine IsS97.far ?_ p4.out _) | exact HI0.out))) : p3 ≠ g)); clear HO145; clear HI0; clear p0; clear HK; clear HB; have HO145 := n0_; have HI0 := n1_; have p0 := n2_; have HK := n3_; have HB := n4_; have p1 := n5_; have q2 := n6_; have q3 := n7_; have p6 := n8_; have p9 := n9_; have p5 := n10_; have p8 := n11_; clear n0_ n1_ n2_ n3_ n4_ n5_ n6_ n7_ n8_ n9_ n10_ n11_; clear hb hbox hg; have hnb14 := p9.out; have hnc14 := p6.out; have hnb15 := p8.out; have hnc15 := p5.out; have hcz16_0 : w13.cell? ⟨p3, 0, none⟩ = some (.int .i64 0) := (blk_cell p1.out 0).trans rfl; have hcz16_1 : w13.cell? ⟨p3, 1, none⟩ = some (.slice none 0 0) := (blk_cell p1.out 1).trans rfl; have hfz16_0 := blk_frozen p1.out 0; have hfz16_1 := blk_frozen p1.out 1; obtain ⟨Ao17, co17, eo17⟩ := Kd.R_slice HO145.out; subst eo17) | ((with_reducible refine gate_callee (f := 89) rfl ?_); refine goesL_ (some 15) rfl rfl Try.func89 (by kernel_rfl) rfl #[.pointer (some ⟨g, 0, none⟩), .int .i64 (t143.length : Int)] rfl (by (try simp only [List.map_toArray, List.map_cons, List.map_nil]); first | done | rfl | (simp only [List.length_drop, List.length_take]; rfl)) ?_; (with_reducible refine (spec_l30Rd_pick.calls k g s0_0 t146 (t143.length : Int) t148 t149 w0 _ ?side1 ?side2 A4.out).mono ?_); (case side1 => repeat (first | (with_reducible first | exact HI0.out | apply IsS97.alloc | apply IsS97.drewN | apply IsS97.drew | apply IsS97.set_1 | refine IsS97.far ?_ p4.out _ | refine IsS97.far ?_ p5.out _) | exact HI0.out)); (case side2 => repeat (first | (with_reducible first | exact HB.out | apply below_alloc | apply pw_below_drewN | apply below_drew1 | refine below_set ?_ (IsS97.ge HI0.out) | refine below_set ?_ q1.out | refine below_set ?_ q3.out) | exact HB.out)); rintro e w18 ⟨rfl, hi, hb, hk⟩; refine ⟨_, rfl, ?_⟩; have n0_ := Aside0.mk (KeepBut.blk hk (g' := p2) (o := .cells #[.int .i64 0, .slice none 0 0] 25 (0, 0)) (by refine blk_far ?_ p6.out _; refine blk_far ?_ p6.out _; exact p0.out) p7.out (by simp)); have n1_ := Aside0.mk (Kd.R_mono (Kd.R_keep (IsS97.apart (show IsS97 w0 _ g s0_0 t146 from by repeat (first | (with_reducible first | exact HI0.out | apply IsS97.alloc | apply IsS97.drewN | apply IsS97.drew | apply IsS97.set_1 | refine IsS97.far ?_ p4.out _ | refine IsS97.far ?_ p5.out _) | exact HI0.out)) (Kd.R_mono (Kd.R_far (p := ⟨p3, 1, none⟩) (Kd.R_far (p := ⟨p3, 0, none⟩) (Kd.R_types HO145.out p1.out (by decide)) (fun _ hk => hk.2) (.int .i64 t142)) (fun _ hk => hk.2) (.slice Ao17 t143.length co17)) (fun _ h_ => h_.1)) (by decide)) hk (fun _ h => h.2)) (fun _ h => h.1)); have n2_ := Aside0.mk (KeepBut.blk hk (g' := p3) (o := .cells #[.int .i64 t142, .slice Ao17 t143.length co17] 25 (0, 0)) (by refine blk_put (cs := #[.int .i64 t142, .slice none 0 0]) ?_ 1 _ rfl; refine blk_put (cs := #[.int .i64 0, .slice none 0 0]) ?_ 0 _ rfl; exact p1.out) p8.out (by simp)); have n3_ := Aside0.mk (KeepBut.trans (by repeat (first | (with_reducible first | exact HK.out | apply KeepBut.set_ | apply keep_drewN | apply keep_drew | apply keep_alloc | refine keep_far ?_ q0.out _ | refine keep_far ?_ q2.out _) | exact HK.out)) hk (.inl rfl)); have n4_ := Aside0.mk (hb); have n5_ := Aside0.mk (hi); clear p0; clear HO145; clear p1; clear HK; clear HB; clear HI0; have p0 := n0_; have HO145 := n1_; have p1 := n2_; have HK := n3_; have HB := n4_; have HI0 := n5_; clear n0_ n1_ n2_ n3_ n4_ n5_; (try clear hb); (try clear hb2); (try clear hk); (try clear hi)) | ((with_reducible refine gate_callee (f := 89) rfl ?_); refine goesL_ (some 17) rfl rfl Try.func89 (by kernel_rfl) rfl #[.pointer (some ⟨g, 0, none⟩), .int .i64 16] rfl (by (try simp only [List.map_toArray, List.map_cons, List.map_nil]); first | done | rfl | (simp only [List.length_drop, List.length_take]; rfl)) ?_; (with_reducible refine (spec_l30Rd_pick.calls k g s0_0 t149 16 t150 t151 w0 _ ?side1 ?side2 A5.out).mono ?_); (case side1 => exact HI0.out); (case side2 => exact HB.out); rintro e w19 ⟨rfl, hi, hb, hk⟩; refine ⟨_, rfl, ?_⟩; have n0_ := Aside0.mk (KeepBut.blk hk (g' := p2) (o := .cells #[.int .i64 0, .slice none 0 0] 25 (0, 0)) p0.out p7.out (by simp)); have n1_ := Aside0.mk (Kd.R_mono (Kd.R_keep (IsS97.apart (show IsS97 w0 _ g s0_0 t149 from by repeat (first | (with_reducible first | exact HI0.out | apply IsS97.alloc | apply IsS97.drewN | apply IsS97.drew | apply IsS97.set_1 | refine IsS97.far ?_ p4.out _ | refine IsS97.far ?_ p5.out _) | exact HI0.out)) HO145.out (by decide)) hk (fun _ h => h.2)) (fun _ h => h.1)); have n2_ := Aside0.mk (KeepBut.blk hk (g' := p3) (o := .cells #[.int .i64 t142, .slice Ao17 t143.length co17] 25 (0, 0)) p1.out p8.out (by simp)); have n3_ := Aside0.mk (KeepBut.trans HK.out hk (.inl rfl)); have n4_ := Aside0.mk (hb); have n5_ := Aside0.mk (hi); clear p0; clear HO145; clear p1; clear HK; clear HB; clear HI0; have p0 := n0_; have HO145 := n1_; have p1 := n2_; have HK := n3_; have HB := n4_; have HI0 := n5_; clear n0_ n1_ n2_ n3_ n4_ n5_; (try clear hb); (try clear hb2); (try clear hk); (try clear hi)))
  have n0_ := Aside0.mk (Kd.R_drew HO145.out)
  have n1_ := Aside0.mk (blk_drew p0.out)
  have n2_ := Aside0.mk (blk_drew p1.out)
  have n3_ := Aside0.mk (IsS97.drew HI0.out)
  have n4_ := Aside0.mk (keep_drew HK.out)
  have n5_ := Aside0.mk (below_drew1 HB.out)
  clear HO145
  clear p0
  clear p1
  clear HI0
  clear HK
  clear HB
  have HO145 := n0_
  have p0 := n1_
  have p1 := n2_
  have HI0 := n3_
  have HK := n4_
  have HB := n5_
  clear n0_ n1_ n2_ n3_ n4_ n5_
  have p152 : 0 ≤ (t148 : Int) := of_decide_eq_true (by first | (with_reducible assumption) | assumption)
  have q152 : t148 < (t143.length : Int) := of_decide_eq_true (by first | (with_reducible assumption) | assumption)
  obtain ⟨q4, e152, q7, q8, q9, r0, r4⟩ := at_T34 (Kd.R_reads' HO145.out).2.2 t148 p152 q152
  cases e152
  replace p152 := eq_true p152
  replace q152 := eq_true q152
  refine start_ (n := 15) (S := fun w' => w'.cell? ⟨p3, 0, none⟩ = some (.int .i64 t142) ∧ w'.cell? ⟨p3, 1, none⟩ = some (.slice (some q4) t143.length co17) ∧ w'.cell? (q4.add ((t148).toNat * 5)) = some (.int .i64 ((rd_T34 t143 t148).f0)) ∧ w'.cell? ⟨(q4.add ((t148).toNat * 5)).block, (q4.add ((t148).toNat * 5)).off + 1, none⟩ = some (.int .i64 ((rd_T34 t143 t148).f1)) ∧ w'.cell? ⟨(q4.add ((t148).toNat * 5)).block, (q4.add ((t148).toNat * 5)).off + 2, none⟩ = some (.int .i64 ((rd_T34 t143 t148).f2)) ∧ w'.cell? ⟨(q4.add ((t148).toNat * 5)).block, (q4.add ((t148).toNat * 5)).off + 3, none⟩ = some (.int .i64 ((rd_T34 t143 t148).f3)) ∧ w'.cell? ⟨(q4.add ((t148).toNat * 5)).block, (q4.add ((t148).toNat * 5)).off + 4, none⟩ = some (.int .i64 ((rd_T34 t143 t148).f4))) (ds := [14]) #[N5,N5,N5,N5,N5,N5,N5,N5,N5,N5,N5,N5,N5,N5,N5] (by kernel_rfl) rfl rfl ⟨(blk_cell p1.out 0).trans rfl, (blk_cell p1.out 1).trans rfl, q7, q8, q9, r0, r4⟩ (fun hHeld => ?_); refine with_tabW spec_l30AnyNet.tab6 spec_l30AnyNet.bits6 (fun HT_ HW_ => ?_)
  generalize w19.drew = w20 at HO145 p0 p1 HI0 HK HB q7 q8 q9 r0 r4 hHeld ⊢
  refine pure_ (i := 0) (N := some 20) (v := ?_) (a' := ?_) #[Y5,N5,N5,N5,N5,N5,N5,N5,N5,N5,N5,N5,N5,N5,N5] rfl rfl (any_of HT_.out (by kernel_rfl)) (fun _ _ _ h => h) (Or.inl ⟨by rfl, ?_⟩) ?_ ?_
  rotate_left
  ·intro w'
   go_simp
   with_reducible rfl
  rotate_left
  ·simp only [Act.put, List.setIfInBounds_toArray, List.set_cons_zero, List.set_cons_succ, i64_w, i32_w]
   rfl
  refine pure_ (i := 2) (N := some 22) (v := ?_) (a' := ?_) #[Y5,N5,Y5,N5,N5,N5,N5,N5,N5,N5,N5,N5,N5,N5,N5] rfl rfl (any_of HT_.out (by kernel_rfl)) (fun _ _ _ h => h) (Or.inl ⟨by rfl, ?_⟩) ?_ ?_
  rotate_left
  ·intro w'
   go_simp
   with_reducible rfl
  rotate_left
  ·simp only [Act.put, List.setIfInBounds_toArray, List.set_cons_zero, List.set_cons_succ, i64_w, i32_w]
   rfl
  refine pure_ (i := 3) (N := some 23) (v := ?_) (a' := ?_) #[Y5,N5,Y5,Y5,N5,N5,N5,N5,N5,N5,N5,N5,N5,N5,N5] rfl rfl (any_of HT_.out (by kernel_rfl)) (fun _ _ _ h => h) (Or.inl ⟨by rfl, ?_⟩) ?_ ?_
  rotate_left
  ·intro w'
   go_simp
   with_reducible rfl
  rotate_left
  ·simp only [Act.put, List.setIfInBounds_toArray, List.set_cons_zero, List.set_cons_succ, i64_w, i32_w]
   rfl
  refine pure_ (i := 4) (N := some 24) (v := ?_) (a' := ?_) #[Y5,N5,Y5,Y5,Y5,N5,N5,N5,N5,N5,N5,N5,N5,N5,N5] rfl rfl (any_of HT_.out (by kernel_rfl)) (fun _ _ _ h => h) (Or.inl ⟨by rfl, ?_⟩) ?_ ?_
  rotate_left
  ·intro w'
   go_simp
   with_reducible rfl
  rotate_left
  ·simp only [Act.put, List.setIfInBounds_toArray, List.set_cons_zero, List.set_cons_succ, i64_w, i32_w]
   rfl
  refine pure_ (i := 6) (N := some 26) (v := ?_) (a' := ?_) #[Y5,N5,Y5,Y5,Y5,N5,Y5,N5,N5,N5,N5,N5,N5,N5,N5] rfl rfl (any_of HT_.out (by kernel_rfl)) (fun _ _ _ h => h) (Or.inl ⟨by rfl, ?_⟩) ?_ ?_
  rotate_left
  ·intro w'
   go_simp
   with_reducible rfl
  rotate_left
  ·simp only [Act.put, List.setIfInBounds_toArray, List.set_cons_zero, List.set_cons_succ, i64_w, i32_w]
   rfl
  refine take_ (i := 1) (N := some 21) (v := ?_) (a' := ?_) #[Y5,Y5,Y5,Y5,Y5,N5,Y5,N5,N5,N5,N5,N5,N5,N5,N5] rfl rfl (take_ofW HT_.out HW_.out (by kernel_rfl)) (fun _ _ _ h => h) (Or.inl ⟨by rfl, ?_⟩) hHeld ?_ ?_
  rotate_left
  ·rintro w' ⟨s0, s1, s2, s3, s4, s5, s6⟩
   go_simp
   with_reducible rfl
  rotate_left
  ·simp only [Act.put, List.setIfInBounds_toArray, List.set_cons_zero, List.set_cons_succ, i64_w, i32_w]
   rfl
  refine take_ (i := 5) (N := some 25) (v := ?_) (a' := ?_) #[Y5,Y5,Y5,Y5,Y5,Y5,Y5,N5,N5,N5,N5,N5,N5,N5,N5] rfl rfl (take_ofW HT_.out HW_.out (by kernel_rfl)) (fun _ _ _ h => h) (Or.inl ⟨by rfl, ?_⟩) hHeld ?_ ?_
  rotate_left
  ·rintro w' ⟨s0, s1, s2, s3, s4, s5, s6⟩
   go_simp
   with_reducible rfl
  rotate_left
  ·simp only [Act.put, List.setIfInBounds_toArray, List.set_cons_zero, List.set_cons_succ, i64_w, i32_w]
   rfl
  refine pure_ (i := 7) (N := some 27) (v := ?_) (a' := ?_) #[Y5,Y5,Y5,Y5,Y5,Y5,Y5,Y5,N5,N5,N5,N5,N5,N5,N5] rfl rfl (any_of HT_.out (by kernel_rfl)) (fun _ _ _ h => h) (Or.inl ⟨by rfl, ?_⟩) ?_ ?_
  rotate_left
  ·intro w'
   go_simp
   with_reducible rfl
  rotate_left
  ·simp only [Act.put, List.setIfInBounds_toArray, List.set_cons_zero, List.set_cons_succ, i64_w, i32_w]
   rfl
  refine pure_ (i := 8) (N := some 28) (v := ?_) (a' := ?_) #[Y5,Y5,Y5,Y5,Y5,Y5,Y5,Y5,Y5,N5,N5,N5,N5,N5,N5] rfl rfl (any_of HT_.out (by kernel_rfl)) (fun _ _ _ h => h) (Or.inl ⟨by rfl, ?_⟩) ?_ ?_
  rotate_left
  ·intro w'
   go_simp
   with_reducible rfl
  rotate_left
  ·simp only [Act.put, List.setIfInBounds_toArray, List.set_cons_zero, List.set_cons_succ, i64_w, i32_w]
   rfl
  refine take_ (i := 9) (N := some 29) (v := ?_) (a' := ?_) #[Y5,Y5,Y5,Y5,Y5,Y5,Y5,Y5,Y5,Y5,N5,N5,N5,N5,N5] rfl rfl (take_ofW HT_.out HW_.out (by kernel_rfl)) (fun _ _ _ h => h) (Or.inl ⟨by rfl, ?_⟩) hHeld ?_ ?_
  rotate_left
  ·rintro w' ⟨s0, s1, s2, s3, s4, s5, s6⟩
   go_simp
   with_reducible rfl
  rotate_left
  ·simp only [Act.put, List.setIfInBounds_toArray, List.set_cons_zero, List.set_cons_succ, i64_w, i32_w]
   rfl
  refine one_ (i := 10) (N := some 30) #[Y5,Y5,Y5,Y5,Y5,Y5,Y5,Y5,Y5,Y5,Y5,N5,N5,N5,N5] rfl rfl (one_of HT_.out (by kernel_rfl)) (by decide) (fun K hK => ?_)
  refine Kd.R_lit_step (Kd.int .i64) _ 3 ?hg (N := 30) ?hd (xs := ([(-1), 8, (rd_T34 t143 t148).f0] : List Int)) (inner := [.int .i64 (-1), .int .i64 8, .int .i64 ((rd_T34 t143 t148).f0)]) (ok := fun _ => True) (okp := fun _ => True) ?hr ?hp (fun _ hk => hk) trivial (Below.refl _ _) (Nat.le_refl _) (by simp) ?_; (case hd => rfl); (case hg => rfl); (case hr => first | (go_simp; done) | (go_simp; rfl)); (case hp => exact (Reps.one (show Kd.M (Kd.int .i64) _ _ _ (-1) [.int .i64 (-1)] from rfl) (Reps.one (show Kd.M (Kd.int .i64) _ _ _ 8 [.int .i64 8] from rfl) (Reps.one (show Kd.M (Kd.int .i64) _ _ _ ((rd_T34 t143 t148).f0) [.int .i64 ((rd_T34 t143 t148).f0)] from rfl) (Reps.none _ _)))))
  intro v154 w21 ho22 hb hg_ hnew_
  have HS2_ := (hb.cell (World.block_lt_of_cell? _ _ (hHeld.2.2.1))).trans (hHeld.2.2.1)
  have HS3_ := (hb.cell (World.block_lt_of_cell? _ _ (hHeld.2.2.2.1))).trans (hHeld.2.2.2.1)
  have HS4_ := (hb.cell (World.block_lt_of_cell? _ _ (hHeld.2.2.2.2.1))).trans (hHeld.2.2.2.2.1)
  have HS5_ := (hb.cell (World.block_lt_of_cell? _ _ (hHeld.2.2.2.2.2.1))).trans (hHeld.2.2.2.2.2.1)
  have HS6_ := (hb.cell (World.block_lt_of_cell? _ _ (hHeld.2.2.2.2.2.2))).trans (hHeld.2.2.2.2.2.2)
  clear hg_ hnew_
  (first | rw [← Ny153.out] at ho22 | (simp only [Int.reduceToNat] at ho22; rw [← Ny153.out] at ho22))
  have n0_ := Aside0.mk (Kd.R_below HO145.out hb)
  have n1_ := Aside0.mk (Kd.R_lower ho22 (keep_size (w := w) (g := g) (row := none) HK.out))
  have n2_ := Aside0.mk (IsS97.below HI0.out hb)
  have n3_ := Aside0.mk (blk_below (g := p2) (o := .cells #[.int .i64 0, .slice none 0 0] 25 (0, 0)) p0.out hb)
  have n4_ := Aside0.mk (blk_below (g := p3) (o := .cells #[.int .i64 t142, .slice (some q4) t143.length co17] 25 (0, 0)) p1.out hb)
  have n5_ := Aside0.mk (KeepBut.trans HK.out (KeepBut.of_below hb g none) (.inl rfl))
  have n6_ := Aside0.mk (below_step HB.out hb)
  clear HO145
  clear HI0
  clear p0
  clear p1
  clear HK
  clear HB
  have HO145 := n0_
  have HO155 := n1_
  have HI0 := n2_
  have p0 := n3_
  have p1 := n4_
  have HK := n5_
  have HB := n6_
  clear n0_ n1_ n2_ n3_ n4_ n5_ n6_
  clear hb ho22
  obtain ⟨Ao23, co23, eo23⟩ := Kd.R_slice HO155.out
  (first | subst eo23 | (injection eo23 with f1_ f2_ f3_; have f4_ := f1_.symm; have f5_ := f3_.symm; clear f1_ f2_ f3_; subst f4_; subst f5_))
  refine hK.out _ _ ⟨(blk_cell p1.out 0).trans rfl, (blk_cell p1.out 1).trans rfl, HS2_, HS3_, HS4_, HS5_, HS6_⟩ (fun hHeld => ?_)
  clear hK K
  refine norm_ (a' := ?_) ?_ ?_
  rotate_left
  ·show Act.put _ (some 30) _ = _
   simp only [Act.put, List.setIfInBounds_toArray, List.set_cons_zero, List.set_cons_succ, i64_w, i32_w]
   rfl
  refine one_ (i := 11) (N := some 31) #[Y5,Y5,Y5,Y5,Y5,Y5,Y5,Y5,Y5,Y5,Y5,Y5,N5,N5,N5] rfl rfl (one_of HT_.out (by kernel_rfl)) (by decide) (fun K hK => ?_)
  refine goes_ Try.func90 (by kernel_rfl) rfl #[.pointer (some ⟨g, 0, none⟩), .slice Ao23 y153.length co23] (by rfl) rfl rfl (by (try simp only [List.map_toArray, List.map_cons, List.map_nil]); first | done | rfl | (simp only [List.length_drop, List.length_take]; rfl)) ?_
  with_reducible refine (spec_l30Rd_one.calls k g s0_0 t151 _ _ y153 t156 t157 w0 _ ?side1 ?side2 ?side3 ?side4 ?side5 A9.out).mono ?_
  (case side1 => exact HI0.out)
  (case side2 => exact HB.out)
  (case side3 => repeat (first | exact (Kd.R_reads' HO155.out).2.2 | (with_reducible refine Kd.C_alloc ?_ _) | (with_reducible refine Kd.C_drewN ?_ _) | (with_reducible refine Kd.C_drew ?_)))
  (case side4 => exact (Kd.R_reads' HO155.out).2.1)
  (case side5 => exact far_slice (IsS97.own_ne HI0.out HO155.out (by decide)))
  rintro e w24 ⟨rfl, hi, hb, hk⟩
  have HS2_ := keep_cell hk (hHeld.2.2.1) (by first | (rw [add_block]; exact Kd.own_blk (IsS97.own_ne HI0.out HO145.out (by decide))) | (show (Addr.add _ _).block ≠ _; rw [add_block]; exact Kd.own_blk (IsS97.own_ne HI0.out HO145.out (by decide))) | exact Kd.own_blk (IsS97.own_ne HI0.out HO145.out (by decide)))
  have HS3_ := keep_cell hk (hHeld.2.2.2.1) (by first | (rw [add_block]; exact Kd.own_blk (IsS97.own_ne HI0.out HO145.out (by decide))) | (show (Addr.add _ _).block ≠ _; rw [add_block]; exact Kd.own_blk (IsS97.own_ne HI0.out HO145.out (by decide))) | exact Kd.own_blk (IsS97.own_ne HI0.out HO145.out (by decide)))
  have HS4_ := keep_cell hk (hHeld.2.2.2.2.1) (by first | (rw [add_block]; exact Kd.own_blk (IsS97.own_ne HI0.out HO145.out (by decide))) | (show (Addr.add _ _).block ≠ _; rw [add_block]; exact Kd.own_blk (IsS97.own_ne HI0.out HO145.out (by decide))) | exact Kd.own_blk (IsS97.own_ne HI0.out HO145.out (by decide)))
  have HS5_ := keep_cell hk (hHeld.2.2.2.2.2.1) (by first | (rw [add_block]; exact Kd.own_blk (IsS97.own_ne HI0.out HO145.out (by decide))) | (show (Addr.add _ _).block ≠ _; rw [add_block]; exact Kd.own_blk (IsS97.own_ne HI0.out HO145.out (by decide))) | exact Kd.own_blk (IsS97.own_ne HI0.out HO145.out (by decide)))
  have HS6_ := keep_cell hk (hHeld.2.2.2.2.2.2) (by first | (rw [add_block]; exact Kd.own_blk (IsS97.own_ne HI0.out HO145.out (by decide))) | (show (Addr.add _ _).block ≠ _; rw [add_block]; exact Kd.own_blk (IsS97.own_ne HI0.out HO145.out (by decide))) | exact Kd.own_blk (IsS97.own_ne HI0.out HO145.out (by decide)))
  refine ⟨_, rfl, ?_⟩
  have n0_ := Aside0.mk (KeepBut.blk hk (g' := p2) (o := .cells #[.int .i64 0, .slice none 0 0] 25 (0, 0)) p0.out p7.out (by simp))
  have n1_ := Aside0.mk (Kd.R_mono (Kd.R_keep (IsS97.apart (show IsS97 w0 _ g s0_0 t151 from by repeat (first | (with_reducible first | exact HI0.out | apply IsS97.alloc | apply IsS97.drewN | apply IsS97.drew | apply IsS97.set_1 | refine IsS97.far ?_ p4.out _ | refine IsS97.far ?_ p5.out _) | exact HI0.out)) HO145.out (by decide)) hk (fun _ h => h.2)) (fun _ h => h.1))
  have n2_ := Aside0.mk (KeepBut.blk hk (g' := p3) (o := .cells #[.int .i64 t142, .slice (some q4) t143.length co17] 25 (0, 0)) p1.out p8.out (by simp))
  have n3_ := Aside0.mk (Kd.R_mono (Kd.R_keep (IsS97.apart (show IsS97 w0 _ g s0_0 t151 from by repeat (first | (with_reducible first | exact HI0.out | apply IsS97.alloc | apply IsS97.drewN | apply IsS97.drew | apply IsS97.set_1 | refine IsS97.far ?_ p4.out _ | refine IsS97.far ?_ p5.out _) | exact HI0.out)) HO155.out (by decide)) hk (fun _ h => h.2)) (fun _ h => h.1))
  have n4_ := Aside0.mk (KeepBut.trans HK.out hk (.inl rfl))
  have n5_ := Aside0.mk (hb)
  have n6_ := Aside0.mk (hi)
  clear p0
  clear HO145
  clear p1
  clear HO155
  clear HK
  clear HB
  clear HI0
  have p0 := n0_
  have HO145 := n1_
  have p1 := n2_
  have HO155 := n3_
  have HK := n4_
  have HB := n5_
  have HI0 := n6_
  clear n0_ n1_ n2_ n3_ n4_ n5_ n6_
  (try clear hb)
  (try clear hb2)
  (try clear hk)
  (try clear hi)
  have p10 : 0 ≤ (t148 : Int) := of_decide_eq_true (by first | (with_reducible assumption) | assumption)
  have q10 : (t148 : Int) < ((t143.length : Int) : Int) := of_decide_eq_true (by first | (with_reducible assumption) | assumption)
  obtain ⟨go10, co10, eo10, gb10, gl10, cl10, HG10⟩ := Kd.R_form HO145.out (by omega)
  (first | cases eo10 | (injection eo10 with ea_ en_ ec_; (first | subst ea_ | (injection ea_ with ea_; subst ea_)); subst ec_; clear en_))
  have GB10 := Aside0.mk gb10
  have GG10 := Aside0.mk HG10
  clear gb10 gl10 HG10
  (first | simp only [add_plain] at q7 | skip)
  (first | simp only [add_plain] at q8 | skip)
  (first | simp only [add_plain] at q9 | skip)
  (first | simp only [add_plain] at r0 | skip)
  (first | simp only [add_plain] at r4 | skip)
  obtain ⟨ce10, hcl10, hM10, q5, hfr10⟩ := Kd.R_elem HO145.out z34 (t148 : Int) p10 q10
  obtain rfl := k34_openM hM10
  have hx10_0 : World.cell? _ ⟨go10, (t148 : Int).toNat * 5, none⟩ = some (.int .i64 ((rd_T34 t143 t148).f0)) := q5 0 _ rfl
  have hx10_1 : World.cell? _ ⟨go10, (t148 : Int).toNat * 5 + 1, none⟩ = some (.int .i64 ((rd_T34 t143 t148).f1)) := q5 1 _ rfl
  have hx10_2 : World.cell? _ ⟨go10, (t148 : Int).toNat * 5 + 2, none⟩ = some (.int .i64 ((rd_T34 t143 t148).f2)) := q5 2 _ rfl
  have hx10_3 : World.cell? _ ⟨go10, (t148 : Int).toNat * 5 + 3, none⟩ = some (.int .i64 ((rd_T34 t143 t148).f3)) := q5 3 _ rfl
  have hx10_4 : World.cell? _ ⟨go10, (t148 : Int).toNat * 5 + 4, none⟩ = some (.int .i64 ((rd_T34 t143 t148).f4)) := q5 4 _ rfl
  have hf10_0 : World.frozen? _ ⟨go10, (t148 : Int).toNat * 5, none⟩ = false := hfr10 0
  have hf10_1 : World.frozen? _ ⟨go10, (t148 : Int).toNat * 5 + 1, none⟩ = false := hfr10 1
  have hf10_2 : World.frozen? _ ⟨go10, (t148 : Int).toNat * 5 + 2, none⟩ = false := hfr10 2
  have hf10_3 : World.frozen? _ ⟨go10, (t148 : Int).toNat * 5 + 3, none⟩ = false := hfr10 3
  have hf10_4 : World.frozen? _ ⟨go10, (t148 : Int).toNat * 5 + 4, none⟩ = false := hfr10 4
  clear hcl10 q5 hfr10; (try clear hM10)
  replace p10 := eq_true p10
  replace q10 := eq_true q10
  have HN0_go10 := Aside0.mk (show g ≠ go10 from by have h_ := IsS97.own_ne HI0.out HO145.out (by decide); intro e_; exact h_ (by rw [e_]; rfl))
  obtain ⟨ce25, hcl25, hM25, hcc25, hfr25⟩ := Kd.R_elem HO145.out z34 (t148 : Int) (of_decide_eq_true (by first | (with_reducible assumption) | assumption)) (by have h_ : (t148 : Int) < ((t143.length : Int) : Int) := of_decide_eq_true (by first | (with_reducible assumption) | assumption); first | exact h_ | (have e_ := (Kd.R_reads' HO145.out).1; omega) | simpa using h_)
  obtain rfl := k34_openM hM25
  have HP25 := (Kd.R_seg HO145.out (t148 : Int) (of_decide_eq_true (by first | (with_reducible assumption) | assumption)) (by have h_ : (t148 : Int) < ((t143.length : Int) : Int) := of_decide_eq_true (by first | (with_reducible assumption) | assumption); first | exact h_ | (have e_ := (Kd.R_reads' HO145.out).1; omega) | simpa using h_) (seg := [.int .i64 t156]) (j := 1) hcl25 hcc25 (show 2 ≤ 5 from by decide) (x' := (⟨(rd_T34 t143 t148).f0, t156, (rd_T34 t143 t148).f2, (rd_T34 t143 t148).f3, (rd_T34 t143 t148).f4⟩ : S34)) (k34_mkM _ _ _ (⟨(rd_T34 t143 t148).f0, t156, (rd_T34 t143 t148).f2, (rd_T34 t143 t148).f3, (rd_T34 t143 t148).f4⟩ : S34) ) (fun _ hk => hk)).1
  rw [← Ny158.out] at HP25
  have HQ25 := Aside0.mk HP25
  clear hcl25 hcc25 hfr25 HP25; (try clear hM25)
  refine hK.out _ _ ⟨(blk_cell p1.out 0).trans rfl, (blk_cell p1.out 1).trans rfl, HS2_, HS3_, HS4_, HS5_, HS6_⟩ (fun hHeld => ?_)
  clear hK K
  refine norm_ (a' := ?_) ?_ ?_
  rotate_left
  ·show Act.put _ (some 31) _ = _
   simp only [Act.put, List.setIfInBounds_toArray, List.set_cons_zero, List.set_cons_succ, i64_w, i32_w]
   rfl
  refine pure_ (i := 12) (N := some 32) (v := ?_) (a' := ?_) #[Y5,Y5,Y5,Y5,Y5,Y5,Y5,Y5,Y5,Y5,Y5,Y5,Y5,N5,N5] rfl rfl (any_of HT_.out (by kernel_rfl)) (fun _ _ _ h => h) (Or.inl ⟨by rfl, ?_⟩) ?_ ?_
  rotate_left
  ·intro w'
   go_simp
   with_reducible rfl
  rotate_left
  ·simp only [Act.put, List.setIfInBounds_toArray, List.set_cons_zero, List.set_cons_succ, i64_w, i32_w]
   rfl
  refine pure_ (i := 13) (N := some 33) (v := ?_) (a' := ?_) #[Y5,Y5,Y5,Y5,Y5,Y5,Y5,Y5,Y5,Y5,Y5,Y5,Y5,Y5,N5] rfl rfl (any_of HT_.out (by kernel_rfl)) (fun _ _ _ h => h) (Or.inl ⟨by rfl, ?_⟩) ?_ ?_
  rotate_left
  ·intro w'
   go_simp
   with_reducible rfl
  rotate_left
  ·simp only [Act.put, List.setIfInBounds_toArray, List.set_cons_zero, List.set_cons_succ, i64_w, i32_w]
   rfl
  refine last_ (i := 14) (N := none) #[true, true, true, true, true, true, true, true, true, true, true, true, true, true, true] rfl rfl (one_of HT_.out (by kernel_rfl)) (by decide) (fun K hK => ?_)
  refine skip_ (w1 := ?_) (by rfl) rfl ?_ ?_
  rotate_left
  ·go_simp
   rfl
  refine hK.out _ _ ?_
  clear hK K
  refine done_ (done_of HT_.out (by kernel_rfl)) ?_
  have n0_ : Aside0 (Kd.R k34 34 (w24.setCell ⟨go10, (t148 : Int).toNat * 5 + 1, none⟩ (.int .i64 t156)) w.heap.size (fun _ => True) (.slice (some ⟨go10, 0, none⟩) t143.length co17) y158) := ⟨by exact HQ25.out⟩
  have n1_ : Aside0 (Kd.R (Kd.int .i64) 3 (w24.setCell ⟨go10, (t148 : Int).toNat * 5 + 1, none⟩ (.int .i64 t156)) w.heap.size (fun _ => True) (.slice Ao23 y153.length co23) y153) := ⟨by exact Kd.R_mono (Kd.R_far (p := ⟨go10, (t148 : Int).toNat * 5 + 1, none⟩) (Kd.R_types HO155.out GG10.out (by decide)) (fun _ hk => hk.2) (.int .i64 t156)) (fun _ hk => trivial)⟩
  have n2_ : Aside0 ((w24.setCell ⟨go10, (t148 : Int).toNat * 5 + 1, none⟩ (.int .i64 t156)).heap[p2]? = some (.cells #[.int .i64 0, .slice none 0 0] 25 (0, 0))) := ⟨by refine blk_far ?_ (by have h_ := Kd.R_ne HO145.out p0.out (by decide); intro e_; exact h_ (by rw [e_]; rfl)) _; exact p0.out⟩
  have n3_ : Aside0 ((w24.setCell ⟨go10, (t148 : Int).toNat * 5 + 1, none⟩ (.int .i64 t156)).heap[p3]? = some (.cells #[.int .i64 t142, .slice (some ⟨go10, 0, none⟩) t143.length co17] 25 (0, 0))) := ⟨by refine blk_far ?_ (by have h_ := Kd.R_ne HO145.out p1.out (by decide); intro e_; exact h_ (by rw [e_]; rfl)) _; exact p1.out⟩
  have n4_ : Aside0 (IsS97 w0 (w24.setCell ⟨go10, (t148 : Int).toNat * 5 + 1, none⟩ (.int .i64 t156)) g s0_0 t157) := ⟨by repeat (first | (with_reducible first | exact HI0.out | apply IsS97.alloc | apply IsS97.drewN | apply IsS97.drew | apply IsS97.set_1 | refine IsS97.far ?_ HN0_go10.out _ | refine IsS97.far ?_ p4.out _ | refine IsS97.far ?_ p5.out _) | exact HI0.out)⟩
  have n5_ : Aside0 (KeepBut w (w24.setCell ⟨go10, (t148 : Int).toNat * 5 + 1, none⟩ (.int .i64 t156)) g none) := ⟨by repeat (first | (with_reducible first | exact HK.out | apply KeepBut.set_ | apply keep_drewN | apply keep_drew | apply keep_alloc | refine keep_far ?_ GB10.out _ | refine keep_far ?_ q0.out _ | refine keep_far ?_ q2.out _) | exact HK.out)⟩
  have n6_ : Aside0 (Below w0.heap.size w0 (w24.setCell ⟨go10, (t148 : Int).toNat * 5 + 1, none⟩ (.int .i64 t156))) := ⟨by repeat (first | (with_reducible first | exact HB.out | apply below_alloc | apply pw_below_drewN | apply below_drew1 | refine below_set ?_ (Nat.le_trans HL.out GB10.out) | refine below_set ?_ (IsS97.ge HI0.out) | refine below_set ?_ q1.out | refine below_set ?_ q3.out) | exact HB.out)⟩
  (try clear HO145)
  (try clear HO155)
  (try clear p0)
  (try clear p1)
  (try clear HI0)
  (try clear HK)
  (try clear HB)
  generalize (w24.setCell ⟨go10, (t148 : Int).toNat * 5 + 1, none⟩ (.int .i64 t156)) = w26 at n0_ n1_ n2_ n3_ n4_ n5_ n6_ ⊢
  have HO145 := n0_
  have HO155 := n1_
  have p0 := n2_
  have p1 := n3_
  have HI0 := n4_
  have HK := n5_
  have HB := n6_
  clear n0_ n1_ n2_ n3_ n4_ n5_ n6_
  have hcz27_0 : w26.cell? ⟨p3, 0, none⟩ = some (.int .i64 t142) := (blk_cell p1.out 0).trans rfl
  have hcz27_1 : w26.cell? ⟨p3, 1, none⟩ = some (.slice (some ⟨go10, 0, none⟩) t143.length co17) := (blk_cell p1.out 1).trans rfl
  have hfz27_0 := blk_frozen p1.out 0
  have hfz27_1 := blk_frozen p1.out 1
  have hnb28 := p7.out
  have hnc28 := p4.out
  have hcz29_0 : w26.cell? ⟨p2, 0, none⟩ = some (.int .i64 0) := (blk_cell p0.out 0).trans rfl
  have hcz29_1 : w26.cell? ⟨p2, 1, none⟩ = some (.slice none 0 0) := (blk_cell p0.out 1).trans rfl
  have hfz29_0 := blk_frozen p0.out 0
  have hfz29_1 := blk_frozen p0.out 1
  try go_wp2
  refine bodyPost_ret (results_cell_row rfl _ _ p2 25 #[.int .i64 t142, .slice (some ⟨go10, 0, none⟩) t143.length co17] (0, 0) _ rfl (by refine blk_put (cs := #[.int .i64 t142, .slice none 0 0]) ?_ 1 _ rfl; refine blk_put (cs := #[.int .i64 0, .slice none 0 0]) ?_ 0 _ rfl; exact p0.out) Try.underlying25 rfl (by kernel_rfl)) rfl ?_
  exact ⟨_, by first | rfl | (simp [errW_none, errW_some] <;> rfl) | (simp [*, errW_none, errW_some] <;> rfl), by exact Kd.R_mono (Kd.R_far (p := ⟨p2, 1, none⟩) (Kd.R_far (p := ⟨p2, 0, none⟩) (Kd.R_types HO145.out p0.out (by decide)) (fun _ hk => hk.2) (.int .i64 t142)) (fun _ hk => hk.2) (.slice (some ⟨go10, 0, none⟩) t143.length co17)) (fun _ hk => trivial), by repeat (first | (with_reducible first | exact HI0.out | apply IsS97.alloc | apply IsS97.drewN | apply IsS97.drew | apply IsS97.set_1 | refine IsS97.far ?_ p4.out _ | refine IsS97.far ?_ p5.out _) | exact HI0.out), by repeat (first | (with_reducible first | exact HB.out | apply below_alloc | apply pw_below_drewN | apply below_drew1 | refine below_set ?_ (IsS97.ge HI0.out) | refine below_set ?_ q1.out | refine below_set ?_ q3.out) | exact HB.out), by repeat (first | (with_reducible first | exact HK.out | apply KeepBut.set_ | apply keep_drewN | apply keep_drew | apply keep_alloc | refine keep_far ?_ q0.out _ | refine keep_far ?_ q2.out _) | exact HK.out)⟩
 rw [if_neg c6] at H
 have c6b0 : (t150 == 0) = false := beq_eq_false_iff_ne.mpr c6
 have c6b1 : (t150 != 0) = true := bne_iff_ne.mpr c6
 by_cases c30 : t150 = 1
 case neg =>
  rw [if_neg c30] at H
  have c30b0 : (t150 == 1) = false := beq_eq_false_iff_ne.mpr c30
  have c30b1 : (t150 != 1) = true := bne_iff_ne.mpr c30
  by_cases c54 : t150 = 2
  case neg =>
   rw [if_neg c54] at H
   have c54b0 : (t150 == 2) = false := beq_eq_false_iff_ne.mpr c54
   have c54b1 : (t150 != 2) = true := bne_iff_ne.mpr c54
   simp only [Option.some.injEq, Prod.mk.injEq] at H
   obtain ⟨rfl, rfl, rfl⟩ := H
   go_enter Try.func49, Try.ntmps49
   go_wp2_with (first | ((with_reducible refine gate_dst (N := 2) rfl ?_); refine box_event ?hg (N := 2) ?hd (cs := #[.int .i64 0, .slice none 0 0]) (t := 25) ?hr ?_; (case hd => rfl); (case hg => rfl); (case hr => first | (go_simp; done) | (go_simp; rfl)); intro p2 hg w72 hbox hb; have n0_ := Aside0.mk (IsS97.below HI0.out hb); have n1_ := Aside0.mk (KeepBut.trans HK.out (KeepBut.of_below hb g none) (.inl rfl)); have n2_ := Aside0.mk (below_step HB.out hb); have n3_ := Aside0.mk (hbox); have n4_ := Aside0.mk ((by rw [hg]; exact (keep_size (w := w) (g := g) (row := none) HK.out) : w.heap.size ≤ p2)); have n5_ := Aside0.mk ((Nat.le_trans HW0.out (by rw [hg]; exact (keep_size (w := w) (g := g) (row := none) HK.out) : w.heap.size ≤ p2) : w0.heap.size ≤ p2)); have n6_ := Aside0.mk ((by rw [hg]; exact Nat.ne_of_lt (IsS97.lt (show IsS97 w0 _ g s0_0 s0_1 from by repeat (first | (with_reducible first | exact HI0.out | apply IsS97.alloc | apply IsS97.drewN | apply IsS97.drew | apply IsS97.set_1) | exact HI0.out))) : g ≠ p2)); have n7_ := Aside0.mk ((by rw [hg]; exact Nat.ne_of_gt (IsS97.lt (show IsS97 w0 _ g s0_0 s0_1 from by repeat (first | (with_reducible first | exact HI0.out | apply IsS97.alloc | apply IsS97.drewN | apply IsS97.drew | apply IsS97.set_1) | exact HI0.out))) : p2 ≠ g)); clear HI0; clear HK; clear HB; have HI0 := n0_; have HK := n1_; have HB := n2_; have p0 := n3_; have q0 := n4_; have q1 := n5_; have p4 := n6_; have p7 := n7_; clear n0_ n1_ n2_ n3_ n4_ n5_ n6_ n7_; clear hb hbox hg) | ((with_reducible refine gate_callee (f := 88) rfl ?_); refine goesL_ (some 6) rfl rfl Try.func88 (by kernel_rfl) rfl #[.pointer (some ⟨g, 0, none⟩)] rfl (by (try simp only [List.map_toArray, List.map_cons, List.map_nil]); first | done | rfl | (simp only [List.length_drop, List.length_take]; rfl)) ?_; (with_reducible refine (spec_l30Net.calls k g s0_0 s0_1 t142 t143 t146 w0 _ ?side1 ?side2 A2.out).mono ?_); (case side1 => exact HI0.out); (case side2 => exact HB.out); rintro e w73 ⟨v144, rfl, ho0, hi, hb, hk⟩; refine ⟨_, rfl, ?_⟩; have n0_ := Aside0.mk (KeepBut.blk hk (g' := p2) (o := .cells #[.int .i64 0, .slice none 0 0] 25 (0, 0)) p0.out p7.out (by simp)); have n1_ := Aside0.mk (Kd.R_lower ho0 (keep_size (w := w) (g := g) (row := none) HK.out)); have n2_ := Aside0.mk (KeepBut.trans HK.out hk (.inl rfl)); have n3_ := Aside0.mk (hb); have n4_ := Aside0.mk (hi); clear p0; clear HK; clear HB; clear HI0; have p0 := n0_; have HO145 := n1_; have HK := n2_; have HB := n3_; have HI0 := n4_; clear n0_ n1_ n2_ n3_ n4_; (try clear hb); (try clear hb2); (try clear hk); (try clear hi); (try clear ho0)) | ((with_reducible refine gate_dst (N := 3) rfl ?_); refine box_event ?hg (N := 3) ?hd (cs := #[.int .i64 0, .slice none 0 0]) (t := 25) ?hr ?_; (case hd => rfl); (case hg => rfl); (case hr => first | (go_simp; done) | (go_simp; rfl)); intro p3 hg w74 hbox hb; have n0_ := Aside0.mk (Kd.R_below HO145.out hb); have n1_ := Aside0.mk (IsS97.below HI0.out hb); have n2_ := Aside0.mk (blk_below (g := p2) (o := .cells #[.int .i64 0, .slice none 0 0] 25 (0, 0)) p0.out hb); have n3_ := Aside0.mk (KeepBut.trans HK.out (KeepBut.of_below hb g none) (.inl rfl)); have n4_ := Aside0.mk (below_step HB.out hb); have n5_ := Aside0.mk (hbox); have n6_ := Aside0.mk ((by rw [hg]; exact (keep_size (w := w) (g := g) (row := none) HK.out) : w.heap.size ≤ p3)); have n7_ := Aside0.mk ((Nat.le_trans HW0.out (by rw [hg]; exact (keep_size (w := w) (g := g) (row := none) HK.out) : w.heap.size ≤ p3) : w0.heap.size ≤ p3)); have n8_ := Aside0.mk ((by rw [hg]; exact Nat.ne_of_lt (blk_lt (g := p2) (o := .cells #[.int .i64 0, .slice none 0 0] 25 (0, 0)) p0.out) : p2 ≠ p3)); have n9_ := Aside0.mk ((by rw [hg]; exact Nat.ne_of_gt (blk_lt (g := p2) (o := .cells #[.int .i64 0, .slice none 0 0] 25 (0, 0)) p0.out) : p3 ≠ p2)); have n10_ := Aside0.mk ((by rw [hg]; exact Nat.ne_of_lt (IsS97.lt (show IsS97 w0 _ g s0_0 t146 from by repeat (first | (with_reducible first | exact HI0.out | apply IsS97.alloc | apply IsS97.drewN | apply IsS97.drew | apply IsS97.set_1 | refine IsS97.far ?_ p4.out _) | exact HI0.out))) : g ≠ p3)); have n11_ := Aside0.mk ((by rw [hg]; exact Nat.ne_of_gt (IsS97.lt (show IsS97 w0 _ g s0_0 t146 from by repeat (first | (with_reducible first | exact HI0.out | apply IsS97.alloc | apply IsS97.drewN | apply IsS97.drew | apply IsS97.set_1 | refine IsS97.far ?_ p4.out _) | exact HI0.out))) : p3 ≠ g)); clear HO145; clear HI0; clear p0; clear HK; clear HB; have HO145 := n0_; have HI0 := n1_; have p0 := n2_; have HK := n3_; have HB := n4_; have p1 := n5_; have q2 := n6_; have q3 := n7_; have p6 := n8_; have p9 := n9_; have p5 := n10_; have p8 := n11_; clear n0_ n1_ n2_ n3_ n4_ n5_ n6_ n7_ n8_ n9_ n10_ n11_; clear hb hbox hg; have hnb75 := p9.out; have hnc75 := p6.out; have hnb76 := p8.out; have hnc76 := p5.out; have hcz77_0 : w74.cell? ⟨p3, 0, none⟩ = some (.int .i64 0) := (blk_cell p1.out 0).trans rfl; have hcz77_1 : w74.cell? ⟨p3, 1, none⟩ = some (.slice none 0 0) := (blk_cell p1.out 1).trans rfl; have hfz77_0 := blk_frozen p1.out 0; have hfz77_1 := blk_frozen p1.out 1; obtain ⟨Ao78, co78, eo78⟩ := Kd.R_slice HO145.out; subst eo78) | ((with_reducible refine gate_callee (f := 89) rfl ?_); refine goesL_ (some 15) rfl rfl Try.func89 (by kernel_rfl) rfl #[.pointer (some ⟨g, 0, none⟩), .int .i64 (t143.length : Int)] rfl (by (try simp only [List.map_toArray, List.map_cons, List.map_nil]); first | done | rfl | (simp only [List.length_drop, List.length_take]; rfl)) ?_; (with_reducible refine (spec_l30Rd_pick.calls k g s0_0 t146 (t143.length : Int) t148 t149 w0 _ ?side1 ?side2 A4.out).mono ?_); (case side1 => repeat (first | (with_reducible first | exact HI0.out | apply IsS97.alloc | apply IsS97.drewN | apply IsS97.drew | apply IsS97.set_1 | refine IsS97.far ?_ p4.out _ | refine IsS97.far ?_ p5.out _) | exact HI0.out)); (case side2 => repeat (first | (with_reducible first | exact HB.out | apply below_alloc | apply pw_below_drewN | apply below_drew1 | refine below_set ?_ (IsS97.ge HI0.out) | refine below_set ?_ q1.out | refine below_set ?_ q3.out) | exact HB.out)); rintro e w79 ⟨rfl, hi, hb, hk⟩; refine ⟨_, rfl, ?_⟩; have n0_ := Aside0.mk (KeepBut.blk hk (g' := p2) (o := .cells #[.int .i64 0, .slice none 0 0] 25 (0, 0)) (by refine blk_far ?_ p6.out _; refine blk_far ?_ p6.out _; exact p0.out) p7.out (by simp)); have n1_ := Aside0.mk (Kd.R_mono (Kd.R_keep (IsS97.apart (show IsS97 w0 _ g s0_0 t146 from by repeat (first | (with_reducible first | exact HI0.out | apply IsS97.alloc | apply IsS97.drewN | apply IsS97.drew | apply IsS97.set_1 | refine IsS97.far ?_ p4.out _ | refine IsS97.far ?_ p5.out _) | exact HI0.out)) (Kd.R_mono (Kd.R_far (p := ⟨p3, 1, none⟩) (Kd.R_far (p := ⟨p3, 0, none⟩) (Kd.R_types HO145.out p1.out (by decide)) (fun _ hk => hk.2) (.int .i64 t142)) (fun _ hk => hk.2) (.slice Ao78 t143.length co78)) (fun _ h_ => h_.1)) (by decide)) hk (fun _ h => h.2)) (fun _ h => h.1)); have n2_ := Aside0.mk (KeepBut.blk hk (g' := p3) (o := .cells #[.int .i64 t142, .slice Ao78 t143.length co78] 25 (0, 0)) (by refine blk_put (cs := #[.int .i64 t142, .slice none 0 0]) ?_ 1 _ rfl; refine blk_put (cs := #[.int .i64 0, .slice none 0 0]) ?_ 0 _ rfl; exact p1.out) p8.out (by simp)); have n3_ := Aside0.mk (KeepBut.trans (by repeat (first | (with_reducible first | exact HK.out | apply KeepBut.set_ | apply keep_drewN | apply keep_drew | apply keep_alloc | refine keep_far ?_ q0.out _ | refine keep_far ?_ q2.out _) | exact HK.out)) hk (.inl rfl)); have n4_ := Aside0.mk (hb); have n5_ := Aside0.mk (hi); clear p0; clear HO145; clear p1; clear HK; clear HB; clear HI0; have p0 := n0_; have HO145 := n1_; have p1 := n2_; have HK := n3_; have HB := n4_; have HI0 := n5_; clear n0_ n1_ n2_ n3_ n4_ n5_; (try clear hb); (try clear hb2); (try clear hk); (try clear hi)) | ((with_reducible refine gate_callee (f := 89) rfl ?_); refine goesL_ (some 17) rfl rfl Try.func89 (by kernel_rfl) rfl #[.pointer (some ⟨g, 0, none⟩), .int .i64 16] rfl (by (try simp only [List.map_toArray, List.map_cons, List.map_nil]); first | done | rfl | (simp only [List.length_drop, List.length_take]; rfl)) ?_; (with_reducible refine (spec_l30Rd_pick.calls k g s0_0 t149 16 t150 t151 w0 _ ?side1 ?side2 A5.out).mono ?_); (case side1 => exact HI0.out); (case side2 => exact HB.out); rintro e w80 ⟨rfl, hi, hb, hk⟩; refine ⟨_, rfl, ?_⟩; have n0_ := Aside0.mk (KeepBut.blk hk (g' := p2) (o := .cells #[.int .i64 0, .slice none 0 0] 25 (0, 0)) p0.out p7.out (by simp)); have n1_ := Aside0.mk (Kd.R_mono (Kd.R_keep (IsS97.apart (show IsS97 w0 _ g s0_0 t149 from by repeat (first | (with_reducible first | exact HI0.out | apply IsS97.alloc | apply IsS97.drewN | apply IsS97.drew | apply IsS97.set_1 | refine IsS97.far ?_ p4.out _ | refine IsS97.far ?_ p5.out _) | exact HI0.out)) HO145.out (by decide)) hk (fun _ h => h.2)) (fun _ h => h.1)); have n2_ := Aside0.mk (KeepBut.blk hk (g' := p3) (o := .cells #[.int .i64 t142, .slice Ao78 t143.length co78] 25 (0, 0)) p1.out p8.out (by simp)); have n3_ := Aside0.mk (KeepBut.trans HK.out hk (.inl rfl)); have n4_ := Aside0.mk (hb); have n5_ := Aside0.mk (hi); clear p0; clear HO145; clear p1; clear HK; clear HB; clear HI0; have p0 := n0_; have HO145 := n1_; have p1 := n2_; have HK := n3_; have HB := n4_; have HI0 := n5_; clear n0_ n1_ n2_ n3_ n4_ n5_; (try clear hb); (try clear hb2); (try clear hk); (try clear hi); have hcz81_0 : w80.cell? ⟨p3, 0, none⟩ = some (.int .i64 t142) := (blk_cell p1.out 0).trans rfl; have hcz81_1 : w80.cell? ⟨p3, 1, none⟩ = some (.slice Ao78 t143.length co78) := (blk_cell p1.out 1).trans rfl; have hfz81_0 := blk_frozen p1.out 0; have hfz81_1 := blk_frozen p1.out 1; have hnb82 := p7.out; have hnc82 := p4.out; have hcz83_0 : w80.cell? ⟨p2, 0, none⟩ = some (.int .i64 0) := (blk_cell p0.out 0).trans rfl; have hcz83_1 : w80.cell? ⟨p2, 1, none⟩ = some (.slice none 0 0) := (blk_cell p0.out 1).trans rfl; have hfz83_0 := blk_frozen p0.out 0; have hfz83_1 := blk_frozen p0.out 1))
   refine bodyPost_ret (results_cell_row rfl _ _ p2 25 #[.int .i64 t142, .slice Ao78 t143.length co78] (0, 0) _ rfl (by refine blk_put (cs := #[.int .i64 t142, .slice none 0 0]) ?_ 1 _ rfl; refine blk_put (cs := #[.int .i64 0, .slice none 0 0]) ?_ 0 _ rfl; exact p0.out) Try.underlying25 rfl (by kernel_rfl)) rfl ?_
   exact ⟨_, by first | rfl | (simp [errW_none, errW_some] <;> rfl) | (simp [*, errW_none, errW_some] <;> rfl), by exact Kd.R_mono (Kd.R_far (p := ⟨p2, 1, none⟩) (Kd.R_far (p := ⟨p2, 0, none⟩) (Kd.R_types HO145.out p0.out (by decide)) (fun _ hk => hk.2) (.int .i64 t142)) (fun _ hk => hk.2) (.slice Ao78 t143.length co78)) (fun _ hk => trivial), by repeat (first | (with_reducible first | exact HI0.out | apply IsS97.alloc | apply IsS97.drewN | apply IsS97.drew | apply IsS97.set_1 | refine IsS97.far ?_ p4.out _ | refine IsS97.far ?_ p5.out _) | exact HI0.out), by repeat (first | (with_reducible first | exact HB.out | apply below_alloc | apply pw_below_drewN | apply below_drew1 | refine below_set ?_ (IsS97.ge HI0.out) | refine below_set ?_ q1.out | refine below_set ?_ q3.out) | exact HB.out), by repeat (first | (with_reducible first | exact HK.out | apply KeepBut.set_ | apply keep_drewN | apply keep_drew | apply keep_alloc | refine keep_far ?_ q0.out _ | refine keep_far ?_ q2.out _) | exact HK.out)⟩
  rw [if_pos c54] at H
  have c54b0 : (t150 == 2) = true := beq_iff_eq.mpr c54
  have c54b1 : (t150 != 2) = false := bne_eq_false_iff_eq.mpr c54
  clear c54
  obtain ⟨y165, hy165⟩ : ∃ y_ : List Int, y_ = (([0, 1, 9, 8] : List Int)) := ⟨_, rfl⟩
  replace H : ((spec_l30Rd_one.f k s0_0 t151 y165).bind fun bt168 => (some (bt168.1, t143, bt168.2))) = some (r1, r2, r3) := by first | (rw [hy165]; with_reducible exact H) | (have H2_ := (Option.bind_some _ _).symm.trans H; rw [hy165]; with_reducible exact H2_) | (have H2_ := (Option.bind_some _ _).symm.trans H; with_reducible exact H2_) | with_reducible exact H | (rw [hy165]; exact H) | exact H
  have Ny165 := Aside0.mk hy165
  clear hy165
  replace H := Option.bind_eq_some_iff.mp H
  obtain ⟨⟨t168, t169⟩, A550, H⟩ := H
  replace H : (some (t168, t143, t169)) = some (r1, r2, r3) := H
  have A55 := Aside0.mk A550
  clear A550
  simp only [Option.some.injEq, Prod.mk.injEq] at H
  obtain ⟨rfl, rfl, rfl⟩ := H
  go_enter Try.func49, Try.ntmps49
  go_wp2_with (first | ((with_reducible refine gate_dst (N := 2) rfl ?_); refine box_event ?hg (N := 2) ?hd (cs := #[.int .i64 0, .slice none 0 0]) (t := 25) ?hr ?_; (case hd => rfl); (case hg => rfl); (case hr => first | (go_simp; done) | (go_simp; rfl)); intro p2 hg w56 hbox hb; have n0_ := Aside0.mk (IsS97.below HI0.out hb); have n1_ := Aside0.mk (KeepBut.trans HK.out (KeepBut.of_below hb g none) (.inl rfl)); have n2_ := Aside0.mk (below_step HB.out hb); have n3_ := Aside0.mk (hbox); have n4_ := Aside0.mk ((by rw [hg]; exact (keep_size (w := w) (g := g) (row := none) HK.out) : w.heap.size ≤ p2)); have n5_ := Aside0.mk ((Nat.le_trans HW0.out (by rw [hg]; exact (keep_size (w := w) (g := g) (row := none) HK.out) : w.heap.size ≤ p2) : w0.heap.size ≤ p2)); have n6_ := Aside0.mk ((by rw [hg]; exact Nat.ne_of_lt (IsS97.lt (show IsS97 w0 _ g s0_0 s0_1 from by repeat (first | (with_reducible first | exact HI0.out | apply IsS97.alloc | apply IsS97.drewN | apply IsS97.drew | apply IsS97.set_1) | exact HI0.out))) : g ≠ p2)); have n7_ := Aside0.mk ((by rw [hg]; exact Nat.ne_of_gt (IsS97.lt (show IsS97 w0 _ g s0_0 s0_1 from by repeat (first | (with_reducible first | exact HI0.out | apply IsS97.alloc | apply IsS97.drewN | apply IsS97.drew | apply IsS97.set_1) | exact HI0.out))) : p2 ≠ g)); clear HI0; clear HK; clear HB; have HI0 := n0_; have HK := n1_; have HB := n2_; have p0 := n3_; have q0 := n4_; have q1 := n5_; have p4 := n6_; have p7 := n7_; clear n0_ n1_ n2_ n3_ n4_ n5_ n6_ n7_; clear hb hbox hg) | ((with_reducible refine gate_callee (f := 88) rfl ?_); refine goesL_ (some 6) rfl rfl Try.func88 (by kernel_rfl) rfl #[.pointer (some ⟨g, 0, none⟩)] rfl (by (try simp only [List.map_toArray, List.map_cons, List.map_nil]); first | done | rfl | (simp only [List.length_drop, List.length_take]; rfl)) ?_; (with_reducible refine (spec_l30Net.calls k g s0_0 s0_1 t142 t143 t146 w0 _ ?side1 ?side2 A2.out).mono ?_); (case side1 => exact HI0.out); (case side2 => exact HB.out); rintro e w57 ⟨v144, rfl, ho0, hi, hb, hk⟩; refine ⟨_, rfl, ?_⟩; have n0_ := Aside0.mk (KeepBut.blk hk (g' := p2) (o := .cells #[.int .i64 0, .slice none 0 0] 25 (0, 0)) p0.out p7.out (by simp)); have n1_ := Aside0.mk (Kd.R_lower ho0 (keep_size (w := w) (g := g) (row := none) HK.out)); have n2_ := Aside0.mk (KeepBut.trans HK.out hk (.inl rfl)); have n3_ := Aside0.mk (hb); have n4_ := Aside0.mk (hi); clear p0; clear HK; clear HB; clear HI0; have p0 := n0_; have HO145 := n1_; have HK := n2_; have HB := n3_; have HI0 := n4_; clear n0_ n1_ n2_ n3_ n4_; (try clear hb); (try clear hb2); (try clear hk); (try clear hi); (try clear ho0)) | ((with_reducible refine gate_dst (N := 3) rfl ?_); refine box_event ?hg (N := 3) ?hd (cs := #[.int .i64 0, .slice none 0 0]) (t := 25) ?hr ?_; (case hd => rfl); (case hg => rfl); (case hr => first | (go_simp; done) | (go_simp; rfl)); intro p3 hg w58 hbox hb; have n0_ := Aside0.mk (Kd.R_below HO145.out hb); have n1_ := Aside0.mk (IsS97.below HI0.out hb); have n2_ := Aside0.mk (blk_below (g := p2) (o := .cells #[.int .i64 0, .slice none 0 0] 25 (0, 0)) p0.out hb); have n3_ := Aside0.mk (KeepBut.trans HK.out (KeepBut.of_below hb g none) (.inl rfl)); have n4_ := Aside0.mk (below_step HB.out hb); have n5_ := Aside0.mk (hbox); have n6_ := Aside0.mk ((by rw [hg]; exact (keep_size (w := w) (g := g) (row := none) HK.out) : w.heap.size ≤ p3)); have n7_ := Aside0.mk ((Nat.le_trans HW0.out (by rw [hg]; exact (keep_size (w := w) (g := g) (row := none) HK.out) : w.heap.size ≤ p3) : w0.heap.size ≤ p3)); have n8_ := Aside0.mk ((by rw [hg]; exact Nat.ne_of_lt (blk_lt (g := p2) (o := .cells #[.int .i64 0, .slice none 0 0] 25 (0, 0)) p0.out) : p2 ≠ p3)); have n9_ := Aside0.mk ((by rw [hg]; exact Nat.ne_of_gt (blk_lt (g := p2) (o := .cells #[.int .i64 0, .slice none 0 0] 25 (0, 0)) p0.out) : p3 ≠ p2)); have n10_ := Aside0.mk ((by rw [hg]; exact Nat.ne_of_lt (IsS97.lt (show IsS97 w0 _ g s0_0 t146 from by repeat (first | (with_reducible first | exact HI0.out | apply IsS97.alloc | apply IsS97.drewN | apply IsS97.drew | apply IsS97.set_1 | refine IsS97.far ?_ p4.out _) | exact HI0.out))) : g ≠ p3)); have n11_ := Aside0.mk ((by rw [hg]; exact Nat.ne_of_gt (IsS97.lt (show IsS97 w0 _ g s0_0 t146 from by repeat (first | (with_reducible first | exact HI0.out | apply IsS97.alloc | apply IsS97.drewN | apply IsS97.drew | apply IsS97.set_1 | refine IsS97.far ?_ p4.out _) | exact HI0.out))) : p3 ≠ g)); clear HO145; clear HI0; clear p0; clear HK; clear HB; have HO145 := n0_; have HI0 := n1_; have p0 := n2_; have HK := n3_; have HB := n4_; have p1 := n5_; have q2 := n6_; have q3 := n7_; have p6 := n8_; have p9 := n9_; have p5 := n10_; have p8 := n11_; clear n0_ n1_ n2_ n3_ n4_ n5_ n6_ n7_ n8_ n9_ n10_ n11_; clear hb hbox hg; have hnb59 := p9.out; have hnc59 := p6.out; have hnb60 := p8.out; have hnc60 := p5.out; have hcz61_0 : w58.cell? ⟨p3, 0, none⟩ = some (.int .i64 0) := (blk_cell p1.out 0).trans rfl; have hcz61_1 : w58.cell? ⟨p3, 1, none⟩ = some (.slice none 0 0) := (blk_cell p1.out 1).trans rfl; have hfz61_0 := blk_frozen p1.out 0; have hfz61_1 := blk_frozen p1.out 1; obtain ⟨Ao62, co62, eo62⟩ := Kd.R_slice HO145.out; subst eo62) | ((with_reducible refine gate_callee (f := 89) rfl ?_); refine goesL_ (some 15) rfl rfl Try.func89 (by kernel_rfl) rfl #[.pointer (some ⟨g, 0, none⟩), .int .i64 (t143.length : Int)] rfl (by (try simp only [List.map_toArray, List.map_cons, List.map_nil]); first | done | rfl | (simp only [List.length_drop, List.length_take]; rfl)) ?_; (with_reducible refine (spec_l30Rd_pick.calls k g s0_0 t146 (t143.length : Int) t148 t149 w0 _ ?side1 ?side2 A4.out).mono ?_); (case side1 => repeat (first | (with_reducible first | exact HI0.out | apply IsS97.alloc | apply IsS97.drewN | apply IsS97.drew | apply IsS97.set_1 | refine IsS97.far ?_ p4.out _ | refine IsS97.far ?_ p5.out _) | exact HI0.out)); (case side2 => repeat (first | (with_reducible first | exact HB.out | apply below_alloc | apply pw_below_drewN | apply below_drew1 | refine below_set ?_ (IsS97.ge HI0.out) | refine below_set ?_ q1.out | refine below_set ?_ q3.out) | exact HB.out)); rintro e w63 ⟨rfl, hi, hb, hk⟩; refine ⟨_, rfl, ?_⟩; have n0_ := Aside0.mk (KeepBut.blk hk (g' := p2) (o := .cells #[.int .i64 0, .slice none 0 0] 25 (0, 0)) (by refine blk_far ?_ p6.out _; refine blk_far ?_ p6.out _; exact p0.out) p7.out (by simp)); have n1_ := Aside0.mk (Kd.R_mono (Kd.R_keep (IsS97.apart (show IsS97 w0 _ g s0_0 t146 from by repeat (first | (with_reducible first | exact HI0.out | apply IsS97.alloc | apply IsS97.drewN | apply IsS97.drew | apply IsS97.set_1 | refine IsS97.far ?_ p4.out _ | refine IsS97.far ?_ p5.out _) | exact HI0.out)) (Kd.R_mono (Kd.R_far (p := ⟨p3, 1, none⟩) (Kd.R_far (p := ⟨p3, 0, none⟩) (Kd.R_types HO145.out p1.out (by decide)) (fun _ hk => hk.2) (.int .i64 t142)) (fun _ hk => hk.2) (.slice Ao62 t143.length co62)) (fun _ h_ => h_.1)) (by decide)) hk (fun _ h => h.2)) (fun _ h => h.1)); have n2_ := Aside0.mk (KeepBut.blk hk (g' := p3) (o := .cells #[.int .i64 t142, .slice Ao62 t143.length co62] 25 (0, 0)) (by refine blk_put (cs := #[.int .i64 t142, .slice none 0 0]) ?_ 1 _ rfl; refine blk_put (cs := #[.int .i64 0, .slice none 0 0]) ?_ 0 _ rfl; exact p1.out) p8.out (by simp)); have n3_ := Aside0.mk (KeepBut.trans (by repeat (first | (with_reducible first | exact HK.out | apply KeepBut.set_ | apply keep_drewN | apply keep_drew | apply keep_alloc | refine keep_far ?_ q0.out _ | refine keep_far ?_ q2.out _) | exact HK.out)) hk (.inl rfl)); have n4_ := Aside0.mk (hb); have n5_ := Aside0.mk (hi); clear p0; clear HO145; clear p1; clear HK; clear HB; clear HI0; have p0 := n0_; have HO145 := n1_; have p1 := n2_; have HK := n3_; have HB := n4_; have HI0 := n5_; clear n0_ n1_ n2_ n3_ n4_ n5_; (try clear hb); (try clear hb2); (try clear hk); (try clear hi)) | ((with_reducible refine gate_callee (f := 89) rfl ?_); refine goesL_ (some 17) rfl rfl Try.func89 (by kernel_rfl) rfl #[.pointer (some ⟨g, 0, none⟩), .int .i64 16] rfl (by (try simp only [List.map_toArray, List.map_cons, List.map_nil]); first | done | rfl | (simp only [List.length_drop, List.length_take]; rfl)) ?_; (with_reducible refine (spec_l30Rd_pick.calls k g s0_0 t149 16 t150 t151 w0 _ ?side1 ?side2 A5.out).mono ?_); (case side1 => exact HI0.out); (case side2 => exact HB.out); rintro e w64 ⟨rfl, hi, hb, hk⟩; refine ⟨_, rfl, ?_⟩; have n0_ := Aside0.mk (KeepBut.blk hk (g' := p2) (o := .cells #[.int .i64 0, .slice none 0 0] 25 (0, 0)) p0.out p7.out (by simp)); have n1_ := Aside0.mk (Kd.R_mono (Kd.R_keep (IsS97.apart (show IsS97 w0 _ g s0_0 t149 from by repeat (first | (with_reducible first | exact HI0.out | apply IsS97.alloc | apply IsS97.drewN | apply IsS97.drew | apply IsS97.set_1 | refine IsS97.far ?_ p4.out _ | refine IsS97.far ?_ p5.out _) | exact HI0.out)) HO145.out (by decide)) hk (fun _ h => h.2)) (fun _ h => h.1)); have n2_ := Aside0.mk (KeepBut.blk hk (g' := p3) (o := .cells #[.int .i64 t142, .slice Ao62 t143.length co62] 25 (0, 0)) p1.out p8.out (by simp)); have n3_ := Aside0.mk (KeepBut.trans HK.out hk (.inl rfl)); have n4_ := Aside0.mk (hb); have n5_ := Aside0.mk (hi); clear p0; clear HO145; clear p1; clear HK; clear HB; clear HI0; have p0 := n0_; have HO145 := n1_; have p1 := n2_; have HK := n3_; have HB := n4_; have HI0 := n5_; clear n0_ n1_ n2_ n3_ n4_ n5_; (try clear hb); (try clear hb2); (try clear hk); (try clear hi)) | ((with_reducible refine gate_dst (N := 47) rfl ?_); refine Kd.R_lit (Kd.int .i64) _ 3 ?hg (N := 47) ?hd (xs := ([0, 1, 9, 8] : List Int)) (inner := [.int .i64 0, .int .i64 1, .int .i64 9, .int .i64 8]) (ok := fun _ => True) (okp := fun _ => True) ?hr ?hp (fun _ hk => hk) trivial (Below.refl _ _) (Nat.le_refl _) (by simp) ?_; (case hd => rfl); (case hg => rfl); (case hr => first | (go_simp; done) | (go_simp; rfl)); (case hp => exact (Reps.one (show Kd.M (Kd.int .i64) _ _ _ 0 [.int .i64 0] from rfl) (Reps.one (show Kd.M (Kd.int .i64) _ _ _ 1 [.int .i64 1] from rfl) (Reps.one (show Kd.M (Kd.int .i64) _ _ _ 9 [.int .i64 9] from rfl) (Reps.one (show Kd.M (Kd.int .i64) _ _ _ 8 [.int .i64 8] from rfl) (Reps.none _ _)))))); intro v166 w65 ho66 hb hg_ hnew_; clear hg_ hnew_; (first | rw [← Ny165.out] at ho66 | (simp only [Int.reduceToNat] at ho66; rw [← Ny165.out] at ho66)); have n0_ := Aside0.mk (Kd.R_below HO145.out hb); have n1_ := Aside0.mk (Kd.R_lower ho66 (keep_size (w := w) (g := g) (row := none) HK.out)); have n2_ := Aside0.mk (IsS97.below HI0.out hb); have n3_ := Aside0.mk (blk_below (g := p2) (o := .cells #[.int .i64 0, .slice none 0 0] 25 (0, 0)) p0.out hb); have n4_ := Aside0.mk (blk_below (g := p3) (o := .cells #[.int .i64 t142, .slice Ao62 t143.length co62] 25 (0, 0)) p1.out hb); have n5_ := Aside0.mk (KeepBut.trans HK.out (KeepBut.of_below hb g none) (.inl rfl)); have n6_ := Aside0.mk (below_step HB.out hb); clear HO145; clear HI0; clear p0; clear p1; clear HK; clear HB; have HO145 := n0_; have HO167 := n1_; have HI0 := n2_; have p0 := n3_; have p1 := n4_; have HK := n5_; have HB := n6_; clear n0_ n1_ n2_ n3_ n4_ n5_ n6_; clear hb ho66; obtain ⟨Ao67, co67, eo67⟩ := Kd.R_slice HO167.out; subst eo67) | ((with_reducible refine gate_callee (f := 90) rfl ?_); refine goesL_ (some 48) rfl rfl Try.func90 (by kernel_rfl) rfl #[.pointer (some ⟨g, 0, none⟩), .slice Ao67 y165.length co67] rfl (by (try simp only [List.map_toArray, List.map_cons, List.map_nil]); first | done | rfl | (simp only [List.length_drop, List.length_take]; rfl)) ?_; (with_reducible refine (spec_l30Rd_one.calls k g s0_0 t151 _ _ y165 t168 t169 w0 _ ?side1 ?side2 ?side3 ?side4 ?side5 A55.out).mono ?_); (case side1 => exact HI0.out); (case side2 => exact HB.out); (case side3 => repeat (first | exact (Kd.R_reads' HO167.out).2.2 | (with_reducible refine Kd.C_alloc ?_ _) | (with_reducible refine Kd.C_drewN ?_ _) | (with_reducible refine Kd.C_drew ?_))); (case side4 => exact (Kd.R_reads' HO167.out).2.1); (case side5 => exact far_slice (IsS97.own_ne HI0.out HO167.out (by decide))); rintro e w68 ⟨rfl, hi, hb, hk⟩; refine ⟨_, rfl, ?_⟩; have n0_ := Aside0.mk (KeepBut.blk hk (g' := p2) (o := .cells #[.int .i64 0, .slice none 0 0] 25 (0, 0)) p0.out p7.out (by simp)); have n1_ := Aside0.mk (Kd.R_mono (Kd.R_keep (IsS97.apart (show IsS97 w0 _ g s0_0 t151 from by repeat (first | (with_reducible first | exact HI0.out | apply IsS97.alloc | apply IsS97.drewN | apply IsS97.drew | apply IsS97.set_1 | refine IsS97.far ?_ p4.out _ | refine IsS97.far ?_ p5.out _) | exact HI0.out)) HO145.out (by decide)) hk (fun _ h => h.2)) (fun _ h => h.1)); have n2_ := Aside0.mk (KeepBut.blk hk (g' := p3) (o := .cells #[.int .i64 t142, .slice Ao62 t143.length co62] 25 (0, 0)) p1.out p8.out (by simp)); have n3_ := Aside0.mk (Kd.R_mono (Kd.R_keep (IsS97.apart (show IsS97 w0 _ g s0_0 t151 from by repeat (first | (with_reducible first | exact HI0.out | apply IsS97.alloc | apply IsS97.drewN | apply IsS97.drew | apply IsS97.set_1 | refine IsS97.far ?_ p4.out _ | refine IsS97.far ?_ p5.out _) | exact HI0.out)) HO167.out (by decide)) hk (fun _ h => h.2)) (fun _ h => h.1)); have n4_ := Aside0.mk (KeepBut.trans HK.out hk (.inl rfl)); have n5_ := Aside0.mk (hb); have n6_ := Aside0.mk (hi); clear p0; clear HO145; clear p1; clear HO167; clear HK; clear HB; clear HI0; have p0 := n0_; have HO145 := n1_; have p1 := n2_; have HO167 := n3_; have HK := n4_; have HB := n5_; have HI0 := n6_; clear n0_ n1_ n2_ n3_ n4_ n5_ n6_; (try clear hb); (try clear hb2); (try clear hk); (try clear hi); have hcz69_0 : w68.cell? ⟨p3, 0, none⟩ = some (.int .i64 t142) := (blk_cell p1.out 0).trans rfl; have hcz69_1 : w68.cell? ⟨p3, 1, none⟩ = some (.slice Ao62 t143.length co62) := (blk_cell p1.out 1).trans rfl; have hfz69_0 := blk_frozen p1.out 0; have hfz69_1 := blk_frozen p1.out 1; have hnb70 := p7.out; have hnc70 := p4.out; have hcz71_0 : w68.cell? ⟨p2, 0, none⟩ = some (.int .i64 0) := (blk_cell p0.out 0).trans rfl; have hcz71_1 : w68.cell? ⟨p2, 1, none⟩ = some (.slice none 0 0) := (blk_cell p0.out 1).trans rfl; have hfz71_0 := blk_frozen p0.out 0; have hfz71_1 := blk_frozen p0.out 1))
  refine bodyPost_ret (results_cell_row rfl _ _ p2 25 #[.int .i64 t168, .slice Ao62 t143.length co62] (0, 0) _ rfl (by refine blk_put (cs := #[.int .i64 t168, .slice none 0 0]) ?_ 1 _ rfl; refine blk_put (cs := #[.int .i64 0, .slice none 0 0]) ?_ 0 _ rfl; refine blk_far ?_ p6.out _; exact p0.out) Try.underlying25 rfl (by kernel_rfl)) rfl ?_
  exact ⟨_, by first | rfl | (simp [errW_none, errW_some] <;> rfl) | (simp [*, errW_none, errW_some] <;> rfl), by exact Kd.R_mono (Kd.R_far (p := ⟨p2, 1, none⟩) (Kd.R_far (p := ⟨p2, 0, none⟩) (Kd.R_far (p := ⟨p3, 0, none⟩) (Kd.R_types (Kd.R_types HO145.out p1.out (by decide)) p0.out (by decide)) (fun _ hk => hk.1.2) (.int .i64 t168)) (fun _ hk => hk.2) (.int .i64 t168)) (fun _ hk => hk.2) (.slice Ao62 t143.length co62)) (fun _ hk => trivial), by repeat (first | (with_reducible first | exact HI0.out | apply IsS97.alloc | apply IsS97.drewN | apply IsS97.drew | apply IsS97.set_1 | refine IsS97.far ?_ p4.out _ | refine IsS97.far ?_ p5.out _) | exact HI0.out), by repeat (first | (with_reducible first | exact HB.out | apply below_alloc | apply pw_below_drewN | apply below_drew1 | refine below_set ?_ (IsS97.ge HI0.out) | refine below_set ?_ q1.out | refine below_set ?_ q3.out) | exact HB.out), by repeat (first | (with_reducible first | exact HK.out | apply KeepBut.set_ | apply keep_drewN | apply keep_drew | apply keep_alloc | refine keep_far ?_ q0.out _ | refine keep_far ?_ q2.out _) | exact HK.out)⟩
 rw [if_pos c30] at H
 have c30b0 : (t150 == 1) = true := beq_iff_eq.mpr c30
 have c30b1 : (t150 != 1) = false := bne_eq_false_iff_eq.mpr c30
 clear c30
 obtain ⟨y159, hy159⟩ : ∃ y_ : List Int, y_ = (([(-1), 100] : List Int)) := ⟨_, rfl⟩
 replace H : ((spec_l30Rd_one.f k s0_0 t151 y159).bind fun bt162 => (if 0 ≤ t148 then (if t148 < (t143.length : Int) then (some (t142, (t143.set (t148 : Int).toNat (⟨(rd_T34 t143 t148).f0, (rd_T34 t143 t148).f1, bt162.1, (rd_T34 t143 t148).f3, (rd_T34 t143 t148).f4⟩ : S34)), bt162.2)) else (none)) else (none))) = some (r1, r2, r3) := by first | (rw [hy159]; with_reducible exact H) | (have H2_ := (Option.bind_some _ _).symm.trans H; rw [hy159]; with_reducible exact H2_) | (have H2_ := (Option.bind_some _ _).symm.trans H; with_reducible exact H2_) | with_reducible exact H | (rw [hy159]; exact H) | exact H
 have Ny159 := Aside0.mk hy159
 clear hy159
 replace H := Option.bind_eq_some_iff.mp H
 obtain ⟨⟨t162, t163⟩, A310, H⟩ := H
 replace H : (if 0 ≤ t148 then (if t148 < (t143.length : Int) then (some (t142, (t143.set (t148 : Int).toNat (⟨(rd_T34 t143 t148).f0, (rd_T34 t143 t148).f1, t162, (rd_T34 t143 t148).f3, (rd_T34 t143 t148).f4⟩ : S34)), t163)) else (none)) else (none)) = some (r1, r2, r3) := H
 have A31 := Aside0.mk A310
 clear A310
 by_cases c32 : 0 ≤ t148
 case neg =>
  rw [if_neg c32] at H
  exact absurd H (by simp)
 rw [if_pos c32] at H
 have c32b0 : decide (0 ≤ t148) = true := decide_eq_true c32
 clear c32
 by_cases c33 : t148 < (t143.length : Int)
 case neg =>
  rw [if_neg c33] at H
  exact absurd H (by simp)
 rw [if_pos c33] at H
 have c33b0 : decide (t148 < (t143.length : Int)) = true := decide_eq_true c33
 clear c33
 obtain ⟨y164, hy164⟩ : ∃ y_ : List (S34), y_ = (t143.set (t148 : Int).toNat (⟨(rd_T34 t143 t148).f0, (rd_T34 t143 t148).f1, t162, (rd_T34 t143 t148).f3, (rd_T34 t143 t148).f4⟩ : S34)) := ⟨_, rfl⟩
 replace H : (some (t142, y164, t163)) = some (r1, r2, r3) := by first | (rw [hy164]; with_reducible exact H) | (have H2_ := (Option.bind_some _ _).symm.trans H; rw [hy164]; with_reducible exact H2_) | (have H2_ := (Option.bind_some _ _).symm.trans H; with_reducible exact H2_) | with_reducible exact H | (rw [hy164]; exact H) | exact H
 have Ny164 := Aside0.mk hy164
 clear hy164
 simp only [Option.some.injEq, Prod.mk.injEq] at H
 obtain ⟨rfl, rfl, rfl⟩ := H
 go_enter Try.func49, Try.ntmps49
 try go_wp2_with (first | ((with_reducible refine gate_dst (N := 2) rfl ?_); refine box_event ?hg (N := 2) ?hd (cs := #[.int .i64 0, .slice none 0 0]) (t := 25) ?hr ?_; (case hd => rfl); (case hg => rfl); (case hr => first | (go_simp; done) | (go_simp; rfl)); intro p2 hg w35 hbox hb; have n0_ := Aside0.mk (IsS97.below HI0.out hb); have n1_ := Aside0.mk (KeepBut.trans HK.out (KeepBut.of_below hb g none) (.inl rfl)); have n2_ := Aside0.mk (below_step HB.out hb); have n3_ := Aside0.mk (hbox); have n4_ := Aside0.mk ((by rw [hg]; exact (keep_size (w := w) (g := g) (row := none) HK.out) : w.heap.size ≤ p2)); have n5_ := Aside0.mk ((Nat.le_trans HW0.out (by rw [hg]; exact (keep_size (w := w) (g := g) (row := none) HK.out) : w.heap.size ≤ p2) : w0.heap.size ≤ p2)); have n6_ := Aside0.mk ((by rw [hg]; exact Nat.ne_of_lt (IsS97.lt (show IsS97 w0 _ g s0_0 s0_1 from by repeat (first | (with_reducible first | exact HI0.out | apply IsS97.alloc | apply IsS97.drewN | apply IsS97.drew | apply IsS97.set_1) | exact HI0.out))) : g ≠ p2)); have n7_ := Aside0.mk ((by rw [hg]; exact Nat.ne_of_gt (IsS97.lt (show IsS97 w0 _ g s0_0 s0_1 from by repeat (first | (with_reducible first | exact HI0.out | apply IsS97.alloc | apply IsS97.drewN | apply IsS97.drew | apply IsS97.set_1) | exact HI0.out))) : p2 ≠ g)); clear HI0; clear HK; clear HB; have HI0 := n0_; have HK := n1_; have HB := n2_; have p0 := n3_; have q0 := n4_; have q1 := n5_; have p4 := n6_; have p7 := n7_; clear n0_ n1_ n2_ n3_ n4_ n5_ n6_ n7_; clear hb hbox hg) | ((with_reducible refine gate_callee (f := 88) rfl ?_); refine goesL_ (some 6) rfl rfl Try.func88 (by kernel_rfl) rfl #[.pointer (some ⟨g, 0, none⟩)] rfl (by (try simp only [List.map_toArray, List.map_cons, List.map_nil]); first | done | rfl | (simp only [List.length_drop, List.length_take]; rfl)) ?_; (with_reducible refine (spec_l30Net.calls k g s0_0 s0_1 t142 t143 t146 w0 _ ?side1 ?side2 A2.out).mono ?_); (case side1 => exact HI0.out); (case side2 => exact HB.out); rintro e w36 ⟨v144, rfl, ho0, hi, hb, hk⟩; refine ⟨_, rfl, ?_⟩; have n0_ := Aside0.mk (KeepBut.blk hk (g' := p2) (o := .cells #[.int .i64 0, .slice none 0 0] 25 (0, 0)) p0.out p7.out (by simp)); have n1_ := Aside0.mk (Kd.R_lower ho0 (keep_size (w := w) (g := g) (row := none) HK.out)); have n2_ := Aside0.mk (KeepBut.trans HK.out hk (.inl rfl)); have n3_ := Aside0.mk (hb); have n4_ := Aside0.mk (hi); clear p0; clear HK; clear HB; clear HI0; have p0 := n0_; have HO145 := n1_; have HK := n2_; have HB := n3_; have HI0 := n4_; clear n0_ n1_ n2_ n3_ n4_; (try clear hb); (try clear hb2); (try clear hk); (try clear hi); (try clear ho0)) | ((with_reducible refine gate_dst (N := 3) rfl ?_); refine box_event ?hg (N := 3) ?hd (cs := #[.int .i64 0, .slice none 0 0]) (t := 25) ?hr ?_; (case hd => rfl); (case hg => rfl); (case hr => first | (go_simp; done) | (go_simp; rfl)); intro p3 hg w37 hbox hb; have n0_ := Aside0.mk (Kd.R_below HO145.out hb); have n1_ := Aside0.mk (IsS97.below HI0.out hb); have n2_ := Aside0.mk (blk_below (g := p2) (o := .cells #[.int .i64 0, .slice none 0 0] 25 (0, 0)) p0.out hb); have n3_ := Aside0.mk (KeepBut.trans HK.out (KeepBut.of_below hb g none) (.inl rfl)); have n4_ := Aside0.mk (below_step HB.out hb); have n5_ := Aside0.mk (hbox); have n6_ := Aside0.mk ((by rw [hg]; exact (keep_size (w := w) (g := g) (row := none) HK.out) : w.heap.size ≤ p3)); have n7_ := Aside0.mk ((Nat.le_trans HW0.out (by rw [hg]; exact (keep_size (w := w) (g := g) (row := none) HK.out) : w.heap.size ≤ p3) : w0.heap.size ≤ p3)); have n8_ := Aside0.mk ((by rw [hg]; exact Nat.ne_of_lt (blk_lt (g := p2) (o := .cells #[.int .i64 0, .slice none 0 0] 25 (0, 0)) p0.out) : p2 ≠ p3)); have n9_ := Aside0.mk ((by rw [hg]; exact Nat.ne_of_gt (blk_lt (g := p2) (o := .cells #[.int .i64 0, .slice none 0 0] 25 (0, 0)) p0.out) : p3 ≠ p2)); have n10_ := Aside0.mk ((by rw [hg]; exact Nat.ne_of_lt (IsS97.lt (show IsS97 w0 _ g s0_0 t146 from by repeat (first | (with_reducible first | exact HI0.out | apply IsS97.alloc | apply IsS97.drewN | apply IsS97.drew | apply IsS97.set_1 | refine IsS97.far ?_ p4.out _) | exact HI0.out))) : g ≠ p3)); have n11_ := Aside0.mk ((by rw [hg]; exact Nat.ne_of_gt (IsS97.lt (show IsS97 w0 _ g s0_0 t146 from by repeat (first | (with_reducible first | exact HI0.out | apply IsS97.alloc | apply IsS97.drewN | apply IsS97.drew | apply IsS97.set_1 | refine IsS97.far ?_ p4.out _) | exact HI0.out))) : p3 ≠ g)); clear HO145; clear HI0; clear p0; clear HK; clear HB; have HO145 := n0_; have HI0 := n1_; have p0 := n2_; have HK := n3_; have HB := n4_; have p1 := n5_; have q2 := n6_; have q3 := n7_; have p6 := n8_; have p9 := n9_; have p5 := n10_; have p8 := n11_; clear n0_ n1_ n2_ n3_ n4_ n5_ n6_ n7_ n8_ n9_ n10_ n11_; clear hb hbox hg; have hnb38 := p9.out; have hnc38 := p6.out; have hnb39 := p8.out; have hnc39 := p5.out; have hcz40_0 : w37.cell? ⟨p3, 0, none⟩ = some (.int .i64 0) := (blk_cell p1.out 0).trans rfl; have hcz40_1 : w37.cell? ⟨p3, 1, none⟩ = some (.slice none 0 0) := (blk_cell p1.out 1).trans rfl; have hfz40_0 := blk_frozen p1.out 0; have hfz40_1 := blk_frozen p1.out 1; obtain ⟨Ao41, co41, eo41⟩ := Kd.R_slice HO145.out; subst eo41) | ((with_reducible refine gate_callee (f := 89) rfl ?_); refine goesL_ (some 15) rfl rfl Try.func89 (by kernel_rfl) rfl #[.pointer (some ⟨g, 0, none⟩), .int .i64 (t143.length : Int)] rfl (by (try simp only [List.map_toArray, List.map_cons, List.map_nil]); first | done | rfl | (simp only [List.length_drop, List.length_take]; rfl)) ?_; (with_reducible refine (spec_l30Rd_pick.calls k g s0_0 t146 (t143.length : Int) t148 t149 w0 _ ?side1 ?side2 A4.out).mono ?_); (case side1 => repeat (first | (with_reducible first | exact HI0.out | apply IsS97.alloc | apply IsS97.drewN | apply IsS97.drew | apply IsS97.set_1 | refine IsS97.far ?_ p4.out _ | refine IsS97.far ?_ p5.out _) | exact HI0.out)); (case side2 => repeat (first | (with_reducible first | exact HB.out | apply below_alloc | apply pw_below_drewN | apply below_drew1 | refine below_set ?_ (IsS97.ge HI0.out) | refine below_set ?_ q1.out | refine below_set ?_ q3.out) | exact HB.out)); rintro e w42 ⟨rfl, hi, hb, hk⟩; refine ⟨_, rfl, ?_⟩; have n0_ := Aside0.mk (KeepBut.blk hk (g' := p2) (o := .cells #[.int .i64 0, .slice none 0 0] 25 (0, 0)) (by refine blk_far ?_ p6.out _; refine blk_far ?_ p6.out _; exact p0.out) p7.out (by simp)); have n1_ := Aside0.mk (Kd.R_mono (Kd.R_keep (IsS97.apart (show IsS97 w0 _ g s0_0 t146 from by repeat (first | (with_reducible first | exact HI0.out | apply IsS97.alloc | apply IsS97.drewN | apply IsS97.drew | apply IsS97.set_1 | refine IsS97.far ?_ p4.out _ | refine IsS97.far ?_ p5.out _) | exact HI0.out)) (Kd.R_mono (Kd.R_far (p := ⟨p3, 1, none⟩) (Kd.R_far (p := ⟨p3, 0, none⟩) (Kd.R_types HO145.out p1.out (by decide)) (fun _ hk => hk.2) (.int .i64 t142)) (fun _ hk => hk.2) (.slice Ao41 t143.length co41)) (fun _ h_ => h_.1)) (by decide)) hk (fun _ h => h.2)) (fun _ h => h.1)); have n2_ := Aside0.mk (KeepBut.blk hk (g' := p3) (o := .cells #[.int .i64 t142, .slice Ao41 t143.length co41] 25 (0, 0)) (by refine blk_put (cs := #[.int .i64 t142, .slice none 0 0]) ?_ 1 _ rfl; refine blk_put (cs := #[.int .i64 0, .slice none 0 0]) ?_ 0 _ rfl; exact p1.out) p8.out (by simp)); have n3_ := Aside0.mk (KeepBut.trans (by repeat (first | (with_reducible first | exact HK.out | apply KeepBut.set_ | apply keep_drewN | apply keep_drew | apply keep_alloc | refine keep_far ?_ q0.out _ | refine keep_far ?_ q2.out _) | exact HK.out)) hk (.inl rfl)); have n4_ := Aside0.mk (hb); have n5_ := Aside0.mk (hi); clear p0; clear HO145; clear p1; clear HK; clear HB; clear HI0; have p0 := n0_; have HO145 := n1_; have p1 := n2_; have HK := n3_; have HB := n4_; have HI0 := n5_; clear n0_ n1_ n2_ n3_ n4_ n5_; (try clear hb); (try clear hb2); (try clear hk); (try clear hi)) | ((with_reducible refine gate_callee (f := 89) rfl ?_); refine goesL_ (some 17) rfl rfl Try.func89 (by kernel_rfl) rfl #[.pointer (some ⟨g, 0, none⟩), .int .i64 16] rfl (by (try simp only [List.map_toArray, List.map_cons, List.map_nil]); first | done | rfl | (simp only [List.length_drop, List.length_take]; rfl)) ?_; (with_reducible refine (spec_l30Rd_pick.calls k g s0_0 t149 16 t150 t151 w0 _ ?side1 ?side2 A5.out).mono ?_); (case side1 => exact HI0.out); (case side2 => exact HB.out); rintro e w43 ⟨rfl, hi, hb, hk⟩; refine ⟨_, rfl, ?_⟩; have n0_ := Aside0.mk (KeepBut.blk hk (g' := p2) (o := .cells #[.int .i64 0, .slice none 0 0] 25 (0, 0)) p0.out p7.out (by simp)); have n1_ := Aside0.mk (Kd.R_mono (Kd.R_keep (IsS97.apart (show IsS97 w0 _ g s0_0 t149 from by repeat (first | (with_reducible first | exact HI0.out | apply IsS97.alloc | apply IsS97.drewN | apply IsS97.drew | apply IsS97.set_1 | refine IsS97.far ?_ p4.out _ | refine IsS97.far ?_ p5.out _) | exact HI0.out)) HO145.out (by decide)) hk (fun _ h => h.2)) (fun _ h => h.1)); have n2_ := Aside0.mk (KeepBut.blk hk (g' := p3) (o := .cells #[.int .i64 t142, .slice Ao41 t143.length co41] 25 (0, 0)) p1.out p8.out (by simp)); have n3_ := Aside0.mk (KeepBut.trans HK.out hk (.inl rfl)); have n4_ := Aside0.mk (hb); have n5_ := Aside0.mk (hi); clear p0; clear HO145; clear p1; clear HK; clear HB; clear HI0; have p0 := n0_; have HO145 := n1_; have p1 := n2_; have HK := n3_; have HB := n4_; have HI0 := n5_; clear n0_ n1_ n2_ n3_ n4_ n5_; (try clear hb); (try clear hb2); (try clear hk); (try clear hi)))
 have n0_ := Aside0.mk (Kd.R_drew HO145.out)
 have n1_ := Aside0.mk (blk_drew p0.out)
 have n2_ := Aside0.mk (blk_drew p1.out)
 have n3_ := Aside0.mk (IsS97.drew HI0.out)
 have n4_ := Aside0.mk (keep_drew HK.out)
 have n5_ := Aside0.mk (below_drew1 HB.out)
 clear HO145
 clear p0
 clear p1
 clear HI0
 clear HK
 clear HB
 have HO145 := n0_
 have p0 := n1_
 have p1 := n2_
 have HI0 := n3_
 have HK := n4_
 have HB := n5_
 clear n0_ n1_ n2_ n3_ n4_ n5_
 refine start_ (n := 9) (S := fun w' => w'.cell? ⟨p3, 0, none⟩ = some (.int .i64 t142) ∧ w'.cell? ⟨p3, 1, none⟩ = some (.slice Ao41 t143.length co41)) (ds := [8]) #[N5,N5,N5,N5,N5,N5,N5,N5,N5] (by kernel_rfl) rfl rfl ⟨(blk_cell p1.out 0).trans rfl, (blk_cell p1.out 1).trans rfl⟩ (fun hHeld => ?_); refine with_tabW spec_l30AnyNet.tab8 spec_l30AnyNet.bits8 (fun HT_ HW_ => ?_)
 generalize w43.drew = w44 at HO145 p0 p1 HI0 HK HB hHeld ⊢
 refine pure_ (i := 0) (N := some 36) (v := ?_) (a' := ?_) #[Y5,N5,N5,N5,N5,N5,N5,N5,N5] rfl rfl (any_of HT_.out (by kernel_rfl)) (fun _ _ _ h => h) (Or.inl ⟨by rfl, ?_⟩) ?_ ?_
 rotate_left
 ·intro w'
  go_simp
  with_reducible rfl
 rotate_left
 ·simp only [Act.put, List.setIfInBounds_toArray, List.set_cons_zero, List.set_cons_succ, i64_w, i32_w]
  rfl
 refine pure_ (i := 2) (N := some 38) (v := ?_) (a' := ?_) #[Y5,N5,Y5,N5,N5,N5,N5,N5,N5] rfl rfl (any_of HT_.out (by kernel_rfl)) (fun _ _ _ h => h) (Or.inl ⟨by rfl, ?_⟩) ?_ ?_
 rotate_left
 ·intro w'
  go_simp
  with_reducible rfl
 rotate_left
 ·simp only [Act.put, List.setIfInBounds_toArray, List.set_cons_zero, List.set_cons_succ, i64_w, i32_w]
  rfl
 refine pure_ (i := 3) (N := some 39) (v := ?_) (a' := ?_) #[Y5,N5,Y5,Y5,N5,N5,N5,N5,N5] rfl rfl (any_of HT_.out (by kernel_rfl)) (fun _ _ _ h => h) (Or.inl ⟨by rfl, ?_⟩) ?_ ?_
 rotate_left
 ·intro w'
  go_simp
  with_reducible rfl
 rotate_left
 ·simp only [Act.put, List.setIfInBounds_toArray, List.set_cons_zero, List.set_cons_succ, i64_w, i32_w]
  rfl
 refine take_ (i := 1) (N := some 37) (v := ?_) (a' := ?_) #[Y5,Y5,Y5,Y5,N5,N5,N5,N5,N5] rfl rfl (take_ofW HT_.out HW_.out (by kernel_rfl)) (fun _ _ _ h => h) (Or.inl ⟨by rfl, ?_⟩) hHeld ?_ ?_
 rotate_left
 ·rintro w' ⟨s0, s1⟩
  go_simp
  with_reducible rfl
 rotate_left
 ·simp only [Act.put, List.setIfInBounds_toArray, List.set_cons_zero, List.set_cons_succ, i64_w, i32_w]
  rfl
 refine one_ (i := 4) (N := some 40) #[Y5,Y5,Y5,Y5,Y5,N5,N5,N5,N5] rfl rfl (one_of HT_.out (by kernel_rfl)) (by decide) (fun K hK => ?_)
 refine Kd.R_lit_step (Kd.int .i64) _ 3 ?hg (N := 40) ?hd (xs := ([(-1), 100] : List Int)) (inner := [.int .i64 (-1), .int .i64 100]) (ok := fun _ => True) (okp := fun _ => True) ?hr ?hp (fun _ hk => hk) trivial (Below.refl _ _) (Nat.le_refl _) (by simp) ?_; (case hd => rfl); (case hg => rfl); (case hr => first | (go_simp; done) | (go_simp; rfl)); (case hp => exact (Reps.one (show Kd.M (Kd.int .i64) _ _ _ (-1) [.int .i64 (-1)] from rfl) (Reps.one (show Kd.M (Kd.int .i64) _ _ _ 100 [.int .i64 100] from rfl) (Reps.none _ _))))
 intro v160 w45 ho46 hb hg_ hnew_
 clear hg_ hnew_
 (first | rw [← Ny159.out] at ho46 | (simp only [Int.reduceToNat] at ho46; rw [← Ny159.out] at ho46))
 have n0_ := Aside0.mk (Kd.R_below HO145.out hb)
 have n1_ := Aside0.mk (Kd.R_lower ho46 (keep_size (w := w) (g := g) (row := none) HK.out))
 have n2_ := Aside0.mk (IsS97.below HI0.out hb)
 have n3_ := Aside0.mk (blk_below (g := p2) (o := .cells #[.int .i64 0, .slice none 0 0] 25 (0, 0)) p0.out hb)
 have n4_ := Aside0.mk (blk_below (g := p3) (o := .cells #[.int .i64 t142, .slice Ao41 t143.length co41] 25 (0, 0)) p1.out hb)
 have n5_ := Aside0.mk (KeepBut.trans HK.out (KeepBut.of_below hb g none) (.inl rfl))
 have n6_ := Aside0.mk (below_step HB.out hb)
 clear HO145
 clear HI0
 clear p0
 clear p1
 clear HK
 clear HB
 have HO145 := n0_
 have HO161 := n1_
 have HI0 := n2_
 have p0 := n3_
 have p1 := n4_
 have HK := n5_
 have HB := n6_
 clear n0_ n1_ n2_ n3_ n4_ n5_ n6_
 clear hb ho46
 obtain ⟨Ao47, co47, eo47⟩ := Kd.R_slice HO161.out
 (first | subst eo47 | (injection eo47 with f1_ f2_ f3_; have f4_ := f1_.symm; have f5_ := f3_.symm; clear f1_ f2_ f3_; subst f4_; subst f5_))
 refine hK.out _ _ ⟨(blk_cell p1.out 0).trans rfl, (blk_cell p1.out 1).trans rfl⟩ (fun hHeld => ?_)
 clear hK K
 refine norm_ (a' := ?_) ?_ ?_
 rotate_left
 ·show Act.put _ (some 40) _ = _
  simp only [Act.put, List.setIfInBounds_toArray, List.set_cons_zero, List.set_cons_succ, i64_w, i32_w]
  rfl
 refine one_ (i := 5) (N := some 41) #[Y5,Y5,Y5,Y5,Y5,Y5,N5,N5,N5] rfl rfl (one_of HT_.out (by kernel_rfl)) (by decide) (fun K hK => ?_)
 refine goes_ Try.func90 (by kernel_rfl) rfl #[.pointer (some ⟨g, 0, none⟩), .slice Ao47 y159.length co47] (by rfl) rfl rfl (by (try simp only [List.map_toArray, List.map_cons, List.map_nil]); first | done | rfl | (simp only [List.length_drop, List.length_take]; rfl)) ?_
 with_reducible refine (spec_l30Rd_one.calls k g s0_0 t151 _ _ y159 t162 t163 w0 _ ?side1 ?side2 ?side3 ?side4 ?side5 A31.out).mono ?_
 (case side1 => exact HI0.out)
 (case side2 => exact HB.out)
 (case side3 => repeat (first | exact (Kd.R_reads' HO161.out).2.2 | (with_reducible refine Kd.C_alloc ?_ _) | (with_reducible refine Kd.C_drewN ?_ _) | (with_reducible refine Kd.C_drew ?_)))
 (case side4 => exact (Kd.R_reads' HO161.out).2.1)
 (case side5 => exact far_slice (IsS97.own_ne HI0.out HO161.out (by decide)))
 rintro e w48 ⟨rfl, hi, hb, hk⟩
 refine ⟨_, rfl, ?_⟩
 have n0_ := Aside0.mk (KeepBut.blk hk (g' := p2) (o := .cells #[.int .i64 0, .slice none 0 0] 25 (0, 0)) p0.out p7.out (by simp))
 have n1_ := Aside0.mk (Kd.R_mono (Kd.R_keep (IsS97.apart (show IsS97 w0 _ g s0_0 t151 from by repeat (first | (with_reducible first | exact HI0.out | apply IsS97.alloc | apply IsS97.drewN | apply IsS97.drew | apply IsS97.set_1 | refine IsS97.far ?_ p4.out _ | refine IsS97.far ?_ p5.out _) | exact HI0.out)) HO145.out (by decide)) hk (fun _ h => h.2)) (fun _ h => h.1))
 have n2_ := Aside0.mk (KeepBut.blk hk (g' := p3) (o := .cells #[.int .i64 t142, .slice Ao41 t143.length co41] 25 (0, 0)) p1.out p8.out (by simp))
 have n3_ := Aside0.mk (Kd.R_mono (Kd.R_keep (IsS97.apart (show IsS97 w0 _ g s0_0 t151 from by repeat (first | (with_reducible first | exact HI0.out | apply IsS97.alloc | apply IsS97.drewN | apply IsS97.drew | apply IsS97.set_1 | refine IsS97.far ?_ p4.out _ | refine IsS97.far ?_ p5.out _) | exact HI0.out)) HO161.out (by decide)) hk (fun _ h => h.2)) (fun _ h => h.1))
 have n4_ := Aside0.mk (KeepBut.trans HK.out hk (.inl rfl))
 have n5_ := Aside0.mk (hb)
 have n6_ := Aside0.mk (hi)
 clear p0
 clear HO145
 clear p1
 clear HO161
 clear HK
 clear HB
 clear HI0
 have p0 := n0_
 have HO145 := n1_
 have p1 := n2_
 have HO161 := n3_
 have HK := n4_
 have HB := n5_
 have HI0 := n6_
 clear n0_ n1_ n2_ n3_ n4_ n5_ n6_
 (try clear hb)
 (try clear hb2)
 (try clear hk)
 (try clear hi)
 have p34 : 0 ≤ (t148 : Int) := of_decide_eq_true (by first | (with_reducible assumption) | assumption)
 have q34 : (t148 : Int) < ((t143.length : Int) : Int) := of_decide_eq_true (by first | (with_reducible assumption) | assumption)
 obtain ⟨go34, co34, eo34, gb34, gl34, cl34, HG34⟩ := Kd.R_form HO145.out (by omega)
 (first | cases eo34 | (injection eo34 with ea_ en_ ec_; (first | subst ea_ | (injection ea_ with ea_; subst ea_)); subst ec_; clear en_))
 have GB34 := Aside0.mk gb34
 have GG34 := Aside0.mk HG34
 clear gb34 gl34 HG34
 obtain ⟨ce34, hcl34, hM34, q6, hfr34⟩ := Kd.R_elem HO145.out z34 (t148 : Int) p34 q34
 obtain rfl := k34_openM hM34
 have hx34_0 : World.cell? _ ⟨go34, (t148 : Int).toNat * 5, none⟩ = some (.int .i64 ((rd_T34 t143 t148).f0)) := q6 0 _ rfl
 have hx34_1 : World.cell? _ ⟨go34, (t148 : Int).toNat * 5 + 1, none⟩ = some (.int .i64 ((rd_T34 t143 t148).f1)) := q6 1 _ rfl
 have hx34_2 : World.cell? _ ⟨go34, (t148 : Int).toNat * 5 + 2, none⟩ = some (.int .i64 ((rd_T34 t143 t148).f2)) := q6 2 _ rfl
 have hx34_3 : World.cell? _ ⟨go34, (t148 : Int).toNat * 5 + 3, none⟩ = some (.int .i64 ((rd_T34 t143 t148).f3)) := q6 3 _ rfl
 have hx34_4 : World.cell? _ ⟨go34, (t148 : Int).toNat * 5 + 4, none⟩ = some (.int .i64 ((rd_T34 t143 t148).f4)) := q6 4 _ rfl
 have hf34_0 : World.frozen? _ ⟨go34, (t148 : Int).toNat * 5, none⟩ = false := hfr34 0
 have hf34_1 : World.frozen? _ ⟨go34, (t148 : Int).toNat * 5 + 1, none⟩ = false := hfr34 1
 have hf34_2 : World.frozen? _ ⟨go34, (t148 : Int).toNat * 5 + 2, none⟩ = false := hfr34 2
 have hf34_3 : World.frozen? _ ⟨go34, (t148 : Int).toNat * 5 + 3, none⟩ = false := hfr34 3
 have hf34_4 : World.frozen? _ ⟨go34, (t148 : Int).toNat * 5 + 4, none⟩ = false := hfr34 4
 clear hcl34 q6 hfr34; (try clear hM34)
 replace p34 := eq_true p34
 replace q34 := eq_true q34
 have HN0_go34 := Aside0.mk (show g ≠ go34 from by have h_ := IsS97.own_ne HI0.out HO145.out (by decide); intro e_; exact h_ (by rw [e_]; rfl))
 obtain ⟨ce49, hcl49, hM49, hcc49, hfr49⟩ := Kd.R_elem HO145.out z34 (t148 : Int) (of_decide_eq_true (by first | (with_reducible assumption) | assumption)) (by have h_ : (t148 : Int) < ((t143.length : Int) : Int) := of_decide_eq_true (by first | (with_reducible assumption) | assumption); first | exact h_ | (have e_ := (Kd.R_reads' HO145.out).1; omega) | simpa using h_)
 obtain rfl := k34_openM hM49
 have HP49 := (Kd.R_seg HO145.out (t148 : Int) (of_decide_eq_true (by first | (with_reducible assumption) | assumption)) (by have h_ : (t148 : Int) < ((t143.length : Int) : Int) := of_decide_eq_true (by first | (with_reducible assumption) | assumption); first | exact h_ | (have e_ := (Kd.R_reads' HO145.out).1; omega) | simpa using h_) (seg := [.int .i64 t162]) (j := 2) hcl49 hcc49 (show 3 ≤ 5 from by decide) (x' := (⟨(rd_T34 t143 t148).f0, (rd_T34 t143 t148).f1, t162, (rd_T34 t143 t148).f3, (rd_T34 t143 t148).f4⟩ : S34)) (k34_mkM _ _ _ (⟨(rd_T34 t143 t148).f0, (rd_T34 t143 t148).f1, t162, (rd_T34 t143 t148).f3, (rd_T34 t143 t148).f4⟩ : S34) ) (fun _ hk => hk)).1
 rw [← Ny164.out] at HP49
 have HQ49 := Aside0.mk HP49
 clear hcl49 hcc49 hfr49 HP49; (try clear hM49)
 refine hK.out _ _ ⟨(blk_cell p1.out 0).trans rfl, (blk_cell p1.out 1).trans rfl⟩ (fun hHeld => ?_)
 clear hK K
 refine norm_ (a' := ?_) ?_ ?_
 rotate_left
 ·show Act.put _ (some 41) _ = _
  simp only [Act.put, List.setIfInBounds_toArray, List.set_cons_zero, List.set_cons_succ, i64_w, i32_w]
  rfl
 refine pure_ (i := 6) (N := some 42) (v := ?_) (a' := ?_) #[Y5,Y5,Y5,Y5,Y5,Y5,Y5,N5,N5] rfl rfl (any_of HT_.out (by kernel_rfl)) (fun _ _ _ h => h) (Or.inl ⟨by rfl, ?_⟩) ?_ ?_
 rotate_left
 ·intro w'
  go_simp
  with_reducible rfl
 rotate_left
 ·simp only [Act.put, List.setIfInBounds_toArray, List.set_cons_zero, List.set_cons_succ, i64_w, i32_w]
  rfl
 refine pure_ (i := 7) (N := some 43) (v := ?_) (a' := ?_) #[Y5,Y5,Y5,Y5,Y5,Y5,Y5,Y5,N5] rfl rfl (any_of HT_.out (by kernel_rfl)) (fun _ _ _ h => h) (Or.inl ⟨by rfl, ?_⟩) ?_ ?_
 rotate_left
 ·intro w'
  go_simp
  with_reducible rfl
 rotate_left
 ·simp only [Act.put, List.setIfInBounds_toArray, List.set_cons_zero, List.set_cons_succ, i64_w, i32_w]
  rfl
 refine last_ (i := 8) (N := none) #[true, true, true, true, true, true, true, true, true] rfl rfl (one_of HT_.out (by kernel_rfl)) (by decide) (fun K hK => ?_)
 refine skip_ (w1 := ?_) (by rfl) rfl ?_ ?_
 rotate_left
 ·go_simp
  rfl
 refine hK.out _ _ ?_
 clear hK K
 refine done_ (done_of HT_.out (by kernel_rfl)) ?_
 have n0_ : Aside0 (Kd.R k34 34 (w48.setCell ⟨go34, (t148 : Int).toNat * 5 + 2, none⟩ (.int .i64 t162)) w.heap.size (fun _ => True) (.slice (some ⟨go34, 0, none⟩) t143.length co41) y164) := ⟨by exact HQ49.out⟩
 have n1_ : Aside0 (Kd.R (Kd.int .i64) 3 (w48.setCell ⟨go34, (t148 : Int).toNat * 5 + 2, none⟩ (.int .i64 t162)) w.heap.size (fun _ => True) (.slice Ao47 y159.length co47) y159) := ⟨by exact Kd.R_mono (Kd.R_far (p := ⟨go34, (t148 : Int).toNat * 5 + 2, none⟩) (Kd.R_types HO161.out GG34.out (by decide)) (fun _ hk => hk.2) (.int .i64 t162)) (fun _ hk => trivial)⟩
 have n2_ : Aside0 ((w48.setCell ⟨go34, (t148 : Int).toNat * 5 + 2, none⟩ (.int .i64 t162)).heap[p2]? = some (.cells #[.int .i64 0, .slice none 0 0] 25 (0, 0))) := ⟨by refine blk_far ?_ (by have h_ := Kd.R_ne HO145.out p0.out (by decide); intro e_; exact h_ (by rw [e_]; rfl)) _; exact p0.out⟩
 have n3_ : Aside0 ((w48.setCell ⟨go34, (t148 : Int).toNat * 5 + 2, none⟩ (.int .i64 t162)).heap[p3]? = some (.cells #[.int .i64 t142, .slice (some ⟨go34, 0, none⟩) t143.length co41] 25 (0, 0))) := ⟨by refine blk_far ?_ (by have h_ := Kd.R_ne HO145.out p1.out (by decide); intro e_; exact h_ (by rw [e_]; rfl)) _; exact p1.out⟩
 have n4_ : Aside0 (IsS97 w0 (w48.setCell ⟨go34, (t148 : Int).toNat * 5 + 2, none⟩ (.int .i64 t162)) g s0_0 t163) := ⟨by repeat (first | (with_reducible first | exact HI0.out | apply IsS97.alloc | apply IsS97.drewN | apply IsS97.drew | apply IsS97.set_1 | refine IsS97.far ?_ HN0_go34.out _ | refine IsS97.far ?_ p4.out _ | refine IsS97.far ?_ p5.out _) | exact HI0.out)⟩
 have n5_ : Aside0 (KeepBut w (w48.setCell ⟨go34, (t148 : Int).toNat * 5 + 2, none⟩ (.int .i64 t162)) g none) := ⟨by repeat (first | (with_reducible first | exact HK.out | apply KeepBut.set_ | apply keep_drewN | apply keep_drew | apply keep_alloc | refine keep_far ?_ GB34.out _ | refine keep_far ?_ q0.out _ | refine keep_far ?_ q2.out _) | exact HK.out)⟩
 have n6_ : Aside0 (Below w0.heap.size w0 (w48.setCell ⟨go34, (t148 : Int).toNat * 5 + 2, none⟩ (.int .i64 t162))) := ⟨by repeat (first | (with_reducible first | exact HB.out | apply below_alloc | apply pw_below_drewN | apply below_drew1 | refine below_set ?_ (Nat.le_trans HL.out GB34.out) | refine below_set ?_ (IsS97.ge HI0.out) | refine below_set ?_ q1.out | refine below_set ?_ q3.out) | exact HB.out)⟩
 (try clear HO145)
 (try clear HO161)
 (try clear p0)
 (try clear p1)
 (try clear HI0)
 (try clear HK)
 (try clear HB)
 generalize (w48.setCell ⟨go34, (t148 : Int).toNat * 5 + 2, none⟩ (.int .i64 t162)) = w50 at n0_ n1_ n2_ n3_ n4_ n5_ n6_ ⊢
 have HO145 := n0_
 have HO161 := n1_
 have p0 := n2_
 have p1 := n3_
 have HI0 := n4_
 have HK := n5_
 have HB := n6_
 clear n0_ n1_ n2_ n3_ n4_ n5_ n6_
 have hcz51_0 : w50.cell? ⟨p3, 0, none⟩ = some (.int .i64 t142) := (blk_cell p1.out 0).trans rfl
 have hcz51_1 : w50.cell? ⟨p3, 1, none⟩ = some (.slice (some ⟨go34, 0, none⟩) t143.length co41) := (blk_cell p1.out 1).trans rfl
 have hfz51_0 := blk_frozen p1.out 0
 have hfz51_1 := blk_frozen p1.out 1
 have hnb52 := p7.out
 have hnc52 := p4.out
 have hcz53_0 : w50.cell? ⟨p2, 0, none⟩ = some (.int .i64 0) := (blk_cell p0.out 0).trans rfl
 have hcz53_1 : w50.cell? ⟨p2, 1, none⟩ = some (.slice none 0 0) := (blk_cell p0.out 1).trans rfl
 have hfz53_0 := blk_frozen p0.out 0
 have hfz53_1 := blk_frozen p0.out 1
 try go_wp2
 refine bodyPost_ret (results_cell_row rfl _ _ p2 25 #[.int .i64 t142, .slice (some ⟨go34, 0, none⟩) t143.length co41] (0, 0) _ rfl (by refine blk_put (cs := #[.int .i64 t142, .slice none 0 0]) ?_ 1 _ rfl; refine blk_put (cs := #[.int .i64 0, .slice none 0 0]) ?_ 0 _ rfl; exact p0.out) Try.underlying25 rfl (by kernel_rfl)) rfl ?_
 exact ⟨_, by first | rfl | (simp [errW_none, errW_some] <;> rfl) | (simp [*, errW_none, errW_some] <;> rfl), by exact Kd.R_mono (Kd.R_far (p := ⟨p2, 1, none⟩) (Kd.R_far (p := ⟨p2, 0, none⟩) (Kd.R_types HO145.out p0.out (by decide)) (fun _ hk => hk.2) (.int .i64 t142)) (fun _ hk => hk.2) (.slice (some ⟨go34, 0, none⟩) t143.length co41)) (fun _ hk => trivial), by repeat (first | (with_reducible first | exact HI0.out | apply IsS97.alloc | apply IsS97.drewN | apply IsS97.drew | apply IsS97.set_1 | refine IsS97.far ?_ p4.out _ | refine IsS97.far ?_ p5.out _) | exact HI0.out), by repeat (first | (with_reducible first | exact HB.out | apply below_alloc | apply pw_below_drewN | apply below_drew1 | refine below_set ?_ (IsS97.ge HI0.out) | refine below_set ?_ q1.out | refine below_set ?_ q3.out) | exact HB.out), by repeat (first | (with_reducible first | exact HK.out | apply KeepBut.set_ | apply keep_drewN | apply keep_drew | apply keep_alloc | refine keep_far ?_ q0.out _ | refine keep_far ?_ q2.out _) | exact HK.out)⟩
end Go.Proofs.Ytljdcinpjnijcaa.Pr
end
section
namespace Go.Proofs.Ytljdcinpjnijcaa.Pr
open Go.RowKit Go.Proofs.YtljdcinpjnijcaaW.PrintWords Go.Proofs.YtljdcinpjnijcaaW.PrintLast Go.Proofs.YtljdcinpjnijcaaW.PrintMore
attribute [local go_sem] max2_int min2_int max_two min_two max_three min_three max_four min_four
set_option linter.unusedVariables false
set_option linter.unusedSimpArgs false
def spec_DrawHubCount.f (k : Nat) (l0 : List Int) : Option (Int × (List (S34))) := (spec_l30Open.f l0).bind fun bt519 => ((spec_l30AnyNet.f k bt519.1 bt519.2).bind fun bt522 => (some (bt522.1, bt522.2.1)))
set_option maxHeartbeats 8000000 in
set_option maxRecDepth 100000 in
theorem spec_DrawHubCount.calls (k : Nat) (A0 : Option Addr) (c0 : Nat) (l0 : List Int) (r1 : Int) (r2 : List (S34)) (w : World) (hr0 : Kd.C (Kd.int .u8) w A0 l0.length l0) (hc0 : l0.length ≤ c0) (h : spec_DrawHubCount.f k l0 = some (r1, r2)) :
  Calls Try.prog 25 #[.slice A0 l0.length c0] w fun e w' => ∃ v1_ : Value, e = .returned (.agg #[.int .i64 r1, v1_]) ∧ Kd.R k34 34 w' w.heap.size (fun _ => True) v1_ r2 ∧ Below w.heap.size w w' := by
 have hu25 := Try.underlying25
 have HR0 := Aside0.mk hr0
 have HC0 := Aside0.mk hc0
 clear hr0 hc0
 have HB := Aside0.mk (Below.refl w.heap.size w)
 have H : ((spec_l30Open.f l0).bind fun bt519 => ((spec_l30AnyNet.f k bt519.1 bt519.2).bind fun bt522 => (some (bt522.1, bt522.2.1)))) = some (r1, r2) := h
 clear h
 replace H := Option.bind_eq_some_iff.mp H
 obtain ⟨⟨t519, t520⟩, A20, H⟩ := H
 replace H : ((spec_l30AnyNet.f k t519 t520).bind fun bt522 => (some (bt522.1, bt522.2.1))) = some (r1, r2) := H
 have A2 := Aside0.mk A20
 clear A20
 replace H := Option.bind_eq_some_iff.mp H
 obtain ⟨⟨t522, t523, t526⟩, A30, H⟩ := H
 replace H : (some (t522, t523)) = some (r1, r2) := H
 have A3 := Aside0.mk A30
 clear A30
 simp only [Option.some.injEq, Prod.mk.injEq] at H
 obtain ⟨rfl, rfl⟩ := H
 go_enter Try.func25, Try.ntmps25
 go_wp2_with (first | ((with_reducible refine gate_dst (N := 2) rfl ?_); refine box_event ?hg (N := 2) ?hd (cs := #[.int .i64 0, .slice none 0 0]) (t := 25) ?hr ?_; (case hd => rfl); (case hg => rfl); (case hr => first | (go_simp; done) | (go_simp; rfl)); intro p1 hg w4 hbox hb; have n0_ := Aside0.mk (below_step HB.out hb); have n1_ := Aside0.mk (hbox); have n2_ := Aside0.mk ((by rw [hg]; exact (below_size HB.out) : w.heap.size ≤ p1)); have n3_ := Aside0.mk ((by rw [hg]; exact (below_size HB.out) : w.heap.size ≤ p1)); clear HB; have HB := n0_; have p0 := n1_; have GW518 := n2_; have GE518 := n3_; clear n0_ n1_ n2_ n3_; clear hb hbox hg) | ((with_reducible refine gate_callee (f := 48) rfl ?_); refine goesL_ (some 4) rfl rfl Try.func48 (by kernel_rfl) rfl #[.slice A0 l0.length c0] rfl (by (try simp only [List.map_toArray, List.map_cons, List.map_nil]); first | done | rfl | (simp only [List.length_drop, List.length_take]; rfl)) ?_; (with_reducible refine (spec_l30Open.calls _ _ l0 t519 t520 w _ ?side1 ?side2 ?side3 A2.out).mono ?_); (case side1 => exact HB.out); (case side2 => exact HR0.out); (case side3 => exact HC0.out); rintro e w5 ⟨g521, rfl, hi, hb, hb2⟩; refine ⟨_, rfl, ?_⟩; have n0_ := Aside0.mk (blk_below (g := p1) (o := .cells #[.int .i64 0, .slice none 0 0] 25 (0, 0)) p0.out hb2); have n1_ := Aside0.mk (hb); have n2_ := Aside0.mk (hi); have n3_ := Aside0.mk (IsS97.ne_blk hi (blk_below (g := p1) (o := .cells #[.int .i64 0, .slice none 0 0] 25 (0, 0)) p0.out hb2) (by decide)); have n4_ := Aside0.mk (Ne.symm (IsS97.ne_blk hi (blk_below (g := p1) (o := .cells #[.int .i64 0, .slice none 0 0] 25 (0, 0)) p0.out hb2) (by decide))); clear p0; clear HB; have p0 := n0_; have HB := n1_; have HI521 := n2_; have p3 := n3_; have p2 := n4_; clear n0_ n1_ n2_ n3_ n4_; (try clear hb); (try clear hb2); (try clear hk); (try clear hi)) | ((with_reducible refine gate_callee (f := 49) rfl ?_); refine goesL_ (some 5) rfl rfl Try.func49 (by kernel_rfl) rfl #[.pointer (some ⟨g521, 0, none⟩)] rfl (by (try simp only [List.map_toArray, List.map_cons, List.map_nil]); first | done | rfl | (simp only [List.length_drop, List.length_take]; rfl)) ?_; (with_reducible refine (spec_l30AnyNet.calls k g521 t519 t520 t522 t523 t526 w _ ?side1 ?side2 A3.out).mono ?_); (case side1 => exact HI521.out); (case side2 => exact HB.out); rintro e w6 ⟨v524, rfl, ho0, hi, hb, hk⟩; refine ⟨_, rfl, ?_⟩; have n0_ := Aside0.mk (KeepBut.blk hk (g' := p1) (o := .cells #[.int .i64 0, .slice none 0 0] 25 (0, 0)) p0.out p2.out (by simp)); have n1_ := Aside0.mk (Kd.R_lower ho0 (below_size HB.out)); have n2_ := Aside0.mk (hb); have n3_ := Aside0.mk (hi); clear p0; clear HB; clear HI521; have p0 := n0_; have HO525 := n1_; have HB := n2_; have HI521 := n3_; clear n0_ n1_ n2_ n3_; (try clear hb); (try clear hb2); (try clear hk); (try clear hi); (try clear ho0); have hnb7 := p2.out; have hnc7 := p3.out; have hcz8_0 : w6.cell? ⟨p1, 0, none⟩ = some (.int .i64 0) := (blk_cell p0.out 0).trans rfl; have hcz8_1 : w6.cell? ⟨p1, 1, none⟩ = some (.slice none 0 0) := (blk_cell p0.out 1).trans rfl; have hfz8_0 := blk_frozen p0.out 0; have hfz8_1 := blk_frozen p0.out 1; obtain ⟨Ao9, co9, eo9⟩ := Kd.R_slice HO525.out; subst eo9))
 refine bodyPost_ret (results_cell_row rfl _ _ p1 25 #[.int .i64 t522, .slice Ao9 t523.length co9] (0, 0) _ rfl (by (with_reducible repeat (first | refine blk_drewN ?_ _ | refine blk_drew ?_ | refine blk_alloc ?_ _)); refine blk_put (cs := #[.int .i64 t522, .slice none 0 0]) ?_ 1 _ rfl; (with_reducible repeat (first | refine blk_drewN ?_ _ | refine blk_drew ?_ | refine blk_alloc ?_ _)); refine blk_put (cs := #[.int .i64 0, .slice none 0 0]) ?_ 0 _ rfl; (with_reducible repeat (first | refine blk_drewN ?_ _ | refine blk_drew ?_ | refine blk_alloc ?_ _)); exact p0.out) Try.underlying25 rfl (by kernel_rfl)) rfl ?_
 exact ⟨_, by first | rfl | (simp [errW_none, errW_some] <;> rfl) | (simp [*, errW_none, errW_some] <;> rfl), by (with_reducible repeat (first | apply Kd.R_alloc | apply Kd.R_drewN | apply Kd.R_drew)); exact Kd.R_mono (Kd.R_far (p := ⟨p1, 1, none⟩) (Kd.R_far (p := ⟨p1, 0, none⟩) (Kd.R_types HO525.out p0.out (by decide)) (fun _ hk => hk.2) (.int .i64 t522)) (fun _ hk => hk.2) (.slice Ao9 t523.length co9)) (fun _ hk => trivial), by repeat (first | (with_reducible first | exact HB.out | apply below_alloc | apply pw_below_drewN | apply below_drew1 | refine below_set ?_ (IsS97.ge HI521.out) | refine below_set ?_ GE518.out) | exact HB.out)⟩
end Go.Proofs.Ytljdcinpjnijcaa.Pr
end
section
namespace Go.Proofs.Ytljdcinpjnijcaa.Pr
open Go.RowKit Go.Proofs.YtljdcinpjnijcaaW.PrintWords Go.Proofs.YtljdcinpjnijcaaW.PrintLast Go.Proofs.YtljdcinpjnijcaaW.PrintMore
attribute [local go_sem] max2_int min2_int max_two min_two max_three min_three max_four min_four
set_option linter.unusedVariables false
set_option linter.unusedSimpArgs false
def hubRow (st : List Int → List Int → Option (List Int)) (k N : Nat) (l : List S34) (a : Nat) : Nat → List Int → Option (List Int)
 | 0, o => some o
 | d + 1, o => (impl_Net_best.f k (N : Int) l (a : Int) ((N - (d + 1) : Nat) : Int)).bind fun r => if r.2 = true then (if a = N - (d + 1) then hubRow st k N l a d o else (st o r.1).bind fun o' => hubRow st k N l a d o') else hubRow st k N l a d o
def hubAll (st : List Int → List Int → Option (List Int)) (k N : Nat) (l : List S34) : Nat → List Int → Option (List Int)
 | 0, o => some o
 | d + 1, o => (hubRow st k N l (N - (d + 1)) N o).bind fun o' => hubAll st k N l d o'
set_option maxHeartbeats 4000000 in
set_option maxRecDepth 100000 in
theorem bestWalks_walk (st : List Int → List Int → Option (List Int)) (k N : Nat) (hN : N ≤ 64) (A0 : Option Addr) (c0 : Nat) (l0 : List S34) (go cf : Nat) (lb : Array Value) (eg : ∀ args w, (callFunc cf args).run Try.prog w = .ok (.enter cf args) w) (I : List Int → World → Prop) (o0 r : List Int) (w : World) (hgo : go < w.heap.size)
  (hA : ∀ o W, I o W → Kd.C k34 W A0 l0.length l0) (hc0 : l0.length ≤ c0) (hI : I o0 w) (hIb : ∀ o W W1, I o W → Below W.heap.size W W1 → I o W1)
  (hcall : ∀ o o' W A c x, KeepBut w W go none → I o W → (∀ W', KeepBut W W' go none → Kd.C (Kd.int .i64) W' A x.length x) → x.length ≤ c → st o x = some o' → Calls Try.prog cf (#[.slice A x.length c] ++ lb) W fun e w' => e = .returned (.tuple #[]) ∧ I o' w' ∧ KeepBut W w' go none) (h : hubAll st k N l0 N o0 = some r) :
  Calls Try.prog 64 #[.agg #[.int .i64 (N : Int), .slice A0 l0.length c0], .func (.func cf) #[] lb] w fun e w' => e = .returned (.tuple #[]) ∧ I r w' ∧ KeepBut w w' go none := by
 have hu := Try.underlying25
 have HA := Aside0.mk hA
 have HC := Aside0.mk hc0
 have HI := Aside0.mk hI
 have HIB := Aside0.mk hIb
 have HCL := Aside0.mk hcall
 have HH := Aside0.mk h
 have HN := Aside0.mk hN
 have HGO := Aside0.mk hgo
 clear hA hc0 hI hIb hcall h hN hgo
 go_enter Try.func64, Try.ntmps64
 go_wp2_with (first
  | ((with_reducible refine gate_dst (N := 2) rfl ?_); refine box_event ?hg (N := 2) ?hd (cs := #[.int .i64 (N : Int), .slice A0 l0.length c0]) (t := 25) ?hr ?_; (case hd => rfl); (case hg => rfl); (case hr => first | (go_simp; done) | (go_simp; rfl)); intro gN hgN w1 hbox hb; have P1 := Aside0.mk hbox; have P2 := Aside0.mk (KeepBut.of_below hb go none); have P3 := Aside0.mk (show w.heap.size ≤ gN by rw [hgN]; exact Nat.le_refl _); have P4 := Aside0.mk (HIB.out _ _ _ HI.out hb); have q1 : w1.cell? ⟨gN, 0, none⟩ = some (.int .i64 (N : Int)) := (blk_cell hbox 0).trans rfl; clear hbox hb hgN))
 clear q1
 go_loopg [10] N (fun gg s10 wr => ∃ (a : Nat) (o : List Int), s10 = .int .i64 (a : Int) ∧ Aside0 (a ≤ N) ∧ Aside0 (N - a ≤ gg) ∧ Aside0 (I o wr) ∧ Aside0 (KeepBut w wr go none) ∧ Aside0 (wr.heap[gN]? = some (.cells #[.int .i64 (N : Int), .slice A0 l0.length c0] 25 (0, 0))) ∧ Aside0 (hubAll st k N l0 (N - a) o = some r))
 case atStart => exact ⟨0, o0, rfl, ⟨by omega⟩, ⟨by omega⟩, P4, P2, P1, HH⟩
 case round =>
  clear P1 P2 P4 HH HI
  obtain ⟨a, o, rfl, J0, J1, J2, J3, J4, J5⟩ := hrel
  by_cases ha : a < N
  case neg =>
   have c1 : decide ((a : Int) < (N : Int)) = false := decide_eq_false (by omega)
   have c2 : decide (a < N) = false := decide_eq_false ha
   have haN : a = N := by have := J0.out; omega
   have hall : some o = some r := by have h := J5.out; rw [haN, Nat.sub_self] at h; exact h
   obtain rfl := Option.some.inj hall
   clear hall ha J5 haN
   go_wp2
   go_end0
   exact ⟨rfl, J2.out, J3.out⟩
  have c1 : decide ((a : Int) < (N : Int)) = true := decide_eq_true (by omega)
  have c2 : decide (a < N) = true := decide_eq_true ha
  obtain ⟨m, hm⟩ : ∃ m, N - a = m + 1 := ⟨N - a - 1, by omega⟩
  have h5 := J5.out
  rw [hm] at h5
  unfold hubAll at h5
  obtain ⟨o2, ho2, h6⟩ := Option.bind_eq_some_iff.1 h5
  rw [show N - (m + 1) = a by omega] at ho2
  have R2 := Aside0.mk ho2
  have R3 := Aside0.mk h6
  have M1 := Aside0.mk hm
  have HAL := Aside0.mk ha
  have q2 : wr.cell? ⟨gN, 0, none⟩ = some (.int .i64 (N : Int)) := (blk_cell J4.out 0).trans rfl
  clear h5 ho2 h6 hm J5 ha
  go_wp2
  clear q2
  go_loopg [15] N (fun gg s15 wr => ∃ (b : Nat) (o : List Int), s15 = .int .i64 (b : Int) ∧ Aside0 (b ≤ N) ∧ Aside0 (N - b ≤ gg) ∧ Aside0 (I o wr) ∧ Aside0 (KeepBut w wr go none) ∧ Aside0 (wr.heap[gN]? = some (.cells #[.int .i64 (N : Int), .slice A0 l0.length c0] 25 (0, 0))) ∧ Aside0 (hubRow st k N l0 a (N - b) o = some o2))
  case atStart => exact ⟨0, o, rfl, ⟨by omega⟩, ⟨by omega⟩, J2, J3, J4, R2⟩
  case round =>
   clear J2 J3 J4 R2
   obtain ⟨b, o3, rfl, K0, K1, K2, K3, K4, K5⟩ := hrel
   by_cases hb : b < N
   case neg =>
    have c1 : decide ((b : Int) < (N : Int)) = false := decide_eq_false (by omega)
    have c2 : decide (b < N) = false := decide_eq_false hb
    have hbN : b = N := by have := K0.out; omega
    have hrow : some o3 = some o2 := by have h := K5.out; rw [hbN, Nat.sub_self] at h; exact h
    obtain rfl := Option.some.inj hrow
    have hw : wrap64 ((a : Int) + 1) = ((a + 1 : Nat) : Int) := by have h1 := HN.out; have h2 := HAL.out; unfold wrap64; omega
    clear hrow hb K5 hbN
    go_wp2
    have ha2 := HAL.out
    have hm3 := M1.out
    go_roundg (N - (a + 1))
    case measure => have := J1.out; omega
    case rel => exact ⟨a + 1, o3, by first | rfl | (rw [hw]; done) | (simp [hw]; done), ⟨by omega⟩, ⟨by omega⟩, K2, K3, K4, ⟨by rw [show N - (a + 1) = m by omega]; exact R3.out⟩⟩
   have c1 : decide ((b : Int) < (N : Int)) = true := decide_eq_true (by omega)
   have c2 : decide (b < N) = true := decide_eq_true hb
   obtain ⟨m2, hm2⟩ : ∃ m, N - b = m + 1 := ⟨N - b - 1, by omega⟩
   have h5 := K5.out
   rw [hm2] at h5
   unfold hubRow at h5
   obtain ⟨⟨x, ok⟩, hx, h6⟩ := Option.bind_eq_some_iff.1 h5
   rw [show N - (m2 + 1) = b by omega] at hx h6
   dsimp only at h6
   have hbest := impl_Net_best.calls k (N : Int) A0 c0 l0 (a : Int) (b : Int) x ok wr (HA.out _ _ K2.out) HC.out hx
   have HBT := Aside0.mk hbest
   have H6 := Aside0.mk h6
   have M2 := Aside0.mk hm2
   have HBL := Aside0.mk hb
   have q2 : wr.cell? ⟨gN, 0, none⟩ = some (.int .i64 (N : Int)) := (blk_cell K4.out 0).trans rfl
   have q3 : wr.cell? ⟨gN, 1, none⟩ = some (.slice A0 l0.length c0) := (blk_cell K4.out 1).trans rfl
   have hw : wrap64 ((b : Int) + 1) = ((b + 1 : Nat) : Int) := by have h1 := HN.out; have h2 := HBL.out; unfold wrap64; omega
   clear h5 h6 hx hm2 hbest K5 hb
   cases ok with
   | false =>
    have hrow : hubRow st k N l0 a m2 o3 = some o2 := by simpa using H6.out
    have H7 := Aside0.mk hrow
    clear hrow H6
    go_wp2_with (first | (go_at_call 56; refine HBT.out.mono ?_; rintro e w5 ⟨v5, rfl, hR5, hb5⟩; obtain ⟨A5, c5, rfl⟩ := Kd.R_slice hR5; have HR5 := Aside0.mk hR5; have L2 := Aside0.mk (HIB.out _ _ _ K2.out hb5); have L3 := Aside0.mk (K3.out.trans (KeepBut.of_below hb5 go none) (.inl rfl)); have L4 := Aside0.mk (blk_below K4.out hb5); clear q2 q3 hR5 hb5))
    have hb2 := HBL.out
    have hm3 := M2.out
    go_roundg (N - (b + 1))
    case measure => have := K1.out; omega
    case rel => exact ⟨b + 1, o3, by first | rfl | (rw [hw]; done) | (simp [hw]; done), ⟨by omega⟩, ⟨by omega⟩, L2, L3, L4, ⟨by rw [show N - (b + 1) = m2 by omega]; exact H7.out⟩⟩
   | true =>
    by_cases hab : a = b
    case pos =>
     have d1 : ((a : Int) != (b : Int)) = false := by simp [hab]
     have d2 : decide (a = b) = true := decide_eq_true hab
     have d3 : ((a : Int) = (b : Int)) = True := eq_true (by omega)
     have d4 : (a = b) = True := eq_true hab
     have hrow : hubRow st k N l0 a m2 o3 = some o2 := by have := H6.out; rw [if_pos rfl, if_pos hab] at this; exact this
     have H7 := Aside0.mk hrow
     clear hrow H6 hab
     go_wp2_with (first | (go_at_call 56; refine HBT.out.mono ?_; rintro e w5 ⟨v5, rfl, hR5, hb5⟩; obtain ⟨A5, c5, rfl⟩ := Kd.R_slice hR5; have HR5 := Aside0.mk hR5; have L2 := Aside0.mk (HIB.out _ _ _ K2.out hb5); have L3 := Aside0.mk (K3.out.trans (KeepBut.of_below hb5 go none) (.inl rfl)); have L4 := Aside0.mk (blk_below K4.out hb5); clear q2 q3 hR5 hb5))
     have hb2 := HBL.out
     have hm3 := M2.out
     go_roundg (N - (b + 1))
     case measure => have := K1.out; omega
     case rel => exact ⟨b + 1, o3, by first | rfl | (rw [hw]; done) | (simp [hw]; done), ⟨by omega⟩, ⟨by omega⟩, L2, L3, L4, ⟨by rw [show N - (b + 1) = m2 by omega]; exact H7.out⟩⟩
    have d1 : ((a : Int) != (b : Int)) = true := by simp; omega
    have d2 : decide (a = b) = false := decide_eq_false hab
    have d3 : ((a : Int) = (b : Int)) = False := eq_false (by omega)
    have d4 : (a = b) = False := eq_false hab
    have h7 := H6.out
    rw [if_pos rfl, if_neg hab] at h7
    obtain ⟨o4, ho4, h8⟩ := Option.bind_eq_some_iff.1 h7
    have H7 := Aside0.mk h8
    have HO4 := Aside0.mk ho4
    clear h7 h8 ho4 H6 hab
    go_wp2_with (first
     | (go_at_call 56; refine HBT.out.mono ?_; rintro e w5 ⟨v5, rfl, hR5, hb5⟩; obtain ⟨A5, c5, rfl⟩ := Kd.R_slice hR5; have HR5 := Aside0.mk hR5; have L2 := Aside0.mk (HIB.out _ _ _ K2.out hb5); have L3 := Aside0.mk (K3.out.trans (KeepBut.of_below hb5 go none) (.inl rfl)); have L4 := Aside0.mk (blk_below K4.out hb5); clear q2 q3 hR5 hb5)
     | (go_at_fn cf; refine (HCL.out o3 o4 _ A5 c5 x L3.out L2.out (Kd.C_foot_own (Kd.R_bound HR5.out) (fun q hq e => by have h1 := hq.2.1; have h2 := HGO.out; have h3 := K3.out.1; omega)) (Kd.R_reads' HR5.out).2.1 HO4.out).mono ?_; rintro e w6 ⟨rfl, hI6, hk6⟩; have N2 := Aside0.mk hI6; have N3 := Aside0.mk (L3.out.trans hk6 (.inl rfl)); have N4 := Aside0.mk (hk6.blk L4.out (fun e => by have h1 := P3.out; have h2 := HGO.out; omega) (by simp)); clear hI6 hk6))
    have hb2 := HBL.out
    have hm3 := M2.out
    go_roundg (N - (b + 1))
    case measure => have := K1.out; omega
    case rel => exact ⟨b + 1, o4, by first | rfl | (rw [hw]; done) | (simp [hw]; done), ⟨by omega⟩, ⟨by omega⟩, N2, N3, N4, ⟨by rw [show N - (b + 1) = m2 by omega]; exact H7.out⟩⟩
end Go.Proofs.Ytljdcinpjnijcaa.Pr
end
section
namespace Go.Proofs.Ytljdcinpjnijcaa.Pr
open Go.RowKit Go.Proofs.YtljdcinpjnijcaaW.PrintWords Go.Proofs.YtljdcinpjnijcaaW.PrintLast Go.Proofs.YtljdcinpjnijcaaW.PrintMore
attribute [local go_sem] max2_int min2_int max_two min_two max_three min_three max_four min_four
set_option linter.unusedVariables false
set_option linter.unusedSimpArgs false
def incL : List Int → List Int → Option (List Int)
 | o, [] => some o
 | o, k :: x => if 0 ≤ k then if k < (o.length : Int) then incL (o.set k.toNat (wrap64 (rd o k + 1))) x else none else none
theorem R_head {w : World} {base : Nat} {ok : Nat → Prop} {v : Value} {o : List Int} (h : Kd.R (Kd.int .i64) 3 w base ok v o) (hb : ∃ b, v.ownBlock = some b ∧ base ≤ b) : ∃ b cp, v = .slice (some ⟨b, 0, none⟩) o.length cp ∧ base ≤ b ∧ b < w.heap.size := by
 obtain ⟨b, hb, hl⟩ := hb
 have hlt := Kd.R_lt h b hb
 obtain ⟨r0, inner, ro, rr⟩ := h
 rcases ro.2 with ⟨hv, hn⟩ | ⟨g, cap, cur, hv, _⟩
 ·rw [hv] at hb
  simp [Value.ownBlock] at hb
 ·rw [hv] at hb
  simp [Value.ownBlock] at hb
  subst hb
  exact ⟨_, cap, hv, hl, hlt⟩
def stA (o x : List Int) : Option (List Int) := if x.length ≤ 1000 then incL o x else none
def impl_HubArcs.f (k : Nat) (a0_0 : Int) (l0_1 : List S34) : Option (List Int) := if netOkB a0_0 l0_1 = true then hubAll stA k a0_0.toNat l0_1 a0_0.toNat (List.replicate l0_1.length 0) else some []
end Go.Proofs.Ytljdcinpjnijcaa.Pr
end
section
namespace Go.Proofs.Ytljdcinpjnijcaa.Pr
open Go.RowKit Go.Proofs.YtljdcinpjnijcaaW.PrintWords Go.Proofs.YtljdcinpjnijcaaW.PrintLast Go.Proofs.YtljdcinpjnijcaaW.PrintMore
attribute [local go_sem] max2_int min2_int max_two min_two max_three min_three max_four min_four
set_option linter.unusedVariables false
set_option linter.unusedSimpArgs false
def incC (l : List S34) : List Int → List Int → Option (List Int)
 | o, [] => some o
 | o, k :: x => if 0 ≤ k then if k < (l.length : Int) then if 0 ≤ (rd_T34 l k).f0 then if (rd_T34 l k).f0 < (o.length : Int) then incC l (o.set (rd_T34 l k).f0.toNat (wrap64 (rd o (rd_T34 l k).f0 + 1))) x else none else none else none else none
set_option maxHeartbeats 4000000 in
set_option maxRecDepth 100000 in
theorem HubCount_closure (w0 : World) (go gB gN n cp : Nat) (N : Int) (A0 : Option Addr) (c0 : Nat) (l0 : List S34) (A : Option Addr) (c : Nat) (x o o' : List Int) (W : World) (hr0 : Kd.C k34 w0 A0 l0.length l0) (hx : ∀ W', KeepBut W W' go none → Kd.C (Kd.int .i64) W' A x.length x) (hc : x.length ≤ c) (hb : W.heap[gB]? = some (.cells #[.slice (some ⟨go, 0, none⟩) n cp] 29 (0, 0))) (hbn : W.heap[gN]? = some (.cells #[.int .i64 N, .slice A0 l0.length c0] 25 (0, 0))) (hR : Kd.R (Kd.int .i64) 3 W w0.heap.size (fun _ => True) (.slice (some ⟨go, 0, none⟩) n cp) o) (hne : gB ≠ go) (hneN : gN ≠ go) (hbw : Below w0.heap.size w0 W) (hgo : w0.heap.size ≤ go) (hlx : x.length ≤ 1000) (h1x : 1 ≤ x.length) (hst : incC l0 o (x.drop 1) = some o') :
  Calls Try.prog 65 #[.slice A x.length c, .pointer (some ⟨gB, 0, none⟩), .pointer (some ⟨gN, 0, none⟩)] W fun e w' => e = .returned (.tuple #[]) ∧ (w'.heap[gB]? = some (.cells #[.slice (some ⟨go, 0, none⟩) n cp] 29 (0, 0)) ∧ w'.heap[gN]? = some (.cells #[.int .i64 N, .slice A0 l0.length c0] 25 (0, 0)) ∧ Kd.R (Kd.int .i64) 3 w' w0.heap.size (fun _ => True) (.slice (some ⟨go, 0, none⟩) n cp) o' ∧ Below w0.heap.size w0 w') ∧ KeepBut W w' go none := by
 obtain ⟨i0, hi0, hz0, hsz, hby⟩ := info_parts (P := Try.prog) (e := 3) (z := (.int .i64 0)) (size := 1) (bytes := 8) (by kernel_rfl)
 have hcut := cut_from (P := Try.prog) 29 3 .i64 Try.underlying29 hi0 1 hsz A x.length c 1 (by omega) (by omega)
 have hdl : (x.drop 1).length = x.length - 1 := List.length_drop
 have hx2 : ∀ W', KeepBut W W' go none → Kd.C (Kd.int .i64) W' (if c = 1 then A else A.map (·.add (1 * (Kd.int .i64).sz))) (x.drop 1).length (x.drop 1) := fun W' hk => Kd.C_drop (hx W' hk) (by omega) hc
 have hsz1 : (Kd.int .i64).sz = 1 := rfl
 rw [hsz1] at hx2
 have hcut : ∀ W : World, (Instr.slice 29 (.slice A x.length c) (some (.int .i64 1)) none none).run Try.prog W = .ok (.slice (if c = 1 then A else A.map (·.add (1 * 1))) (x.drop 1).length (c - 1)) W := by intro W; rw [hdl]; exact hcut W
 generalize (if c = 1 then A else A.map (·.add (1 * 1))) = A1 at hx2 hcut
 generalize hy : x.drop 1 = y at hx2 hcut hst
 have hly : y.length ≤ 1000 := by rw [← hy, hdl]; omega
 have HX := Aside0.mk hx2
 have HB := Aside0.mk hb
 have HBN := Aside0.mk hbn
 have HR := Aside0.mk hR
 have HR0 := Aside0.mk hr0
 have HNE := Aside0.mk hne
 have HNN := Aside0.mk hneN
 have HLX := Aside0.mk hly
 have HBW := Aside0.mk hbw
 have HGO := Aside0.mk hgo
 have HST := Aside0.mk hst
 have hu := Try.underlying25
 have hu2 := Try.underlying34
 clear hx hb hbn hR hr0 hne hneN hlx hly hst hbw hgo hx2 hy hdl h1x hc hi0 hz0 hsz hby hsz1
 have HT : Aside0 (Try.prog.underlying 29 = some (.slice (Try.prog.elem 29))) := ⟨by
  have hel : Try.prog.elem 29 = 3 := by simp [Program.elem, Try.underlying29]
  rw [hel]
  exact Try.underlying29⟩
 have HCUT := Aside0.mk hcut
 clear hcut
 go_enter Try.func65, Try.ntmps65
 go_wp2_with (first
  | ((with_reducible refine gate_dst (N := 7) rfl ?_); refine Kd.event_run (w1 := W) (v := .slice A1 y.length (c - 1)) ?hg ?hr ?_; (case hg => rfl); (case hr => unfold execOp; simp only [Act.eval, Array.getD_eq_getD_getElem?, List.getElem?_toArray, List.getElem?_cons_succ, List.getElem?_cons_zero, Option.getD_some, Option.map_some, Option.map_none, Sem.run_bind, run_sliceAt_slice (h := HT.out), HCUT.out, Result.andThen_ok, Sem.run_pure])))
 go_loopg [9] y.length (fun gg s9 wr => ∃ (j : Nat) (o1 : List Int), s9 = .int .i64 (j : Int) ∧ Aside0 (j ≤ y.length) ∧ Aside0 (y.length - j ≤ gg) ∧ Aside0 (Kd.R (Kd.int .i64) 3 wr w0.heap.size (fun _ => True) (.slice (some ⟨go, 0, none⟩) n cp) o1) ∧ Aside0 (wr.heap[gB]? = some (.cells #[.slice (some ⟨go, 0, none⟩) n cp] 29 (0, 0))) ∧ Aside0 (KeepBut W wr go none) ∧ Aside0 (incC l0 o1 (y.drop j) = some o') ∧ Aside0 (Below w0.heap.size w0 wr) ∧ Aside0 (wr.heap[gN]? = some (.cells #[.int .i64 N, .slice A0 l0.length c0] 25 (0, 0))))
 case atStart => exact ⟨0, o, rfl, ⟨by omega⟩, ⟨by omega⟩, HR, HB, ⟨KeepBut.refl _ _ _⟩, HST, HBW, HBN⟩
 case round =>
  clear HR HB HST HBW HBN
  obtain ⟨j, o1, rfl, J0, J1, J2, J3, J4, J5, J6, J7⟩ := hrel
  by_cases hj : j < y.length
  case neg =>
   have c1 : decide ((j : Int) < (y.length : Int)) = false := decide_eq_false (by omega)
   have c2 : decide (j < y.length) = false := decide_eq_false hj
   have hjx : j = y.length := by have := J0.out; omega
   have hs : some o1 = some o' := by have h := J5.out; rw [List.drop_of_length_le (by omega)] at h; exact h
   obtain rfl := Option.some.inj hs
   clear hs hj J5 hjx
   go_wp2
   go_end0
   exact ⟨rfl, ⟨J3.out, J7.out, J2.out, J6.out⟩, J4.out⟩
  have c1 : decide ((j : Int) < (y.length : Int)) = true := decide_eq_true (by omega)
  have c2 : decide (j < y.length) = true := decide_eq_true hj
  have hrd : rd y (j : Int) = y[j] := rd_at hj
  have h5 := J5.out
  rw [List.drop_eq_getElem_cons hj, ← hrd] at h5
  unfold incC at h5
  by_cases b0 : 0 ≤ rd y (j : Int)
  case neg => rw [if_neg b0] at h5; cases h5
  rw [if_pos b0] at h5
  by_cases b1 : rd y (j : Int) < (l0.length : Int)
  case neg => rw [if_neg b1] at h5; cases h5
  rw [if_pos b1] at h5
  obtain ⟨ad, e, hxc⟩ := Kd.at_int (HX.out _ J4.out) (j : Int) (by omega) (by omega)
  cases e
  rw [Int.toNat_natCast] at hxc
  generalize rd y (j : Int) = k at hxc b0 b1 h5
  obtain ⟨ada, ea, hac, _⟩ := at_T34 (Kd.C_below HR0.out (below_drew1 J6.out)) k b0 b1
  cases ea
  generalize (rd_T34 l0 k).f0 = f at hac h5
  by_cases b2 : 0 ≤ f
  case neg => rw [if_neg b2] at h5; cases h5
  rw [if_pos b2] at h5
  by_cases b3 : f < (o1.length : Int)
  case neg => rw [if_neg b3] at h5; cases h5
  rw [if_pos b3] at h5
  have H5 := Aside0.mk h5
  have R2 := Aside0.mk (Kd.R_drew J2.out)
  have R3 := Aside0.mk (blk_drew J3.out)
  have R4 := Aside0.mk (keep_drew J4.out)
  have R6 := Aside0.mk (below_drew1 J6.out)
  have R7 := Aside0.mk (blk_drew J7.out)
  have hl : n = o1.length := (Kd.R_reads' J2.out).1
  have hbc : wr.drew.cell? ⟨gB, 0, none⟩ = some (.slice (some ⟨go, 0, none⟩) n cp) := (blk_cell R3.out 0).trans rfl
  have hnc : wr.drew.cell? ⟨gN, 1, none⟩ = some (.slice (some ada) l0.length c0) := (blk_cell R7.out 1).trans rfl
  obtain ⟨hoc, hof⟩ := Kd.R_celln 0 R2.out f b2 (by rw [hl]; exact b3)
  have hoc : wr.drew.cell? ⟨go, f.toNat, none⟩ = some (.int .i64 (rd o1 f)) := hoc
  have HP := Kd.R_putg R2.out f (wrap64 (rd o1 f + 1))
  have hw : wrap64 ((j : Int) + 1) = ((j + 1 : Nat) : Int) := by have h1 := HLX.out; unfold wrap64; omega
  have HW := Aside0.mk hw
  have p0 := eq_true b0
  have p1 := eq_true b1
  have p4 := eq_true b2
  have p5 : (f < (n : Int)) = True := eq_true (by rw [hl]; exact b3)
  have p2 : ((0 : Int) ≤ (j : Int)) = True := eq_true (by omega)
  have p3 : ((j : Int) < (y.length : Int)) = True := eq_true (by omega)
  have HJ := Aside0.mk hj
  clear hw b0 b1 b2 b3 hj h5 hrd J2 J3 J4 J5 J6 J7 hl
  go_wp2
  go_still_tail 11, (by kernel_rfl)
  change wpList _ _ _ _ _ wr.drew
  generalize wr.drew = w2 at R2 R3 R4 R6 R7 hbc hnc hoc hof hac HP ⊢
  go_wp2_with (first
   | ((with_reducible refine gate_store (t := 3) (p := 23) rfl ?_); refine store_event (t := 3) (p := 23) (v := ?vo_) (w1 := (w2.setCell ⟨go, f.toNat, none⟩ (.int .i64 (wrap64 (rd o1 f + 1))))) ?hg ?ho ?hn ?hr ?_; (case ho => rfl); (case hg => rfl); (case hn => rfl); (case hr => first | (go_simp; done) | (go_simp; rfl) | (go_simp; simp only [i64_w]; rfl)); intro w15 hw15; have hg15 : w2.grownBy w15 (some go) := (by rw [hw15]; exact HP.2); have N2 := Aside0.mk (show Kd.R (Kd.int .i64) 3 w15 w0.heap.size (fun _ => True) (.slice (some ⟨go, 0, none⟩) n cp) (o1.set f.toNat (wrap64 (rd o1 f + 1))) by rw [hw15]; exact HP.1); have N3 := Aside0.mk (blk_grown R3.out hg15 (fun e => HNE.out (Option.some.inj e))); have N7 := Aside0.mk (blk_grown R7.out hg15 (fun e => HNN.out (Option.some.inj e))); have N4 := Aside0.mk (R4.out.trans ⟨hg15.size, fun i hi hig _ => hg15.block i hi (fun e => hig (Option.some.inj e))⟩ (.inl rfl)); have N6 := Aside0.mk (show Below w0.heap.size w0 w15 by rw [hw15]; exact below_set R6.out HGO.out); clear hg15 hw15 HP))
  have hj2 := HJ.out
  go_roundg (y.length - (j + 1))
  case measure => have := J1.out; omega
  case rel => exact ⟨j + 1, _, by first | rfl | (rw [HW.out]; done) | (simp [HW.out]; done), ⟨by omega⟩, ⟨by omega⟩, N2, N3, N4, H5, N6, N7⟩
def stC (l : List S34) (o x : List Int) : Option (List Int) := if x.length ≤ 1000 then if 1 ≤ x.length then incC l o (x.drop 1) else none else none
def impl_HubCount.f (k : Nat) (a0_0 : Int) (l0_1 : List S34) : Option (List Int) := if netOkB a0_0 l0_1 = true then hubAll (stC l0_1) k a0_0.toNat l0_1 a0_0.toNat (List.replicate a0_0.toNat 0) else some []
set_option maxHeartbeats 4000000 in
set_option maxRecDepth 100000 in
theorem impl_HubCount.calls (k : Nat) (a0_0 : Int) (A0_1 : Option Addr) (c0_1 : Nat) (l0_1 : List S34) (r : List Int) (w : World) (p6 : Kd.C k34 w A0_1 l0_1.length l0_1) (p7 : l0_1.length ≤ c0_1) (h : impl_HubCount.f k a0_0 l0_1 = some r) :
  Calls Try.prog 26 #[.agg #[.int .i64 a0_0, .slice A0_1 l0_1.length c0_1]] w fun e w' => ∃ v0_ : Value, e = .returned v0_ ∧ Kd.R (Kd.int .i64) 3 w' w.heap.size (fun _ => True) v0_ r ∧ Below w.heap.size w w' := by
 have hu := Try.underlying25
 have hok := fun (W : World) (hB : Below w.heap.size w W) => impl_NetOk.calls a0_0 A0_1 c0_1 l0_1 (netOkB a0_0 l0_1) W (Kd.C_below p6 hB) p7 rfl
 have HOK := Aside0.mk hok
 clear hok
 cases hb : netOkB a0_0 l0_1 with
 | false =>
  rw [hb] at HOK
  have hr : ([] : List Int) = r := by unfold impl_HubCount.f at h; rw [hb] at h; exact Option.some.inj h
  subst hr
  clear h hb p6
  go_enter Try.func26, Try.ntmps26
  go_wp2_with (first
   | ((with_reducible refine gate_dst (N := 1) rfl ?_); refine box_event ?hg (N := 1) ?hd (cs := #[.int .i64 a0_0, .slice A0_1 l0_1.length c0_1]) (t := 25) ?hr ?_; (case hd => rfl); (case hg => rfl); (case hr => first | (go_simp; done) | (go_simp; rfl)); intro gN hgN w1 hbox hb1; have P2 := Aside0.mk hb1; have q1 : w1.cell? ⟨gN, 0, none⟩ = some (.int .i64 a0_0) := (blk_cell hbox 0).trans rfl; have q2 : w1.cell? ⟨gN, 1, none⟩ = some (.slice A0_1 l0_1.length c0_1) := (blk_cell hbox 1).trans rfl; clear hbox hb1 hgN)
   | (go_at_call 63; refine (HOK.out _ P2.out).mono ?_; rintro e w2 ⟨rfl, hb2⟩; have P3 := Aside0.mk (below_step P2.out hb2); clear hb2))
  go_ret
  exact ⟨_, rfl, Kd.R_nil _ _ _ _ _, P3.out⟩
 | true =>
  rw [hb] at HOK
  have hn := hb
  simp only [netOkB, Bool.and_eq_true, decide_eq_true_eq] at hn
  obtain ⟨N, rfl⟩ := Int.eq_ofNat_of_zero_le (show 0 ≤ a0_0 by omega)
  have hN : N ≤ 64 := by omega
  have hL : l0_1.length ≤ 16 := by omega
  have hall : hubAll (stC l0_1) k N l0_1 N (List.replicate N 0) = some r := by
   unfold impl_HubCount.f at h
   rw [if_pos hb, Int.toNat_natCast] at h
   exact h
  have HALL := Aside0.mk hall
  have HN := Aside0.mk hN
  have HL := Aside0.mk hL
  have HR0 := Aside0.mk p6
  have HC0 := Aside0.mk p7
  clear h hb hn hall hN hL p6 p7
  go_enter Try.func26, Try.ntmps26
  go_wp2_with (first
   | ((with_reducible refine gate_dst (N := 1) rfl ?_); refine box_event ?hg (N := 1) ?hd (cs := #[.int .i64 (N : Int), .slice A0_1 l0_1.length c0_1]) (t := 25) ?hr ?_; (case hd => rfl); (case hg => rfl); (case hr => first | (go_simp; done) | (go_simp; rfl)); intro gN hgN w1 hbox hb1; have P1 := Aside0.mk hbox; have P2 := Aside0.mk hb1; have q1 : w1.cell? ⟨gN, 0, none⟩ = some (.int .i64 (N : Int)) := (blk_cell hbox 0).trans rfl; have q2 : w1.cell? ⟨gN, 1, none⟩ = some (.slice A0_1 l0_1.length c0_1) := (blk_cell hbox 1).trans rfl; clear hbox hb1 hgN)
   | (go_at_call 63; refine (HOK.out _ P2.out).mono ?_; rintro e w2 ⟨rfl, hb2⟩; have P3 := Aside0.mk (below_step P2.out hb2); have P4 := Aside0.mk (blk_below P1.out hb2); clear q1 q2 P1 hb2; have q2 : w2.cell? ⟨gN, 0, none⟩ = some (.int .i64 (N : Int)) := (blk_cell P4.out 0).trans rfl)
   | ((with_reducible refine gate_dst (N := 9) rfl ?_); refine Kd.R_make (Kd.int .i64) (w0 := w) w.heap.size 3 rfl (N := 9) rfl 29 _ _ rfl (N : Int) (by first | rfl | (go_simp; done) | (go_simp; rfl)) (by first | rfl | (go_simp; done) | (go_simp; rfl)) Try.underlying29 (.int .i64 0) 8 info3 rfl (by decide) (by omega) 0 (ok := fun _ => True) (okp := fun _ => True) rfl (fun _ hk => hk) trivial (by omega) (by have := HN.out; omega) P3.out (below_size P3.out) ?_; intro v3 w3 hR hB hG hO; rw [Int.toNat_natCast] at hR; obtain ⟨go, cp, rfl, hgo1, hgo2⟩ := R_head hR (by obtain ⟨b, h1, h2⟩ := hO; exact ⟨b, h1, Nat.le_trans (below_size P3.out) h2⟩); have G1 := Aside0.mk hgo1; have G2 := Aside0.mk hgo2; have Q1 := Aside0.mk hR; have Q2 := Aside0.mk hB; have Q3 := Aside0.mk (blk_grown P4.out hG (by simp)); have Q4 := Aside0.mk (show gN ≠ go by have h1 := blk_lt P4.out; obtain ⟨b, h2, h3⟩ := hO; simp [Value.ownBlock] at h2; omega); clear q2 P4 hR hB hG hO hgo1 hgo2)
   | ((with_reducible refine gate_dst (N := 3) rfl ?_); refine box_event ?hg (N := 3) ?hd (cs := #[.slice none 0 0]) (t := 29) ?hr ?_; (case hd => rfl); (case hg => rfl); (case hr => first | (go_simp; done) | (go_simp; rfl)); intro gB hgB w4 hbox hb4; have B1 := Aside0.mk hbox; have B2 := Aside0.mk (Kd.R_below Q1.out hb4); have B3 := Aside0.mk (below_step Q2.out hb4); have B4 := Aside0.mk (show w.heap.size ≤ gB by rw [hgB]; exact below_size Q2.out); have B5 := Aside0.mk (show gB ≠ go by have := G2.out; omega); have B6 := Aside0.mk (blk_below Q3.out hb4); clear Q1 Q2 Q3 hbox hb4 hgB)
   | ((with_reducible refine gate_store (t := 29) (p := 3) (v := .tmp 9) rfl ?_); refine put_event rfl rfl rfl B1.out 0 #[.slice (some ⟨go, 0, none⟩) (List.replicate N (0 : Int)).length cp] (.slice (some ⟨go, 0, none⟩) (List.replicate N (0 : Int)).length cp) [.slice (some ⟨go, 0, none⟩) (List.replicate N (0 : Int)).length cp] (by first | rfl | (go_simp; done) | (go_simp; rfl)) (by first | rfl | (go_simp; done) | (go_simp; rfl)) rfl (by kernel_rfl) (by simp) (by simp [Value.oneCell']) rfl ?_; intro w5 hc5 hg5; have D1 := Aside0.mk hc5; have D2 := Aside0.mk (Kd.R_mono (Kd.R_grown (Kd.R_types B2.out B1.out (fun q hq => by rcases List.mem_cons.1 hq with rfl | hq; decide; cases hq)) hg5 (fun k hk e => hk.2 (Option.some.inj e))) (ok' := fun _ => True) (fun _ _ => trivial)); have D3 := Aside0.mk (pw_below_grown B3.out _ (below_size B3.out) hg5 (fun k hk => by obtain rfl := Option.some.inj hk; exact B4.out)); have D4 := Aside0.mk (blk_grown B6.out hg5 (fun e => by have h := Option.some.inj e; have hb := B6.out; rw [h, B1.out] at hb; simp at hb)); have D5 := Aside0.mk (Nat.lt_of_lt_of_le (show go < w4.heap.size from Kd.R_lt B2.out go rfl) hg5.size); clear B1 B2 B3 B6 hc5 hg5; have q1 : w5.cell? ⟨gN, 0, none⟩ = some (.int .i64 (N : Int)) := (blk_cell D4.out 0).trans rfl; have q2 : w5.cell? ⟨gN, 1, none⟩ = some (.slice A0_1 l0_1.length c0_1) := (blk_cell D4.out 1).trans rfl)
   | (go_at_call 64; refine (bestWalks_walk (stC l0_1) k N HN.out A0_1 c0_1 l0_1 go 65 #[.pointer (some ⟨gB, 0, none⟩), .pointer (some ⟨gN, 0, none⟩)] (enters_of Try.func65 (by kernel_rfl) rfl) (fun o W => W.heap[gN]? = some (.cells #[.int .i64 (N : Int), .slice A0_1 l0_1.length c0_1] 25 (0, 0)) ∧ W.heap[gB]? = some (.cells #[.slice (some ⟨go, 0, none⟩) (List.replicate N (0 : Int)).length cp] 29 (0, 0)) ∧ Kd.R (Kd.int .i64) 3 W w.heap.size (fun _ => True) (.slice (some ⟨go, 0, none⟩) (List.replicate N (0 : Int)).length cp) o ∧ Below w.heap.size w W) (List.replicate N 0) r w5 D5.out (fun o W h => Kd.C_below HR0.out h.2.2.2) HC0.out ⟨D4.out, D1.out, D2.out, D3.out⟩ (fun o W W1 h hb => ⟨blk_below h.1 hb, blk_below h.2.1 hb, Kd.R_below h.2.2.1 hb, below_step h.2.2.2 hb⟩) ?hcl HALL.out).mono ?_; (case hcl => intro o o' W A c x hk hI hx hc hst; unfold stC at hst; by_cases hlx : x.length ≤ 1000; (case pos => rw [if_pos hlx] at hst; by_cases h1x : 1 ≤ x.length; (case pos => rw [if_pos h1x] at hst; exact (HubCount_closure w go gB gN _ cp (N : Int) A0_1 c0_1 l0_1 A c x o o' W HR0.out hx hc hI.2.1 hI.1 hI.2.2.1 B5.out Q4.out hI.2.2.2 G1.out hlx h1x hst).mono (fun e w' h => ⟨h.1, ⟨h.2.1.2.1, h.2.1.1, h.2.1.2.2.1, h.2.1.2.2.2⟩, h.2.2⟩)); (case neg => rw [if_neg h1x] at hst; cases hst)); (case neg => rw [if_neg hlx] at hst; cases hst)); rintro e w6 ⟨rfl, hI6, hk6⟩; have E1 := Aside0.mk hI6.2.2.1; have E2 := Aside0.mk hI6.2.2.2; clear q1 q2; have q3 : w6.cell? ⟨gB, 0, none⟩ = some (.slice (some ⟨go, 0, none⟩) (List.replicate N (0 : Int)).length cp) := (blk_cell hI6.2.1 0).trans rfl; clear hI6 hk6))
  go_ret
  have hE := E1.out
  rw [List.length_replicate] at hE
  exact ⟨_, rfl, hE, E2.out⟩
end Go.Proofs.Ytljdcinpjnijcaa.Pr
end
section
namespace Go.Proofs.Ytljdcinpjnijcaa.Pr
open Go.RowKit Go.Proofs.YtljdcinpjnijcaaW.PrintWords Go.Proofs.YtljdcinpjnijcaaW.PrintLast Go.Proofs.YtljdcinpjnijcaaW.PrintMore
attribute [local go_sem] max2_int min2_int max_two min_two max_three min_three max_four min_four
set_option linter.unusedVariables false
set_option linter.unusedSimpArgs false
def laws_wkInts.l0 : Nat → List Int → List Int → Int → Option (Bool)
 | 0, _, _, _ => none
 | k + 1, x0, x1, x5 => if x5 < (x0.length : Int) then (if 0 ≤ x5 then (if x5 < (x1.length : Int) then (if (rd x0 x5) = (rd x1 x5) then (laws_wkInts.l0 k x0 x1 (wrap64 (x5 + 1))) else (some false)) else (none)) else (none)) else (some true)
def laws_wkInts.f (k : Nat) (l0 : List Int) (l1 : List Int) : Option (Bool) := if (l0.length : Int) = (l1.length : Int) then (laws_wkInts.l0 k l0 l1 0) else (some false)
set_option maxHeartbeats 8000000 in
set_option maxRecDepth 100000 in
theorem laws_wkInts.calls (k : Nat) (A0 : Option Addr) (c0 : Nat) (l0 : List Int) (A1 : Option Addr) (c1 : Nat) (l1 : List Int) (r : Bool) (w : World) (hr0 : Kd.C (Kd.int .i64) w A0 l0.length l0) (hc0 : l0.length ≤ c0) (hr1 : Kd.C (Kd.int .i64) w A1 l1.length l1) (hc1 : l1.length ≤ c1) (h : laws_wkInts.f k l0 l1 = some r) :
  Calls Try.prog 27 #[.slice A0 l0.length c0, .slice A1 l1.length c1] w fun e w' => e = .returned (.bool r) ∧ Drawn0 w w' := by
 have HR0 := Aside0.mk hr0
 have HC0 := Aside0.mk hc0
 clear hr0 hc0
 have HR1 := Aside0.mk hr1
 have HC1 := Aside0.mk hc1
 clear hr1 hc1
 have H : (if (l0.length : Int) = (l1.length : Int) then (laws_wkInts.l0 k l0 l1 0) else (some false)) = some r := h
 clear h
 by_cases c3 : (l0.length : Int) = (l1.length : Int)
 case neg =>
  rw [if_neg c3] at H
  have c3b0 : ((l0.length : Int) == (l1.length : Int)) = false := beq_eq_false_iff_ne.mpr c3
  have c3b1 : ((l0.length : Int) != (l1.length : Int)) = true := bne_iff_ne.mpr c3
  have c3b2 : (l0.length == l1.length) = false := by first | simpa using c3 | (simp at c3 ⊢; omega)
  obtain rfl := Option.some.inj H
  go_enter Try.func27, Try.ntmps27
  go_wp2
  repeat (go_quiet (fail); try go_wp2)
  go_ret
  exact ⟨by first | rfl | (simp; done) | (simp [*]; done), by repeat (first | exact Drawn0.refl _ | apply Drawn0.step)⟩
 rw [if_pos c3] at H
 have c3b0 : ((l0.length : Int) == (l1.length : Int)) = true := beq_iff_eq.mpr c3
 have c3b1 : ((l0.length : Int) != (l1.length : Int)) = false := bne_eq_false_iff_eq.mpr c3
 have c3b2 : (l0.length == l1.length) = true := by first | simpa using c3 | (simp at c3 ⊢; omega)
 clear c3
 have H' := Aside0.mk H
 clear H
 go_enter Try.func27, Try.ntmps27
 go_wp2
 repeat (go_quiet (fail); try go_wp2)
 go_loopg [5] k (fun kq v5 w' => ∃ (x5_1 : Int), v5 = .int .i64 x5_1 ∧ Aside0 (laws_wkInts.l0 kq l0 l1 x5_1 = some r) ∧ Aside0 (kq ≤ k) ∧ Drawn0 w w')
 case atStart => exact ⟨(0), (by first | rfl | (simp; done) | (simp [*]; done)), H', ⟨Nat.le_refl _⟩, by repeat (first | exact Drawn0.refl _ | apply Drawn0.step)⟩
 case round =>
  clear H'
  try clear c1
  try clear c2
  try clear p2
  try clear c3
  try clear c3b0
  try clear c3b1
  try clear c3b2
  obtain ⟨x5_1, rfl, HA, HK1, ⟨m1, rfl⟩⟩ := hrel
  cases gk with
  | zero => exact absurd HA.out (by simp [laws_wkInts.l0])
  | succ k1 =>
   have H := HA.out
   clear HA
   simp only [laws_wkInts.l0] at H
   by_cases c4 : x5_1 < (l0.length : Int)
   case neg =>
    rw [if_neg c4] at H
    have c4b0 : decide (x5_1 < (l0.length : Int)) = false := decide_eq_false c4
    clear c4
    obtain rfl := Option.some.inj H
    go_wp2
    repeat (go_quiet (fail); try go_wp2)
    go_ret
    exact ⟨by first | rfl | (simp; done) | (simp [*]; done), by repeat (first | exact Drawn0.refl _ | apply Drawn0.step)⟩
   rw [if_pos c4] at H
   have c4b0 : decide (x5_1 < (l0.length : Int)) = true := decide_eq_true c4
   clear c4
   by_cases c5 : 0 ≤ x5_1
   case neg =>
    rw [if_neg c5] at H
    exact absurd H (by simp)
   rw [if_pos c5] at H
   have c5b0 : decide (0 ≤ x5_1) = true := decide_eq_true c5
   clear c5
   by_cases c6 : x5_1 < (l1.length : Int)
   case neg =>
    rw [if_neg c6] at H
    exact absurd H (by simp)
   rw [if_pos c6] at H
   have c6b0 : decide (x5_1 < (l1.length : Int)) = true := decide_eq_true c6
   clear c6
   by_cases c7 : (rd l0 x5_1) = (rd l1 x5_1)
   case neg =>
    rw [if_neg c7] at H
    have c7b0 : ((rd l0 x5_1) == (rd l1 x5_1)) = false := beq_eq_false_iff_ne.mpr c7
    have c7b1 : ((rd l0 x5_1) != (rd l1 x5_1)) = true := bne_iff_ne.mpr c7
    obtain rfl := Option.some.inj H
    have p527 : 0 ≤ (x5_1 : Int) := of_decide_eq_true (by first | (with_reducible assumption) | assumption)
    have q527 : x5_1 < (l0.length : Int) := of_decide_eq_true (by first | (with_reducible assumption) | assumption)
    obtain ⟨ad527, e527, p0⟩ := Kd.at_int HR0.out x5_1 p527 q527
    cases e527
    replace p527 := eq_true p527
    replace q527 := eq_true q527
    have p528 : 0 ≤ (x5_1 : Int) := of_decide_eq_true (by first | (with_reducible assumption) | assumption)
    have q528 : x5_1 < (l1.length : Int) := of_decide_eq_true (by first | (with_reducible assumption) | assumption)
    obtain ⟨ad528, e528, p1⟩ := Kd.at_int HR1.out x5_1 p528 q528
    cases e528
    replace p528 := eq_true p528
    replace q528 := eq_true q528
    go_wp2
    repeat (go_quiet (fail); try go_wp2)
    go_ret
    exact ⟨by first | rfl | (simp; done) | (simp [*]; done), by repeat (first | exact Drawn0.refl _ | apply Drawn0.step)⟩
   rw [if_pos c7] at H
   have c7b0 : ((rd l0 x5_1) == (rd l1 x5_1)) = true := beq_iff_eq.mpr c7
   have c7b1 : ((rd l0 x5_1) != (rd l1 x5_1)) = false := bne_eq_false_iff_eq.mpr c7
   clear c7
   have H' := Aside0.mk H
   clear H
   have p527 : 0 ≤ (x5_1 : Int) := of_decide_eq_true (by first | (with_reducible assumption) | assumption)
   have q527 : x5_1 < (l0.length : Int) := of_decide_eq_true (by first | (with_reducible assumption) | assumption)
   obtain ⟨ad527, e527, p0⟩ := Kd.at_int HR0.out x5_1 p527 q527
   cases e527
   replace p527 := eq_true p527
   replace q527 := eq_true q527
   have p528 : 0 ≤ (x5_1 : Int) := of_decide_eq_true (by first | (with_reducible assumption) | assumption)
   have q528 : x5_1 < (l1.length : Int) := of_decide_eq_true (by first | (with_reducible assumption) | assumption)
   obtain ⟨ad528, e528, p1⟩ := Kd.at_int HR1.out x5_1 p528 q528
   cases e528
   replace p528 := eq_true p528
   replace q528 := eq_true q528
   go_wp2
   repeat (go_quiet (fail); try go_wp2)
   go_roundg k1
   case measure => have := HK1.out; omega
   case rel => exact ⟨(wrap64 (x5_1 + 1)), (by first | rfl | (simp; done) | (simp [*]; done)), H', ⟨by have := HK1.out; omega⟩, by repeat (first | exact Drawn0.refl _ | apply Drawn0.step)⟩
end Go.Proofs.Ytljdcinpjnijcaa.Pr
end
section
namespace Go.Proofs.Ytljdcinpjnijcaa.Pr
open Go.RowKit Go.Proofs.YtljdcinpjnijcaaW.PrintWords Go.Proofs.YtljdcinpjnijcaaW.PrintLast Go.Proofs.YtljdcinpjnijcaaW.PrintMore
attribute [local go_sem] max2_int min2_int max_two min_two max_three min_three max_four min_four
set_option linter.unusedVariables false
set_option linter.unusedSimpArgs false
def spec_l1In.f (a0 : Int) (a1 : Int) (a2 : Int) : Option (Bool) := if a0 ≥ a1 then (some (decide (a0 ≤ a2))) else (some false)
set_option maxHeartbeats 8000000 in
set_option maxRecDepth 100000 in
theorem spec_l1In.calls (a0 : Int) (a1 : Int) (a2 : Int) (r : Bool) (w : World) (h : spec_l1In.f a0 a1 a2 = some r) :
  Calls Try.prog 54 #[.int .i64 a0, .int .i64 a1, .int .i64 a2] w fun e w' => e = .returned (.bool r) ∧ Drawn0 w w' := by
 have H : (if a0 ≥ a1 then (some (decide (a0 ≤ a2))) else (some false)) = some r := h
 clear h
 by_cases c4 : a0 ≥ a1
 case pos =>
  rw [if_pos c4] at H
  have c4b0 : decide (a1 ≤ a0) = true := decide_eq_true c4
  clear c4
  obtain rfl := Option.some.inj H
  go_enter Try.func54, Try.ntmps54
  go_wp2
  go_ret
  exact ⟨by first | rfl | (simp; done) | (simp [*]; done), by repeat (first | exact Drawn0.refl _ | apply Drawn0.step)⟩
 rw [if_neg c4] at H
 have c4b0 : decide (a1 ≤ a0) = false := decide_eq_false c4
 clear c4
 obtain rfl := Option.some.inj H
 go_enter Try.func54, Try.ntmps54
 go_wp2
 go_ret
 exact ⟨by first | rfl | (simp; done) | (simp [*]; done), by repeat (first | exact Drawn0.refl _ | apply Drawn0.step)⟩
end Go.Proofs.Ytljdcinpjnijcaa.Pr
end
section
namespace Go.Proofs.Ytljdcinpjnijcaa.Pr
open Go.RowKit Go.Proofs.YtljdcinpjnijcaaW.PrintWords Go.Proofs.YtljdcinpjnijcaaW.PrintLast Go.Proofs.YtljdcinpjnijcaaW.PrintMore
attribute [local go_sem] max2_int min2_int max_two min_two max_three min_three max_four min_four
set_option linter.unusedVariables false
set_option linter.unusedSimpArgs false
def spec_l1Ok.l0 : Nat → Int → Int → List (S34) → Option (Bool)
 | 0, _, _, _ => none
 | k + 1, x3, q6, q3 => if x3 < (q3.length : Int) then (if 0 ≤ x3 then ((spec_l1In.f ((rd_T34 q3 x3).f0) 0 (wrap64 (q6 - 1))).bind fun t266 => (if t266 = true then ((spec_l1In.f ((rd_T34 q3 x3).f1) 0 (wrap64 (q6 - 1))).bind fun t267 => (if t267 = true then (if ((rd_T34 q3 x3).f0) = ((rd_T34 q3 x3).f1) then (some false) else ((spec_l1In.f ((rd_T34 q3 x3).f2) 0 99).bind fun t268 => (if t268 = true then ((spec_l1In.f ((rd_T34 q3 x3).f3) 0 99).bind fun t269 => (if t269 = true then ((spec_l1In.f ((rd_T34 q3 x3).f4) 0 9).bind fun t270 => (if t270 = true then (spec_l1Ok.l0 k (wrap64 (x3 + 1)) q6 q3) else (some false))) else (some false))) else (some false)))) else (some false))) else (some false))) else (none)) else ((spec_l1In.f q6 1 8).bind fun t263 => (if t263 = true then (some (decide ((q3.length : Int) ≤ 16))) else (some false)))
def spec_l1Ok.f (k : Nat) (a0_0 : Int) (l0_1 : List (S34)) : Option (Bool) := spec_l1Ok.l0 k 0 a0_0 l0_1
set_option maxHeartbeats 8000000 in
set_option maxRecDepth 100000 in
theorem spec_l1Ok.calls (k : Nat) (a0_0 : Int) (A0_1 : Option Addr) (c0_1 : Nat) (l0_1 : List (S34)) (r : Bool) (w : World) (hr0_1 : Kd.C k34 w A0_1 l0_1.length l0_1) (hc0_1 : l0_1.length ≤ c0_1) (h : spec_l1Ok.f k a0_0 l0_1 = some r) :
  Calls Try.prog 53 #[.agg #[.int .i64 a0_0, .slice A0_1 l0_1.length c0_1]] w fun e w' => e = .returned (.bool r) ∧ Below w.heap.size w w' := by
 have hu25 := Try.underlying25
 have hu34 := Try.underlying34
 have q7 := Aside0.mk hr0_1
 have HC0_1 := Aside0.mk hc0_1
 clear hr0_1 hc0_1
 have HB := Aside0.mk (Below.refl w.heap.size w)
 have H : (spec_l1Ok.l0 k 0 a0_0 l0_1) = some r := h
 clear h
 have H' := Aside0.mk H
 clear H
 go_enter Try.func53, Try.ntmps53
 go_wp2_with (first | ((with_reducible refine gate_dst (N := 1) rfl ?_); (try (refine gate_guard (by rfl) ?_; dsimp only)); refine box_event ?hg (N := 1) ?hd (cs := #[.int .i64 a0_0, .slice A0_1 l0_1.length c0_1]) (t := 25) ?hr ?_; (case hd => rfl); (case hg => rfl); (case hr => first | (go_simp; done) | (go_simp; rfl)); intro p3 hg w2 hbox hb; have n0_ := Aside0.mk (below_step HB.out hb); have n1_ := Aside0.mk (hbox); have n2_ := Aside0.mk ((by rw [hg]; exact (below_size HB.out) : w.heap.size ≤ p3)); have n3_ := Aside0.mk ((by rw [hg]; exact (below_size HB.out) : w.heap.size ≤ p3)); clear HB; have HB := n0_; have p0 := n1_; have GW262 := n2_; have q5 := n3_; clear n0_ n1_ n2_ n3_; clear hb hbox hg))
 go_loopg [3] k (fun kq v3 w' => ∃ (x3_1 : Int), v3 = .int .i64 x3_1 ∧ Aside0 (spec_l1Ok.l0 kq x3_1 a0_0 l0_1 = some r) ∧ Aside0 (kq ≤ k) ∧ Aside0 (w'.heap[p3]? = some (.cells #[.int .i64 a0_0, (.slice A0_1 l0_1.length c0_1)] 25 (0, 0))) ∧ Aside0 (Below w.heap.size w w'))
 case atStart => exact ⟨(0), (by first | rfl | (simp; done) | (simp [*]; done)), H', ⟨Nat.le_refl _⟩, ⟨by exact p0.out⟩, ⟨by repeat (first | (with_reducible first | exact HB.out | apply below_alloc | apply pw_below_drewN | apply below_drew1 | refine below_set ?_ q5.out) | exact HB.out)⟩⟩
 case round =>
  clear H'
  try clear p2
  obtain ⟨x3_1, rfl, HA, HK1, p0, HB⟩ := hrel
  cases gk with
  | zero => exact absurd HA.out (by simp [spec_l1Ok.l0])
  | succ k1 =>
   have H := HA.out
   clear HA
   simp only [spec_l1Ok.l0] at H
   by_cases c3 : x3_1 < (l0_1.length : Int)
   case neg =>
    rw [if_neg c3] at H
    have c3b0 : decide (x3_1 < (l0_1.length : Int)) = false := decide_eq_false c3
    clear c3
    replace H := Option.bind_eq_some_iff.mp H
    obtain ⟨t263, A510, H⟩ := H
    replace H : (if t263 = true then (some (decide ((l0_1.length : Int) ≤ 16))) else (some false)) = some r := H
    have A51 := Aside0.mk A510
    clear A510
    by_cases c52 : t263 = true
    case pos =>
     subst c52
     have H1 : (some (decide ((l0_1.length : Int) ≤ 16))) = some r := by rw [if_pos rfl] at H; exact H
     clear H
     have H := H1
     clear H1
     obtain rfl := Option.some.inj H
     have hcz53_0 : wr.cell? ⟨p3, 0, none⟩ = some (.int .i64 a0_0) := (blk_cell p0.out 0).trans rfl
     have hcz53_1 : wr.cell? ⟨p3, 1, none⟩ = some (.slice A0_1 l0_1.length c0_1) := (blk_cell p0.out 1).trans rfl
     have hfz53_0 := blk_frozen p0.out 0
     have hfz53_1 := blk_frozen p0.out 1
     go_wp2_with (first | ((with_reducible refine gate_callee (f := 54) rfl ?_); refine goesL_ (some 60) rfl rfl Try.func54 (by kernel_rfl) rfl #[.int .i64 a0_0, .int .i64 1, .int .i64 8] rfl (by (try simp only [List.map_toArray, List.map_cons, List.map_nil]); first | done | rfl | (simp only [List.length_drop, List.length_take]; rfl)) ?_; (with_reducible refine (spec_l1In.calls a0_0 1 8 true _ A51.out).mono ?_); rintro e w' ⟨rfl, ⟨nd, rfl⟩⟩; refine ⟨_, rfl, ?_⟩))
     go_ret
     exact ⟨by first | rfl | (simp [errW_none, errW_some] <;> rfl) | (simp [*, errW_none, errW_some] <;> rfl), by repeat (first | (with_reducible first | exact HB.out | apply below_alloc | apply pw_below_drewN | apply below_drew1 | refine below_set ?_ q5.out) | exact HB.out)⟩
    replace c52 := Bool.eq_false_iff.mpr c52
    subst c52
    have H1 : (some false) = some r := by rw [if_neg (show ¬ (false = true) by decide)] at H; exact H
    clear H
    have H := H1
    clear H1
    obtain rfl := Option.some.inj H
    have hcz54_0 : wr.cell? ⟨p3, 0, none⟩ = some (.int .i64 a0_0) := (blk_cell p0.out 0).trans rfl
    have hcz54_1 : wr.cell? ⟨p3, 1, none⟩ = some (.slice A0_1 l0_1.length c0_1) := (blk_cell p0.out 1).trans rfl
    have hfz54_0 := blk_frozen p0.out 0
    have hfz54_1 := blk_frozen p0.out 1
    go_wp2_with (first | ((with_reducible refine gate_callee (f := 54) rfl ?_); refine goesL_ (some 60) rfl rfl Try.func54 (by kernel_rfl) rfl #[.int .i64 a0_0, .int .i64 1, .int .i64 8] rfl (by (try simp only [List.map_toArray, List.map_cons, List.map_nil]); first | done | rfl | (simp only [List.length_drop, List.length_take]; rfl)) ?_; (with_reducible refine (spec_l1In.calls a0_0 1 8 false _ A51.out).mono ?_); rintro e w' ⟨rfl, ⟨nd, rfl⟩⟩; refine ⟨_, rfl, ?_⟩))
    go_ret
    exact ⟨by first | rfl | (simp [errW_none, errW_some] <;> rfl) | (simp [*, errW_none, errW_some] <;> rfl), by repeat (first | (with_reducible first | exact HB.out | apply below_alloc | apply pw_below_drewN | apply below_drew1 | refine below_set ?_ q5.out) | exact HB.out)⟩
   rw [if_pos c3] at H
   have c3b0 : decide (x3_1 < (l0_1.length : Int)) = true := decide_eq_true c3
   clear c3
   by_cases c4 : 0 ≤ x3_1
   case neg =>
    rw [if_neg c4] at H
    exact absurd H (by simp)
   rw [if_pos c4] at H
   have c4b0 : decide (0 ≤ x3_1) = true := decide_eq_true c4
   clear c4
   replace H := Option.bind_eq_some_iff.mp H
   obtain ⟨t266, A50, H⟩ := H
   replace H : (if t266 = true then ((spec_l1In.f ((rd_T34 l0_1 x3_1).f1) 0 (wrap64 (a0_0 - 1))).bind fun t267 => (if t267 = true then (if ((rd_T34 l0_1 x3_1).f0) = ((rd_T34 l0_1 x3_1).f1) then (some false) else ((spec_l1In.f ((rd_T34 l0_1 x3_1).f2) 0 99).bind fun t268 => (if t268 = true then ((spec_l1In.f ((rd_T34 l0_1 x3_1).f3) 0 99).bind fun t269 => (if t269 = true then ((spec_l1In.f ((rd_T34 l0_1 x3_1).f4) 0 9).bind fun t270 => (if t270 = true then (spec_l1Ok.l0 k1 (wrap64 (x3_1 + 1)) a0_0 l0_1) else (some false))) else (some false))) else (some false)))) else (some false))) else (some false)) = some r := H
   have A5 := Aside0.mk A50
   clear A50
   by_cases c6 : t266 = true
   case neg =>
    replace c6 := Bool.eq_false_iff.mpr c6
    subst c6
    have H1 : (some false) = some r := by rw [if_neg (show ¬ (false = true) by decide)] at H; exact H
    clear H
    have H := H1
    clear H1
    obtain rfl := Option.some.inj H
    have hcz46_0 : wr.cell? ⟨p3, 0, none⟩ = some (.int .i64 a0_0) := (blk_cell p0.out 0).trans rfl
    have hcz46_1 : wr.cell? ⟨p3, 1, none⟩ = some (.slice A0_1 l0_1.length c0_1) := (blk_cell p0.out 1).trans rfl
    have hfz46_0 := blk_frozen p0.out 0
    have hfz46_1 := blk_frozen p0.out 1
    have p264 : 0 ≤ (x3_1 : Int) := of_decide_eq_true (by first | (with_reducible assumption) | assumption)
    have q264 : x3_1 < (l0_1.length : Int) := of_decide_eq_true (by first | (with_reducible assumption) | assumption)
    obtain ⟨q1, e264, p5, p6, p7, p8, p9⟩ := at_T34 q7.out x3_1 p264 q264
    cases e264
    replace p5 := (HB.out.cell (World.block_lt_of_cell? w _ p5)).trans p5
    replace p6 := (HB.out.cell (World.block_lt_of_cell? w _ p6)).trans p6
    replace p7 := (HB.out.cell (World.block_lt_of_cell? w _ p7)).trans p7
    replace p8 := (HB.out.cell (World.block_lt_of_cell? w _ p8)).trans p8
    replace p9 := (HB.out.cell (World.block_lt_of_cell? w _ p9)).trans p9
    replace p264 := eq_true p264
    replace q264 := eq_true q264
    go_wp2_with (first | ((with_reducible refine gate_dst (N := 4) rfl ?_); (try (refine gate_guard (by rfl) ?_; dsimp only)); refine box_event ?hg (N := 4) ?hd (cs := #[.int .i64 0, .int .i64 0, .int .i64 0, .int .i64 0, .int .i64 0]) (t := 34) ?hr ?_; (case hd => rfl); (case hg => rfl); (case hr => first | (go_simp; done) | (go_simp; rfl)); intro p4 hg w47 hbox hb; have n0_ := Aside0.mk (blk_below (g := p3) (o := .cells #[.int .i64 a0_0, .slice (some q1) l0_1.length c0_1] 25 (0, 0)) p0.out hb); have n1_ := Aside0.mk (below_step HB.out hb); have n2_ := Aside0.mk (hbox); have n3_ := Aside0.mk ((by rw [hg]; exact (below_size HB.out) : w.heap.size ≤ p4)); have n4_ := Aside0.mk ((by rw [hg]; exact (below_size HB.out) : w.heap.size ≤ p4)); have n5_ := Aside0.mk ((by rw [hg]; exact Nat.ne_of_lt (blk_lt (g := p3) (o := .cells #[.int .i64 a0_0, .slice (some q1) l0_1.length c0_1] 25 (0, 0)) p0.out) : p3 ≠ p4)); have n6_ := Aside0.mk ((by rw [hg]; exact Nat.ne_of_gt (blk_lt (g := p3) (o := .cells #[.int .i64 a0_0, .slice (some q1) l0_1.length c0_1] 25 (0, 0)) p0.out) : p4 ≠ p3)); clear p0; clear HB; have p0 := n0_; have HB := n1_; have p1 := n2_; have q8 := n3_; have q4 := n4_; have q0 := n5_; have q2 := n6_; clear n0_ n1_ n2_ n3_ n4_ n5_ n6_; clear hb hbox hg; have hnb48 := q2.out; have hnc48 := q0.out; have hcz49_0 : w47.cell? ⟨p4, 0, none⟩ = some (.int .i64 0) := (blk_cell p1.out 0).trans rfl; have hcz49_1 : w47.cell? ⟨p4, 1, none⟩ = some (.int .i64 0) := (blk_cell p1.out 1).trans rfl; have hcz49_2 : w47.cell? ⟨p4, 2, none⟩ = some (.int .i64 0) := (blk_cell p1.out 2).trans rfl; have hcz49_3 : w47.cell? ⟨p4, 3, none⟩ = some (.int .i64 0) := (blk_cell p1.out 3).trans rfl; have hcz49_4 : w47.cell? ⟨p4, 4, none⟩ = some (.int .i64 0) := (blk_cell p1.out 4).trans rfl; have hfz49_0 := blk_frozen p1.out 0; have hfz49_1 := blk_frozen p1.out 1; have hfz49_2 := blk_frozen p1.out 2; have hfz49_3 := blk_frozen p1.out 3; have hfz49_4 := blk_frozen p1.out 4; have hcz50_0 : w47.cell? ⟨p3, 0, none⟩ = some (.int .i64 a0_0) := (blk_cell p0.out 0).trans rfl; have hcz50_1 : w47.cell? ⟨p3, 1, none⟩ = some (.slice (some q1) l0_1.length c0_1) := (blk_cell p0.out 1).trans rfl; have hfz50_0 := blk_frozen p0.out 0; have hfz50_1 := blk_frozen p0.out 1) | ((with_reducible refine gate_callee (f := 54) rfl ?_); refine goesL_ (some 22) rfl rfl Try.func54 (by kernel_rfl) rfl #[.int .i64 ((rd_T34 l0_1 x3_1).f0), .int .i64 0, .int .i64 (wrap64 (a0_0 - 1))] rfl (by (try simp only [List.map_toArray, List.map_cons, List.map_nil]); first | done | rfl | (simp only [List.length_drop, List.length_take]; rfl)) ?_; (with_reducible refine (spec_l1In.calls ((rd_T34 l0_1 x3_1).f0) 0 (wrap64 (a0_0 - 1)) false _ A5.out).mono ?_); rintro e w' ⟨rfl, ⟨nd, rfl⟩⟩; refine ⟨_, rfl, ?_⟩))
    go_ret
    exact ⟨by first | rfl | (simp [errW_none, errW_some] <;> rfl) | (simp [*, errW_none, errW_some] <;> rfl), by repeat (first | (with_reducible first | exact HB.out | apply below_alloc | apply pw_below_drewN | apply below_drew1 | refine below_set ?_ q5.out | refine below_set ?_ q4.out) | exact HB.out)⟩
   subst c6
   have H1 : ((spec_l1In.f ((rd_T34 l0_1 x3_1).f1) 0 (wrap64 (a0_0 - 1))).bind fun t267 => (if t267 = true then (if ((rd_T34 l0_1 x3_1).f0) = ((rd_T34 l0_1 x3_1).f1) then (some false) else ((spec_l1In.f ((rd_T34 l0_1 x3_1).f2) 0 99).bind fun t268 => (if t268 = true then ((spec_l1In.f ((rd_T34 l0_1 x3_1).f3) 0 99).bind fun t269 => (if t269 = true then ((spec_l1In.f ((rd_T34 l0_1 x3_1).f4) 0 9).bind fun t270 => (if t270 = true then (spec_l1Ok.l0 k1 (wrap64 (x3_1 + 1)) a0_0 l0_1) else (some false))) else (some false))) else (some false)))) else (some false))) = some r := by rw [if_pos rfl] at H; exact H
   clear H
   have H := H1
   clear H1
   replace H := Option.bind_eq_some_iff.mp H
   obtain ⟨t267, A70, H⟩ := H
   replace H : (if t267 = true then (if ((rd_T34 l0_1 x3_1).f0) = ((rd_T34 l0_1 x3_1).f1) then (some false) else ((spec_l1In.f ((rd_T34 l0_1 x3_1).f2) 0 99).bind fun t268 => (if t268 = true then ((spec_l1In.f ((rd_T34 l0_1 x3_1).f3) 0 99).bind fun t269 => (if t269 = true then ((spec_l1In.f ((rd_T34 l0_1 x3_1).f4) 0 9).bind fun t270 => (if t270 = true then (spec_l1Ok.l0 k1 (wrap64 (x3_1 + 1)) a0_0 l0_1) else (some false))) else (some false))) else (some false)))) else (some false)) = some r := H
   have A7 := Aside0.mk A70
   clear A70
   by_cases c8 : t267 = true
   case neg =>
    replace c8 := Bool.eq_false_iff.mpr c8
    subst c8
    have H1 : (some false) = some r := by rw [if_neg (show ¬ (false = true) by decide)] at H; exact H
    clear H
    have H := H1
    clear H1
    obtain rfl := Option.some.inj H
    have hcz41_0 : wr.cell? ⟨p3, 0, none⟩ = some (.int .i64 a0_0) := (blk_cell p0.out 0).trans rfl
    have hcz41_1 : wr.cell? ⟨p3, 1, none⟩ = some (.slice A0_1 l0_1.length c0_1) := (blk_cell p0.out 1).trans rfl
    have hfz41_0 := blk_frozen p0.out 0
    have hfz41_1 := blk_frozen p0.out 1
    have p264 : 0 ≤ (x3_1 : Int) := of_decide_eq_true (by first | (with_reducible assumption) | assumption)
    have q264 : x3_1 < (l0_1.length : Int) := of_decide_eq_true (by first | (with_reducible assumption) | assumption)
    obtain ⟨q1, e264, p5, p6, p7, p8, p9⟩ := at_T34 q7.out x3_1 p264 q264
    cases e264
    replace p5 := (HB.out.cell (World.block_lt_of_cell? w _ p5)).trans p5
    replace p6 := (HB.out.cell (World.block_lt_of_cell? w _ p6)).trans p6
    replace p7 := (HB.out.cell (World.block_lt_of_cell? w _ p7)).trans p7
    replace p8 := (HB.out.cell (World.block_lt_of_cell? w _ p8)).trans p8
    replace p9 := (HB.out.cell (World.block_lt_of_cell? w _ p9)).trans p9
    replace p264 := eq_true p264
    replace q264 := eq_true q264
    go_wp2_with (first | ((with_reducible refine gate_dst (N := 4) rfl ?_); (try (refine gate_guard (by rfl) ?_; dsimp only)); refine box_event ?hg (N := 4) ?hd (cs := #[.int .i64 0, .int .i64 0, .int .i64 0, .int .i64 0, .int .i64 0]) (t := 34) ?hr ?_; (case hd => rfl); (case hg => rfl); (case hr => first | (go_simp; done) | (go_simp; rfl)); intro p4 hg w42 hbox hb; have n0_ := Aside0.mk (blk_below (g := p3) (o := .cells #[.int .i64 a0_0, .slice (some q1) l0_1.length c0_1] 25 (0, 0)) p0.out hb); have n1_ := Aside0.mk (below_step HB.out hb); have n2_ := Aside0.mk (hbox); have n3_ := Aside0.mk ((by rw [hg]; exact (below_size HB.out) : w.heap.size ≤ p4)); have n4_ := Aside0.mk ((by rw [hg]; exact (below_size HB.out) : w.heap.size ≤ p4)); have n5_ := Aside0.mk ((by rw [hg]; exact Nat.ne_of_lt (blk_lt (g := p3) (o := .cells #[.int .i64 a0_0, .slice (some q1) l0_1.length c0_1] 25 (0, 0)) p0.out) : p3 ≠ p4)); have n6_ := Aside0.mk ((by rw [hg]; exact Nat.ne_of_gt (blk_lt (g := p3) (o := .cells #[.int .i64 a0_0, .slice (some q1) l0_1.length c0_1] 25 (0, 0)) p0.out) : p4 ≠ p3)); clear p0; clear HB; have p0 := n0_; have HB := n1_; have p1 := n2_; have q8 := n3_; have q4 := n4_; have q0 := n5_; have q2 := n6_; clear n0_ n1_ n2_ n3_ n4_ n5_ n6_; clear hb hbox hg; have hnb43 := q2.out; have hnc43 := q0.out; have hcz44_0 : w42.cell? ⟨p4, 0, none⟩ = some (.int .i64 0) := (blk_cell p1.out 0).trans rfl; have hcz44_1 : w42.cell? ⟨p4, 1, none⟩ = some (.int .i64 0) := (blk_cell p1.out 1).trans rfl; have hcz44_2 : w42.cell? ⟨p4, 2, none⟩ = some (.int .i64 0) := (blk_cell p1.out 2).trans rfl; have hcz44_3 : w42.cell? ⟨p4, 3, none⟩ = some (.int .i64 0) := (blk_cell p1.out 3).trans rfl; have hcz44_4 : w42.cell? ⟨p4, 4, none⟩ = some (.int .i64 0) := (blk_cell p1.out 4).trans rfl; have hfz44_0 := blk_frozen p1.out 0; have hfz44_1 := blk_frozen p1.out 1; have hfz44_2 := blk_frozen p1.out 2; have hfz44_3 := blk_frozen p1.out 3; have hfz44_4 := blk_frozen p1.out 4; have hcz45_0 : w42.cell? ⟨p3, 0, none⟩ = some (.int .i64 a0_0) := (blk_cell p0.out 0).trans rfl; have hcz45_1 : w42.cell? ⟨p3, 1, none⟩ = some (.slice (some q1) l0_1.length c0_1) := (blk_cell p0.out 1).trans rfl; have hfz45_0 := blk_frozen p0.out 0; have hfz45_1 := blk_frozen p0.out 1) | ((with_reducible refine gate_callee (f := 54) rfl ?_); refine goesL_ (some 22) rfl rfl Try.func54 (by kernel_rfl) rfl #[.int .i64 ((rd_T34 l0_1 x3_1).f0), .int .i64 0, .int .i64 (wrap64 (a0_0 - 1))] rfl (by (try simp only [List.map_toArray, List.map_cons, List.map_nil]); first | done | rfl | (simp only [List.length_drop, List.length_take]; rfl)) ?_; (with_reducible refine (spec_l1In.calls ((rd_T34 l0_1 x3_1).f0) 0 (wrap64 (a0_0 - 1)) true _ A5.out).mono ?_); rintro e w' ⟨rfl, ⟨nd, rfl⟩⟩; refine ⟨_, rfl, ?_⟩) | (go_at_call 54; (with_reducible refine (spec_l1In.calls ((rd_T34 l0_1 x3_1).f1) 0 (wrap64 (a0_0 - 1)) false _ A7.out).mono ?_); rintro e w' ⟨rfl, ⟨nd, rfl⟩⟩))
    go_ret
    exact ⟨by first | rfl | (simp [errW_none, errW_some] <;> rfl) | (simp [*, errW_none, errW_some] <;> rfl), by repeat (first | (with_reducible first | exact HB.out | apply below_alloc | apply pw_below_drewN | apply below_drew1 | refine below_set ?_ q5.out | refine below_set ?_ q4.out) | exact HB.out)⟩
   subst c8
   have H1 : (if ((rd_T34 l0_1 x3_1).f0) = ((rd_T34 l0_1 x3_1).f1) then (some false) else ((spec_l1In.f ((rd_T34 l0_1 x3_1).f2) 0 99).bind fun t268 => (if t268 = true then ((spec_l1In.f ((rd_T34 l0_1 x3_1).f3) 0 99).bind fun t269 => (if t269 = true then ((spec_l1In.f ((rd_T34 l0_1 x3_1).f4) 0 9).bind fun t270 => (if t270 = true then (spec_l1Ok.l0 k1 (wrap64 (x3_1 + 1)) a0_0 l0_1) else (some false))) else (some false))) else (some false)))) = some r := by rw [if_pos rfl] at H; exact H
   clear H
   have H := H1
   clear H1
   by_cases c9 : ((rd_T34 l0_1 x3_1).f0) = ((rd_T34 l0_1 x3_1).f1)
   case pos =>
    rw [if_pos c9] at H
    have c9b0 : (((rd_T34 l0_1 x3_1).f0) == ((rd_T34 l0_1 x3_1).f1)) = true := beq_iff_eq.mpr c9
    have c9b1 : (((rd_T34 l0_1 x3_1).f0) != ((rd_T34 l0_1 x3_1).f1)) = false := bne_eq_false_iff_eq.mpr c9
    clear c9
    obtain rfl := Option.some.inj H
    have hcz10_0 : wr.cell? ⟨p3, 0, none⟩ = some (.int .i64 a0_0) := (blk_cell p0.out 0).trans rfl
    have hcz10_1 : wr.cell? ⟨p3, 1, none⟩ = some (.slice A0_1 l0_1.length c0_1) := (blk_cell p0.out 1).trans rfl
    have hfz10_0 := blk_frozen p0.out 0
    have hfz10_1 := blk_frozen p0.out 1
    have p264 : 0 ≤ (x3_1 : Int) := of_decide_eq_true (by first | (with_reducible assumption) | assumption)
    have q264 : x3_1 < (l0_1.length : Int) := of_decide_eq_true (by first | (with_reducible assumption) | assumption)
    obtain ⟨q1, e264, p5, p6, p7, p8, p9⟩ := at_T34 q7.out x3_1 p264 q264
    cases e264
    replace p5 := (HB.out.cell (World.block_lt_of_cell? w _ p5)).trans p5
    replace p6 := (HB.out.cell (World.block_lt_of_cell? w _ p6)).trans p6
    replace p7 := (HB.out.cell (World.block_lt_of_cell? w _ p7)).trans p7
    replace p8 := (HB.out.cell (World.block_lt_of_cell? w _ p8)).trans p8
    replace p9 := (HB.out.cell (World.block_lt_of_cell? w _ p9)).trans p9
    replace p264 := eq_true p264
    replace q264 := eq_true q264
    go_wp2_with (first | ((with_reducible refine gate_dst (N := 4) rfl ?_); (try (refine gate_guard (by rfl) ?_; dsimp only)); refine box_event ?hg (N := 4) ?hd (cs := #[.int .i64 0, .int .i64 0, .int .i64 0, .int .i64 0, .int .i64 0]) (t := 34) ?hr ?_; (case hd => rfl); (case hg => rfl); (case hr => first | (go_simp; done) | (go_simp; rfl)); intro p4 hg w11 hbox hb; have n0_ := Aside0.mk (blk_below (g := p3) (o := .cells #[.int .i64 a0_0, .slice (some q1) l0_1.length c0_1] 25 (0, 0)) p0.out hb); have n1_ := Aside0.mk (below_step HB.out hb); have n2_ := Aside0.mk (hbox); have n3_ := Aside0.mk ((by rw [hg]; exact (below_size HB.out) : w.heap.size ≤ p4)); have n4_ := Aside0.mk ((by rw [hg]; exact (below_size HB.out) : w.heap.size ≤ p4)); have n5_ := Aside0.mk ((by rw [hg]; exact Nat.ne_of_lt (blk_lt (g := p3) (o := .cells #[.int .i64 a0_0, .slice (some q1) l0_1.length c0_1] 25 (0, 0)) p0.out) : p3 ≠ p4)); have n6_ := Aside0.mk ((by rw [hg]; exact Nat.ne_of_gt (blk_lt (g := p3) (o := .cells #[.int .i64 a0_0, .slice (some q1) l0_1.length c0_1] 25 (0, 0)) p0.out) : p4 ≠ p3)); clear p0; clear HB; have p0 := n0_; have HB := n1_; have p1 := n2_; have q8 := n3_; have q4 := n4_; have q0 := n5_; have q2 := n6_; clear n0_ n1_ n2_ n3_ n4_ n5_ n6_; clear hb hbox hg; have hnb12 := q2.out; have hnc12 := q0.out; have hcz13_0 : w11.cell? ⟨p4, 0, none⟩ = some (.int .i64 0) := (blk_cell p1.out 0).trans rfl; have hcz13_1 : w11.cell? ⟨p4, 1, none⟩ = some (.int .i64 0) := (blk_cell p1.out 1).trans rfl; have hcz13_2 : w11.cell? ⟨p4, 2, none⟩ = some (.int .i64 0) := (blk_cell p1.out 2).trans rfl; have hcz13_3 : w11.cell? ⟨p4, 3, none⟩ = some (.int .i64 0) := (blk_cell p1.out 3).trans rfl; have hcz13_4 : w11.cell? ⟨p4, 4, none⟩ = some (.int .i64 0) := (blk_cell p1.out 4).trans rfl; have hfz13_0 := blk_frozen p1.out 0; have hfz13_1 := blk_frozen p1.out 1; have hfz13_2 := blk_frozen p1.out 2; have hfz13_3 := blk_frozen p1.out 3; have hfz13_4 := blk_frozen p1.out 4; have hcz14_0 : w11.cell? ⟨p3, 0, none⟩ = some (.int .i64 a0_0) := (blk_cell p0.out 0).trans rfl; have hcz14_1 : w11.cell? ⟨p3, 1, none⟩ = some (.slice (some q1) l0_1.length c0_1) := (blk_cell p0.out 1).trans rfl; have hfz14_0 := blk_frozen p0.out 0; have hfz14_1 := blk_frozen p0.out 1) | ((with_reducible refine gate_callee (f := 54) rfl ?_); refine goesL_ (some 22) rfl rfl Try.func54 (by kernel_rfl) rfl #[.int .i64 ((rd_T34 l0_1 x3_1).f0), .int .i64 0, .int .i64 (wrap64 (a0_0 - 1))] rfl (by (try simp only [List.map_toArray, List.map_cons, List.map_nil]); first | done | rfl | (simp only [List.length_drop, List.length_take]; rfl)) ?_; (with_reducible refine (spec_l1In.calls ((rd_T34 l0_1 x3_1).f0) 0 (wrap64 (a0_0 - 1)) true _ A5.out).mono ?_); rintro e w' ⟨rfl, ⟨nd, rfl⟩⟩; refine ⟨_, rfl, ?_⟩) | (go_at_call 54; (with_reducible refine (spec_l1In.calls ((rd_T34 l0_1 x3_1).f1) 0 (wrap64 (a0_0 - 1)) true _ A7.out).mono ?_); rintro e w' ⟨rfl, ⟨nd, rfl⟩⟩))
    go_ret
    exact ⟨by first | rfl | (simp [errW_none, errW_some] <;> rfl) | (simp [*, errW_none, errW_some] <;> rfl), by repeat (first | (with_reducible first | exact HB.out | apply below_alloc | apply pw_below_drewN | apply below_drew1 | refine below_set ?_ q5.out | refine below_set ?_ q4.out) | exact HB.out)⟩
   rw [if_neg c9] at H
   have c9b0 : (((rd_T34 l0_1 x3_1).f0) == ((rd_T34 l0_1 x3_1).f1)) = false := beq_eq_false_iff_ne.mpr c9
   have c9b1 : (((rd_T34 l0_1 x3_1).f0) != ((rd_T34 l0_1 x3_1).f1)) = true := bne_iff_ne.mpr c9
   replace H := Option.bind_eq_some_iff.mp H
   obtain ⟨t268, A150, H⟩ := H
   replace H : (if t268 = true then ((spec_l1In.f ((rd_T34 l0_1 x3_1).f3) 0 99).bind fun t269 => (if t269 = true then ((spec_l1In.f ((rd_T34 l0_1 x3_1).f4) 0 9).bind fun t270 => (if t270 = true then (spec_l1Ok.l0 k1 (wrap64 (x3_1 + 1)) a0_0 l0_1) else (some false))) else (some false))) else (some false)) = some r := H
   have A15 := Aside0.mk A150
   clear A150
   by_cases c16 : t268 = true
   case neg =>
    replace c16 := Bool.eq_false_iff.mpr c16
    subst c16
    have H1 : (some false) = some r := by rw [if_neg (show ¬ (false = true) by decide)] at H; exact H
    clear H
    have H := H1
    clear H1
    obtain rfl := Option.some.inj H
    have hcz36_0 : wr.cell? ⟨p3, 0, none⟩ = some (.int .i64 a0_0) := (blk_cell p0.out 0).trans rfl
    have hcz36_1 : wr.cell? ⟨p3, 1, none⟩ = some (.slice A0_1 l0_1.length c0_1) := (blk_cell p0.out 1).trans rfl
    have hfz36_0 := blk_frozen p0.out 0
    have hfz36_1 := blk_frozen p0.out 1
    have p264 : 0 ≤ (x3_1 : Int) := of_decide_eq_true (by first | (with_reducible assumption) | assumption)
    have q264 : x3_1 < (l0_1.length : Int) := of_decide_eq_true (by first | (with_reducible assumption) | assumption)
    obtain ⟨q1, e264, p5, p6, p7, p8, p9⟩ := at_T34 q7.out x3_1 p264 q264
    cases e264
    replace p5 := (HB.out.cell (World.block_lt_of_cell? w _ p5)).trans p5
    replace p6 := (HB.out.cell (World.block_lt_of_cell? w _ p6)).trans p6
    replace p7 := (HB.out.cell (World.block_lt_of_cell? w _ p7)).trans p7
    replace p8 := (HB.out.cell (World.block_lt_of_cell? w _ p8)).trans p8
    replace p9 := (HB.out.cell (World.block_lt_of_cell? w _ p9)).trans p9
    replace p264 := eq_true p264
    replace q264 := eq_true q264
    go_wp2_with (first | ((with_reducible refine gate_dst (N := 4) rfl ?_); (try (refine gate_guard (by rfl) ?_; dsimp only)); refine box_event ?hg (N := 4) ?hd (cs := #[.int .i64 0, .int .i64 0, .int .i64 0, .int .i64 0, .int .i64 0]) (t := 34) ?hr ?_; (case hd => rfl); (case hg => rfl); (case hr => first | (go_simp; done) | (go_simp; rfl)); intro p4 hg w37 hbox hb; have n0_ := Aside0.mk (blk_below (g := p3) (o := .cells #[.int .i64 a0_0, .slice (some q1) l0_1.length c0_1] 25 (0, 0)) p0.out hb); have n1_ := Aside0.mk (below_step HB.out hb); have n2_ := Aside0.mk (hbox); have n3_ := Aside0.mk ((by rw [hg]; exact (below_size HB.out) : w.heap.size ≤ p4)); have n4_ := Aside0.mk ((by rw [hg]; exact (below_size HB.out) : w.heap.size ≤ p4)); have n5_ := Aside0.mk ((by rw [hg]; exact Nat.ne_of_lt (blk_lt (g := p3) (o := .cells #[.int .i64 a0_0, .slice (some q1) l0_1.length c0_1] 25 (0, 0)) p0.out) : p3 ≠ p4)); have n6_ := Aside0.mk ((by rw [hg]; exact Nat.ne_of_gt (blk_lt (g := p3) (o := .cells #[.int .i64 a0_0, .slice (some q1) l0_1.length c0_1] 25 (0, 0)) p0.out) : p4 ≠ p3)); clear p0; clear HB; have p0 := n0_; have HB := n1_; have p1 := n2_; have q8 := n3_; have q4 := n4_; have q0 := n5_; have q2 := n6_; clear n0_ n1_ n2_ n3_ n4_ n5_ n6_; clear hb hbox hg; have hnb38 := q2.out; have hnc38 := q0.out; have hcz39_0 : w37.cell? ⟨p4, 0, none⟩ = some (.int .i64 0) := (blk_cell p1.out 0).trans rfl; have hcz39_1 : w37.cell? ⟨p4, 1, none⟩ = some (.int .i64 0) := (blk_cell p1.out 1).trans rfl; have hcz39_2 : w37.cell? ⟨p4, 2, none⟩ = some (.int .i64 0) := (blk_cell p1.out 2).trans rfl; have hcz39_3 : w37.cell? ⟨p4, 3, none⟩ = some (.int .i64 0) := (blk_cell p1.out 3).trans rfl; have hcz39_4 : w37.cell? ⟨p4, 4, none⟩ = some (.int .i64 0) := (blk_cell p1.out 4).trans rfl; have hfz39_0 := blk_frozen p1.out 0; have hfz39_1 := blk_frozen p1.out 1; have hfz39_2 := blk_frozen p1.out 2; have hfz39_3 := blk_frozen p1.out 3; have hfz39_4 := blk_frozen p1.out 4; have hcz40_0 : w37.cell? ⟨p3, 0, none⟩ = some (.int .i64 a0_0) := (blk_cell p0.out 0).trans rfl; have hcz40_1 : w37.cell? ⟨p3, 1, none⟩ = some (.slice (some q1) l0_1.length c0_1) := (blk_cell p0.out 1).trans rfl; have hfz40_0 := blk_frozen p0.out 0; have hfz40_1 := blk_frozen p0.out 1) | ((with_reducible refine gate_callee (f := 54) rfl ?_); refine goesL_ (some 22) rfl rfl Try.func54 (by kernel_rfl) rfl #[.int .i64 ((rd_T34 l0_1 x3_1).f0), .int .i64 0, .int .i64 (wrap64 (a0_0 - 1))] rfl (by (try simp only [List.map_toArray, List.map_cons, List.map_nil]); first | done | rfl | (simp only [List.length_drop, List.length_take]; rfl)) ?_; (with_reducible refine (spec_l1In.calls ((rd_T34 l0_1 x3_1).f0) 0 (wrap64 (a0_0 - 1)) true _ A5.out).mono ?_); rintro e w' ⟨rfl, ⟨nd, rfl⟩⟩; refine ⟨_, rfl, ?_⟩) | (go_at_call 54; (with_reducible refine (spec_l1In.calls ((rd_T34 l0_1 x3_1).f1) 0 (wrap64 (a0_0 - 1)) true _ A7.out).mono ?_); rintro e w' ⟨rfl, ⟨nd, rfl⟩⟩) | (go_at_call 54; (with_reducible refine (spec_l1In.calls ((rd_T34 l0_1 x3_1).f2) 0 99 false _ A15.out).mono ?_); rintro e w' ⟨rfl, ⟨nd, rfl⟩⟩))
    go_ret
    exact ⟨by first | rfl | (simp [errW_none, errW_some] <;> rfl) | (simp [*, errW_none, errW_some] <;> rfl), by repeat (first | (with_reducible first | exact HB.out | apply below_alloc | apply pw_below_drewN | apply below_drew1 | refine below_set ?_ q5.out | refine below_set ?_ q4.out) | exact HB.out)⟩
   subst c16
   have H1 : ((spec_l1In.f ((rd_T34 l0_1 x3_1).f3) 0 99).bind fun t269 => (if t269 = true then ((spec_l1In.f ((rd_T34 l0_1 x3_1).f4) 0 9).bind fun t270 => (if t270 = true then (spec_l1Ok.l0 k1 (wrap64 (x3_1 + 1)) a0_0 l0_1) else (some false))) else (some false))) = some r := by rw [if_pos rfl] at H; exact H
   clear H
   have H := H1
   clear H1
   replace H := Option.bind_eq_some_iff.mp H
   obtain ⟨t269, A170, H⟩ := H
   replace H : (if t269 = true then ((spec_l1In.f ((rd_T34 l0_1 x3_1).f4) 0 9).bind fun t270 => (if t270 = true then (spec_l1Ok.l0 k1 (wrap64 (x3_1 + 1)) a0_0 l0_1) else (some false))) else (some false)) = some r := H
   have A17 := Aside0.mk A170
   clear A170
   by_cases c18 : t269 = true
   case neg =>
    replace c18 := Bool.eq_false_iff.mpr c18
    subst c18
    have H1 : (some false) = some r := by rw [if_neg (show ¬ (false = true) by decide)] at H; exact H
    clear H
    have H := H1
    clear H1
    obtain rfl := Option.some.inj H
    have hcz31_0 : wr.cell? ⟨p3, 0, none⟩ = some (.int .i64 a0_0) := (blk_cell p0.out 0).trans rfl
    have hcz31_1 : wr.cell? ⟨p3, 1, none⟩ = some (.slice A0_1 l0_1.length c0_1) := (blk_cell p0.out 1).trans rfl
    have hfz31_0 := blk_frozen p0.out 0
    have hfz31_1 := blk_frozen p0.out 1
    have p264 : 0 ≤ (x3_1 : Int) := of_decide_eq_true (by first | (with_reducible assumption) | assumption)
    have q264 : x3_1 < (l0_1.length : Int) := of_decide_eq_true (by first | (with_reducible assumption) | assumption)
    obtain ⟨q1, e264, p5, p6, p7, p8, p9⟩ := at_T34 q7.out x3_1 p264 q264
    cases e264
    replace p5 := (HB.out.cell (World.block_lt_of_cell? w _ p5)).trans p5
    replace p6 := (HB.out.cell (World.block_lt_of_cell? w _ p6)).trans p6
    replace p7 := (HB.out.cell (World.block_lt_of_cell? w _ p7)).trans p7
    replace p8 := (HB.out.cell (World.block_lt_of_cell? w _ p8)).trans p8
    replace p9 := (HB.out.cell (World.block_lt_of_cell? w _ p9)).trans p9
    replace p264 := eq_true p264
    replace q264 := eq_true q264
    go_wp2_with (first | ((with_reducible refine gate_dst (N := 4) rfl ?_); (try (refine gate_guard (by rfl) ?_; dsimp only)); refine box_event ?hg (N := 4) ?hd (cs := #[.int .i64 0, .int .i64 0, .int .i64 0, .int .i64 0, .int .i64 0]) (t := 34) ?hr ?_; (case hd => rfl); (case hg => rfl); (case hr => first | (go_simp; done) | (go_simp; rfl)); intro p4 hg w32 hbox hb; have n0_ := Aside0.mk (blk_below (g := p3) (o := .cells #[.int .i64 a0_0, .slice (some q1) l0_1.length c0_1] 25 (0, 0)) p0.out hb); have n1_ := Aside0.mk (below_step HB.out hb); have n2_ := Aside0.mk (hbox); have n3_ := Aside0.mk ((by rw [hg]; exact (below_size HB.out) : w.heap.size ≤ p4)); have n4_ := Aside0.mk ((by rw [hg]; exact (below_size HB.out) : w.heap.size ≤ p4)); have n5_ := Aside0.mk ((by rw [hg]; exact Nat.ne_of_lt (blk_lt (g := p3) (o := .cells #[.int .i64 a0_0, .slice (some q1) l0_1.length c0_1] 25 (0, 0)) p0.out) : p3 ≠ p4)); have n6_ := Aside0.mk ((by rw [hg]; exact Nat.ne_of_gt (blk_lt (g := p3) (o := .cells #[.int .i64 a0_0, .slice (some q1) l0_1.length c0_1] 25 (0, 0)) p0.out) : p4 ≠ p3)); clear p0; clear HB; have p0 := n0_; have HB := n1_; have p1 := n2_; have q8 := n3_; have q4 := n4_; have q0 := n5_; have q2 := n6_; clear n0_ n1_ n2_ n3_ n4_ n5_ n6_; clear hb hbox hg; have hnb33 := q2.out; have hnc33 := q0.out; have hcz34_0 : w32.cell? ⟨p4, 0, none⟩ = some (.int .i64 0) := (blk_cell p1.out 0).trans rfl; have hcz34_1 : w32.cell? ⟨p4, 1, none⟩ = some (.int .i64 0) := (blk_cell p1.out 1).trans rfl; have hcz34_2 : w32.cell? ⟨p4, 2, none⟩ = some (.int .i64 0) := (blk_cell p1.out 2).trans rfl; have hcz34_3 : w32.cell? ⟨p4, 3, none⟩ = some (.int .i64 0) := (blk_cell p1.out 3).trans rfl; have hcz34_4 : w32.cell? ⟨p4, 4, none⟩ = some (.int .i64 0) := (blk_cell p1.out 4).trans rfl; have hfz34_0 := blk_frozen p1.out 0; have hfz34_1 := blk_frozen p1.out 1; have hfz34_2 := blk_frozen p1.out 2; have hfz34_3 := blk_frozen p1.out 3; have hfz34_4 := blk_frozen p1.out 4; have hcz35_0 : w32.cell? ⟨p3, 0, none⟩ = some (.int .i64 a0_0) := (blk_cell p0.out 0).trans rfl; have hcz35_1 : w32.cell? ⟨p3, 1, none⟩ = some (.slice (some q1) l0_1.length c0_1) := (blk_cell p0.out 1).trans rfl; have hfz35_0 := blk_frozen p0.out 0; have hfz35_1 := blk_frozen p0.out 1) | ((with_reducible refine gate_callee (f := 54) rfl ?_); refine goesL_ (some 22) rfl rfl Try.func54 (by kernel_rfl) rfl #[.int .i64 ((rd_T34 l0_1 x3_1).f0), .int .i64 0, .int .i64 (wrap64 (a0_0 - 1))] rfl (by (try simp only [List.map_toArray, List.map_cons, List.map_nil]); first | done | rfl | (simp only [List.length_drop, List.length_take]; rfl)) ?_; (with_reducible refine (spec_l1In.calls ((rd_T34 l0_1 x3_1).f0) 0 (wrap64 (a0_0 - 1)) true _ A5.out).mono ?_); rintro e w' ⟨rfl, ⟨nd, rfl⟩⟩; refine ⟨_, rfl, ?_⟩) | (go_at_call 54; (with_reducible refine (spec_l1In.calls ((rd_T34 l0_1 x3_1).f1) 0 (wrap64 (a0_0 - 1)) true _ A7.out).mono ?_); rintro e w' ⟨rfl, ⟨nd, rfl⟩⟩) | (go_at_call 54; (with_reducible refine (spec_l1In.calls ((rd_T34 l0_1 x3_1).f2) 0 99 true _ A15.out).mono ?_); rintro e w' ⟨rfl, ⟨nd, rfl⟩⟩) | (go_at_call 54; (with_reducible refine (spec_l1In.calls ((rd_T34 l0_1 x3_1).f3) 0 99 false _ A17.out).mono ?_); rintro e w' ⟨rfl, ⟨nd, rfl⟩⟩))
    go_ret
    exact ⟨by first | rfl | (simp [errW_none, errW_some] <;> rfl) | (simp [*, errW_none, errW_some] <;> rfl), by repeat (first | (with_reducible first | exact HB.out | apply below_alloc | apply pw_below_drewN | apply below_drew1 | refine below_set ?_ q5.out | refine below_set ?_ q4.out) | exact HB.out)⟩
   subst c18
   have H1 : ((spec_l1In.f ((rd_T34 l0_1 x3_1).f4) 0 9).bind fun t270 => (if t270 = true then (spec_l1Ok.l0 k1 (wrap64 (x3_1 + 1)) a0_0 l0_1) else (some false))) = some r := by rw [if_pos rfl] at H; exact H
   clear H
   have H := H1
   clear H1
   replace H := Option.bind_eq_some_iff.mp H
   obtain ⟨t270, A190, H⟩ := H
   replace H : (if t270 = true then (spec_l1Ok.l0 k1 (wrap64 (x3_1 + 1)) a0_0 l0_1) else (some false)) = some r := H
   have A19 := Aside0.mk A190
   clear A190
   by_cases c20 : t270 = true
   case neg =>
    replace c20 := Bool.eq_false_iff.mpr c20
    subst c20
    have H1 : (some false) = some r := by rw [if_neg (show ¬ (false = true) by decide)] at H; exact H
    clear H
    have H := H1
    clear H1
    obtain rfl := Option.some.inj H
    have hcz26_0 : wr.cell? ⟨p3, 0, none⟩ = some (.int .i64 a0_0) := (blk_cell p0.out 0).trans rfl
    have hcz26_1 : wr.cell? ⟨p3, 1, none⟩ = some (.slice A0_1 l0_1.length c0_1) := (blk_cell p0.out 1).trans rfl
    have hfz26_0 := blk_frozen p0.out 0
    have hfz26_1 := blk_frozen p0.out 1
    have p264 : 0 ≤ (x3_1 : Int) := of_decide_eq_true (by first | (with_reducible assumption) | assumption)
    have q264 : x3_1 < (l0_1.length : Int) := of_decide_eq_true (by first | (with_reducible assumption) | assumption)
    obtain ⟨q1, e264, p5, p6, p7, p8, p9⟩ := at_T34 q7.out x3_1 p264 q264
    cases e264
    replace p5 := (HB.out.cell (World.block_lt_of_cell? w _ p5)).trans p5
    replace p6 := (HB.out.cell (World.block_lt_of_cell? w _ p6)).trans p6
    replace p7 := (HB.out.cell (World.block_lt_of_cell? w _ p7)).trans p7
    replace p8 := (HB.out.cell (World.block_lt_of_cell? w _ p8)).trans p8
    replace p9 := (HB.out.cell (World.block_lt_of_cell? w _ p9)).trans p9
    replace p264 := eq_true p264
    replace q264 := eq_true q264
    go_wp2_with (first | ((with_reducible refine gate_dst (N := 4) rfl ?_); (try (refine gate_guard (by rfl) ?_; dsimp only)); refine box_event ?hg (N := 4) ?hd (cs := #[.int .i64 0, .int .i64 0, .int .i64 0, .int .i64 0, .int .i64 0]) (t := 34) ?hr ?_; (case hd => rfl); (case hg => rfl); (case hr => first | (go_simp; done) | (go_simp; rfl)); intro p4 hg w27 hbox hb; have n0_ := Aside0.mk (blk_below (g := p3) (o := .cells #[.int .i64 a0_0, .slice (some q1) l0_1.length c0_1] 25 (0, 0)) p0.out hb); have n1_ := Aside0.mk (below_step HB.out hb); have n2_ := Aside0.mk (hbox); have n3_ := Aside0.mk ((by rw [hg]; exact (below_size HB.out) : w.heap.size ≤ p4)); have n4_ := Aside0.mk ((by rw [hg]; exact (below_size HB.out) : w.heap.size ≤ p4)); have n5_ := Aside0.mk ((by rw [hg]; exact Nat.ne_of_lt (blk_lt (g := p3) (o := .cells #[.int .i64 a0_0, .slice (some q1) l0_1.length c0_1] 25 (0, 0)) p0.out) : p3 ≠ p4)); have n6_ := Aside0.mk ((by rw [hg]; exact Nat.ne_of_gt (blk_lt (g := p3) (o := .cells #[.int .i64 a0_0, .slice (some q1) l0_1.length c0_1] 25 (0, 0)) p0.out) : p4 ≠ p3)); clear p0; clear HB; have p0 := n0_; have HB := n1_; have p1 := n2_; have q8 := n3_; have q4 := n4_; have q0 := n5_; have q2 := n6_; clear n0_ n1_ n2_ n3_ n4_ n5_ n6_; clear hb hbox hg; have hnb28 := q2.out; have hnc28 := q0.out; have hcz29_0 : w27.cell? ⟨p4, 0, none⟩ = some (.int .i64 0) := (blk_cell p1.out 0).trans rfl; have hcz29_1 : w27.cell? ⟨p4, 1, none⟩ = some (.int .i64 0) := (blk_cell p1.out 1).trans rfl; have hcz29_2 : w27.cell? ⟨p4, 2, none⟩ = some (.int .i64 0) := (blk_cell p1.out 2).trans rfl; have hcz29_3 : w27.cell? ⟨p4, 3, none⟩ = some (.int .i64 0) := (blk_cell p1.out 3).trans rfl; have hcz29_4 : w27.cell? ⟨p4, 4, none⟩ = some (.int .i64 0) := (blk_cell p1.out 4).trans rfl; have hfz29_0 := blk_frozen p1.out 0; have hfz29_1 := blk_frozen p1.out 1; have hfz29_2 := blk_frozen p1.out 2; have hfz29_3 := blk_frozen p1.out 3; have hfz29_4 := blk_frozen p1.out 4; have hcz30_0 : w27.cell? ⟨p3, 0, none⟩ = some (.int .i64 a0_0) := (blk_cell p0.out 0).trans rfl; have hcz30_1 : w27.cell? ⟨p3, 1, none⟩ = some (.slice (some q1) l0_1.length c0_1) := (blk_cell p0.out 1).trans rfl; have hfz30_0 := blk_frozen p0.out 0; have hfz30_1 := blk_frozen p0.out 1) | ((with_reducible refine gate_callee (f := 54) rfl ?_); refine goesL_ (some 22) rfl rfl Try.func54 (by kernel_rfl) rfl #[.int .i64 ((rd_T34 l0_1 x3_1).f0), .int .i64 0, .int .i64 (wrap64 (a0_0 - 1))] rfl (by (try simp only [List.map_toArray, List.map_cons, List.map_nil]); first | done | rfl | (simp only [List.length_drop, List.length_take]; rfl)) ?_; (with_reducible refine (spec_l1In.calls ((rd_T34 l0_1 x3_1).f0) 0 (wrap64 (a0_0 - 1)) true _ A5.out).mono ?_); rintro e w' ⟨rfl, ⟨nd, rfl⟩⟩; refine ⟨_, rfl, ?_⟩) | (go_at_call 54; (with_reducible refine (spec_l1In.calls ((rd_T34 l0_1 x3_1).f1) 0 (wrap64 (a0_0 - 1)) true _ A7.out).mono ?_); rintro e w' ⟨rfl, ⟨nd, rfl⟩⟩) | (go_at_call 54; (with_reducible refine (spec_l1In.calls ((rd_T34 l0_1 x3_1).f2) 0 99 true _ A15.out).mono ?_); rintro e w' ⟨rfl, ⟨nd, rfl⟩⟩) | (go_at_call 54; (with_reducible refine (spec_l1In.calls ((rd_T34 l0_1 x3_1).f3) 0 99 true _ A17.out).mono ?_); rintro e w' ⟨rfl, ⟨nd, rfl⟩⟩) | (go_at_call 54; (with_reducible refine (spec_l1In.calls ((rd_T34 l0_1 x3_1).f4) 0 9 false _ A19.out).mono ?_); rintro e w' ⟨rfl, ⟨nd, rfl⟩⟩))
    go_ret
    exact ⟨by first | rfl | (simp [errW_none, errW_some] <;> rfl) | (simp [*, errW_none, errW_some] <;> rfl), by repeat (first | (with_reducible first | exact HB.out | apply below_alloc | apply pw_below_drewN | apply below_drew1 | refine below_set ?_ q5.out | refine below_set ?_ q4.out) | exact HB.out)⟩
   subst c20
   have H1 : (spec_l1Ok.l0 k1 (wrap64 (x3_1 + 1)) a0_0 l0_1) = some r := by rw [if_pos rfl] at H; exact H
   clear H
   have H := H1
   clear H1
   have H' := Aside0.mk H
   clear H
   have hcz21_0 : wr.cell? ⟨p3, 0, none⟩ = some (.int .i64 a0_0) := (blk_cell p0.out 0).trans rfl
   have hcz21_1 : wr.cell? ⟨p3, 1, none⟩ = some (.slice A0_1 l0_1.length c0_1) := (blk_cell p0.out 1).trans rfl
   have hfz21_0 := blk_frozen p0.out 0
   have hfz21_1 := blk_frozen p0.out 1
   have p264 : 0 ≤ (x3_1 : Int) := of_decide_eq_true (by first | (with_reducible assumption) | assumption)
   have q264 : x3_1 < (l0_1.length : Int) := of_decide_eq_true (by first | (with_reducible assumption) | assumption)
   obtain ⟨q1, e264, p5, p6, p7, p8, p9⟩ := at_T34 q7.out x3_1 p264 q264
   cases e264
   replace p5 := (HB.out.cell (World.block_lt_of_cell? w _ p5)).trans p5
   replace p6 := (HB.out.cell (World.block_lt_of_cell? w _ p6)).trans p6
   replace p7 := (HB.out.cell (World.block_lt_of_cell? w _ p7)).trans p7
   replace p8 := (HB.out.cell (World.block_lt_of_cell? w _ p8)).trans p8
   replace p9 := (HB.out.cell (World.block_lt_of_cell? w _ p9)).trans p9
   replace p264 := eq_true p264
   replace q264 := eq_true q264
   go_wp2_with (first | ((with_reducible refine gate_dst (N := 4) rfl ?_); (try (refine gate_guard (by rfl) ?_; dsimp only)); refine box_event ?hg (N := 4) ?hd (cs := #[.int .i64 0, .int .i64 0, .int .i64 0, .int .i64 0, .int .i64 0]) (t := 34) ?hr ?_; (case hd => rfl); (case hg => rfl); (case hr => first | (go_simp; done) | (go_simp; rfl)); intro p4 hg w22 hbox hb; have n0_ := Aside0.mk (blk_below (g := p3) (o := .cells #[.int .i64 a0_0, .slice (some q1) l0_1.length c0_1] 25 (0, 0)) p0.out hb); have n1_ := Aside0.mk (below_step HB.out hb); have n2_ := Aside0.mk (hbox); have n3_ := Aside0.mk ((by rw [hg]; exact (below_size HB.out) : w.heap.size ≤ p4)); have n4_ := Aside0.mk ((by rw [hg]; exact (below_size HB.out) : w.heap.size ≤ p4)); have n5_ := Aside0.mk ((by rw [hg]; exact Nat.ne_of_lt (blk_lt (g := p3) (o := .cells #[.int .i64 a0_0, .slice (some q1) l0_1.length c0_1] 25 (0, 0)) p0.out) : p3 ≠ p4)); have n6_ := Aside0.mk ((by rw [hg]; exact Nat.ne_of_gt (blk_lt (g := p3) (o := .cells #[.int .i64 a0_0, .slice (some q1) l0_1.length c0_1] 25 (0, 0)) p0.out) : p4 ≠ p3)); clear p0; clear HB; have p0 := n0_; have HB := n1_; have p1 := n2_; have q8 := n3_; have q4 := n4_; have q0 := n5_; have q2 := n6_; clear n0_ n1_ n2_ n3_ n4_ n5_ n6_; clear hb hbox hg; have hnb23 := q2.out; have hnc23 := q0.out; have hcz24_0 : w22.cell? ⟨p4, 0, none⟩ = some (.int .i64 0) := (blk_cell p1.out 0).trans rfl; have hcz24_1 : w22.cell? ⟨p4, 1, none⟩ = some (.int .i64 0) := (blk_cell p1.out 1).trans rfl; have hcz24_2 : w22.cell? ⟨p4, 2, none⟩ = some (.int .i64 0) := (blk_cell p1.out 2).trans rfl; have hcz24_3 : w22.cell? ⟨p4, 3, none⟩ = some (.int .i64 0) := (blk_cell p1.out 3).trans rfl; have hcz24_4 : w22.cell? ⟨p4, 4, none⟩ = some (.int .i64 0) := (blk_cell p1.out 4).trans rfl; have hfz24_0 := blk_frozen p1.out 0; have hfz24_1 := blk_frozen p1.out 1; have hfz24_2 := blk_frozen p1.out 2; have hfz24_3 := blk_frozen p1.out 3; have hfz24_4 := blk_frozen p1.out 4; have hcz25_0 : w22.cell? ⟨p3, 0, none⟩ = some (.int .i64 a0_0) := (blk_cell p0.out 0).trans rfl; have hcz25_1 : w22.cell? ⟨p3, 1, none⟩ = some (.slice (some q1) l0_1.length c0_1) := (blk_cell p0.out 1).trans rfl; have hfz25_0 := blk_frozen p0.out 0; have hfz25_1 := blk_frozen p0.out 1) | ((with_reducible refine gate_callee (f := 54) rfl ?_); refine goesL_ (some 22) rfl rfl Try.func54 (by kernel_rfl) rfl #[.int .i64 ((rd_T34 l0_1 x3_1).f0), .int .i64 0, .int .i64 (wrap64 (a0_0 - 1))] rfl (by (try simp only [List.map_toArray, List.map_cons, List.map_nil]); first | done | rfl | (simp only [List.length_drop, List.length_take]; rfl)) ?_; (with_reducible refine (spec_l1In.calls ((rd_T34 l0_1 x3_1).f0) 0 (wrap64 (a0_0 - 1)) true _ A5.out).mono ?_); rintro e w' ⟨rfl, ⟨nd, rfl⟩⟩; refine ⟨_, rfl, ?_⟩) | (go_at_call 54; (with_reducible refine (spec_l1In.calls ((rd_T34 l0_1 x3_1).f1) 0 (wrap64 (a0_0 - 1)) true _ A7.out).mono ?_); rintro e w' ⟨rfl, ⟨nd, rfl⟩⟩) | (go_at_call 54; (with_reducible refine (spec_l1In.calls ((rd_T34 l0_1 x3_1).f2) 0 99 true _ A15.out).mono ?_); rintro e w' ⟨rfl, ⟨nd, rfl⟩⟩) | (go_at_call 54; (with_reducible refine (spec_l1In.calls ((rd_T34 l0_1 x3_1).f3) 0 99 true _ A17.out).mono ?_); rintro e w' ⟨rfl, ⟨nd, rfl⟩⟩) | (go_at_call 54; (with_reducible refine (spec_l1In.calls ((rd_T34 l0_1 x3_1).f4) 0 9 true _ A19.out).mono ?_); rintro e w' ⟨rfl, ⟨nd, rfl⟩⟩))
   go_roundg k1
   case measure => have := HK1.out; omega
   case rel => exact ⟨(wrap64 (x3_1 + 1)), (by first | rfl | (simp; done) | (simp [*]; done)), H', ⟨by have := HK1.out; omega⟩, ⟨by refine blk_far ?_ q0.out _; refine blk_far ?_ q0.out _; refine blk_far ?_ q0.out _; refine blk_far ?_ q0.out _; refine blk_far ?_ q0.out _; exact p0.out⟩, ⟨by repeat (first | (with_reducible first | exact HB.out | apply below_alloc | apply pw_below_drewN | apply below_drew1 | refine below_set ?_ q5.out | refine below_set ?_ q4.out) | exact HB.out)⟩⟩
end Go.Proofs.Ytljdcinpjnijcaa.Pr
end
