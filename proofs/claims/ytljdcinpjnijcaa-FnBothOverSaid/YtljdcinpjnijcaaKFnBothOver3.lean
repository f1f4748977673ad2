/- For the statement FnBothOver of this seat: it is proved here, with no further conditions (part 4 of its texts: words, walks of the functions, the plain law, the row). -/
import Derived.Test.YtljdcinpjnijcaaKFnBothOver2
section
namespace Go.Proofs.Ytljdcinpjnijcaa.Pr
open Go.RowKit Go.Proofs.YtljdcinpjnijcaaW.PrintWords Go.Proofs.YtljdcinpjnijcaaW.PrintLast Go.Proofs.YtljdcinpjnijcaaW.PrintMore
attribute [local go_sem] max2_int min2_int max_two min_two max_three min_three max_four min_four
set_option linter.unusedVariables false
set_option linter.unusedSimpArgs false
def spec_l30Net.l0 : Nat → Int → List Int → Int → Int → List (S34) → Option (Int × (List (S34)) × Int)
 | 0, _, _, _, _, _ => none
 | k + 1, x4, x1000, x1001, x114000, x114001 => if x4 > 0 then ((spec_l30Rd_pick.f k x1000 x1001 x114000).bind fun bt116 => ((spec_l30Rd_pick.f k x1000 bt116.2 x114000).bind fun bt118 => ((spec_l30Rd_pick.f k x1000 bt118.2 100).bind fun bt120 => ((spec_l30Rd_one.f k x1000 bt120.2 (([0, 1, 2, 5, 9, bt120.1] : List Int))).bind fun bt125 => ((spec_l30Rd_one.f k x1000 bt125.2 (([0, 0, 3, 8] : List Int))).bind fun bt130 => ((spec_l30Rd_pick.f k x1000 bt130.2 10).bind fun bt132 => (if bt116.1 = bt118.1 then (if x114000 = 0 then (none) else (if x114001.length < 3518437208883 then (spec_l30Net.l0 k (wrap64 (x4 - 1)) x1000 bt132.2 x114000 (x114001 ++ [(⟨bt116.1, Int.tmod (wrap64 (bt118.1 + 1)) x114000, bt125.1, bt130.1, bt132.1⟩ : S34)])) else (none))) else (if x114001.length < 3518437208883 then (spec_l30Net.l0 k (wrap64 (x4 - 1)) x1000 bt132.2 x114000 (x114001 ++ [(⟨bt116.1, bt118.1, bt125.1, bt130.1, bt132.1⟩ : S34)])) else (none))))))))) else (some (x114000, x114001, x1001))
def spec_l30Net.f (k : Nat) (s0_0 : List Int) (s0_1 : Int) : Option (Int × (List (S34)) × Int) := (spec_l30Rd_pick.f k s0_0 s0_1 5).bind fun bt111 => ((spec_l30Rd_pick.f k s0_0 bt111.2 14).bind fun bt114 => (spec_l30Net.l0 k bt114.1 s0_0 bt114.2 (wrap64 (2 + bt111.1)) ([] : List (S34))))
def spec_l30Net.T5 : Bool × List (List Nat × List Nat) := (true, [([], []), ([], []), ([1], [1]), ([0, 2], [0, 2]), ([], []), ([], []), ([5], [5]), ([4, 6, 3], [4, 6]), ([], []), ([], []), ([9, 7], [9]), ([10], [10]), ([8, 11, 10], [8, 11]), ([], []), ([], []), ([13, 14, 12], [13, 14]), ([], []), ([16, 15], [16]), ([3, 7, 12, 15, 17], [3, 7, 12, 15, 17]), ([], []), ([19, 18, 17, 0, 1, 2, 3, 4, 5, 6, 7, 8, 9, 10, 11, 12, 13, 14, 15, 16, 17, 18, 19], [18, 19])])
def spec_l30Net.B5 : List Nat := [0, 0, 2, 7, 0, 0, 32, 127, 0, 0, 767, 1791, 4095, 0, 0, 32767, 0, 131071, 262143, 0, 1048575]
theorem spec_l30Net.tab5 : rtab .any (opsOf Try.f88 5) = spec_l30Net.T5 := by kernel_rfl
theorem spec_l30Net.bits5 : waitsOk spec_l30Net.T5.2 spec_l30Net.B5 = true := by kernel_rfl
set_option maxHeartbeats 8000000 in
set_option maxRecDepth 100000 in
theorem spec_l30Net.calls (k : Nat) (g : Nat) (s0_0 : List Int) (s0_1 : Int) (r1 : Int) (r2 : List (S34)) (r3 : Int) (w0 w : World) (hI : IsS97 w0 w g s0_0 s0_1) (hB : Below w0.heap.size w0 w) (h : spec_l30Net.f k s0_0 s0_1 = some (r1, r2, r3)) :
  Calls Try.prog 88 #[.pointer (some ⟨g, 0, none⟩)] w fun e w' => ∃ v1_ : Value, e = .returned (.agg #[.int .i64 r1, v1_]) ∧ Kd.R k34 34 w' w.heap.size (fun _ => True) v1_ r2 ∧ IsS97 w0 w' g s0_0 r3 ∧ Below w0.heap.size w0 w' ∧ KeepBut w w' g none := by
 have hu25 := Try.underlying25
 have hu34 := Try.underlying34
 have HI0 := Aside0.mk hI
 have HLTg := Aside0.mk (IsS97.lt hI)
 have HK := Aside0.mk (KeepBut.refl w g none)
 have HL := Aside0.mk hB.size
 clear hI
 have HW0 := Aside0.mk hB.size
 have HB := Aside0.mk hB
 clear hB
 have H : ((spec_l30Rd_pick.f k s0_0 s0_1 5).bind fun bt111 => ((spec_l30Rd_pick.f k s0_0 bt111.2 14).bind fun bt114 => (spec_l30Net.l0 k bt114.1 s0_0 bt114.2 (wrap64 (2 + bt111.1)) ([] : List (S34))))) = some (r1, r2, r3) := h
 clear h
 replace H := Option.bind_eq_some_iff.mp H
 obtain ⟨⟨t111, t112⟩, A20, H⟩ := H
 replace H : ((spec_l30Rd_pick.f k s0_0 t112 14).bind fun bt114 => (spec_l30Net.l0 k bt114.1 s0_0 bt114.2 (wrap64 (2 + t111)) ([] : List (S34)))) = some (r1, r2, r3) := H
 have A2 := Aside0.mk A20
 clear A20
 replace H := Option.bind_eq_some_iff.mp H
 obtain ⟨⟨t114, t115⟩, A30, H⟩ := H
 replace H : (spec_l30Net.l0 k t114 s0_0 t115 (wrap64 (2 + t111)) ([] : List (S34))) = some (r1, r2, r3) := H
 have A3 := Aside0.mk A30
 clear A30
 have H' := Aside0.mk H
 clear H
 go_enter Try.func88, Try.ntmps88
 go_wp2_with (first | ((with_reducible refine gate_dst (N := 2) rfl ?_); refine box_event ?hg (N := 2) ?hd (cs := #[.int .i64 0, .slice none 0 0]) (t := 25) ?hr ?_; (case hd => rfl); (case hg => rfl); (case hr => first | (go_simp; done) | (go_simp; rfl)); intro gb110 hg w4 hbox hb; have n0_ := Aside0.mk (IsS97.below (by repeat (first | (with_reducible first | exact HI0.out | apply IsS97.alloc | apply IsS97.drewN | apply IsS97.drew | apply IsS97.set_1) | exact HI0.out)) hb); have n1_ := Aside0.mk (KeepBut.trans (by repeat (first | (with_reducible first | exact HK.out | apply KeepBut.set_ | apply keep_drewN | apply keep_drew | apply keep_alloc) | exact HK.out)) (KeepBut.of_below hb g none) (.inl rfl)); have n2_ := Aside0.mk (below_step (by repeat (first | (with_reducible first | exact HB.out | apply below_alloc | apply pw_below_drewN | apply below_drew1 | refine below_set ?_ (IsS97.ge HI0.out)) | exact HB.out)) hb); have n3_ := Aside0.mk (hbox); have n4_ := Aside0.mk ((by rw [hg]; exact (keep_size (w := w) (g := g) (row := none) (by repeat (first | (with_reducible first | exact HK.out | apply KeepBut.set_ | apply keep_drewN | apply keep_drew | apply keep_alloc) | exact HK.out))) : w.heap.size ≤ gb110)); have n5_ := Aside0.mk ((Nat.le_trans HW0.out (by rw [hg]; exact (keep_size (w := w) (g := g) (row := none) (by repeat (first | (with_reducible first | exact HK.out | apply KeepBut.set_ | apply keep_drewN | apply keep_drew | apply keep_alloc) | exact HK.out))) : w.heap.size ≤ gb110) : w0.heap.size ≤ gb110)); have n6_ := Aside0.mk ((by rw [hg]; exact Nat.ne_of_lt (IsS97.lt (show IsS97 w0 _ g s0_0 s0_1 from by repeat (first | (with_reducible first | exact HI0.out | apply IsS97.alloc | apply IsS97.drewN | apply IsS97.drew | apply IsS97.set_1) | exact HI0.out))) : g ≠ gb110)); have n7_ := Aside0.mk ((by rw [hg]; exact Nat.ne_of_gt (IsS97.lt (show IsS97 w0 _ g s0_0 s0_1 from by repeat (first | (with_reducible first | exact HI0.out | apply IsS97.alloc | apply IsS97.drewN | apply IsS97.drew | apply IsS97.set_1) | exact HI0.out))) : gb110 ≠ g)); clear HI0; clear HK; clear HB; have HI0 := n0_; have HK := n1_; have HB := n2_; have BK110 := n3_; have GW110 := n4_; have GE110 := n5_; have NB0_110 := n6_; have NB110_0 := n7_; clear n0_ n1_ n2_ n3_ n4_ n5_ n6_ n7_; clear hb hbox hg) | ((with_reducible refine gate_callee (f := 89) rfl ?_); refine goesL_ (some 7) rfl rfl Try.func89 (by kernel_rfl) rfl #[.pointer (some ⟨g, 0, none⟩), .int .i64 5] rfl (by (try simp only [List.map_toArray, List.map_cons, List.map_nil]); first | done | rfl | (simp only [List.length_drop, List.length_take]; rfl)) ?_; (with_reducible refine (spec_l30Rd_pick.calls k g s0_0 s0_1 5 t111 t112 w0 _ ?side1 ?side2 A2.out).mono ?_); (case side1 => repeat (first | (with_reducible first | exact HI0.out | apply IsS97.alloc | apply IsS97.drewN | apply IsS97.drew | apply IsS97.set_1 | refine IsS97.far ?_ NB0_110.out _) | exact HI0.out)); (case side2 => repeat (first | (with_reducible first | exact HB.out | apply below_alloc | apply pw_below_drewN | apply below_drew1 | refine below_set ?_ (IsS97.ge HI0.out) | refine below_set ?_ GE110.out) | exact HB.out)); rintro e w5 ⟨rfl, hi, hb, hk⟩; refine ⟨_, rfl, ?_⟩; have n0_ := Aside0.mk (KeepBut.blk hk (g' := gb110) (o := .cells #[.int .i64 0, .slice none 0 0] 25 (0, 0)) (by (with_reducible repeat (first | refine blk_drewN ?_ _ | refine blk_drew ?_ | refine blk_alloc ?_ _)); exact BK110.out) NB110_0.out (by simp)); have n1_ := Aside0.mk (KeepBut.trans (by repeat (first | (with_reducible first | exact HK.out | apply KeepBut.set_ | apply keep_drewN | apply keep_drew | apply keep_alloc | refine keep_far ?_ GW110.out _) | exact HK.out)) hk (.inl rfl)); have n2_ := Aside0.mk (hb); have n3_ := Aside0.mk (hi); clear BK110; clear HK; clear HB; clear HI0; have BK110 := n0_; have HK := n1_; have HB := n2_; have HI0 := n3_; clear n0_ n1_ n2_ n3_; (try clear hb); (try clear hb2); (try clear hk); (try clear hi)) | ((with_reducible refine gate_dst (N := 3) rfl ?_); refine box_event ?hg (N := 3) ?hd (cs := #[.int .i64 0, .slice none 0 0]) (t := 25) ?hr ?_; (case hd => rfl); (case hg => rfl); (case hr => first | (go_simp; done) | (go_simp; rfl)); intro gb113 hg w6 hbox hb; have n0_ := Aside0.mk (IsS97.below (by repeat (first | (with_reducible first | exact HI0.out | apply IsS97.alloc | apply IsS97.drewN | apply IsS97.drew | apply IsS97.set_1 | refine IsS97.far ?_ NB0_110.out _) | exact HI0.out)) hb); have n1_ := Aside0.mk (blk_below (g := gb110) (o := .cells #[.int .i64 0, .slice none 0 0] 25 (0, 0)) (by (with_reducible repeat (first | refine blk_drewN ?_ _ | refine blk_drew ?_ | refine blk_alloc ?_ _)); exact BK110.out) hb); have n2_ := Aside0.mk (KeepBut.trans (by repeat (first | (with_reducible first | exact HK.out | apply KeepBut.set_ | apply keep_drewN | apply keep_drew | apply keep_alloc | refine keep_far ?_ GW110.out _) | exact HK.out)) (KeepBut.of_below hb g none) (.inl rfl)); have n3_ := Aside0.mk (below_step (by repeat (first | (with_reducible first | exact HB.out | apply below_alloc | apply pw_below_drewN | apply below_drew1 | refine below_set ?_ (IsS97.ge HI0.out) | refine below_set ?_ GE110.out) | exact HB.out)) hb); have n4_ := Aside0.mk (hbox); have n5_ := Aside0.mk ((by rw [hg]; exact (keep_size (w := w) (g := g) (row := none) (by repeat (first | (with_reducible first | exact HK.out | apply KeepBut.set_ | apply keep_drewN | apply keep_drew | apply keep_alloc | refine keep_far ?_ GW110.out _) | exact HK.out))) : w.heap.size ≤ gb113)); have n6_ := Aside0.mk ((Nat.le_trans HW0.out (by rw [hg]; exact (keep_size (w := w) (g := g) (row := none) (by repeat (first | (with_reducible first | exact HK.out | apply KeepBut.set_ | apply keep_drewN | apply keep_drew | apply keep_alloc | refine keep_far ?_ GW110.out _) | exact HK.out))) : w.heap.size ≤ gb113) : w0.heap.size ≤ gb113)); have n7_ := Aside0.mk ((by rw [hg]; exact Nat.ne_of_lt (blk_lt (g := gb110) (o := .cells #[.int .i64 0, .slice none 0 0] 25 (0, 0)) (by (with_reducible repeat (first | refine blk_drewN ?_ _ | refine blk_drew ?_ | refine blk_alloc ?_ _)); exact BK110.out)) : gb110 ≠ gb113)); have n8_ := Aside0.mk ((by rw [hg]; exact Nat.ne_of_gt (blk_lt (g := gb110) (o := .cells #[.int .i64 0, .slice none 0 0] 25 (0, 0)) (by (with_reducible repeat (first | refine blk_drewN ?_ _ | refine blk_drew ?_ | refine blk_alloc ?_ _)); exact BK110.out)) : gb113 ≠ gb110)); have n9_ := Aside0.mk ((by rw [hg]; exact Nat.ne_of_lt (IsS97.lt (show IsS97 w0 _ g s0_0 t112 from by repeat (first | (with_reducible first | exact HI0.out | apply IsS97.alloc | apply IsS97.drewN | apply IsS97.drew | apply IsS97.set_1 | refine IsS97.far ?_ NB0_110.out _) | exact HI0.out))) : g ≠ gb113)); have n10_ := Aside0.mk ((by rw [hg]; exact Nat.ne_of_gt (IsS97.lt (show IsS97 w0 _ g s0_0 t112 from by repeat (first | (with_reducible first | exact HI0.out | apply IsS97.alloc | apply IsS97.drewN | apply IsS97.drew | apply IsS97.set_1 | refine IsS97.far ?_ NB0_110.out _) | exact HI0.out))) : gb113 ≠ g)); clear HI0; clear BK110; clear HK; clear HB; have HI0 := n0_; have BK110 := n1_; have HK := n2_; have HB := n3_; have BK113 := n4_; have GW113 := n5_; have GE113 := n6_; have NB110_113 := n7_; have NB113_110 := n8_; have NB0_113 := n9_; have NB113_0 := n10_; clear n0_ n1_ n2_ n3_ n4_ n5_ n6_ n7_ n8_ n9_ n10_; clear hb hbox hg; have hnb7 := NB113_110.out; have hnc7 := NB110_113.out; have hnb8 := NB113_0.out; have hnc8 := NB0_113.out; have hcz9_0 : w6.cell? ⟨gb113, 0, none⟩ = some (.int .i64 0) := (blk_cell BK113.out 0).trans rfl; have hcz9_1 : w6.cell? ⟨gb113, 1, none⟩ = some (.slice none 0 0) := (blk_cell BK113.out 1).trans rfl; have hfz9_0 := blk_frozen BK113.out 0; have hfz9_1 := blk_frozen BK113.out 1) | ((with_reducible refine gate_callee (f := 89) rfl ?_); refine goesL_ (some 11) rfl rfl Try.func89 (by kernel_rfl) rfl #[.pointer (some ⟨g, 0, none⟩), .int .i64 14] rfl (by (try simp only [List.map_toArray, List.map_cons, List.map_nil]); first | done | rfl | (simp only [List.length_drop, List.length_take]; rfl)) ?_; (with_reducible refine (spec_l30Rd_pick.calls k g s0_0 t112 14 t114 t115 w0 _ ?side1 ?side2 A3.out).mono ?_); (case side1 => repeat (first | (with_reducible first | exact HI0.out | apply IsS97.alloc | apply IsS97.drewN | apply IsS97.drew | apply IsS97.set_1 | refine IsS97.far ?_ NB0_110.out _ | refine IsS97.far ?_ NB0_113.out _) | exact HI0.out)); (case side2 => repeat (first | (with_reducible first | exact HB.out | apply below_alloc | apply pw_below_drewN | apply below_drew1 | refine below_set ?_ (IsS97.ge HI0.out) | refine below_set ?_ GE110.out | refine below_set ?_ GE113.out) | exact HB.out)); rintro e w10 ⟨rfl, hi, hb, hk⟩; refine ⟨_, rfl, ?_⟩; have n0_ := Aside0.mk (KeepBut.blk hk (g' := gb110) (o := .cells #[.int .i64 0, .slice none 0 0] 25 (0, 0)) (by (with_reducible repeat (first | refine blk_drewN ?_ _ | refine blk_drew ?_ | refine blk_alloc ?_ _)); refine blk_far ?_ NB110_113.out _; (with_reducible repeat (first | refine blk_drewN ?_ _ | refine blk_drew ?_ | refine blk_alloc ?_ _)); refine blk_far ?_ NB110_113.out _; (with_reducible repeat (first | refine blk_drewN ?_ _ | refine blk_drew ?_ | refine blk_alloc ?_ _)); exact BK110.out) NB110_0.out (by simp)); have n1_ := Aside0.mk (KeepBut.blk hk (g' := gb113) (o := .cells #[.int .i64 (wrap64 (2 + t111)), .slice none 0 0] 25 (0, 0)) (by (with_reducible repeat (first | refine blk_drewN ?_ _ | refine blk_drew ?_ | refine blk_alloc ?_ _)); refine blk_put (cs := #[.int .i64 (wrap64 (2 + t111)), .slice none 0 0]) ?_ 1 _ rfl; (with_reducible repeat (first | refine blk_drewN ?_ _ | refine blk_drew ?_ | refine blk_alloc ?_ _)); refine blk_put (cs := #[.int .i64 0, .slice none 0 0]) ?_ 0 _ rfl; (with_reducible repeat (first | refine blk_drewN ?_ _ | refine blk_drew ?_ | refine blk_alloc ?_ _)); exact BK113.out) NB113_0.out (by simp)); have n2_ := Aside0.mk (KeepBut.trans (by repeat (first | (with_reducible first | exact HK.out | apply KeepBut.set_ | apply keep_drewN | apply keep_drew | apply keep_alloc | refine keep_far ?_ GW110.out _ | refine keep_far ?_ GW113.out _) | exact HK.out)) hk (.inl rfl)); have n3_ := Aside0.mk (hb); have n4_ := Aside0.mk (hi); clear BK110; clear BK113; clear HK; clear HB; clear HI0; have BK110 := n0_; have BK113 := n1_; have HK := n2_; have HB := n3_; have HI0 := n4_; clear n0_ n1_ n2_ n3_ n4_; (try clear hb); (try clear hb2); (try clear hk); (try clear hi)))
 go_loopg [4] k (fun kq v4 w' => ∃ (x4_1 : Int) (x1001_1 : Int) (x114001_1 : List (S34)) (u114001 : Value), v4 = .int .i64 x4_1 ∧ Aside0 (spec_l30Net.l0 kq x4_1 s0_0 x1001_1 (wrap64 (2 + t111)) x114001_1 = some (r1, r2, r3)) ∧ Aside0 (kq ≤ k) ∧ Aside0 (Kd.R k34 34 w' w.heap.size (fun _ => True) u114001 x114001_1) ∧ Aside0 (w'.heap[gb110]? = some (.cells #[.int .i64 0, (.slice none 0 0)] 25 (0, 0))) ∧ Aside0 (w'.heap[gb113]? = some (.cells #[.int .i64 (wrap64 (2 + t111)), u114001] 25 (0, 0))) ∧ Aside0 (IsS97 w0 w' g s0_0 x1001_1) ∧ Aside0 (KeepBut w w' g none) ∧ Aside0 (Below w0.heap.size w0 w'))
 case atStart => exact ⟨(t114), (t115), (([] : List (S34))), (.slice none 0 0), (by first | rfl | (simp; done) | (simp [*]; done)), H', ⟨Nat.le_refl _⟩, ⟨by first | exact Kd.R_nil _ _ _ _ _ | exact Kd.N_nil _ _ _ _ _ | exact Kd.V_nil _ _ _ _ _ | exact Kd.Q_nil _ _ _ _ _ | exact Kd.S_nil _ _ _ _ _⟩, ⟨by (with_reducible repeat (first | refine blk_drewN ?_ _ | refine blk_drew ?_ | refine blk_alloc ?_ _)); exact BK110.out⟩, ⟨by (with_reducible repeat (first | refine blk_drewN ?_ _ | refine blk_drew ?_ | refine blk_alloc ?_ _)); exact BK113.out⟩, ⟨by repeat (first | (with_reducible first | exact HI0.out | apply IsS97.alloc | apply IsS97.drewN | apply IsS97.drew | apply IsS97.set_1 | refine IsS97.far ?_ NB0_110.out _ | refine IsS97.far ?_ NB0_113.out _) | exact HI0.out)⟩, ⟨by repeat (first | (with_reducible first | exact HK.out | apply KeepBut.set_ | apply keep_drewN | apply keep_drew | apply keep_alloc | refine keep_far ?_ GW110.out _ | refine keep_far ?_ GW113.out _) | exact HK.out)⟩, ⟨by repeat (first | (with_reducible first | exact HB.out | apply below_alloc | apply pw_below_drewN | apply below_drew1 | refine below_set ?_ (IsS97.ge HI0.out) | refine below_set ?_ GE110.out | refine below_set ?_ GE113.out) | exact HB.out)⟩⟩
 case round =>
  clear H'
  try clear p2
  try clear p6
  try clear c7
  try clear c8
  try clear hcz9_0
  try clear hcz9_1
  try clear hfz9_0
  try clear hfz9_1
  obtain ⟨x4_1, x1001_1, x114001_1, u114001, rfl, HA, HK1, HO_114001, BK110, BK113, HI0, HK, HB⟩ := hrel
  cases gk with
  | zero => exact absurd HA.out (by simp [spec_l30Net.l0])
  | succ k1 =>
   have H := HA.out
   clear HA
   simp only [spec_l30Net.l0] at H
   by_cases c11 : x4_1 > 0
   ·rw [if_pos c11] at H
    have c11b0 : decide (0 < x4_1) = true := decide_eq_true c11
    clear c11
    replace H := Option.bind_eq_some_iff.mp H
    obtain ⟨⟨t116, t117⟩, A120, H⟩ := H
    replace H : ((spec_l30Rd_pick.f k1 s0_0 t117 (wrap64 (2 + t111))).bind fun bt118 => ((spec_l30Rd_pick.f k1 s0_0 bt118.2 100).bind fun bt120 => ((spec_l30Rd_one.f k1 s0_0 bt120.2 (([0, 1, 2, 5, 9, bt120.1] : List Int))).bind fun bt125 => ((spec_l30Rd_one.f k1 s0_0 bt125.2 (([0, 0, 3, 8] : List Int))).bind fun bt130 => ((spec_l30Rd_pick.f k1 s0_0 bt130.2 10).bind fun bt132 => (if t116 = bt118.1 then (if (wrap64 (2 + t111)) = 0 then (none) else (if x114001_1.length < 3518437208883 then (spec_l30Net.l0 k1 (wrap64 (x4_1 - 1)) s0_0 bt132.2 (wrap64 (2 + t111)) (x114001_1 ++ [(⟨t116, Int.tmod (wrap64 (bt118.1 + 1)) (wrap64 (2 + t111)), bt125.1, bt130.1, bt132.1⟩ : S34)])) else (none))) else (if x114001_1.length < 3518437208883 then (spec_l30Net.l0 k1 (wrap64 (x4_1 - 1)) s0_0 bt132.2 (wrap64 (2 + t111)) (x114001_1 ++ [(⟨t116, bt118.1, bt125.1, bt130.1, bt132.1⟩ : S34)])) else (none)))))))) = some (r1, r2, r3) := H
    have A12 := Aside0.mk A120
    clear A120
    replace H := Option.bind_eq_some_iff.mp H
    obtain ⟨⟨t118, t119⟩, A130, H⟩ := H
    replace H : ((spec_l30Rd_pick.f k1 s0_0 t119 100).bind fun bt120 => ((spec_l30Rd_one.f k1 s0_0 bt120.2 (([0, 1, 2, 5, 9, bt120.1] : List Int))).bind fun bt125 => ((spec_l30Rd_one.f k1 s0_0 bt125.2 (([0, 0, 3, 8] : List Int))).bind fun bt130 => ((spec_l30Rd_pick.f k1 s0_0 bt130.2 10).bind fun bt132 => (if t116 = t118 then (if (wrap64 (2 + t111)) = 0 then (none) else (if x114001_1.length < 3518437208883 then (spec_l30Net.l0 k1 (wrap64 (x4_1 - 1)) s0_0 bt132.2 (wrap64 (2 + t111)) (x114001_1 ++ [(⟨t116, Int.tmod (wrap64 (t118 + 1)) (wrap64 (2 + t111)), bt125.1, bt130.1, bt132.1⟩ : S34)])) else (none))) else (if x114001_1.length < 3518437208883 then (spec_l30Net.l0 k1 (wrap64 (x4_1 - 1)) s0_0 bt132.2 (wrap64 (2 + t111)) (x114001_1 ++ [(⟨t116, t118, bt125.1, bt130.1, bt132.1⟩ : S34)])) else (none))))))) = some (r1, r2, r3) := H
    have A13 := Aside0.mk A130
    clear A130
    replace H := Option.bind_eq_some_iff.mp H
    obtain ⟨⟨t120, t121⟩, A140, H⟩ := H
    replace H : ((spec_l30Rd_one.f k1 s0_0 t121 (([0, 1, 2, 5, 9, t120] : List Int))).bind fun bt125 => ((spec_l30Rd_one.f k1 s0_0 bt125.2 (([0, 0, 3, 8] : List Int))).bind fun bt130 => ((spec_l30Rd_pick.f k1 s0_0 bt130.2 10).bind fun bt132 => (if t116 = t118 then (if (wrap64 (2 + t111)) = 0 then (none) else (if x114001_1.length < 3518437208883 then (spec_l30Net.l0 k1 (wrap64 (x4_1 - 1)) s0_0 bt132.2 (wrap64 (2 + t111)) (x114001_1 ++ [(⟨t116, Int.tmod (wrap64 (t118 + 1)) (wrap64 (2 + t111)), bt125.1, bt130.1, bt132.1⟩ : S34)])) else (none))) else (if x114001_1.length < 3518437208883 then (spec_l30Net.l0 k1 (wrap64 (x4_1 - 1)) s0_0 bt132.2 (wrap64 (2 + t111)) (x114001_1 ++ [(⟨t116, t118, bt125.1, bt130.1, bt132.1⟩ : S34)])) else (none)))))) = some (r1, r2, r3) := H
    have A14 := Aside0.mk A140
    clear A140
    obtain ⟨y122, hy122⟩ : ∃ y_ : List Int, y_ = (([0, 1, 2, 5, 9, t120] : List Int)) := ⟨_, rfl⟩
    replace H : ((spec_l30Rd_one.f k1 s0_0 t121 y122).bind fun bt125 => ((spec_l30Rd_one.f k1 s0_0 bt125.2 (([0, 0, 3, 8] : List Int))).bind fun bt130 => ((spec_l30Rd_pick.f k1 s0_0 bt130.2 10).bind fun bt132 => (if t116 = t118 then (if (wrap64 (2 + t111)) = 0 then (none) else (if x114001_1.length < 3518437208883 then (spec_l30Net.l0 k1 (wrap64 (x4_1 - 1)) s0_0 bt132.2 (wrap64 (2 + t111)) (x114001_1 ++ [(⟨t116, Int.tmod (wrap64 (t118 + 1)) (wrap64 (2 + t111)), bt125.1, bt130.1, bt132.1⟩ : S34)])) else (none))) else (if x114001_1.length < 3518437208883 then (spec_l30Net.l0 k1 (wrap64 (x4_1 - 1)) s0_0 bt132.2 (wrap64 (2 + t111)) (x114001_1 ++ [(⟨t116, t118, bt125.1, bt130.1, bt132.1⟩ : S34)])) else (none)))))) = some (r1, r2, r3) := by first | (rw [hy122]; with_reducible exact H) | (have H2_ := (Option.bind_some _ _).symm.trans H; rw [hy122]; with_reducible exact H2_) | (have H2_ := (Option.bind_some _ _).symm.trans H; with_reducible exact H2_) | with_reducible exact H | (rw [hy122]; exact H) | exact H
    have Ny122 := Aside0.mk hy122
    clear hy122
    replace H := Option.bind_eq_some_iff.mp H
    obtain ⟨⟨t125, t126⟩, A150, H⟩ := H
    replace H : ((spec_l30Rd_one.f k1 s0_0 t126 (([0, 0, 3, 8] : List Int))).bind fun bt130 => ((spec_l30Rd_pick.f k1 s0_0 bt130.2 10).bind fun bt132 => (if t116 = t118 then (if (wrap64 (2 + t111)) = 0 then (none) else (if x114001_1.length < 3518437208883 then (spec_l30Net.l0 k1 (wrap64 (x4_1 - 1)) s0_0 bt132.2 (wrap64 (2 + t111)) (x114001_1 ++ [(⟨t116, Int.tmod (wrap64 (t118 + 1)) (wrap64 (2 + t111)), t125, bt130.1, bt132.1⟩ : S34)])) else (none))) else (if x114001_1.length < 3518437208883 then (spec_l30Net.l0 k1 (wrap64 (x4_1 - 1)) s0_0 bt132.2 (wrap64 (2 + t111)) (x114001_1 ++ [(⟨t116, t118, t125, bt130.1, bt132.1⟩ : S34)])) else (none))))) = some (r1, r2, r3) := H
    have A15 := Aside0.mk A150
    clear A150
    obtain ⟨y127, hy127⟩ : ∃ y_ : List Int, y_ = (([0, 0, 3, 8] : List Int)) := ⟨_, rfl⟩
    replace H : ((spec_l30Rd_one.f k1 s0_0 t126 y127).bind fun bt130 => ((spec_l30Rd_pick.f k1 s0_0 bt130.2 10).bind fun bt132 => (if t116 = t118 then (if (wrap64 (2 + t111)) = 0 then (none) else (if x114001_1.length < 3518437208883 then (spec_l30Net.l0 k1 (wrap64 (x4_1 - 1)) s0_0 bt132.2 (wrap64 (2 + t111)) (x114001_1 ++ [(⟨t116, Int.tmod (wrap64 (t118 + 1)) (wrap64 (2 + t111)), t125, bt130.1, bt132.1⟩ : S34)])) else (none))) else (if x114001_1.length < 3518437208883 then (spec_l30Net.l0 k1 (wrap64 (x4_1 - 1)) s0_0 bt132.2 (wrap64 (2 + t111)) (x114001_1 ++ [(⟨t116, t118, t125, bt130.1, bt132.1⟩ : S34)])) else (none))))) = some (r1, r2, r3) := by first | (rw [hy127]; with_reducible exact H) | (have H2_ := (Option.bind_some _ _).symm.trans H; rw [hy127]; with_reducible exact H2_) | (have H2_ := (Option.bind_some _ _).symm.trans H; with_reducible exact H2_) | with_reducible exact H | (rw [hy127]; exact H) | exact H
    have Ny127 := Aside0.mk hy127
    clear hy127
    replace H := Option.bind_eq_some_iff.mp H
    obtain ⟨⟨t130, t131⟩, A160, H⟩ := H
    replace H : ((spec_l30Rd_pick.f k1 s0_0 t131 10).bind fun bt132 => (if t116 = t118 then (if (wrap64 (2 + t111)) = 0 then (none) else (if x114001_1.length < 3518437208883 then (spec_l30Net.l0 k1 (wrap64 (x4_1 - 1)) s0_0 bt132.2 (wrap64 (2 + t111)) (x114001_1 ++ [(⟨t116, Int.tmod (wrap64 (t118 + 1)) (wrap64 (2 + t111)), t125, t130, bt132.1⟩ : S34)])) else (none))) else (if x114001_1.length < 3518437208883 then (spec_l30Net.l0 k1 (wrap64 (x4_1 - 1)) s0_0 bt132.2 (wrap64 (2 + t111)) (x114001_1 ++ [(⟨t116, t118, t125, t130, bt132.1⟩ : S34)])) else (none)))) = some (r1, r2, r3) := H
    have A16 := Aside0.mk A160
    clear A160
    replace H := Option.bind_eq_some_iff.mp H
    obtain ⟨⟨t132, t133⟩, A170, H⟩ := H
    replace H : (if t116 = t118 then (if (wrap64 (2 + t111)) = 0 then (none) else (if x114001_1.length < 3518437208883 then (spec_l30Net.l0 k1 (wrap64 (x4_1 - 1)) s0_0 t133 (wrap64 (2 + t111)) (x114001_1 ++ [(⟨t116, Int.tmod (wrap64 (t118 + 1)) (wrap64 (2 + t111)), t125, t130, t132⟩ : S34)])) else (none))) else (if x114001_1.length < 3518437208883 then (spec_l30Net.l0 k1 (wrap64 (x4_1 - 1)) s0_0 t133 (wrap64 (2 + t111)) (x114001_1 ++ [(⟨t116, t118, t125, t130, t132⟩ : S34)])) else (none))) = some (r1, r2, r3) := H
    have A17 := Aside0.mk A170
    clear A170
    have HH_ := Aside0.mk H
    clear H
    try go_wp2
    have n0_ := Aside0.mk (Kd.R_drew HO_114001.out)
    have n1_ := Aside0.mk (blk_drew BK110.out)
    have n2_ := Aside0.mk (blk_drew BK113.out)
    have n3_ := Aside0.mk (IsS97.drew HI0.out)
    have n4_ := Aside0.mk (keep_drew HK.out)
    have n5_ := Aside0.mk (below_drew1 HB.out)
    clear HO_114001
    clear BK110
    clear BK113
    clear HI0
    clear HK
    clear HB
    have HO_114001 := n0_
    have BK110 := n1_
    have BK113 := n2_
    have HI0 := n3_
    have HK := n4_
    have HB := n5_
    clear n0_ n1_ n2_ n3_ n4_ n5_
    refine start_ (n := 21) (S := fun w' => True) (ds := []) #[false, false, false, false, false, false, false, false, false, false, false, false, false, false, false, false, false, false, false, false, false] (by kernel_rfl) rfl rfl trivial (fun hHeld => ?_); refine with_tabW spec_l30Net.tab5 spec_l30Net.bits5 (fun HT_ HW_ => ?_)
    generalize wr.drew = w21 at HO_114001 BK110 BK113 HI0 HK HB hHeld ⊢
    refine pure_ (i := 0) (N := some 16) (v := ?_) (a' := ?_) #[true, false, false, false, false, false, false, false, false, false, false, false, false, false, false, false, false, false, false, false, false] rfl rfl (any_of HT_.out (by kernel_rfl)) (fun _ _ _ h => h) (Or.inl ⟨by rfl, ?_⟩) ?_ ?_
    rotate_left
    ·intro w'
     go_simp
     with_reducible rfl
    rotate_left
    ·simp only [Act.put, List.setIfInBounds_toArray, List.set_cons_zero, List.set_cons_succ, i64_w, i32_w]
     rfl
    refine pure_ (i := 1) (N := some 17) (v := ?_) (a' := ?_) #[true, true, false, false, false, false, false, false, false, false, false, false, false, false, false, false, false, false, false, false, false] rfl rfl (any_of HT_.out (by kernel_rfl)) (fun _ _ _ h => h) (Or.inl ⟨by rfl, ?_⟩) ?_ ?_
    rotate_left
    ·intro w'
     go_simp
     with_reducible rfl
    rotate_left
    ·simp only [Act.put, List.setIfInBounds_toArray, List.set_cons_zero, List.set_cons_succ, i64_w, i32_w]
     rfl
    refine pure_ (i := 4) (N := some 20) (v := ?_) (a' := ?_) #[true, true, false, false, true, false, false, false, false, false, false, false, false, false, false, false, false, false, false, false, false] rfl rfl (any_of HT_.out (by kernel_rfl)) (fun _ _ _ h => h) (Or.inl ⟨by rfl, ?_⟩) ?_ ?_
    rotate_left
    ·intro w'
     go_simp
     with_reducible rfl
    rotate_left
    ·simp only [Act.put, List.setIfInBounds_toArray, List.set_cons_zero, List.set_cons_succ, i64_w, i32_w]
     rfl
    refine pure_ (i := 5) (N := some 21) (v := ?_) (a' := ?_) #[true, true, false, false, true, true, false, false, false, false, false, false, false, false, false, false, false, false, false, false, false] rfl rfl (any_of HT_.out (by kernel_rfl)) (fun _ _ _ h => h) (Or.inl ⟨by rfl, ?_⟩) ?_ ?_
    rotate_left
    ·intro w'
     go_simp
     with_reducible rfl
    rotate_left
    ·simp only [Act.put, List.setIfInBounds_toArray, List.set_cons_zero, List.set_cons_succ, i64_w, i32_w]
     rfl
    refine pure_ (i := 8) (N := some 24) (v := ?_) (a' := ?_) #[true, true, false, false, true, true, false, false, true, false, false, false, false, false, false, false, false, false, false, false, false] rfl rfl (any_of HT_.out (by kernel_rfl)) (fun _ _ _ h => h) (Or.inl ⟨by rfl, ?_⟩) ?_ ?_
    rotate_left
    ·intro w'
     go_simp
     with_reducible rfl
    rotate_left
    ·simp only [Act.put, List.setIfInBounds_toArray, List.set_cons_zero, List.set_cons_succ, i64_w, i32_w]
     rfl
    refine pure_ (i := 9) (N := some 25) (v := ?_) (a' := ?_) #[true, true, false, false, true, true, false, false, true, true, false, false, false, false, false, false, false, false, false, false, false] rfl rfl (any_of HT_.out (by kernel_rfl)) (fun _ _ _ h => h) (Or.inl ⟨by rfl, ?_⟩) ?_ ?_
    rotate_left
    ·intro w'
     go_simp
     with_reducible rfl
    rotate_left
    ·simp only [Act.put, List.setIfInBounds_toArray, List.set_cons_zero, List.set_cons_succ, i64_w, i32_w]
     rfl
    refine pure_ (i := 13) (N := some 29) (v := ?_) (a' := ?_) #[true, true, false, false, true, true, false, false, true, true, false, false, false, true, false, false, false, false, false, false, false] rfl rfl (any_of HT_.out (by kernel_rfl)) (fun _ _ _ h => h) (Or.inl ⟨by rfl, ?_⟩) ?_ ?_
    rotate_left
    ·intro w'
     go_simp
     with_reducible rfl
    rotate_left
    ·simp only [Act.put, List.setIfInBounds_toArray, List.set_cons_zero, List.set_cons_succ, i64_w, i32_w]
     rfl
    refine pure_ (i := 16) (N := some 32) (v := ?_) (a' := ?_) #[true, true, false, false, true, true, false, false, true, true, false, false, false, true, false, false, true, false, false, false, false] rfl rfl (any_of HT_.out (by kernel_rfl)) (fun _ _ _ h => h) (Or.inl ⟨by rfl, ?_⟩) ?_ ?_
    rotate_left
    ·intro w'
     go_simp
     with_reducible rfl
    rotate_left
    ·simp only [Act.put, List.setIfInBounds_toArray, List.set_cons_zero, List.set_cons_succ, i64_w, i32_w]
     rfl
    refine inv_at [2, 3, 6, 7, 10, 11, 12, 14, 15, 17, 18, 19, 20] (fun a0_ b a w' => ∃ (v123 : Value) (v128 : Value) (gb134 : Nat) (m19_ : Value), a = putSel a0_ b [(2, 18, .int .i64 (wrap64 (2 + t111))), (3, 19, .int .i64 t116), (6, 22, .int .i64 (wrap64 (2 + t111))), (7, 23, .int .i64 t118), (10, 26, .int .i64 t120), (11, 27, v123), (12, 28, .int .i64 t125), (14, 30, v128), (15, 31, .int .i64 t130), (17, 33, .int .i64 t132), (18, 34, .agg #[.int .i64 t116, .int .i64 t118, .int .i64 t125, .int .i64 t130, .int .i64 t132]), (19, 5, m19_)] ∧ (b 19 = false → Kd.R k34 34 w' w.heap.size (fun _ => True) u114001 x114001_1) ∧ (w'.heap[gb110]? = some (.cells #[.int .i64 0, .slice none 0 0] 25 (0, 0))) ∧ (w'.heap[gb113]? = some (.cells #[.int .i64 (wrap64 (2 + t111)), u114001] 25 (0, 0))) ∧ (b 3 = false → IsS97 w0 w' g s0_0 x1001_1) ∧ (KeepBut w w' g none) ∧ (Below w0.heap.size w0 w') ∧ (b 3 = true → b 7 = false → IsS97 w0 w' g s0_0 t117) ∧ (b 7 = true → b 10 = false → IsS97 w0 w' g s0_0 t119) ∧ (b 10 = true → b 12 = false → IsS97 w0 w' g s0_0 t121) ∧ (b 11 = true → Kd.R (Kd.int .i64) 3 w' w.heap.size (fun _ => True) v123 y122) ∧ (b 12 = true → b 15 = false → IsS97 w0 w' g s0_0 t126) ∧ (b 14 = true → Kd.R (Kd.int .i64) 3 w' w.heap.size (fun _ => True) v128 y127) ∧ (b 15 = true → b 17 = false → IsS97 w0 w' g s0_0 t131) ∧ (b 17 = true → IsS97 w0 w' g s0_0 t133) ∧ (b 19 = true → Kd.R k34 34 w' w.heap.size (fun k_ => k_ ≠ gb134) u114001 x114001_1) ∧ (b 19 = true → b 20 = false → w'.heap[gb134]? = some (.cells #[.int .i64 0, .int .i64 0, .int .i64 0, .int .i64 0, .int .i64 0] 34 (0, 0))) ∧ (b 19 = true → w.heap.size ≤ gb134) ∧ (b 19 = true → w0.heap.size ≤ gb134) ∧ (b 19 = true → g ≠ gb134) ∧ (b 19 = true → gb134 ≠ g) ∧ (b 19 = true → gb110 ≠ gb134) ∧ (b 19 = true → gb134 ≠ gb110) ∧ (b 19 = true → gb113 ≠ gb134) ∧ (b 19 = true → gb134 ≠ gb113) ∧ (b 20 = true → w'.heap[gb134]? = some (.cells #[.int .i64 t116, .int .i64 t118, .int .i64 t125, .int .i64 t130, .int .i64 t132] 34 (0, 0))) ∧ (b 19 = true → (m19_ : Value) = .pointer (some ⟨gb134, 0, none⟩))) HT_.out HW_.out (by kernel_rfl) (by kernel_rfl) ?_ ?_ ?_
    ·exact ⟨.bool false, .bool false, 0, .bool false, by simp only [putSel, Bool.false_eq_true, if_false], fun _ => HO_114001.out, BK110.out, BK113.out, fun _ => HI0.out, HK.out, HB.out, fun h_ => absurd h_ (by decide), fun h_ => absurd h_ (by decide), fun h_ => absurd h_ (by decide), fun h_ => absurd h_ (by decide), fun h_ => absurd h_ (by decide), fun h_ => absurd h_ (by decide), fun h_ => absurd h_ (by decide), fun h_ => absurd h_ (by decide), fun h_ => absurd h_ (by decide), fun h_ => absurd h_ (by decide), fun h_ => absurd h_ (by decide), fun h_ => absurd h_ (by decide), fun h_ => absurd h_ (by decide), fun h_ => absurd h_ (by decide), fun h_ => absurd h_ (by decide), fun h_ => absurd h_ (by decide), fun h_ => absurd h_ (by decide), fun h_ => absurd h_ (by decide), fun h_ => absurd h_ (by decide), fun h_ => absurd h_ (by decide)⟩
    ·skip
     clear BK110 BK113 HB HI0 HK HO_114001
     refine steps_cons ?_ ?_
     ·rintro b a w' ⟨v123, v128, gb134, m19_, ha, Q_HO_114001, Q_BK110, Q_BK113, Q_HI0, Q_HK, Q_HB, Q_HI0_e3, Q_HI0_e7, Q_HI0_e10, Q_HO124, Q_HI0_e12, Q_HO129, Q_HI0_e15, Q_HI0_e17, Q_HO_114001_e19, Q_BK134, Q_GW134, Q_GE134, Q_NB0_134, Q_NB134_0, Q_NB110_134, Q_NB134_110, Q_NB113_134, Q_NB134_113, Q_BK134_e20, Q_X19_⟩ hb_ hon hoff
      refine ⟨_, rfl, fun K hK => ?_⟩
      have e17 : a.tmps[17]? = some (.pointer (some ⟨gb113, 0, none⟩)) := by rw [ha]; exact (putSel_off rfl).trans rfl
      replace ha := Aside0.mk ha
      have BK110 := Aside0.mk Q_BK110
      have BK113 := Aside0.mk Q_BK113
      have HI0 := Aside0.mk (Q_HI0 (hoff 3 (by kernel_rfl)))
      have HK := Aside0.mk Q_HK
      have HB := Aside0.mk Q_HB
      have hc0_ : w'.cell? ⟨gb113, 0, none⟩ = some (.int .i64 (wrap64 (2 + t111))) := (blk_cell BK113.out 0).trans rfl
      have hc1_ : w'.cell? ⟨gb113, 1, none⟩ = some (u114001) := (blk_cell BK113.out 1).trans rfl
      refine value_ (w1 := w') (v := .int .i64 (wrap64 (2 + t111))) (by rfl) rfl ?_ ?_
      ·go_simp
       (try simp only [i64_w])
       try rfl
      refine hK.out _ _ ⟨v123, v128, gb134, m19_, (by rw [ha.out]; exact putSel_upk 0 hb_ rfl rfl rfl), Q_HO_114001, Q_BK110, Q_BK113, Q_HI0, Q_HK, Q_HB, fun h0_ _ => absurd ((hoff 3 (by kernel_rfl)).symm.trans h0_) (by decide), fun h0_ _ => absurd ((hoff 7 (by kernel_rfl)).symm.trans h0_) (by decide), fun h0_ _ => absurd ((hoff 10 (by kernel_rfl)).symm.trans h0_) (by decide), fun h0_ => absurd ((hoff 11 (by kernel_rfl)).symm.trans h0_) (by decide), fun h0_ _ => absurd ((hoff 12 (by kernel_rfl)).symm.trans h0_) (by decide), Q_HO129, fun h0_ _ => absurd ((hoff 15 (by kernel_rfl)).symm.trans h0_) (by decide), fun h0_ => absurd ((hoff 17 (by kernel_rfl)).symm.trans h0_) (by decide), Q_HO_114001_e19, Q_BK134, Q_GW134, Q_GE134, Q_NB0_134, Q_NB134_0, Q_NB110_134, Q_NB134_110, Q_NB113_134, Q_NB134_113, fun h0_ => absurd ((hoff 20 (by kernel_rfl)).symm.trans h0_) (by decide), Q_X19_⟩
     refine steps_cons ?_ ?_
     ·rintro b a w' ⟨v123, v128, gb134, m19_, ha, Q_HO_114001, Q_BK110, Q_BK113, Q_HI0, Q_HK, Q_HB, Q_HI0_e3, Q_HI0_e7, Q_HI0_e10, Q_HO124, Q_HI0_e12, Q_HO129, Q_HI0_e15, Q_HI0_e17, Q_HO_114001_e19, Q_BK134, Q_GW134, Q_GE134, Q_NB0_134, Q_NB134_0, Q_NB110_134, Q_NB134_110, Q_NB113_134, Q_NB134_113, Q_BK134_e20, Q_X19_⟩ hb_ hon hoff
      refine ⟨_, rfl, fun K hK => ?_⟩
      have e16 : a.tmps[16]? = some (.pointer (some ⟨g, 0, none⟩)) := by rw [ha]; exact (putSel_off rfl).trans rfl
      have e18 : a.tmps[18]? = some (.int .i64 (wrap64 (2 + t111))) := by rw [ha]; exact putSel_on (e := (2, 18, .int .i64 (wrap64 (2 + t111)))) 0 rfl rfl (hon 2 (by kernel_rfl)) rfl
      replace ha := Aside0.mk ha
      have BK110 := Aside0.mk Q_BK110
      have BK113 := Aside0.mk Q_BK113
      have HI0 := Aside0.mk (Q_HI0 hb_)
      have HK := Aside0.mk Q_HK
      have HB := Aside0.mk Q_HB
      refine goes_ Try.func89 (by kernel_rfl) rfl #[.pointer (some ⟨g, 0, none⟩), .int .i64 (wrap64 (2 + t111))] (by rfl) rfl rfl (by first | (simp only [List.map_toArray, List.map_cons, List.map_nil, Act.eval, Array.getD_eq_getD_getElem?, Option.getD_some, e16, e18]; done) | (simp only [List.map_toArray, List.map_cons, List.map_nil, Act.eval, Array.getD_eq_getD_getElem?, Option.getD_some, e16, e18]; rfl)) ?_
      with_reducible refine (spec_l30Rd_pick.calls k1 g s0_0 x1001_1 (wrap64 (2 + t111)) t116 t117 w0 _ ?side1 ?side2 A12.out).mono ?_
      (case side1 => repeat (first | (with_reducible first | exact HI0.out | apply IsS97.alloc | apply IsS97.drewN | apply IsS97.drew | apply IsS97.set_1 | refine IsS97.far ?_ NB0_110.out _ | refine IsS97.far ?_ NB0_113.out _) | exact HI0.out))
      (case side2 => repeat (first | (with_reducible first | exact HB.out | apply below_alloc | apply pw_below_drewN | apply below_drew1 | refine below_set ?_ (IsS97.ge HI0.out) | refine below_set ?_ GE110.out | refine below_set ?_ GE113.out) | exact HB.out))
      rintro e w22 ⟨rfl, hi, hb, hk⟩
      refine ⟨_, rfl, ?_⟩
      have n1_ := Aside0.mk (KeepBut.blk hk (g' := gb110) (o := .cells #[.int .i64 0, .slice none 0 0] 25 (0, 0)) (by (with_reducible repeat (first | refine blk_drewN ?_ _ | refine blk_drew ?_ | refine blk_alloc ?_ _)); exact BK110.out) NB110_0.out (by simp))
      have n2_ := Aside0.mk (KeepBut.blk hk (g' := gb113) (o := .cells #[.int .i64 (wrap64 (2 + t111)), u114001] 25 (0, 0)) (by (with_reducible repeat (first | refine blk_drewN ?_ _ | refine blk_drew ?_ | refine blk_alloc ?_ _)); exact BK113.out) NB113_0.out (by simp))
      have n3_ := Aside0.mk (KeepBut.trans (by repeat (first | (with_reducible first | exact HK.out | apply KeepBut.set_ | apply keep_drewN | apply keep_drew | apply keep_alloc | refine keep_far ?_ GW110.out _ | refine keep_far ?_ GW113.out _) | exact HK.out)) hk (.inl rfl))
      have n4_ := Aside0.mk (hb)
      have n5_ := Aside0.mk (hi)
      have z_HO_114001 := fun (h0_ : b 19 = false) => (show Kd.R k34 34 w22 w.heap.size (fun _ => True) u114001 x114001_1 from by first | exact (Kd.R_mono (Kd.R_keep (IsS97.apart (show IsS97 w0 _ g s0_0 x1001_1 from by repeat (first | (with_reducible first | exact HI0.out | apply IsS97.alloc | apply IsS97.drewN | apply IsS97.drew | apply IsS97.set_1 | refine IsS97.far ?_ NB0_110.out _ | refine IsS97.far ?_ NB0_113.out _) | exact HI0.out)) (by (with_reducible repeat (first | apply Kd.R_alloc | apply Kd.R_drewN | apply Kd.R_drew)); exact (Q_HO_114001 h0_)) (by decide)) hk (fun _ h => h.2)) (fun _ h => h.1)) | exact Kd.R_mono (Kd.R_mono (Kd.R_keep (IsS97.apart (show IsS97 w0 _ g s0_0 x1001_1 from by repeat (first | (with_reducible first | exact HI0.out | apply IsS97.alloc | apply IsS97.drewN | apply IsS97.drew | apply IsS97.set_1 | refine IsS97.far ?_ NB0_110.out _ | refine IsS97.far ?_ NB0_113.out _) | exact HI0.out)) (by (with_reducible repeat (first | apply Kd.R_alloc | apply Kd.R_drewN | apply Kd.R_drew)); exact (Q_HO_114001 h0_)) (by decide)) hk (fun _ h => h.2)) (fun _ h => h.1)) (fun _ h_ => by first | trivial | exact h_ | exact h_.1))
      have z_HO129 := fun (h0_ : b 14 = true) => (show Kd.R (Kd.int .i64) 3 w22 w.heap.size (fun _ => True) v128 y127 from by first | exact (Kd.R_mono (Kd.R_keep (IsS97.apart (show IsS97 w0 _ g s0_0 x1001_1 from by repeat (first | (with_reducible first | exact HI0.out | apply IsS97.alloc | apply IsS97.drewN | apply IsS97.drew | apply IsS97.set_1 | refine IsS97.far ?_ NB0_110.out _ | refine IsS97.far ?_ NB0_113.out _) | exact HI0.out)) (by (with_reducible repeat (first | apply Kd.R_alloc | apply Kd.R_drewN | apply Kd.R_drew)); exact (Q_HO129 h0_)) (by decide)) hk (fun _ h => h.2)) (fun _ h => h.1)) | exact Kd.R_mono (Kd.R_mono (Kd.R_keep (IsS97.apart (show IsS97 w0 _ g s0_0 x1001_1 from by repeat (first | (with_reducible first | exact HI0.out | apply IsS97.alloc | apply IsS97.drewN | apply IsS97.drew | apply IsS97.set_1 | refine IsS97.far ?_ NB0_110.out _ | refine IsS97.far ?_ NB0_113.out _) | exact HI0.out)) (by (with_reducible repeat (first | apply Kd.R_alloc | apply Kd.R_drewN | apply Kd.R_drew)); exact (Q_HO129 h0_)) (by decide)) hk (fun _ h => h.2)) (fun _ h => h.1)) (fun _ h_ => by first | trivial | exact h_ | exact h_.1))
      have z_HO_114001_e19 := fun (h0_ : b 19 = true) => (show Kd.R k34 34 w22 w.heap.size (fun k_ => k_ ≠ gb134) u114001 x114001_1 from by first | exact (Kd.R_mono (Kd.R_keep (IsS97.apart (show IsS97 w0 _ g s0_0 x1001_1 from by repeat (first | (with_reducible first | exact HI0.out | apply IsS97.alloc | apply IsS97.drewN | apply IsS97.drew | apply IsS97.set_1 | refine IsS97.far ?_ NB0_110.out _ | refine IsS97.far ?_ NB0_113.out _) | exact HI0.out)) (by (with_reducible repeat (first | apply Kd.R_alloc | apply Kd.R_drewN | apply Kd.R_drew)); exact (Q_HO_114001_e19 h0_)) (by decide)) hk (fun _ h => h.2)) (fun _ h => h.1)) | exact Kd.R_mono (Kd.R_mono (Kd.R_keep (IsS97.apart (show IsS97 w0 _ g s0_0 x1001_1 from by repeat (first | (with_reducible first | exact HI0.out | apply IsS97.alloc | apply IsS97.drewN | apply IsS97.drew | apply IsS97.set_1 | refine IsS97.far ?_ NB0_110.out _ | refine IsS97.far ?_ NB0_113.out _) | exact HI0.out)) (by (with_reducible repeat (first | apply Kd.R_alloc | apply Kd.R_drewN | apply Kd.R_drew)); exact (Q_HO_114001_e19 h0_)) (by decide)) hk (fun _ h => h.2)) (fun _ h => h.1)) (fun _ h_ => by first | trivial | exact h_ | exact h_.1))
      have z_BK134 := fun (h0_ : b 19 = true) (h1_ : b 20 = false) => (show w22.heap[gb134]? = some (.cells #[.int .i64 0, .int .i64 0, .int .i64 0, .int .i64 0, .int .i64 0] 34 (0, 0)) from by first | exact (KeepBut.blk hk (g' := gb134) (o := .cells #[.int .i64 0, .int .i64 0, .int .i64 0, .int .i64 0, .int .i64 0] 34 (0, 0)) (by (with_reducible repeat (first | refine blk_drewN ?_ _ | refine blk_drew ?_ | refine blk_alloc ?_ _)); exact (Q_BK134 h0_ h1_)) (Q_NB134_0 h0_) (by simp)))
      clear BK110
      clear BK113
      clear HK
      clear HB
      clear HI0
      have BK110 := n1_
      have BK113 := n2_
      have HK := n3_
      have HB := n4_
      have HI0 := n5_
      clear n1_ n2_ n3_ n4_ n5_
      (try clear hb)
      (try clear hb2)
      (try clear hk)
      (try clear hi)
      refine hK.out _ _ ⟨v123, v128, gb134, m19_, (by rw [ha.out]; exact putSel_upk 1 hb_ rfl rfl rfl), z_HO_114001, (by (with_reducible repeat (first | refine blk_drewN ?_ _ | refine blk_drew ?_ | refine blk_alloc ?_ _)); exact BK110.out), (by (with_reducible repeat (first | refine blk_drewN ?_ _ | refine blk_drew ?_ | refine blk_alloc ?_ _)); exact BK113.out), fun h0_ => absurd ((up_self b 3).symm.trans h0_) (by decide), (by repeat (first | (with_reducible first | exact HK.out | apply KeepBut.set_ | apply keep_drewN | apply keep_drew | apply keep_alloc | refine keep_far ?_ GW110.out _ | refine keep_far ?_ GW113.out _) | exact HK.out)), (by repeat (first | (with_reducible first | exact HB.out | apply below_alloc | apply pw_below_drewN | apply below_drew1 | refine below_set ?_ (IsS97.ge HI0.out) | refine below_set ?_ GE110.out | refine below_set ?_ GE113.out) | exact HB.out)), fun _ _ => (by repeat (first | (with_reducible first | exact HI0.out | apply IsS97.alloc | apply IsS97.drewN | apply IsS97.drew | apply IsS97.set_1 | refine IsS97.far ?_ NB0_110.out _ | refine IsS97.far ?_ NB0_113.out _) | exact HI0.out)), fun h0_ _ => absurd ((hoff 7 (by kernel_rfl)).symm.trans h0_) (by decide), fun h0_ _ => absurd ((hoff 10 (by kernel_rfl)).symm.trans h0_) (by decide), fun h0_ => absurd ((hoff 11 (by kernel_rfl)).symm.trans h0_) (by decide), fun h0_ _ => absurd ((hoff 12 (by kernel_rfl)).symm.trans h0_) (by decide), z_HO129, fun h0_ _ => absurd ((hoff 15 (by kernel_rfl)).symm.trans h0_) (by decide), fun h0_ => absurd ((hoff 17 (by kernel_rfl)).symm.trans h0_) (by decide), z_HO_114001_e19, z_BK134, Q_GW134, Q_GE134, Q_NB0_134, Q_NB134_0, Q_NB110_134, Q_NB134_110, Q_NB113_134, Q_NB134_113, fun h0_ => absurd ((hoff 20 (by kernel_rfl)).symm.trans h0_) (by decide), Q_X19_⟩
     refine steps_cons ?_ ?_
     ·rintro b a w' ⟨v123, v128, gb134, m19_, ha, Q_HO_114001, Q_BK110, Q_BK113, Q_HI0, Q_HK, Q_HB, Q_HI0_e3, Q_HI0_e7, Q_HI0_e10, Q_HO124, Q_HI0_e12, Q_HO129, Q_HI0_e15, Q_HI0_e17, Q_HO_114001_e19, Q_BK134, Q_GW134, Q_GE134, Q_NB0_134, Q_NB134_0, Q_NB110_134, Q_NB134_110, Q_NB113_134, Q_NB134_113, Q_BK134_e20, Q_X19_⟩ hb_ hon hoff
      refine ⟨_, rfl, fun K hK => ?_⟩
      have e21 : a.tmps[21]? = some (.pointer (some ⟨gb113, 0, none⟩)) := by rw [ha]; exact (putSel_off rfl).trans rfl
      replace ha := Aside0.mk ha
      have BK110 := Aside0.mk Q_BK110
      have BK113 := Aside0.mk Q_BK113
      have HK := Aside0.mk Q_HK
      have HB := Aside0.mk Q_HB
      have hc0_ : w'.cell? ⟨gb113, 0, none⟩ = some (.int .i64 (wrap64 (2 + t111))) := (blk_cell BK113.out 0).trans rfl
      have hc1_ : w'.cell? ⟨gb113, 1, none⟩ = some (u114001) := (blk_cell BK113.out 1).trans rfl
      refine value_ (w1 := w') (v := .int .i64 (wrap64 (2 + t111))) (by rfl) rfl ?_ ?_
      ·go_simp
       (try simp only [i64_w])
       try rfl
      refine hK.out _ _ ⟨v123, v128, gb134, m19_, (by rw [ha.out]; exact putSel_upk 2 hb_ rfl rfl rfl), Q_HO_114001, Q_BK110, Q_BK113, Q_HI0, Q_HK, Q_HB, Q_HI0_e3, fun h0_ _ => absurd ((hoff 7 (by kernel_rfl)).symm.trans h0_) (by decide), fun h0_ _ => absurd ((hoff 10 (by kernel_rfl)).symm.trans h0_) (by decide), fun h0_ => absurd ((hoff 11 (by kernel_rfl)).symm.trans h0_) (by decide), fun h0_ _ => absurd ((hoff 12 (by kernel_rfl)).symm.trans h0_) (by decide), Q_HO129, fun h0_ _ => absurd ((hoff 15 (by kernel_rfl)).symm.trans h0_) (by decide), fun h0_ => absurd ((hoff 17 (by kernel_rfl)).symm.trans h0_) (by decide), Q_HO_114001_e19, Q_BK134, Q_GW134, Q_GE134, Q_NB0_134, Q_NB134_0, Q_NB110_134, Q_NB134_110, Q_NB113_134, Q_NB134_113, fun h0_ => absurd ((hoff 20 (by kernel_rfl)).symm.trans h0_) (by decide), Q_X19_⟩
     refine steps_cons ?_ ?_
     ·rintro b a w' ⟨v123, v128, gb134, m19_, ha, Q_HO_114001, Q_BK110, Q_BK113, Q_HI0, Q_HK, Q_HB, Q_HI0_e3, Q_HI0_e7, Q_HI0_e10, Q_HO124, Q_HI0_e12, Q_HO129, Q_HI0_e15, Q_HI0_e17, Q_HO_114001_e19, Q_BK134, Q_GW134, Q_GE134, Q_NB0_134, Q_NB134_0, Q_NB110_134, Q_NB134_110, Q_NB113_134, Q_NB134_113, Q_BK134_e20, Q_X19_⟩ hb_ hon hoff
      refine ⟨_, rfl, fun K hK => ?_⟩
      have e20 : a.tmps[20]? = some (.pointer (some ⟨g, 0, none⟩)) := by rw [ha]; exact (putSel_off rfl).trans rfl
      have e22 : a.tmps[22]? = some (.int .i64 (wrap64 (2 + t111))) := by rw [ha]; exact putSel_on (e := (6, 22, .int .i64 (wrap64 (2 + t111)))) 2 rfl rfl (hon 6 (by kernel_rfl)) rfl
      replace ha := Aside0.mk ha
      have BK110 := Aside0.mk Q_BK110
      have BK113 := Aside0.mk Q_BK113
      have HK := Aside0.mk Q_HK
      have HB := Aside0.mk Q_HB
      have HI0 := Aside0.mk (Q_HI0_e3 (hon 3 (by kernel_rfl)) hb_)
      refine goes_ Try.func89 (by kernel_rfl) rfl #[.pointer (some ⟨g, 0, none⟩), .int .i64 (wrap64 (2 + t111))] (by rfl) rfl rfl (by first | (simp only [List.map_toArray, List.map_cons, List.map_nil, Act.eval, Array.getD_eq_getD_getElem?, Option.getD_some, e20, e22]; done) | (simp only [List.map_toArray, List.map_cons, List.map_nil, Act.eval, Array.getD_eq_getD_getElem?, Option.getD_some, e20, e22]; rfl)) ?_
      with_reducible refine (spec_l30Rd_pick.calls k1 g s0_0 t117 (wrap64 (2 + t111)) t118 t119 w0 _ ?side1 ?side2 A13.out).mono ?_
      (case side1 => repeat (first | (with_reducible first | exact HI0.out | apply IsS97.alloc | apply IsS97.drewN | apply IsS97.drew | apply IsS97.set_1 | refine IsS97.far ?_ NB0_110.out _ | refine IsS97.far ?_ NB0_113.out _) | exact HI0.out))
      (case side2 => repeat (first | (with_reducible first | exact HB.out | apply below_alloc | apply pw_below_drewN | apply below_drew1 | refine below_set ?_ (IsS97.ge HI0.out) | refine below_set ?_ GE110.out | refine below_set ?_ GE113.out) | exact HB.out))
      rintro e w24 ⟨rfl, hi, hb, hk⟩
      refine ⟨_, rfl, ?_⟩
      have n1_ := Aside0.mk (KeepBut.blk hk (g' := gb110) (o := .cells #[.int .i64 0, .slice none 0 0] 25 (0, 0)) (by (with_reducible repeat (first | refine blk_drewN ?_ _ | refine blk_drew ?_ | refine blk_alloc ?_ _)); exact BK110.out) NB110_0.out (by simp))
      have n2_ := Aside0.mk (KeepBut.blk hk (g' := gb113) (o := .cells #[.int .i64 (wrap64 (2 + t111)), u114001] 25 (0, 0)) (by (with_reducible repeat (first | refine blk_drewN ?_ _ | refine blk_drew ?_ | refine blk_alloc ?_ _)); exact BK113.out) NB113_0.out (by simp))
      have n3_ := Aside0.mk (KeepBut.trans (by repeat (first | (with_reducible first | exact HK.out | apply KeepBut.set_ | apply keep_drewN | apply keep_drew | apply keep_alloc | refine keep_far ?_ GW110.out _ | refine keep_far ?_ GW113.out _) | exact HK.out)) hk (.inl rfl))
      have n4_ := Aside0.mk (hb)
      have n5_ := Aside0.mk (hi)
      have z_HO_114001 := fun (h0_ : b 19 = false) => (show Kd.R k34 34 w24 w.heap.size (fun _ => True) u114001 x114001_1 from by first | exact (Kd.R_mono (Kd.R_keep (IsS97.apart (show IsS97 w0 _ g s0_0 t117 from by repeat (first | (with_reducible first | exact HI0.out | apply IsS97.alloc | apply IsS97.drewN | apply IsS97.drew | apply IsS97.set_1 | refine IsS97.far ?_ NB0_110.out _ | refine IsS97.far ?_ NB0_113.out _) | exact HI0.out)) (by (with_reducible repeat (first | apply Kd.R_alloc | apply Kd.R_drewN | apply Kd.R_drew)); exact (Q_HO_114001 h0_)) (by decide)) hk (fun _ h => h.2)) (fun _ h => h.1)) | exact Kd.R_mono (Kd.R_mono (Kd.R_keep (IsS97.apart (show IsS97 w0 _ g s0_0 t117 from by repeat (first | (with_reducible first | exact HI0.out | apply IsS97.alloc | apply IsS97.drewN | apply IsS97.drew | apply IsS97.set_1 | refine IsS97.far ?_ NB0_110.out _ | refine IsS97.far ?_ NB0_113.out _) | exact HI0.out)) (by (with_reducible repeat (first | apply Kd.R_alloc | apply Kd.R_drewN | apply Kd.R_drew)); exact (Q_HO_114001 h0_)) (by decide)) hk (fun _ h => h.2)) (fun _ h => h.1)) (fun _ h_ => by first | trivial | exact h_ | exact h_.1))
      have z_HO129 := fun (h0_ : b 14 = true) => (show Kd.R (Kd.int .i64) 3 w24 w.heap.size (fun _ => True) v128 y127 from by first | exact (Kd.R_mono (Kd.R_keep (IsS97.apart (show IsS97 w0 _ g s0_0 t117 from by repeat (first | (with_reducible first | exact HI0.out | apply IsS97.alloc | apply IsS97.drewN | apply IsS97.drew | apply IsS97.set_1 | refine IsS97.far ?_ NB0_110.out _ | refine IsS97.far ?_ NB0_113.out _) | exact HI0.out)) (by (with_reducible repeat (first | apply Kd.R_alloc | apply Kd.R_drewN | apply Kd.R_drew)); exact (Q_HO129 h0_)) (by decide)) hk (fun _ h => h.2)) (fun _ h => h.1)) | exact Kd.R_mono (Kd.R_mono (Kd.R_keep (IsS97.apart (show IsS97 w0 _ g s0_0 t117 from by repeat (first | (with_reducible first | exact HI0.out | apply IsS97.alloc | apply IsS97.drewN | apply IsS97.drew | apply IsS97.set_1 | refine IsS97.far ?_ NB0_110.out _ | refine IsS97.far ?_ NB0_113.out _) | exact HI0.out)) (by (with_reducible repeat (first | apply Kd.R_alloc | apply Kd.R_drewN | apply Kd.R_drew)); exact (Q_HO129 h0_)) (by decide)) hk (fun _ h => h.2)) (fun _ h => h.1)) (fun _ h_ => by first | trivial | exact h_ | exact h_.1))
      have z_HO_114001_e19 := fun (h0_ : b 19 = true) => (show Kd.R k34 34 w24 w.heap.size (fun k_ => k_ ≠ gb134) u114001 x114001_1 from by first | exact (Kd.R_mono (Kd.R_keep (IsS97.apart (show IsS97 w0 _ g s0_0 t117 from by repeat (first | (with_reducible first | exact HI0.out | apply IsS97.alloc | apply IsS97.drewN | apply IsS97.drew | apply IsS97.set_1 | refine IsS97.far ?_ NB0_110.out _ | refine IsS97.far ?_ NB0_113.out _) | exact HI0.out)) (by (with_reducible repeat (first | apply Kd.R_alloc | apply Kd.R_drewN | apply Kd.R_drew)); exact (Q_HO_114001_e19 h0_)) (by decide)) hk (fun _ h => h.2)) (fun _ h => h.1)) | exact Kd.R_mono (Kd.R_mono (Kd.R_keep (IsS97.apart (show IsS97 w0 _ g s0_0 t117 from by repeat (first | (with_reducible first | exact HI0.out | apply IsS97.alloc | apply IsS97.drewN | apply IsS97.drew | apply IsS97.set_1 | refine IsS97.far ?_ NB0_110.out _ | refine IsS97.far ?_ NB0_113.out _) | exact HI0.out)) (by (with_reducible repeat (first | apply Kd.R_alloc | apply Kd.R_drewN | apply Kd.R_drew)); exact (Q_HO_114001_e19 h0_)) (by decide)) hk (fun _ h => h.2)) (fun _ h => h.1)) (fun _ h_ => by first | trivial | exact h_ | exact h_.1))
      have z_BK134 := fun (h0_ : b 19 = true) (h1_ : b 20 = false) => (show w24.heap[gb134]? = some (.cells #[.int .i64 0, .int .i64 0, .int .i64 0, .int .i64 0, .int .i64 0] 34 (0, 0)) from by first | exact (KeepBut.blk hk (g' := gb134) (o := .cells #[.int .i64 0, .int .i64 0, .int .i64 0, .int .i64 0, .int .i64 0] 34 (0, 0)) (by (with_reducible repeat (first | refine blk_drewN ?_ _ | refine blk_drew ?_ | refine blk_alloc ?_ _)); exact (Q_BK134 h0_ h1_)) (Q_NB134_0 h0_) (by simp)))
      clear BK110
      clear BK113
      clear HK
      clear HB
      clear HI0
      have BK110 := n1_
      have BK113 := n2_
      have HK := n3_
      have HB := n4_
      have HI0 := n5_
      clear n1_ n2_ n3_ n4_ n5_
      (try clear hb)
      (try clear hb2)
      (try clear hk)
      (try clear hi)
      refine hK.out _ _ ⟨v123, v128, gb134, m19_, (by rw [ha.out]; exact putSel_upk 3 hb_ rfl rfl rfl), z_HO_114001, (by (with_reducible repeat (first | refine blk_drewN ?_ _ | refine blk_drew ?_ | refine blk_alloc ?_ _)); exact BK110.out), (by (with_reducible repeat (first | refine blk_drewN ?_ _ | refine blk_drew ?_ | refine blk_alloc ?_ _)); exact BK113.out), fun h0_ => absurd ((hon 3 (by kernel_rfl)).symm.trans h0_) (by decide), (by repeat (first | (with_reducible first | exact HK.out | apply KeepBut.set_ | apply keep_drewN | apply keep_drew | apply keep_alloc | refine keep_far ?_ GW110.out _ | refine keep_far ?_ GW113.out _) | exact HK.out)), (by repeat (first | (with_reducible first | exact HB.out | apply below_alloc | apply pw_below_drewN | apply below_drew1 | refine below_set ?_ (IsS97.ge HI0.out) | refine below_set ?_ GE110.out | refine below_set ?_ GE113.out) | exact HB.out)), fun _ h1_ => absurd ((up_self b 7).symm.trans h1_) (by decide), fun _ _ => (by repeat (first | (with_reducible first | exact HI0.out | apply IsS97.alloc | apply IsS97.drewN | apply IsS97.drew | apply IsS97.set_1 | refine IsS97.far ?_ NB0_110.out _ | refine IsS97.far ?_ NB0_113.out _) | exact HI0.out)), fun h0_ _ => absurd ((hoff 10 (by kernel_rfl)).symm.trans h0_) (by decide), fun h0_ => absurd ((hoff 11 (by kernel_rfl)).symm.trans h0_) (by decide), fun h0_ _ => absurd ((hoff 12 (by kernel_rfl)).symm.trans h0_) (by decide), z_HO129, fun h0_ _ => absurd ((hoff 15 (by kernel_rfl)).symm.trans h0_) (by decide), fun h0_ => absurd ((hoff 17 (by kernel_rfl)).symm.trans h0_) (by decide), z_HO_114001_e19, z_BK134, Q_GW134, Q_GE134, Q_NB0_134, Q_NB134_0, Q_NB110_134, Q_NB134_110, Q_NB113_134, Q_NB134_113, fun h0_ => absurd ((hoff 20 (by kernel_rfl)).symm.trans h0_) (by decide), Q_X19_⟩
     refine steps_cons ?_ ?_
     ·rintro b a w' ⟨v123, v128, gb134, m19_, ha, Q_HO_114001, Q_BK110, Q_BK113, Q_HI0, Q_HK, Q_HB, Q_HI0_e3, Q_HI0_e7, Q_HI0_e10, Q_HO124, Q_HI0_e12, Q_HO129, Q_HI0_e15, Q_HI0_e17, Q_HO_114001_e19, Q_BK134, Q_GW134, Q_GE134, Q_NB0_134, Q_NB134_0, Q_NB110_134, Q_NB134_110, Q_NB113_134, Q_NB134_113, Q_BK134_e20, Q_X19_⟩ hb_ hon hoff
      refine ⟨_, rfl, fun K hK => ?_⟩
      have e25 : a.tmps[25]? = some (.pointer (some ⟨g, 0, none⟩)) := by rw [ha]; exact (putSel_off rfl).trans rfl
      replace ha := Aside0.mk ha
      have BK110 := Aside0.mk Q_BK110
      have BK113 := Aside0.mk Q_BK113
      have HK := Aside0.mk Q_HK
      have HB := Aside0.mk Q_HB
      have HI0 := Aside0.mk (Q_HI0_e7 (hon 7 (by kernel_rfl)) hb_)
      refine goes_ Try.func89 (by kernel_rfl) rfl #[.pointer (some ⟨g, 0, none⟩), .int .i64 100] (by rfl) rfl rfl (by first | (simp only [List.map_toArray, List.map_cons, List.map_nil, Act.eval, Array.getD_eq_getD_getElem?, Option.getD_some, e25]; done) | (simp only [List.map_toArray, List.map_cons, List.map_nil, Act.eval, Array.getD_eq_getD_getElem?, Option.getD_some, e25]; rfl)) ?_
      with_reducible refine (spec_l30Rd_pick.calls k1 g s0_0 t119 100 t120 t121 w0 _ ?side1 ?side2 A14.out).mono ?_
      (case side1 => repeat (first | (with_reducible first | exact HI0.out | apply IsS97.alloc | apply IsS97.drewN | apply IsS97.drew | apply IsS97.set_1 | refine IsS97.far ?_ NB0_110.out _ | refine IsS97.far ?_ NB0_113.out _) | exact HI0.out))
      (case side2 => repeat (first | (with_reducible first | exact HB.out | apply below_alloc | apply pw_below_drewN | apply below_drew1 | refine below_set ?_ (IsS97.ge HI0.out) | refine below_set ?_ GE110.out | refine below_set ?_ GE113.out) | exact HB.out))
      rintro e w25 ⟨rfl, hi, hb, hk⟩
      refine ⟨_, rfl, ?_⟩
      have n1_ := Aside0.mk (KeepBut.blk hk (g' := gb110) (o := .cells #[.int .i64 0, .slice none 0 0] 25 (0, 0)) (by (with_reducible repeat (first | refine blk_drewN ?_ _ | refine blk_drew ?_ | refine blk_alloc ?_ _)); exact BK110.out) NB110_0.out (by simp))
      have n2_ := Aside0.mk (KeepBut.blk hk (g' := gb113) (o := .cells #[.int .i64 (wrap64 (2 + t111)), u114001] 25 (0, 0)) (by (with_reducible repeat (first | refine blk_drewN ?_ _ | refine blk_drew ?_ | refine blk_alloc ?_ _)); exact BK113.out) NB113_0.out (by simp))
      have n3_ := Aside0.mk (KeepBut.trans (by repeat (first | (with_reducible first | exact HK.out | apply KeepBut.set_ | apply keep_drewN | apply keep_drew | apply keep_alloc | refine keep_far ?_ GW110.out _ | refine keep_far ?_ GW113.out _) | exact HK.out)) hk (.inl rfl))
      have n4_ := Aside0.mk (hb)
      have n5_ := Aside0.mk (hi)
      have z_HO_114001 := fun (h0_ : b 19 = false) => (show Kd.R k34 34 w25 w.heap.size (fun _ => True) u114001 x114001_1 from by first | exact (Kd.R_mono (Kd.R_keep (IsS97.apart (show IsS97 w0 _ g s0_0 t119 from by repeat (first | (with_reducible first | exact HI0.out | apply IsS97.alloc | apply IsS97.drewN | apply IsS97.drew | apply IsS97.set_1 | refine IsS97.far ?_ NB0_110.out _ | refine IsS97.far ?_ NB0_113.out _) | exact HI0.out)) (by (with_reducible repeat (first | apply Kd.R_alloc | apply Kd.R_drewN | apply Kd.R_drew)); exact (Q_HO_114001 h0_)) (by decide)) hk (fun _ h => h.2)) (fun _ h => h.1)) | exact Kd.R_mono (Kd.R_mono (Kd.R_keep (IsS97.apart (show IsS97 w0 _ g s0_0 t119 from by repeat (first | (with_reducible first | exact HI0.out | apply IsS97.alloc | apply IsS97.drewN | apply IsS97.drew | apply IsS97.set_1 | refine IsS97.far ?_ NB0_110.out _ | refine IsS97.far ?_ NB0_113.out _) | exact HI0.out)) (by (with_reducible repeat (first | apply Kd.R_alloc | apply Kd.R_drewN | apply Kd.R_drew)); exact (Q_HO_114001 h0_)) (by decide)) hk (fun _ h => h.2)) (fun _ h => h.1)) (fun _ h_ => by first | trivial | exact h_ | exact h_.1))
      have z_HO129 := fun (h0_ : b 14 = true) => (show Kd.R (Kd.int .i64) 3 w25 w.heap.size (fun _ => True) v128 y127 from by first | exact (Kd.R_mono (Kd.R_keep (IsS97.apart (show IsS97 w0 _ g s0_0 t119 from by repeat (first | (with_reducible first | exact HI0.out | apply IsS97.alloc | apply IsS97.drewN | apply IsS97.drew | apply IsS97.set_1 | refine IsS97.far ?_ NB0_110.out _ | refine IsS97.far ?_ NB0_113.out _) | exact HI0.out)) (by (with_reducible repeat (first | apply Kd.R_alloc | apply Kd.R_drewN | apply Kd.R_drew)); exact (Q_HO129 h0_)) (by decide)) hk (fun _ h => h.2)) (fun _ h => h.1)) | exact Kd.R_mono (Kd.R_mono (Kd.R_keep (IsS97.apart (show IsS97 w0 _ g s0_0 t119 from by repeat (first | (with_reducible first | exact HI0.out | apply IsS97.alloc | apply IsS97.drewN | apply IsS97.drew | apply IsS97.set_1 | refine IsS97.far ?_ NB0_110.out _ | refine IsS97.far ?_ NB0_113.out _) | exact HI0.out)) (by (with_reducible repeat (first | apply Kd.R_alloc | apply Kd.R_drewN | apply Kd.R_drew)); exact (Q_HO129 h0_)) (by decide)) hk (fun _ h => h.2)) (fun _ h => h.1)) (fun _ h_ => by first | trivial | exact h_ | exact h_.1))
      have z_HO_114001_e19 := fun (h0_ : b 19 = true) => (show Kd.R k34 34 w25 w.heap.size (fun k_ => k_ ≠ gb134) u114001 x114001_1 from by first | exact (Kd.R_mono (Kd.R_keep (IsS97.apart (show IsS97 w0 _ g s0_0 t119 from by repeat (first | (with_reducible first | exact HI0.out | apply IsS97.alloc | apply IsS97.drewN | apply IsS97.drew | apply IsS97.set_1 | refine IsS97.far ?_ NB0_110.out _ | refine IsS97.far ?_ NB0_113.out _) | exact HI0.out)) (by (with_reducible repeat (first | apply Kd.R_alloc | apply Kd.R_drewN | apply Kd.R_drew)); exact (Q_HO_114001_e19 h0_)) (by decide)) hk (fun _ h => h.2)) (fun _ h => h.1)) | exact Kd.R_mono (Kd.R_mono (Kd.R_keep (IsS97.apart (show IsS97 w0 _ g s0_0 t119 from by repeat (first | (with_reducible first | exact HI0.out | apply IsS97.alloc | apply IsS97.drewN | apply IsS97.drew | apply IsS97.set_1 | refine IsS97.far ?_ NB0_110.out _ | refine IsS97.far ?_ NB0_113.out _) | exact HI0.out)) (by (with_reducible repeat (first | apply Kd.R_alloc | apply Kd.R_drewN | apply Kd.R_drew)); exact (Q_HO_114001_e19 h0_)) (by decide)) hk (fun _ h => h.2)) (fun _ h => h.1)) (fun _ h_ => by first | trivial | exact h_ | exact h_.1))
      have z_BK134 := fun (h0_ : b 19 = true) (h1_ : b 20 = false) => (show w25.heap[gb134]? = some (.cells #[.int .i64 0, .int .i64 0, .int .i64 0, .int .i64 0, .int .i64 0] 34 (0, 0)) from by first | exact (KeepBut.blk hk (g' := gb134) (o := .cells #[.int .i64 0, .int .i64 0, .int .i64 0, .int .i64 0, .int .i64 0] 34 (0, 0)) (by (with_reducible repeat (first | refine blk_drewN ?_ _ | refine blk_drew ?_ | refine blk_alloc ?_ _)); exact (Q_BK134 h0_ h1_)) (Q_NB134_0 h0_) (by simp)))
      clear BK110
      clear BK113
      clear HK
      clear HB
      clear HI0
      have BK110 := n1_
      have BK113 := n2_
      have HK := n3_
      have HB := n4_
      have HI0 := n5_
      clear n1_ n2_ n3_ n4_ n5_
      (try clear hb)
      (try clear hb2)
      (try clear hk)
      (try clear hi)
      refine hK.out _ _ ⟨v123, v128, gb134, m19_, (by rw [ha.out]; exact putSel_upk 4 hb_ rfl rfl rfl), z_HO_114001, (by (with_reducible repeat (first | refine blk_drewN ?_ _ | refine blk_drew ?_ | refine blk_alloc ?_ _)); exact BK110.out), (by (with_reducible repeat (first | refine blk_drewN ?_ _ | refine blk_drew ?_ | refine blk_alloc ?_ _)); exact BK113.out), fun h0_ => absurd ((hon 3 (by kernel_rfl)).symm.trans h0_) (by decide), (by repeat (first | (with_reducible first | exact HK.out | apply KeepBut.set_ | apply keep_drewN | apply keep_drew | apply keep_alloc | refine keep_far ?_ GW110.out _ | refine keep_far ?_ GW113.out _) | exact HK.out)), (by repeat (first | (with_reducible first | exact HB.out | apply below_alloc | apply pw_below_drewN | apply below_drew1 | refine below_set ?_ (IsS97.ge HI0.out) | refine below_set ?_ GE110.out | refine below_set ?_ GE113.out) | exact HB.out)), fun _ h1_ => absurd ((hon 7 (by kernel_rfl)).symm.trans h1_) (by decide), fun _ h1_ => absurd ((up_self b 10).symm.trans h1_) (by decide), fun _ _ => (by repeat (first | (with_reducible first | exact HI0.out | apply IsS97.alloc | apply IsS97.drewN | apply IsS97.drew | apply IsS97.set_1 | refine IsS97.far ?_ NB0_110.out _ | refine IsS97.far ?_ NB0_113.out _) | exact HI0.out)), fun h0_ => absurd ((hoff 11 (by kernel_rfl)).symm.trans h0_) (by decide), fun h0_ _ => absurd ((hoff 12 (by kernel_rfl)).symm.trans h0_) (by decide), z_HO129, fun h0_ _ => absurd ((hoff 15 (by kernel_rfl)).symm.trans h0_) (by decide), fun h0_ => absurd ((hoff 17 (by kernel_rfl)).symm.trans h0_) (by decide), z_HO_114001_e19, z_BK134, Q_GW134, Q_GE134, Q_NB0_134, Q_NB134_0, Q_NB110_134, Q_NB134_110, Q_NB113_134, Q_NB134_113, fun h0_ => absurd ((hoff 20 (by kernel_rfl)).symm.trans h0_) (by decide), Q_X19_⟩
     refine steps_cons ?_ ?_
     ·rintro b a w' ⟨v123, v128, gb134, m19_, ha, Q_HO_114001, Q_BK110, Q_BK113, Q_HI0, Q_HK, Q_HB, Q_HI0_e3, Q_HI0_e7, Q_HI0_e10, Q_HO124, Q_HI0_e12, Q_HO129, Q_HI0_e15, Q_HI0_e17, Q_HO_114001_e19, Q_BK134, Q_GW134, Q_GE134, Q_NB0_134, Q_NB134_0, Q_NB110_134, Q_NB134_110, Q_NB113_134, Q_NB134_113, Q_BK134_e20, Q_X19_⟩ hb_ hon hoff
      refine ⟨_, rfl, fun K hK => ?_⟩
      have e26 : a.tmps[26]? = some (.int .i64 t120) := by rw [ha]; exact putSel_on (e := (10, 26, .int .i64 t120)) 4 rfl rfl (hon 10 (by kernel_rfl)) rfl
      replace ha := Aside0.mk ha
      have BK110 := Aside0.mk Q_BK110
      have BK113 := Aside0.mk Q_BK113
      have HK := Aside0.mk Q_HK
      have HB := Aside0.mk Q_HB
      have HI0 := Aside0.mk (Q_HI0_e10 (hon 10 (by kernel_rfl)) (hoff 12 (by kernel_rfl)))
      refine Kd.R_lit_step (Kd.int .i64) _ 3 ?hg (N := 27) ?hd (xs := ([0, 1, 2, 5, 9, t120] : List Int)) (inner := [.int .i64 0, .int .i64 1, .int .i64 2, .int .i64 5, .int .i64 9, .int .i64 t120]) (ok := fun _ => True) (okp := fun _ => True) ?hr ?hp (fun _ hk => hk) trivial (Below.refl _ _) (Nat.le_refl _) (by simp) ?_; (case hd => rfl); (case hg => rfl); (case hr => first | (go_simp; done) | (go_simp; rfl)); (case hp => exact (Reps.one (show Kd.M (Kd.int .i64) _ _ _ 0 [.int .i64 0] from rfl) (Reps.one (show Kd.M (Kd.int .i64) _ _ _ 1 [.int .i64 1] from rfl) (Reps.one (show Kd.M (Kd.int .i64) _ _ _ 2 [.int .i64 2] from rfl) (Reps.one (show Kd.M (Kd.int .i64) _ _ _ 5 [.int .i64 5] from rfl) (Reps.one (show Kd.M (Kd.int .i64) _ _ _ 9 [.int .i64 9] from rfl) (Reps.one (show Kd.M (Kd.int .i64) _ _ _ t120 [.int .i64 t120] from rfl) (Reps.none _ _))))))))
      intro v123 w26 ho27 hb hg_ hnew_
      clear hg_ hnew_
      (first | rw [← Ny122.out] at ho27 | (simp only [Int.reduceToNat] at ho27; rw [← Ny122.out] at ho27))
      have n1_ := Aside0.mk (Kd.R_lower ho27 (keep_size (w := w) (g := g) (row := none) (by repeat (first | (with_reducible first | exact HK.out | apply KeepBut.set_ | apply keep_drewN | apply keep_drew | apply keep_alloc | refine keep_far ?_ GW110.out _ | refine keep_far ?_ GW113.out _) | exact HK.out))))
      have n2_ := Aside0.mk (blk_below (g := gb110) (o := .cells #[.int .i64 0, .slice none 0 0] 25 (0, 0)) (by (with_reducible repeat (first | refine blk_drewN ?_ _ | refine blk_drew ?_ | refine blk_alloc ?_ _)); exact BK110.out) hb)
      have n3_ := Aside0.mk (blk_below (g := gb113) (o := .cells #[.int .i64 (wrap64 (2 + t111)), u114001] 25 (0, 0)) (by (with_reducible repeat (first | refine blk_drewN ?_ _ | refine blk_drew ?_ | refine blk_alloc ?_ _)); exact BK113.out) hb)
      have n4_ := Aside0.mk (IsS97.below (by repeat (first | (with_reducible first | exact HI0.out | apply IsS97.alloc | apply IsS97.drewN | apply IsS97.drew | apply IsS97.set_1 | refine IsS97.far ?_ NB0_110.out _ | refine IsS97.far ?_ NB0_113.out _) | exact HI0.out)) hb)
      have n5_ := Aside0.mk (KeepBut.trans (by repeat (first | (with_reducible first | exact HK.out | apply KeepBut.set_ | apply keep_drewN | apply keep_drew | apply keep_alloc | refine keep_far ?_ GW110.out _ | refine keep_far ?_ GW113.out _) | exact HK.out)) (KeepBut.of_below hb g none) (.inl rfl))
      have n6_ := Aside0.mk (below_step (by repeat (first | (with_reducible first | exact HB.out | apply below_alloc | apply pw_below_drewN | apply below_drew1 | refine below_set ?_ (IsS97.ge HI0.out) | refine below_set ?_ GE110.out | refine below_set ?_ GE113.out) | exact HB.out)) hb)
      have z_HO_114001 := fun (h0_ : b 19 = false) => (show Kd.R k34 34 w26 w.heap.size (fun _ => True) u114001 x114001_1 from by first | exact (Kd.R_below (by (with_reducible repeat (first | apply Kd.R_alloc | apply Kd.R_drewN | apply Kd.R_drew)); exact (Q_HO_114001 h0_)) hb) | exact Kd.R_mono (Kd.R_below (by (with_reducible repeat (first | apply Kd.R_alloc | apply Kd.R_drewN | apply Kd.R_drew)); exact (Q_HO_114001 h0_)) hb) (fun _ h_ => by first | trivial | exact h_ | exact h_.1))
      have z_HO129 := fun (h0_ : b 14 = true) => (show Kd.R (Kd.int .i64) 3 w26 w.heap.size (fun _ => True) v128 y127 from by first | exact (Kd.R_elder' (by (with_reducible repeat (first | apply Kd.R_alloc | apply Kd.R_drewN | apply Kd.R_drew)); exact (Q_HO129 h0_)) (Kd.R_base ho27) hb) | exact Kd.R_mono (Kd.R_elder' (by (with_reducible repeat (first | apply Kd.R_alloc | apply Kd.R_drewN | apply Kd.R_drew)); exact (Q_HO129 h0_)) (Kd.R_base ho27) hb) (fun _ h_ => by first | trivial | exact h_ | exact h_.1))
      have z_HO_114001_e19 := fun (h0_ : b 19 = true) => (show Kd.R k34 34 w26 w.heap.size (fun k_ => k_ ≠ gb134) u114001 x114001_1 from by first | exact (Kd.R_below (by (with_reducible repeat (first | apply Kd.R_alloc | apply Kd.R_drewN | apply Kd.R_drew)); exact (Q_HO_114001_e19 h0_)) hb) | exact Kd.R_mono (Kd.R_below (by (with_reducible repeat (first | apply Kd.R_alloc | apply Kd.R_drewN | apply Kd.R_drew)); exact (Q_HO_114001_e19 h0_)) hb) (fun _ h_ => by first | trivial | exact h_ | exact h_.1))
      have z_BK134 := fun (h0_ : b 19 = true) (h1_ : b 20 = false) => (show w26.heap[gb134]? = some (.cells #[.int .i64 0, .int .i64 0, .int .i64 0, .int .i64 0, .int .i64 0] 34 (0, 0)) from by first | exact (blk_below (g := gb134) (o := .cells #[.int .i64 0, .int .i64 0, .int .i64 0, .int .i64 0, .int .i64 0] 34 (0, 0)) (by (with_reducible repeat (first | refine blk_drewN ?_ _ | refine blk_drew ?_ | refine blk_alloc ?_ _)); exact (Q_BK134 h0_ h1_)) hb))
      clear BK110
      clear BK113
      clear HI0
      clear HK
      clear HB
      have HO124 := n1_
      have BK110 := n2_
      have BK113 := n3_
      have HI0 := n4_
      have HK := n5_
      have HB := n6_
      clear n1_ n2_ n3_ n4_ n5_ n6_
      clear hb ho27
      refine hK.out _ _ ⟨v123, v128, gb134, m19_, (by rw [ha.out]; exact putSel_upk 5 hb_ rfl rfl rfl), z_HO_114001, (by (with_reducible repeat (first | refine blk_drewN ?_ _ | refine blk_drew ?_ | refine blk_alloc ?_ _)); exact BK110.out), (by (with_reducible repeat (first | refine blk_drewN ?_ _ | refine blk_drew ?_ | refine blk_alloc ?_ _)); exact BK113.out), fun h0_ => absurd ((hon 3 (by kernel_rfl)).symm.trans h0_) (by decide), (by repeat (first | (with_reducible first | exact HK.out | apply KeepBut.set_ | apply keep_drewN | apply keep_drew | apply keep_alloc | refine keep_far ?_ GW110.out _ | refine keep_far ?_ GW113.out _) | exact HK.out)), (by repeat (first | (with_reducible first | exact HB.out | apply below_alloc | apply pw_below_drewN | apply below_drew1 | refine below_set ?_ (IsS97.ge HI0.out) | refine below_set ?_ GE110.out | refine below_set ?_ GE113.out) | exact HB.out)), fun _ h1_ => absurd ((hon 7 (by kernel_rfl)).symm.trans h1_) (by decide), fun _ h1_ => absurd ((hon 10 (by kernel_rfl)).symm.trans h1_) (by decide), fun _ _ => (by repeat (first | (with_reducible first | exact HI0.out | apply IsS97.alloc | apply IsS97.drewN | apply IsS97.drew | apply IsS97.set_1 | refine IsS97.far ?_ NB0_110.out _ | refine IsS97.far ?_ NB0_113.out _) | exact HI0.out)), fun _ => (by (with_reducible repeat (first | apply Kd.R_alloc | apply Kd.R_drewN | apply Kd.R_drew)); exact HO124.out), fun h0_ _ => absurd ((hoff 12 (by kernel_rfl)).symm.trans h0_) (by decide), z_HO129, fun h0_ _ => absurd ((hoff 15 (by kernel_rfl)).symm.trans h0_) (by decide), fun h0_ => absurd ((hoff 17 (by kernel_rfl)).symm.trans h0_) (by decide), z_HO_114001_e19, z_BK134, Q_GW134, Q_GE134, Q_NB0_134, Q_NB134_0, Q_NB110_134, Q_NB134_110, Q_NB113_134, Q_NB134_113, fun h0_ => absurd ((hoff 20 (by kernel_rfl)).symm.trans h0_) (by decide), Q_X19_⟩
     refine steps_cons ?_ ?_
     ·rintro b a w' ⟨v123, v128, gb134, m19_, ha, Q_HO_114001, Q_BK110, Q_BK113, Q_HI0, Q_HK, Q_HB, Q_HI0_e3, Q_HI0_e7, Q_HI0_e10, Q_HO124, Q_HI0_e12, Q_HO129, Q_HI0_e15, Q_HI0_e17, Q_HO_114001_e19, Q_BK134, Q_GW134, Q_GE134, Q_NB0_134, Q_NB134_0, Q_NB110_134, Q_NB134_110, Q_NB113_134, Q_NB134_113, Q_BK134_e20, Q_X19_⟩ hb_ hon hoff
      refine ⟨_, rfl, fun K hK => ?_⟩
      have e24 : a.tmps[24]? = some (.pointer (some ⟨g, 0, none⟩)) := by rw [ha]; exact (putSel_off rfl).trans rfl
      have e27 : a.tmps[27]? = some (v123) := by rw [ha]; exact putSel_on (e := (11, 27, v123)) 5 rfl rfl (hon 11 (by kernel_rfl)) rfl
      replace ha := Aside0.mk ha
      have BK110 := Aside0.mk Q_BK110
      have BK113 := Aside0.mk Q_BK113
      have HK := Aside0.mk Q_HK
      have HB := Aside0.mk Q_HB
      have HI0 := Aside0.mk (Q_HI0_e10 (hon 10 (by kernel_rfl)) hb_)
      have HO124 := Aside0.mk (Q_HO124 (hon 11 (by kernel_rfl)))
      obtain ⟨Ao28, co28, eo28⟩ := Kd.R_slice HO124.out
      (first | subst eo28 | (injection eo28 with f1_ f2_ f3_; have f4_ := f1_.symm; have f5_ := f3_.symm; clear f1_ f2_ f3_; subst f4_; subst f5_))
      refine goes_ Try.func90 (by kernel_rfl) rfl #[.pointer (some ⟨g, 0, none⟩), .slice Ao28 y122.length co28] (by rfl) rfl rfl (by first | (simp only [List.map_toArray, List.map_cons, List.map_nil, Act.eval, Array.getD_eq_getD_getElem?, Option.getD_some, e24, e27]; done) | (simp only [List.map_toArray, List.map_cons, List.map_nil, Act.eval, Array.getD_eq_getD_getElem?, Option.getD_some, e24, e27]; rfl)) ?_
      with_reducible refine (spec_l30Rd_one.calls k1 g s0_0 t121 _ _ y122 t125 t126 w0 _ ?side1 ?side2 ?side3 ?side4 ?side5 A15.out).mono ?_
      (case side1 => repeat (first | (with_reducible first | exact HI0.out | apply IsS97.alloc | apply IsS97.drewN | apply IsS97.drew | apply IsS97.set_1 | refine IsS97.far ?_ NB0_110.out _ | refine IsS97.far ?_ NB0_113.out _) | exact HI0.out))
      (case side2 => repeat (first | (with_reducible first | exact HB.out | apply below_alloc | apply pw_below_drewN | apply below_drew1 | refine below_set ?_ (IsS97.ge HI0.out) | refine below_set ?_ GE110.out | refine below_set ?_ GE113.out) | exact HB.out))
      (case side3 => repeat (first | exact (Kd.R_reads' HO124.out).2.2 | (with_reducible refine Kd.C_alloc ?_ _) | (with_reducible refine Kd.C_drewN ?_ _) | (with_reducible refine Kd.C_drew ?_)))
      (case side4 => exact (Kd.R_reads' HO124.out).2.1)
      (case side5 => exact far_slice (IsS97.own_ne HI0.out HO124.out (by decide)))
      rintro e w29 ⟨rfl, hi, hb, hk⟩
      refine ⟨_, rfl, ?_⟩
      have n1_ := Aside0.mk (KeepBut.blk hk (g' := gb110) (o := .cells #[.int .i64 0, .slice none 0 0] 25 (0, 0)) (by (with_reducible repeat (first | refine blk_drewN ?_ _ | refine blk_drew ?_ | refine blk_alloc ?_ _)); exact BK110.out) NB110_0.out (by simp))
      have n2_ := Aside0.mk (KeepBut.blk hk (g' := gb113) (o := .cells #[.int .i64 (wrap64 (2 + t111)), u114001] 25 (0, 0)) (by (with_reducible repeat (first | refine blk_drewN ?_ _ | refine blk_drew ?_ | refine blk_alloc ?_ _)); exact BK113.out) NB113_0.out (by simp))
      have n3_ := Aside0.mk (Kd.R_mono (Kd.R_keep (IsS97.apart (show IsS97 w0 _ g s0_0 t121 from by repeat (first | (with_reducible first | exact HI0.out | apply IsS97.alloc | apply IsS97.drewN | apply IsS97.drew | apply IsS97.set_1 | refine IsS97.far ?_ NB0_110.out _ | refine IsS97.far ?_ NB0_113.out _) | exact HI0.out)) (by (with_reducible repeat (first | apply Kd.R_alloc | apply Kd.R_drewN | apply Kd.R_drew)); exact HO124.out) (by decide)) hk (fun _ h => h.2)) (fun _ h => h.1))
      have n4_ := Aside0.mk (KeepBut.trans (by repeat (first | (with_reducible first | exact HK.out | apply KeepBut.set_ | apply keep_drewN | apply keep_drew | apply keep_alloc | refine keep_far ?_ GW110.out _ | refine keep_far ?_ GW113.out _) | exact HK.out)) hk (.inl rfl))
      have n5_ := Aside0.mk (hb)
      have n6_ := Aside0.mk (hi)
      have z_HO_114001 := fun (h0_ : b 19 = false) => (show Kd.R k34 34 w29 w.heap.size (fun _ => True) u114001 x114001_1 from by first | exact (Kd.R_mono (Kd.R_keep (IsS97.apart (show IsS97 w0 _ g s0_0 t121 from by repeat (first | (with_reducible first | exact HI0.out | apply IsS97.alloc | apply IsS97.drewN | apply IsS97.drew | apply IsS97.set_1 | refine IsS97.far ?_ NB0_110.out _ | refine IsS97.far ?_ NB0_113.out _) | exact HI0.out)) (by (with_reducible repeat (first | apply Kd.R_alloc | apply Kd.R_drewN | apply Kd.R_drew)); exact (Q_HO_114001 h0_)) (by decide)) hk (fun _ h => h.2)) (fun _ h => h.1)) | exact Kd.R_mono (Kd.R_mono (Kd.R_keep (IsS97.apart (show IsS97 w0 _ g s0_0 t121 from by repeat (first | (with_reducible first | exact HI0.out | apply IsS97.alloc | apply IsS97.drewN | apply IsS97.drew | apply IsS97.set_1 | refine IsS97.far ?_ NB0_110.out _ | refine IsS97.far ?_ NB0_113.out _) | exact HI0.out)) (by (with_reducible repeat (first | apply Kd.R_alloc | apply Kd.R_drewN | apply Kd.R_drew)); exact (Q_HO_114001 h0_)) (by decide)) hk (fun _ h => h.2)) (fun _ h => h.1)) (fun _ h_ => by first | trivial | exact h_ | exact h_.1))
      have z_HO129 := fun (h0_ : b 14 = true) => (show Kd.R (Kd.int .i64) 3 w29 w.heap.size (fun _ => True) v128 y127 from by first | exact (Kd.R_mono (Kd.R_keep (IsS97.apart (show IsS97 w0 _ g s0_0 t121 from by repeat (first | (with_reducible first | exact HI0.out | apply IsS97.alloc | apply IsS97.drewN | apply IsS97.drew | apply IsS97.set_1 | refine IsS97.far ?_ NB0_110.out _ | refine IsS97.far ?_ NB0_113.out _) | exact HI0.out)) (by (with_reducible repeat (first | apply Kd.R_alloc | apply Kd.R_drewN | apply Kd.R_drew)); exact (Q_HO129 h0_)) (by decide)) hk (fun _ h => h.2)) (fun _ h => h.1)) | exact Kd.R_mono (Kd.R_mono (Kd.R_keep (IsS97.apart (show IsS97 w0 _ g s0_0 t121 from by repeat (first | (with_reducible first | exact HI0.out | apply IsS97.alloc | apply IsS97.drewN | apply IsS97.drew | apply IsS97.set_1 | refine IsS97.far ?_ NB0_110.out _ | refine IsS97.far ?_ NB0_113.out _) | exact HI0.out)) (by (with_reducible repeat (first | apply Kd.R_alloc | apply Kd.R_drewN | apply Kd.R_drew)); exact (Q_HO129 h0_)) (by decide)) hk (fun _ h => h.2)) (fun _ h => h.1)) (fun _ h_ => by first | trivial | exact h_ | exact h_.1))
      have z_HO_114001_e19 := fun (h0_ : b 19 = true) => (show Kd.R k34 34 w29 w.heap.size (fun k_ => k_ ≠ gb134) u114001 x114001_1 from by first | exact (Kd.R_mono (Kd.R_keep (IsS97.apart (show IsS97 w0 _ g s0_0 t121 from by repeat (first | (with_reducible first | exact HI0.out | apply IsS97.alloc | apply IsS97.drewN | apply IsS97.drew | apply IsS97.set_1 | refine IsS97.far ?_ NB0_110.out _ | refine IsS97.far ?_ NB0_113.out _) | exact HI0.out)) (by (with_reducible repeat (first | apply Kd.R_alloc | apply Kd.R_drewN | apply Kd.R_drew)); exact (Q_HO_114001_e19 h0_)) (by decide)) hk (fun _ h => h.2)) (fun _ h => h.1)) | exact Kd.R_mono (Kd.R_mono (Kd.R_keep (IsS97.apart (show IsS97 w0 _ g s0_0 t121 from by repeat (first | (with_reducible first | exact HI0.out | apply IsS97.alloc | apply IsS97.drewN | apply IsS97.drew | apply IsS97.set_1 | refine IsS97.far ?_ NB0_110.out _ | refine IsS97.far ?_ NB0_113.out _) | exact HI0.out)) (by (with_reducible repeat (first | apply Kd.R_alloc | apply Kd.R_drewN | apply Kd.R_drew)); exact (Q_HO_114001_e19 h0_)) (by decide)) hk (fun _ h => h.2)) (fun _ h => h.1)) (fun _ h_ => by first | trivial | exact h_ | exact h_.1))
      have z_BK134 := fun (h0_ : b 19 = true) (h1_ : b 20 = false) => (show w29.heap[gb134]? = some (.cells #[.int .i64 0, .int .i64 0, .int .i64 0, .int .i64 0, .int .i64 0] 34 (0, 0)) from by first | exact (KeepBut.blk hk (g' := gb134) (o := .cells #[.int .i64 0, .int .i64 0, .int .i64 0, .int .i64 0, .int .i64 0] 34 (0, 0)) (by (with_reducible repeat (first | refine blk_drewN ?_ _ | refine blk_drew ?_ | refine blk_alloc ?_ _)); exact (Q_BK134 h0_ h1_)) (Q_NB134_0 h0_) (by simp)))
      clear BK110
      clear BK113
      clear HO124
      clear HK
      clear HB
      clear HI0
      have BK110 := n1_
      have BK113 := n2_
      have HO124 := n3_
      have HK := n4_
      have HB := n5_
      have HI0 := n6_
      clear n1_ n2_ n3_ n4_ n5_ n6_
      (try clear hb)
      (try clear hb2)
      (try clear hk)
      (try clear hi)
      refine hK.out _ _ ⟨.slice Ao28 y122.length co28, v128, gb134, m19_, (by rw [ha.out]; exact putSel_upk 6 hb_ rfl rfl rfl), z_HO_114001, (by (with_reducible repeat (first | refine blk_drewN ?_ _ | refine blk_drew ?_ | refine blk_alloc ?_ _)); exact BK110.out), (by (with_reducible repeat (first | refine blk_drewN ?_ _ | refine blk_drew ?_ | refine blk_alloc ?_ _)); exact BK113.out), fun h0_ => absurd ((hon 3 (by kernel_rfl)).symm.trans h0_) (by decide), (by repeat (first | (with_reducible first | exact HK.out | apply KeepBut.set_ | apply keep_drewN | apply keep_drew | apply keep_alloc | refine keep_far ?_ GW110.out _ | refine keep_far ?_ GW113.out _) | exact HK.out)), (by repeat (first | (with_reducible first | exact HB.out | apply below_alloc | apply pw_below_drewN | apply below_drew1 | refine below_set ?_ (IsS97.ge HI0.out) | refine below_set ?_ GE110.out | refine below_set ?_ GE113.out) | exact HB.out)), fun _ h1_ => absurd ((hon 7 (by kernel_rfl)).symm.trans h1_) (by decide), fun _ h1_ => absurd ((hon 10 (by kernel_rfl)).symm.trans h1_) (by decide), fun _ h1_ => absurd ((up_self b 12).symm.trans h1_) (by decide), fun _ => (by (with_reducible repeat (first | apply Kd.R_alloc | apply Kd.R_drewN | apply Kd.R_drew)); exact HO124.out), fun _ _ => (by repeat (first | (with_reducible first | exact HI0.out | apply IsS97.alloc | apply IsS97.drewN | apply IsS97.drew | apply IsS97.set_1 | refine IsS97.far ?_ NB0_110.out _ | refine IsS97.far ?_ NB0_113.out _) | exact HI0.out)), z_HO129, fun h0_ _ => absurd ((hoff 15 (by kernel_rfl)).symm.trans h0_) (by decide), fun h0_ => absurd ((hoff 17 (by kernel_rfl)).symm.trans h0_) (by decide), z_HO_114001_e19, z_BK134, Q_GW134, Q_GE134, Q_NB0_134, Q_NB134_0, Q_NB110_134, Q_NB134_110, Q_NB113_134, Q_NB134_113, fun h0_ => absurd ((hoff 20 (by kernel_rfl)).symm.trans h0_) (by decide), Q_X19_⟩
     refine steps_cons ?_ ?_
     ·rintro b a w' ⟨v123, v128, gb134, m19_, ha, Q_HO_114001, Q_BK110, Q_BK113, Q_HI0, Q_HK, Q_HB, Q_HI0_e3, Q_HI0_e7, Q_HI0_e10, Q_HO124, Q_HI0_e12, Q_HO129, Q_HI0_e15, Q_HI0_e17, Q_HO_114001_e19, Q_BK134, Q_GW134, Q_GE134, Q_NB0_134, Q_NB134_0, Q_NB110_134, Q_NB134_110, Q_NB113_134, Q_NB134_113, Q_BK134_e20, Q_X19_⟩ hb_ hon hoff
      refine ⟨_, rfl, fun K hK => ?_⟩
      replace ha := Aside0.mk ha
      have BK110 := Aside0.mk Q_BK110
      have BK113 := Aside0.mk Q_BK113
      have HK := Aside0.mk Q_HK
      have HB := Aside0.mk Q_HB
      refine Kd.R_lit_step (Kd.int .i64) _ 3 ?hg (N := 30) ?hd (xs := ([0, 0, 3, 8] : List Int)) (inner := [.int .i64 0, .int .i64 0, .int .i64 3, .int .i64 8]) (ok := fun _ => True) (okp := fun _ => True) ?hr ?hp (fun _ hk => hk) trivial (Below.refl _ _) (Nat.le_refl _) (by simp) ?_; (case hd => rfl); (case hg => rfl); (case hr => first | (go_simp; done) | (go_simp; rfl)); (case hp => exact (Reps.one (show Kd.M (Kd.int .i64) _ _ _ 0 [.int .i64 0] from rfl) (Reps.one (show Kd.M (Kd.int .i64) _ _ _ 0 [.int .i64 0] from rfl) (Reps.one (show Kd.M (Kd.int .i64) _ _ _ 3 [.int .i64 3] from rfl) (Reps.one (show Kd.M (Kd.int .i64) _ _ _ 8 [.int .i64 8] from rfl) (Reps.none _ _))))))
      intro v128 w22 ho23 hb hg_ hnew_
      clear hg_ hnew_
      (first | rw [← Ny127.out] at ho23 | (simp only [Int.reduceToNat] at ho23; rw [← Ny127.out] at ho23))
      have n1_ := Aside0.mk (Kd.R_lower ho23 (keep_size (w := w) (g := g) (row := none) (by repeat (first | (with_reducible first | exact HK.out | apply KeepBut.set_ | apply keep_drewN | apply keep_drew | apply keep_alloc | refine keep_far ?_ GW110.out _ | refine keep_far ?_ GW113.out _) | exact HK.out))))
      have n2_ := Aside0.mk (blk_below (g := gb110) (o := .cells #[.int .i64 0, .slice none 0 0] 25 (0, 0)) (by (with_reducible repeat (first | refine blk_drewN ?_ _ | refine blk_drew ?_ | refine blk_alloc ?_ _)); exact BK110.out) hb)
      have n3_ := Aside0.mk (blk_below (g := gb113) (o := .cells #[.int .i64 (wrap64 (2 + t111)), u114001] 25 (0, 0)) (by (with_reducible repeat (first | refine blk_drewN ?_ _ | refine blk_drew ?_ | refine blk_alloc ?_ _)); exact BK113.out) hb)
      have n5_ := Aside0.mk (KeepBut.trans (by repeat (first | (with_reducible first | exact HK.out | apply KeepBut.set_ | apply keep_drewN | apply keep_drew | apply keep_alloc | refine keep_far ?_ GW110.out _ | refine keep_far ?_ GW113.out _) | exact HK.out)) (KeepBut.of_below hb g none) (.inl rfl))
      have n6_ := Aside0.mk (below_step (by repeat (first | (with_reducible first | exact HB.out | apply below_alloc | apply pw_below_drewN | apply below_drew1 | refine below_set ?_ GE110.out | refine below_set ?_ GE113.out) | exact HB.out)) hb)
      have z_HO_114001 := fun (h0_ : b 19 = false) => (show Kd.R k34 34 w22 w.heap.size (fun _ => True) u114001 x114001_1 from by first | exact (Kd.R_below (by (with_reducible repeat (first | apply Kd.R_alloc | apply Kd.R_drewN | apply Kd.R_drew)); exact (Q_HO_114001 h0_)) hb) | exact Kd.R_mono (Kd.R_below (by (with_reducible repeat (first | apply Kd.R_alloc | apply Kd.R_drewN | apply Kd.R_drew)); exact (Q_HO_114001 h0_)) hb) (fun _ h_ => by first | trivial | exact h_ | exact h_.1))
      have z_HI0 := fun (h0_ : b 3 = false) => (show IsS97 w0 w22 g s0_0 x1001_1 from by first | exact (IsS97.below (by repeat (first | (with_reducible first | exact (Q_HI0 h0_) | apply IsS97.alloc | apply IsS97.drewN | apply IsS97.drew | apply IsS97.set_1 | refine IsS97.far ?_ NB0_110.out _ | refine IsS97.far ?_ NB0_113.out _) | exact (Q_HI0 h0_))) hb))
      have z_HI0_e3 := fun (h0_ : b 3 = true) (h1_ : b 7 = false) => (show IsS97 w0 w22 g s0_0 t117 from by first | exact (IsS97.below (by repeat (first | (with_reducible first | exact (Q_HI0_e3 h0_ h1_) | apply IsS97.alloc | apply IsS97.drewN | apply IsS97.drew | apply IsS97.set_1 | refine IsS97.far ?_ NB0_110.out _ | refine IsS97.far ?_ NB0_113.out _) | exact (Q_HI0_e3 h0_ h1_))) hb))
      have z_HI0_e7 := fun (h0_ : b 7 = true) (h1_ : b 10 = false) => (show IsS97 w0 w22 g s0_0 t119 from by first | exact (IsS97.below (by repeat (first | (with_reducible first | exact (Q_HI0_e7 h0_ h1_) | apply IsS97.alloc | apply IsS97.drewN | apply IsS97.drew | apply IsS97.set_1 | refine IsS97.far ?_ NB0_110.out _ | refine IsS97.far ?_ NB0_113.out _) | exact (Q_HI0_e7 h0_ h1_))) hb))
      have z_HI0_e10 := fun (h0_ : b 10 = true) (h1_ : b 12 = false) => (show IsS97 w0 w22 g s0_0 t121 from by first | exact (IsS97.below (by repeat (first | (with_reducible first | exact (Q_HI0_e10 h0_ h1_) | apply IsS97.alloc | apply IsS97.drewN | apply IsS97.drew | apply IsS97.set_1 | refine IsS97.far ?_ NB0_110.out _ | refine IsS97.far ?_ NB0_113.out _) | exact (Q_HI0_e10 h0_ h1_))) hb))
      have z_HO124 := fun (h0_ : b 11 = true) => (show Kd.R (Kd.int .i64) 3 w22 w.heap.size (fun _ => True) v123 y122 from by first | exact (Kd.R_elder' (by (with_reducible repeat (first | apply Kd.R_alloc | apply Kd.R_drewN | apply Kd.R_drew)); exact (Q_HO124 h0_)) (Kd.R_base ho23) hb) | exact Kd.R_mono (Kd.R_elder' (by (with_reducible repeat (first | apply Kd.R_alloc | apply Kd.R_drewN | apply Kd.R_drew)); exact (Q_HO124 h0_)) (Kd.R_base ho23) hb) (fun _ h_ => by first | trivial | exact h_ | exact h_.1))
      have z_HI0_e12 := fun (h0_ : b 12 = true) (h1_ : b 15 = false) => (show IsS97 w0 w22 g s0_0 t126 from by first | exact (IsS97.below (by repeat (first | (with_reducible first | exact (Q_HI0_e12 h0_ h1_) | apply IsS97.alloc | apply IsS97.drewN | apply IsS97.drew | apply IsS97.set_1 | refine IsS97.far ?_ NB0_110.out _ | refine IsS97.far ?_ NB0_113.out _) | exact (Q_HI0_e12 h0_ h1_))) hb))
      have z_HO_114001_e19 := fun (h0_ : b 19 = true) => (show Kd.R k34 34 w22 w.heap.size (fun k_ => k_ ≠ gb134) u114001 x114001_1 from by first | exact (Kd.R_below (by (with_reducible repeat (first | apply Kd.R_alloc | apply Kd.R_drewN | apply Kd.R_drew)); exact (Q_HO_114001_e19 h0_)) hb) | exact Kd.R_mono (Kd.R_below (by (with_reducible repeat (first | apply Kd.R_alloc | apply Kd.R_drewN | apply Kd.R_drew)); exact (Q_HO_114001_e19 h0_)) hb) (fun _ h_ => by first | trivial | exact h_ | exact h_.1))
      have z_BK134 := fun (h0_ : b 19 = true) (h1_ : b 20 = false) => (show w22.heap[gb134]? = some (.cells #[.int .i64 0, .int .i64 0, .int .i64 0, .int .i64 0, .int .i64 0] 34 (0, 0)) from by first | exact (blk_below (g := gb134) (o := .cells #[.int .i64 0, .int .i64 0, .int .i64 0, .int .i64 0, .int .i64 0] 34 (0, 0)) (by (with_reducible repeat (first | refine blk_drewN ?_ _ | refine blk_drew ?_ | refine blk_alloc ?_ _)); exact (Q_BK134 h0_ h1_)) hb))
      clear BK110
      clear BK113
      clear HK
      clear HB
      have HO129 := n1_
      have BK110 := n2_
      have BK113 := n3_
      have HK := n5_
      have HB := n6_
      clear n1_ n2_ n3_ n5_ n6_
      clear hb ho23
      refine hK.out _ _ ⟨v123, v128, gb134, m19_, (by rw [ha.out]; exact putSel_upk 7 hb_ rfl rfl rfl), z_HO_114001, (by (with_reducible repeat (first | refine blk_drewN ?_ _ | refine blk_drew ?_ | refine blk_alloc ?_ _)); exact BK110.out), (by (with_reducible repeat (first | refine blk_drewN ?_ _ | refine blk_drew ?_ | refine blk_alloc ?_ _)); exact BK113.out), z_HI0, (by repeat (first | (with_reducible first | exact HK.out | apply KeepBut.set_ | apply keep_drewN | apply keep_drew | apply keep_alloc | refine keep_far ?_ GW110.out _ | refine keep_far ?_ GW113.out _) | exact HK.out)), (by repeat (first | (with_reducible first | exact HB.out | apply below_alloc | apply pw_below_drewN | apply below_drew1 | refine below_set ?_ GE110.out | refine below_set ?_ GE113.out) | exact HB.out)), z_HI0_e3, z_HI0_e7, z_HI0_e10, z_HO124, z_HI0_e12, fun _ => (by (with_reducible repeat (first | apply Kd.R_alloc | apply Kd.R_drewN | apply Kd.R_drew)); exact HO129.out), fun h0_ _ => absurd ((hoff 15 (by kernel_rfl)).symm.trans h0_) (by decide), fun h0_ => absurd ((hoff 17 (by kernel_rfl)).symm.trans h0_) (by decide), z_HO_114001_e19, z_BK134, Q_GW134, Q_GE134, Q_NB0_134, Q_NB134_0, Q_NB110_134, Q_NB134_110, Q_NB113_134, Q_NB134_113, fun h0_ => absurd ((hoff 20 (by kernel_rfl)).symm.trans h0_) (by decide), Q_X19_⟩
     refine steps_cons ?_ ?_
     ·rintro b a w' ⟨v123, v128, gb134, m19_, ha, Q_HO_114001, Q_BK110, Q_BK113, Q_HI0, Q_HK, Q_HB, Q_HI0_e3, Q_HI0_e7, Q_HI0_e10, Q_HO124, Q_HI0_e12, Q_HO129, Q_HI0_e15, Q_HI0_e17, Q_HO_114001_e19, Q_BK134, Q_GW134, Q_GE134, Q_NB0_134, Q_NB134_0, Q_NB110_134, Q_NB134_110, Q_NB113_134, Q_NB134_113, Q_BK134_e20, Q_X19_⟩ hb_ hon hoff
      refine ⟨_, rfl, fun K hK => ?_⟩
      have e29 : a.tmps[29]? = some (.pointer (some ⟨g, 0, none⟩)) := by rw [ha]; exact (putSel_off rfl).trans rfl
      have e30 : a.tmps[30]? = some (v128) := by rw [ha]; exact putSel_on (e := (14, 30, v128)) 7 rfl rfl (hon 14 (by kernel_rfl)) rfl
      replace ha := Aside0.mk ha
      have BK110 := Aside0.mk Q_BK110
      have BK113 := Aside0.mk Q_BK113
      have HK := Aside0.mk Q_HK
      have HB := Aside0.mk Q_HB
      have HO124 := Aside0.mk (Q_HO124 (hon 11 (by kernel_rfl)))
      have HI0 := Aside0.mk (Q_HI0_e12 (hon 12 (by kernel_rfl)) hb_)
      have HO129 := Aside0.mk (Q_HO129 (hon 14 (by kernel_rfl)))
      obtain ⟨Ao32, co32, eo32⟩ := Kd.R_slice HO129.out
      (first | subst eo32 | (injection eo32 with f1_ f2_ f3_; have f4_ := f1_.symm; have f5_ := f3_.symm; clear f1_ f2_ f3_; subst f4_; subst f5_))
      refine goes_ Try.func90 (by kernel_rfl) rfl #[.pointer (some ⟨g, 0, none⟩), .slice Ao32 y127.length co32] (by rfl) rfl rfl (by first | (simp only [List.map_toArray, List.map_cons, List.map_nil, Act.eval, Array.getD_eq_getD_getElem?, Option.getD_some, e29, e30]; done) | (simp only [List.map_toArray, List.map_cons, List.map_nil, Act.eval, Array.getD_eq_getD_getElem?, Option.getD_some, e29, e30]; rfl)) ?_
      with_reducible refine (spec_l30Rd_one.calls k1 g s0_0 t126 _ _ y127 t130 t131 w0 _ ?side1 ?side2 ?side3 ?side4 ?side5 A16.out).mono ?_
      (case side1 => repeat (first | (with_reducible first | exact HI0.out | apply IsS97.alloc | apply IsS97.drewN | apply IsS97.drew | apply IsS97.set_1 | refine IsS97.far ?_ NB0_110.out _ | refine IsS97.far ?_ NB0_113.out _) | exact HI0.out))
      (case side2 => repeat (first | (with_reducible first | exact HB.out | apply below_alloc | apply pw_below_drewN | apply below_drew1 | refine below_set ?_ (IsS97.ge HI0.out) | refine below_set ?_ GE110.out | refine below_set ?_ GE113.out) | exact HB.out))
      (case side3 => repeat (first | exact (Kd.R_reads' HO129.out).2.2 | (with_reducible refine Kd.C_alloc ?_ _) | (with_reducible refine Kd.C_drewN ?_ _) | (with_reducible refine Kd.C_drew ?_)))
      (case side4 => exact (Kd.R_reads' HO129.out).2.1)
      (case side5 => exact far_slice (IsS97.own_ne HI0.out HO129.out (by decide)))
      rintro e w33 ⟨rfl, hi, hb, hk⟩
      refine ⟨_, rfl, ?_⟩
      have n1_ := Aside0.mk (KeepBut.blk hk (g' := gb110) (o := .cells #[.int .i64 0, .slice none 0 0] 25 (0, 0)) (by (with_reducible repeat (first | refine blk_drewN ?_ _ | refine blk_drew ?_ | refine blk_alloc ?_ _)); exact BK110.out) NB110_0.out (by simp))
      have n2_ := Aside0.mk (KeepBut.blk hk (g' := gb113) (o := .cells #[.int .i64 (wrap64 (2 + t111)), u114001] 25 (0, 0)) (by (with_reducible repeat (first | refine blk_drewN ?_ _ | refine blk_drew ?_ | refine blk_alloc ?_ _)); exact BK113.out) NB113_0.out (by simp))
      have n3_ := Aside0.mk (Kd.R_mono (Kd.R_keep (IsS97.apart (show IsS97 w0 _ g s0_0 t126 from by repeat (first | (with_reducible first | exact HI0.out | apply IsS97.alloc | apply IsS97.drewN | apply IsS97.drew | apply IsS97.set_1 | refine IsS97.far ?_ NB0_110.out _ | refine IsS97.far ?_ NB0_113.out _) | exact HI0.out)) (by (with_reducible repeat (first | apply Kd.R_alloc | apply Kd.R_drewN | apply Kd.R_drew)); exact HO124.out) (by decide)) hk (fun _ h => h.2)) (fun _ h => h.1))
      have n4_ := Aside0.mk (Kd.R_mono (Kd.R_keep (IsS97.apart (show IsS97 w0 _ g s0_0 t126 from by repeat (first | (with_reducible first | exact HI0.out | apply IsS97.alloc | apply IsS97.drewN | apply IsS97.drew | apply IsS97.set_1 | refine IsS97.far ?_ NB0_110.out _ | refine IsS97.far ?_ NB0_113.out _) | exact HI0.out)) (by (with_reducible repeat (first | apply Kd.R_alloc | apply Kd.R_drewN | apply Kd.R_drew)); exact HO129.out) (by decide)) hk (fun _ h => h.2)) (fun _ h => h.1))
      have n5_ := Aside0.mk (KeepBut.trans (by repeat (first | (with_reducible first | exact HK.out | apply KeepBut.set_ | apply keep_drewN | apply keep_drew | apply keep_alloc | refine keep_far ?_ GW110.out _ | refine keep_far ?_ GW113.out _) | exact HK.out)) hk (.inl rfl))
      have n6_ := Aside0.mk (hb)
      have n7_ := Aside0.mk (hi)
      have z_HO_114001 := fun (h0_ : b 19 = false) => (show Kd.R k34 34 w33 w.heap.size (fun _ => True) u114001 x114001_1 from by first | exact (Kd.R_mono (Kd.R_keep (IsS97.apart (show IsS97 w0 _ g s0_0 t126 from by repeat (first | (with_reducible first | exact HI0.out | apply IsS97.alloc | apply IsS97.drewN | apply IsS97.drew | apply IsS97.set_1 | refine IsS97.far ?_ NB0_110.out _ | refine IsS97.far ?_ NB0_113.out _) | exact HI0.out)) (by (with_reducible repeat (first | apply Kd.R_alloc | apply Kd.R_drewN | apply Kd.R_drew)); exact (Q_HO_114001 h0_)) (by decide)) hk (fun _ h => h.2)) (fun _ h => h.1)) | exact Kd.R_mono (Kd.R_mono (Kd.R_keep (IsS97.apart (show IsS97 w0 _ g s0_0 t126 from by repeat (first | (with_reducible first | exact HI0.out | apply IsS97.alloc | apply IsS97.drewN | apply IsS97.drew | apply IsS97.set_1 | refine IsS97.far ?_ NB0_110.out _ | refine IsS97.far ?_ NB0_113.out _) | exact HI0.out)) (by (with_reducible repeat (first | apply Kd.R_alloc | apply Kd.R_drewN | apply Kd.R_drew)); exact (Q_HO_114001 h0_)) (by decide)) hk (fun _ h => h.2)) (fun _ h => h.1)) (fun _ h_ => by first | trivial | exact h_ | exact h_.1))
      have z_HO_114001_e19 := fun (h0_ : b 19 = true) => (show Kd.R k34 34 w33 w.heap.size (fun k_ => k_ ≠ gb134) u114001 x114001_1 from by first | exact (Kd.R_mono (Kd.R_keep (IsS97.apart (show IsS97 w0 _ g s0_0 t126 from by repeat (first | (with_reducible first | exact HI0.out | apply IsS97.alloc | apply IsS97.drewN | apply IsS97.drew | apply IsS97.set_1 | refine IsS97.far ?_ NB0_110.out _ | refine IsS97.far ?_ NB0_113.out _) | exact HI0.out)) (by (with_reducible repeat (first | apply Kd.R_alloc | apply Kd.R_drewN | apply Kd.R_drew)); exact (Q_HO_114001_e19 h0_)) (by decide)) hk (fun _ h => h.2)) (fun _ h => h.1)) | exact Kd.R_mono (Kd.R_mono (Kd.R_keep (IsS97.apart (show IsS97 w0 _ g s0_0 t126 from by repeat (first | (with_reducible first | exact HI0.out | apply IsS97.alloc | apply IsS97.drewN | apply IsS97.drew | apply IsS97.set_1 | refine IsS97.far ?_ NB0_110.out _ | refine IsS97.far ?_ NB0_113.out _) | exact HI0.out)) (by (with_reducible repeat (first | apply Kd.R_alloc | apply Kd.R_drewN | apply Kd.R_drew)); exact (Q_HO_114001_e19 h0_)) (by decide)) hk (fun _ h => h.2)) (fun _ h => h.1)) (fun _ h_ => by first | trivial | exact h_ | exact h_.1))
      have z_BK134 := fun (h0_ : b 19 = true) (h1_ : b 20 = false) => (show w33.heap[gb134]? = some (.cells #[.int .i64 0, .int .i64 0, .int .i64 0, .int .i64 0, .int .i64 0] 34 (0, 0)) from by first | exact (KeepBut.blk hk (g' := gb134) (o := .cells #[.int .i64 0, .int .i64 0, .int .i64 0, .int .i64 0, .int .i64 0] 34 (0, 0)) (by (with_reducible repeat (first | refine blk_drewN ?_ _ | refine blk_drew ?_ | refine blk_alloc ?_ _)); exact (Q_BK134 h0_ h1_)) (Q_NB134_0 h0_) (by simp)))
      clear BK110
      clear BK113
      clear HO124
      clear HO129
      clear HK
      clear HB
      clear HI0
      have BK110 := n1_
      have BK113 := n2_
      have HO124 := n3_
      have HO129 := n4_
      have HK := n5_
      have HB := n6_
      have HI0 := n7_
      clear n1_ n2_ n3_ n4_ n5_ n6_ n7_
      (try clear hb)
      (try clear hb2)
      (try clear hk)
      (try clear hi)
      refine hK.out _ _ ⟨v123, .slice Ao32 y127.length co32, gb134, m19_, (by rw [ha.out]; exact putSel_upk 8 hb_ rfl rfl rfl), z_HO_114001, (by (with_reducible repeat (first | refine blk_drewN ?_ _ | refine blk_drew ?_ | refine blk_alloc ?_ _)); exact BK110.out), (by (with_reducible repeat (first | refine blk_drewN ?_ _ | refine blk_drew ?_ | refine blk_alloc ?_ _)); exact BK113.out), fun h0_ => absurd ((hon 3 (by kernel_rfl)).symm.trans h0_) (by decide), (by repeat (first | (with_reducible first | exact HK.out | apply KeepBut.set_ | apply keep_drewN | apply keep_drew | apply keep_alloc | refine keep_far ?_ GW110.out _ | refine keep_far ?_ GW113.out _) | exact HK.out)), (by repeat (first | (with_reducible first | exact HB.out | apply below_alloc | apply pw_below_drewN | apply below_drew1 | refine below_set ?_ (IsS97.ge HI0.out) | refine below_set ?_ GE110.out | refine below_set ?_ GE113.out) | exact HB.out)), fun _ h1_ => absurd ((hon 7 (by kernel_rfl)).symm.trans h1_) (by decide), fun _ h1_ => absurd ((hon 10 (by kernel_rfl)).symm.trans h1_) (by decide), fun _ h1_ => absurd ((hon 12 (by kernel_rfl)).symm.trans h1_) (by decide), fun _ => (by (with_reducible repeat (first | apply Kd.R_alloc | apply Kd.R_drewN | apply Kd.R_drew)); exact HO124.out), fun _ h1_ => absurd ((up_self b 15).symm.trans h1_) (by decide), fun _ => (by (with_reducible repeat (first | apply Kd.R_alloc | apply Kd.R_drewN | apply Kd.R_drew)); exact HO129.out), fun _ _ => (by repeat (first | (with_reducible first | exact HI0.out | apply IsS97.alloc | apply IsS97.drewN | apply IsS97.drew | apply IsS97.set_1 | refine IsS97.far ?_ NB0_110.out _ | refine IsS97.far ?_ NB0_113.out _) | exact HI0.out)), fun h0_ => absurd ((hoff 17 (by kernel_rfl)).symm.trans h0_) (by decide), z_HO_114001_e19, z_BK134, Q_GW134, Q_GE134, Q_NB0_134, Q_NB134_0, Q_NB110_134, Q_NB134_110, Q_NB113_134, Q_NB134_113, fun h0_ => absurd ((hoff 20 (by kernel_rfl)).symm.trans h0_) (by decide), Q_X19_⟩
     refine steps_cons ?_ ?_
     ·rintro b a w' ⟨v123, v128, gb134, m19_, ha, Q_HO_114001, Q_BK110, Q_BK113, Q_HI0, Q_HK, Q_HB, Q_HI0_e3, Q_HI0_e7, Q_HI0_e10, Q_HO124, Q_HI0_e12, Q_HO129, Q_HI0_e15, Q_HI0_e17, Q_HO_114001_e19, Q_BK134, Q_GW134, Q_GE134, Q_NB0_134, Q_NB134_0, Q_NB110_134, Q_NB134_110, Q_NB113_134, Q_NB134_113, Q_BK134_e20, Q_X19_⟩ hb_ hon hoff
      refine ⟨_, rfl, fun K hK => ?_⟩
      have e32 : a.tmps[32]? = some (.pointer (some ⟨g, 0, none⟩)) := by rw [ha]; exact (putSel_off rfl).trans rfl
      replace ha := Aside0.mk ha
      have BK110 := Aside0.mk Q_BK110
      have BK113 := Aside0.mk Q_BK113
      have HK := Aside0.mk Q_HK
      have HB := Aside0.mk Q_HB
      have HO124 := Aside0.mk (Q_HO124 (hon 11 (by kernel_rfl)))
      have HO129 := Aside0.mk (Q_HO129 (hon 14 (by kernel_rfl)))
      have HI0 := Aside0.mk (Q_HI0_e15 (hon 15 (by kernel_rfl)) hb_)
      refine goes_ Try.func89 (by kernel_rfl) rfl #[.pointer (some ⟨g, 0, none⟩), .int .i64 10] (by rfl) rfl rfl (by first | (simp only [List.map_toArray, List.map_cons, List.map_nil, Act.eval, Array.getD_eq_getD_getElem?, Option.getD_some, e32]; done) | (simp only [List.map_toArray, List.map_cons, List.map_nil, Act.eval, Array.getD_eq_getD_getElem?, Option.getD_some, e32]; rfl)) ?_
      with_reducible refine (spec_l30Rd_pick.calls k1 g s0_0 t131 10 t132 t133 w0 _ ?side1 ?side2 A17.out).mono ?_
      (case side1 => repeat (first | (with_reducible first | exact HI0.out | apply IsS97.alloc | apply IsS97.drewN | apply IsS97.drew | apply IsS97.set_1 | refine IsS97.far ?_ NB0_110.out _ | refine IsS97.far ?_ NB0_113.out _) | exact HI0.out))
      (case side2 => repeat (first | (with_reducible first | exact HB.out | apply below_alloc | apply pw_below_drewN | apply below_drew1 | refine below_set ?_ (IsS97.ge HI0.out) | refine below_set ?_ GE110.out | refine below_set ?_ GE113.out) | exact HB.out))
      rintro e w34 ⟨rfl, hi, hb, hk⟩
      refine ⟨_, rfl, ?_⟩
      have n1_ := Aside0.mk (KeepBut.blk hk (g' := gb110) (o := .cells #[.int .i64 0, .slice none 0 0] 25 (0, 0)) (by (with_reducible repeat (first | refine blk_drewN ?_ _ | refine blk_drew ?_ | refine blk_alloc ?_ _)); exact BK110.out) NB110_0.out (by simp))
      have n2_ := Aside0.mk (KeepBut.blk hk (g' := gb113) (o := .cells #[.int .i64 (wrap64 (2 + t111)), u114001] 25 (0, 0)) (by (with_reducible repeat (first | refine blk_drewN ?_ _ | refine blk_drew ?_ | refine blk_alloc ?_ _)); exact BK113.out) NB113_0.out (by simp))
      have n3_ := Aside0.mk (Kd.R_mono (Kd.R_keep (IsS97.apart (show IsS97 w0 _ g s0_0 t131 from by repeat (first | (with_reducible first | exact HI0.out | apply IsS97.alloc | apply IsS97.drewN | apply IsS97.drew | apply IsS97.set_1 | refine IsS97.far ?_ NB0_110.out _ | refine IsS97.far ?_ NB0_113.out _) | exact HI0.out)) (by (with_reducible repeat (first | apply Kd.R_alloc | apply Kd.R_drewN | apply Kd.R_drew)); exact HO124.out) (by decide)) hk (fun _ h => h.2)) (fun _ h => h.1))
      have n4_ := Aside0.mk (Kd.R_mono (Kd.R_keep (IsS97.apart (show IsS97 w0 _ g s0_0 t131 from by repeat (first | (with_reducible first | exact HI0.out | apply IsS97.alloc | apply IsS97.drewN | apply IsS97.drew | apply IsS97.set_1 | refine IsS97.far ?_ NB0_110.out _ | refine IsS97.far ?_ NB0_113.out _) | exact HI0.out)) (by (with_reducible repeat (first | apply Kd.R_alloc | apply Kd.R_drewN | apply Kd.R_drew)); exact HO129.out) (by decide)) hk (fun _ h => h.2)) (fun _ h => h.1))
      have n5_ := Aside0.mk (KeepBut.trans (by repeat (first | (with_reducible first | exact HK.out | apply KeepBut.set_ | apply keep_drewN | apply keep_drew | apply keep_alloc | refine keep_far ?_ GW110.out _ | refine keep_far ?_ GW113.out _) | exact HK.out)) hk (.inl rfl))
      have n6_ := Aside0.mk (hb)
      have n7_ := Aside0.mk (hi)
      have z_HO_114001 := fun (h0_ : b 19 = false) => (show Kd.R k34 34 w34 w.heap.size (fun _ => True) u114001 x114001_1 from by first | exact (Kd.R_mono (Kd.R_keep (IsS97.apart (show IsS97 w0 _ g s0_0 t131 from by repeat (first | (with_reducible first | exact HI0.out | apply IsS97.alloc | apply IsS97.drewN | apply IsS97.drew | apply IsS97.set_1 | refine IsS97.far ?_ NB0_110.out _ | refine IsS97.far ?_ NB0_113.out _) | exact HI0.out)) (by (with_reducible repeat (first | apply Kd.R_alloc | apply Kd.R_drewN | apply Kd.R_drew)); exact (Q_HO_114001 h0_)) (by decide)) hk (fun _ h => h.2)) (fun _ h => h.1)) | exact Kd.R_mono (Kd.R_mono (Kd.R_keep (IsS97.apart (show IsS97 w0 _ g s0_0 t131 from by repeat (first | (with_reducible first | exact HI0.out | apply IsS97.alloc | apply IsS97.drewN | apply IsS97.drew | apply IsS97.set_1 | refine IsS97.far ?_ NB0_110.out _ | refine IsS97.far ?_ NB0_113.out _) | exact HI0.out)) (by (with_reducible repeat (first | apply Kd.R_alloc | apply Kd.R_drewN | apply Kd.R_drew)); exact (Q_HO_114001 h0_)) (by decide)) hk (fun _ h => h.2)) (fun _ h => h.1)) (fun _ h_ => by first | trivial | exact h_ | exact h_.1))
      have z_HO_114001_e19 := fun (h0_ : b 19 = true) => (show Kd.R k34 34 w34 w.heap.size (fun k_ => k_ ≠ gb134) u114001 x114001_1 from by first | exact (Kd.R_mono (Kd.R_keep (IsS97.apart (show IsS97 w0 _ g s0_0 t131 from by repeat (first | (with_reducible first | exact HI0.out | apply IsS97.alloc | apply IsS97.drewN | apply IsS97.drew | apply IsS97.set_1 | refine IsS97.far ?_ NB0_110.out _ | refine IsS97.far ?_ NB0_113.out _) | exact HI0.out)) (by (with_reducible repeat (first | apply Kd.R_alloc | apply Kd.R_drewN | apply Kd.R_drew)); exact (Q_HO_114001_e19 h0_)) (by decide)) hk (fun _ h => h.2)) (fun _ h => h.1)) | exact Kd.R_mono (Kd.R_mono (Kd.R_keep (IsS97.apart (show IsS97 w0 _ g s0_0 t131 from by repeat (first | (with_reducible first | exact HI0.out | apply IsS97.alloc | apply IsS97.drewN | apply IsS97.drew | apply IsS97.set_1 | refine IsS97.far ?_ NB0_110.out _ | refine IsS97.far ?_ NB0_113.out _) | exact HI0.out)) (by (with_reducible repeat (first | apply Kd.R_alloc | apply Kd.R_drewN | apply Kd.R_drew)); exact (Q_HO_114001_e19 h0_)) (by decide)) hk (fun _ h => h.2)) (fun _ h => h.1)) (fun _ h_ => by first | trivial | exact h_ | exact h_.1))
      have z_BK134 := fun (h0_ : b 19 = true) (h1_ : b 20 = false) => (show w34.heap[gb134]? = some (.cells #[.int .i64 0, .int .i64 0, .int .i64 0, .int .i64 0, .int .i64 0] 34 (0, 0)) from by first | exact (KeepBut.blk hk (g' := gb134) (o := .cells #[.int .i64 0, .int .i64 0, .int .i64 0, .int .i64 0, .int .i64 0] 34 (0, 0)) (by (with_reducible repeat (first | refine blk_drewN ?_ _ | refine blk_drew ?_ | refine blk_alloc ?_ _)); exact (Q_BK134 h0_ h1_)) (Q_NB134_0 h0_) (by simp)))
      clear BK110
      clear BK113
      clear HO124
      clear HO129
      clear HK
      clear HB
      clear HI0
      have BK110 := n1_
      have BK113 := n2_
      have HO124 := n3_
      have HO129 := n4_
      have HK := n5_
      have HB := n6_
      have HI0 := n7_
      clear n1_ n2_ n3_ n4_ n5_ n6_ n7_
      (try clear hb)
      (try clear hb2)
      (try clear hk)
      (try clear hi)
      refine hK.out _ _ ⟨v123, v128, gb134, m19_, (by rw [ha.out]; exact putSel_upk 9 hb_ rfl rfl rfl), z_HO_114001, (by (with_reducible repeat (first | refine blk_drewN ?_ _ | refine blk_drew ?_ | refine blk_alloc ?_ _)); exact BK110.out), (by (with_reducible repeat (first | refine blk_drewN ?_ _ | refine blk_drew ?_ | refine blk_alloc ?_ _)); exact BK113.out), fun h0_ => absurd ((hon 3 (by kernel_rfl)).symm.trans h0_) (by decide), (by repeat (first | (with_reducible first | exact HK.out | apply KeepBut.set_ | apply keep_drewN | apply keep_drew | apply keep_alloc | refine keep_far ?_ GW110.out _ | refine keep_far ?_ GW113.out _) | exact HK.out)), (by repeat (first | (with_reducible first | exact HB.out | apply below_alloc | apply pw_below_drewN | apply below_drew1 | refine below_set ?_ (IsS97.ge HI0.out) | refine below_set ?_ GE110.out | refine below_set ?_ GE113.out) | exact HB.out)), fun _ h1_ => absurd ((hon 7 (by kernel_rfl)).symm.trans h1_) (by decide), fun _ h1_ => absurd ((hon 10 (by kernel_rfl)).symm.trans h1_) (by decide), fun _ h1_ => absurd ((hon 12 (by kernel_rfl)).symm.trans h1_) (by decide), fun _ => (by (with_reducible repeat (first | apply Kd.R_alloc | apply Kd.R_drewN | apply Kd.R_drew)); exact HO124.out), fun _ h1_ => absurd ((hon 15 (by kernel_rfl)).symm.trans h1_) (by decide), fun _ => (by (with_reducible repeat (first | apply Kd.R_alloc | apply Kd.R_drewN | apply Kd.R_drew)); exact HO129.out), fun _ h1_ => absurd ((up_self b 17).symm.trans h1_) (by decide), fun _ => (by repeat (first | (with_reducible first | exact HI0.out | apply IsS97.alloc | apply IsS97.drewN | apply IsS97.drew | apply IsS97.set_1 | refine IsS97.far ?_ NB0_110.out _ | refine IsS97.far ?_ NB0_113.out _) | exact HI0.out)), z_HO_114001_e19, z_BK134, Q_GW134, Q_GE134, Q_NB0_134, Q_NB134_0, Q_NB110_134, Q_NB134_110, Q_NB113_134, Q_NB134_113, fun h0_ => absurd ((hoff 20 (by kernel_rfl)).symm.trans h0_) (by decide), Q_X19_⟩
     refine steps_cons ?_ ?_
     ·rintro b a w' ⟨v123, v128, gb134, m19_, ha, Q_HO_114001, Q_BK110, Q_BK113, Q_HI0, Q_HK, Q_HB, Q_HI0_e3, Q_HI0_e7, Q_HI0_e10, Q_HO124, Q_HI0_e12, Q_HO129, Q_HI0_e15, Q_HI0_e17, Q_HO_114001_e19, Q_BK134, Q_GW134, Q_GE134, Q_NB0_134, Q_NB134_0, Q_NB110_134, Q_NB134_110, Q_NB113_134, Q_NB134_113, Q_BK134_e20, Q_X19_⟩ hb_ hon hoff
      refine ⟨_, rfl, fun K hK => ?_⟩
      have e19 : a.tmps[19]? = some (.int .i64 t116) := by rw [ha]; exact putSel_on (e := (3, 19, .int .i64 t116)) 1 rfl rfl (hon 3 (by kernel_rfl)) rfl
      have e23 : a.tmps[23]? = some (.int .i64 t118) := by rw [ha]; exact putSel_on (e := (7, 23, .int .i64 t118)) 3 rfl rfl (hon 7 (by kernel_rfl)) rfl
      have e28 : a.tmps[28]? = some (.int .i64 t125) := by rw [ha]; exact putSel_on (e := (12, 28, .int .i64 t125)) 6 rfl rfl (hon 12 (by kernel_rfl)) rfl
      have e31 : a.tmps[31]? = some (.int .i64 t130) := by rw [ha]; exact putSel_on (e := (15, 31, .int .i64 t130)) 8 rfl rfl (hon 15 (by kernel_rfl)) rfl
      have e33 : a.tmps[33]? = some (.int .i64 t132) := by rw [ha]; exact putSel_on (e := (17, 33, .int .i64 t132)) 9 rfl rfl (hon 17 (by kernel_rfl)) rfl
      replace ha := Aside0.mk ha
      have BK110 := Aside0.mk Q_BK110
      have BK113 := Aside0.mk Q_BK113
      have HK := Aside0.mk Q_HK
      have HB := Aside0.mk Q_HB
      have HO124 := Aside0.mk (Q_HO124 (hon 11 (by kernel_rfl)))
      have HO129 := Aside0.mk (Q_HO129 (hon 14 (by kernel_rfl)))
      have HI0 := Aside0.mk (Q_HI0_e17 (hon 17 (by kernel_rfl)))
      refine value_ (w1 := w') (v := .agg #[.int .i64 t116, .int .i64 t118, .int .i64 t125, .int .i64 t130, .int .i64 t132]) (by rfl) rfl ?_ ?_
      ·go_simp
       (try simp only [i64_w])
       try rfl
      refine hK.out _ _ ⟨v123, v128, gb134, m19_, (by rw [ha.out]; exact putSel_upk 10 hb_ rfl rfl rfl), Q_HO_114001, Q_BK110, Q_BK113, fun h0_ => absurd ((hon 3 (by kernel_rfl)).symm.trans h0_) (by decide), Q_HK, Q_HB, fun _ h1_ => absurd ((hon 7 (by kernel_rfl)).symm.trans h1_) (by decide), fun _ h1_ => absurd ((hon 10 (by kernel_rfl)).symm.trans h1_) (by decide), fun _ h1_ => absurd ((hon 12 (by kernel_rfl)).symm.trans h1_) (by decide), Q_HO124, fun _ h1_ => absurd ((hon 15 (by kernel_rfl)).symm.trans h1_) (by decide), Q_HO129, fun _ h1_ => absurd ((hon 17 (by kernel_rfl)).symm.trans h1_) (by decide), Q_HI0_e17, Q_HO_114001_e19, Q_BK134, Q_GW134, Q_GE134, Q_NB0_134, Q_NB134_0, Q_NB110_134, Q_NB134_110, Q_NB113_134, Q_NB134_113, fun h0_ => absurd ((hoff 20 (by kernel_rfl)).symm.trans h0_) (by decide), Q_X19_⟩
     refine steps_cons ?_ ?_
     ·rintro b a w' ⟨v123, v128, gb134, m19_, ha, Q_HO_114001, Q_BK110, Q_BK113, Q_HI0, Q_HK, Q_HB, Q_HI0_e3, Q_HI0_e7, Q_HI0_e10, Q_HO124, Q_HI0_e12, Q_HO129, Q_HI0_e15, Q_HI0_e17, Q_HO_114001_e19, Q_BK134, Q_GW134, Q_GE134, Q_NB0_134, Q_NB134_0, Q_NB110_134, Q_NB134_110, Q_NB113_134, Q_NB134_113, Q_BK134_e20, Q_X19_⟩ hb_ hon hoff
      refine ⟨_, rfl, fun K hK => ?_⟩
      replace ha := Aside0.mk ha
      have HO_114001 := Aside0.mk (Q_HO_114001 hb_)
      have BK110 := Aside0.mk Q_BK110
      have BK113 := Aside0.mk Q_BK113
      have HK := Aside0.mk Q_HK
      have HB := Aside0.mk Q_HB
      refine box_step ?hg (N := 5) ?hd (cs := #[.int .i64 0, .int .i64 0, .int .i64 0, .int .i64 0, .int .i64 0]) (t := 34) ?hr ?_; (case hd => rfl); (case hg => rfl); (case hr => first | (go_simp; done) | (go_simp; rfl))
      intro gb134 hg w22 hbox hb
      have n0_ := Aside0.mk (Kd.R_below (Kd.R_elderB (by (with_reducible repeat (first | apply Kd.R_alloc | apply Kd.R_drewN | apply Kd.R_drew)); exact HO_114001.out) gb134 (Nat.le_of_eq hg.symm)) hb)
      have n1_ := Aside0.mk (blk_below (g := gb110) (o := .cells #[.int .i64 0, .slice none 0 0] 25 (0, 0)) (by (with_reducible repeat (first | refine blk_drewN ?_ _ | refine blk_drew ?_ | refine blk_alloc ?_ _)); exact BK110.out) hb)
      have n2_ := Aside0.mk (blk_below (g := gb113) (o := .cells #[.int .i64 (wrap64 (2 + t111)), u114001] 25 (0, 0)) (by (with_reducible repeat (first | refine blk_drewN ?_ _ | refine blk_drew ?_ | refine blk_alloc ?_ _)); exact BK113.out) hb)
      have n4_ := Aside0.mk (KeepBut.trans (by repeat (first | (with_reducible first | exact HK.out | apply KeepBut.set_ | apply keep_drewN | apply keep_drew | apply keep_alloc | refine keep_far ?_ GW110.out _ | refine keep_far ?_ GW113.out _) | exact HK.out)) (KeepBut.of_below hb g none) (.inl rfl))
      have n5_ := Aside0.mk (below_step (by repeat (first | (with_reducible first | exact HB.out | apply below_alloc | apply pw_below_drewN | apply below_drew1 | refine below_set ?_ GE110.out | refine below_set ?_ GE113.out) | exact HB.out)) hb)
      have n6_ := Aside0.mk (hbox)
      have n7_ := Aside0.mk ((by rw [hg]; exact (keep_size (w := w) (g := g) (row := none) (by repeat (first | (with_reducible first | exact HK.out | apply KeepBut.set_ | apply keep_drewN | apply keep_drew | apply keep_alloc | refine keep_far ?_ GW110.out _ | refine keep_far ?_ GW113.out _) | exact HK.out))) : w.heap.size ≤ gb134))
      have n8_ := Aside0.mk ((Nat.le_trans HW0.out (by rw [hg]; exact (keep_size (w := w) (g := g) (row := none) (by repeat (first | (with_reducible first | exact HK.out | apply KeepBut.set_ | apply keep_drewN | apply keep_drew | apply keep_alloc | refine keep_far ?_ GW110.out _ | refine keep_far ?_ GW113.out _) | exact HK.out))) : w.heap.size ≤ gb134) : w0.heap.size ≤ gb134))
      have n9_ := Aside0.mk ((by rw [hg]; exact Nat.ne_of_lt (blk_lt (g := gb110) (o := .cells #[.int .i64 0, .slice none 0 0] 25 (0, 0)) (by (with_reducible repeat (first | refine blk_drewN ?_ _ | refine blk_drew ?_ | refine blk_alloc ?_ _)); exact BK110.out)) : gb110 ≠ gb134))
      have n10_ := Aside0.mk ((by rw [hg]; exact Nat.ne_of_gt (blk_lt (g := gb110) (o := .cells #[.int .i64 0, .slice none 0 0] 25 (0, 0)) (by (with_reducible repeat (first | refine blk_drewN ?_ _ | refine blk_drew ?_ | refine blk_alloc ?_ _)); exact BK110.out)) : gb134 ≠ gb110))
      have n11_ := Aside0.mk ((by rw [hg]; exact Nat.ne_of_lt (blk_lt (g := gb113) (o := .cells #[.int .i64 (wrap64 (2 + t111)), u114001] 25 (0, 0)) (by (with_reducible repeat (first | refine blk_drewN ?_ _ | refine blk_drew ?_ | refine blk_alloc ?_ _)); exact BK113.out)) : gb113 ≠ gb134))
      have n12_ := Aside0.mk ((by rw [hg]; exact Nat.ne_of_gt (blk_lt (g := gb113) (o := .cells #[.int .i64 (wrap64 (2 + t111)), u114001] 25 (0, 0)) (by (with_reducible repeat (first | refine blk_drewN ?_ _ | refine blk_drew ?_ | refine blk_alloc ?_ _)); exact BK113.out)) : gb134 ≠ gb113))
      have n13_ := Aside0.mk ((by rw [hg]; exact Nat.ne_of_lt (Nat.lt_of_lt_of_le HLTg.out (by first | exact HK.out.1 | (have := HK.out.1; simp; omega))) : g ≠ gb134))
      have n14_ := Aside0.mk ((by rw [hg]; exact Nat.ne_of_gt (Nat.lt_of_lt_of_le HLTg.out (by first | exact HK.out.1 | (have := HK.out.1; simp; omega))) : gb134 ≠ g))
      have z_HI0 := fun (h0_ : b 3 = false) => (show IsS97 w0 w22 g s0_0 x1001_1 from by first | exact (IsS97.below (by repeat (first | (with_reducible first | exact (Q_HI0 h0_) | apply IsS97.alloc | apply IsS97.drewN | apply IsS97.drew | apply IsS97.set_1 | refine IsS97.far ?_ NB0_110.out _ | refine IsS97.far ?_ NB0_113.out _) | exact (Q_HI0 h0_))) hb))
      have z_HI0_e3 := fun (h0_ : b 3 = true) (h1_ : b 7 = false) => (show IsS97 w0 w22 g s0_0 t117 from by first | exact (IsS97.below (by repeat (first | (with_reducible first | exact (Q_HI0_e3 h0_ h1_) | apply IsS97.alloc | apply IsS97.drewN | apply IsS97.drew | apply IsS97.set_1 | refine IsS97.far ?_ NB0_110.out _ | refine IsS97.far ?_ NB0_113.out _) | exact (Q_HI0_e3 h0_ h1_))) hb))
      have z_HI0_e7 := fun (h0_ : b 7 = true) (h1_ : b 10 = false) => (show IsS97 w0 w22 g s0_0 t119 from by first | exact (IsS97.below (by repeat (first | (with_reducible first | exact (Q_HI0_e7 h0_ h1_) | apply IsS97.alloc | apply IsS97.drewN | apply IsS97.drew | apply IsS97.set_1 | refine IsS97.far ?_ NB0_110.out _ | refine IsS97.far ?_ NB0_113.out _) | exact (Q_HI0_e7 h0_ h1_))) hb))
      have z_HI0_e10 := fun (h0_ : b 10 = true) (h1_ : b 12 = false) => (show IsS97 w0 w22 g s0_0 t121 from by first | exact (IsS97.below (by repeat (first | (with_reducible first | exact (Q_HI0_e10 h0_ h1_) | apply IsS97.alloc | apply IsS97.drewN | apply IsS97.drew | apply IsS97.set_1 | refine IsS97.far ?_ NB0_110.out _ | refine IsS97.far ?_ NB0_113.out _) | exact (Q_HI0_e10 h0_ h1_))) hb))
      have z_HO124 := fun (h0_ : b 11 = true) => (show Kd.R (Kd.int .i64) 3 w22 w.heap.size (fun _ => True) v123 y122 from by first | exact (Kd.R_below (by (with_reducible repeat (first | apply Kd.R_alloc | apply Kd.R_drewN | apply Kd.R_drew)); exact (Q_HO124 h0_)) hb) | exact Kd.R_mono (Kd.R_below (by (with_reducible repeat (first | apply Kd.R_alloc | apply Kd.R_drewN | apply Kd.R_drew)); exact (Q_HO124 h0_)) hb) (fun _ h_ => by first | trivial | exact h_ | exact h_.1))
      have z_HI0_e12 := fun (h0_ : b 12 = true) (h1_ : b 15 = false) => (show IsS97 w0 w22 g s0_0 t126 from by first | exact (IsS97.below (by repeat (first | (with_reducible first | exact (Q_HI0_e12 h0_ h1_) | apply IsS97.alloc | apply IsS97.drewN | apply IsS97.drew | apply IsS97.set_1 | refine IsS97.far ?_ NB0_110.out _ | refine IsS97.far ?_ NB0_113.out _) | exact (Q_HI0_e12 h0_ h1_))) hb))
      have z_HO129 := fun (h0_ : b 14 = true) => (show Kd.R (Kd.int .i64) 3 w22 w.heap.size (fun _ => True) v128 y127 from by first | exact (Kd.R_below (by (with_reducible repeat (first | apply Kd.R_alloc | apply Kd.R_drewN | apply Kd.R_drew)); exact (Q_HO129 h0_)) hb) | exact Kd.R_mono (Kd.R_below (by (with_reducible repeat (first | apply Kd.R_alloc | apply Kd.R_drewN | apply Kd.R_drew)); exact (Q_HO129 h0_)) hb) (fun _ h_ => by first | trivial | exact h_ | exact h_.1))
      have z_HI0_e15 := fun (h0_ : b 15 = true) (h1_ : b 17 = false) => (show IsS97 w0 w22 g s0_0 t131 from by first | exact (IsS97.below (by repeat (first | (with_reducible first | exact (Q_HI0_e15 h0_ h1_) | apply IsS97.alloc | apply IsS97.drewN | apply IsS97.drew | apply IsS97.set_1 | refine IsS97.far ?_ NB0_110.out _ | refine IsS97.far ?_ NB0_113.out _) | exact (Q_HI0_e15 h0_ h1_))) hb))
      have z_HI0_e17 := fun (h0_ : b 17 = true) => (show IsS97 w0 w22 g s0_0 t133 from by first | exact (IsS97.below (by repeat (first | (with_reducible first | exact (Q_HI0_e17 h0_) | apply IsS97.alloc | apply IsS97.drewN | apply IsS97.drew | apply IsS97.set_1 | refine IsS97.far ?_ NB0_110.out _ | refine IsS97.far ?_ NB0_113.out _) | exact (Q_HI0_e17 h0_))) hb))
      clear HO_114001
      clear BK110
      clear BK113
      clear HK
      clear HB
      have HO_114001 := n0_
      have BK110 := n1_
      have BK113 := n2_
      have HK := n4_
      have HB := n5_
      have BK134 := n6_
      have GW134 := n7_
      have GE134 := n8_
      have NB110_134 := n9_
      have NB134_110 := n10_
      have NB113_134 := n11_
      have NB134_113 := n12_
      have NB0_134 := n13_
      have NB134_0 := n14_
      clear n0_ n1_ n2_ n4_ n5_ n6_ n7_ n8_ n9_ n10_ n11_ n12_ n13_ n14_
      clear hb hbox hg
      refine hK.out _ _ ⟨v123, v128, gb134, (.pointer (some ⟨gb134, 0, none⟩)), (by rw [ha.out]; exact putSel_upk 11 hb_ rfl rfl rfl), fun h0_ => absurd ((up_self b 19).symm.trans h0_) (by decide), (by (with_reducible repeat (first | refine blk_drewN ?_ _ | refine blk_drew ?_ | refine blk_alloc ?_ _)); exact BK110.out), (by (with_reducible repeat (first | refine blk_drewN ?_ _ | refine blk_drew ?_ | refine blk_alloc ?_ _)); exact BK113.out), z_HI0, (by repeat (first | (with_reducible first | exact HK.out | apply KeepBut.set_ | apply keep_drewN | apply keep_drew | apply keep_alloc | refine keep_far ?_ GW110.out _ | refine keep_far ?_ GW113.out _ | refine keep_far ?_ GW134.out _) | exact HK.out)), (by repeat (first | (with_reducible first | exact HB.out | apply below_alloc | apply pw_below_drewN | apply below_drew1 | refine below_set ?_ GE110.out | refine below_set ?_ GE113.out | refine below_set ?_ GE134.out) | exact HB.out)), z_HI0_e3, z_HI0_e7, z_HI0_e10, z_HO124, z_HI0_e12, z_HO129, z_HI0_e15, z_HI0_e17, fun _ => (by (with_reducible repeat (first | apply Kd.R_alloc | apply Kd.R_drewN | apply Kd.R_drew)); exact Kd.R_mono HO_114001.out (fun _ hk => hk.2)), fun _ _ => (by (with_reducible repeat (first | refine blk_drewN ?_ _ | refine blk_drew ?_ | refine blk_alloc ?_ _)); exact BK134.out), fun _ => GW134.out, fun _ => GE134.out, fun _ => NB0_134.out, fun _ => NB134_0.out, fun _ => NB110_134.out, fun _ => NB134_110.out, fun _ => NB113_134.out, fun _ => NB134_113.out, fun h0_ => absurd ((hoff 20 (by kernel_rfl)).symm.trans h0_) (by decide), fun _ => rfl⟩
     refine steps_cons ?_ ?_
     ·rintro b a w' ⟨v123, v128, gb134, m19_, ha, Q_HO_114001, Q_BK110, Q_BK113, Q_HI0, Q_HK, Q_HB, Q_HI0_e3, Q_HI0_e7, Q_HI0_e10, Q_HO124, Q_HI0_e12, Q_HO129, Q_HI0_e15, Q_HI0_e17, Q_HO_114001_e19, Q_BK134, Q_GW134, Q_GE134, Q_NB0_134, Q_NB134_0, Q_NB110_134, Q_NB134_110, Q_NB113_134, Q_NB134_113, Q_BK134_e20, Q_X19_⟩ hb_ hon hoff
      refine ⟨_, rfl, fun K hK => ?_⟩
      have e5 : a.tmps[5]? = some (m19_) := by rw [ha]; exact putSel_on (e := (19, 5, m19_)) 11 rfl rfl (hon 19 (by kernel_rfl)) rfl
      rw [Q_X19_ (hon 19 (by kernel_rfl))] at e5
      have e34 : a.tmps[34]? = some (.agg #[.int .i64 t116, .int .i64 t118, .int .i64 t125, .int .i64 t130, .int .i64 t132]) := by rw [ha]; exact putSel_on (e := (18, 34, .agg #[.int .i64 t116, .int .i64 t118, .int .i64 t125, .int .i64 t130, .int .i64 t132])) 10 rfl rfl (hon 18 (by kernel_rfl)) rfl
      replace ha := Aside0.mk ha
      have BK110 := Aside0.mk Q_BK110
      have BK113 := Aside0.mk Q_BK113
      have HK := Aside0.mk Q_HK
      have HB := Aside0.mk Q_HB
      have HO124 := Aside0.mk (Q_HO124 (hon 11 (by kernel_rfl)))
      have HO129 := Aside0.mk (Q_HO129 (hon 14 (by kernel_rfl)))
      have HI0 := Aside0.mk (Q_HI0_e17 (hon 17 (by kernel_rfl)))
      have HO_114001 := Aside0.mk (Q_HO_114001_e19 (hon 19 (by kernel_rfl)))
      have BK134 := Aside0.mk (Q_BK134 (hon 19 (by kernel_rfl)) hb_)
      have GW134 := Aside0.mk (Q_GW134 (hon 19 (by kernel_rfl)))
      have GE134 := Aside0.mk (Q_GE134 (hon 19 (by kernel_rfl)))
      have NB0_134 := Aside0.mk (Q_NB0_134 (hon 19 (by kernel_rfl)))
      have NB134_0 := Aside0.mk (Q_NB134_0 (hon 19 (by kernel_rfl)))
      have NB110_134 := Aside0.mk (Q_NB110_134 (hon 19 (by kernel_rfl)))
      have NB134_110 := Aside0.mk (Q_NB134_110 (hon 19 (by kernel_rfl)))
      have NB113_134 := Aside0.mk (Q_NB113_134 (hon 19 (by kernel_rfl)))
      have NB134_113 := Aside0.mk (Q_NB134_113 (hon 19 (by kernel_rfl)))
      have hs36 : w'.cell? ⟨gb134, 0, none⟩ = some (.int .i64 0) := (blk_cell BK134.out 0).trans rfl
      have hfs36 := blk_frozen BK134.out 0
      have hns36_0 := NB110_134.out
      have hns36_1 := NB113_134.out
      have hms36_0 := NB134_110.out
      have hms36_1 := NB134_113.out
      have hs37 : w'.cell? ⟨gb134, 1, none⟩ = some (.int .i64 0) := (blk_cell BK134.out 1).trans rfl
      have hfs37 := blk_frozen BK134.out 1
      have hns37_0 := NB110_134.out
      have hns37_1 := NB113_134.out
      have hms37_0 := NB134_110.out
      have hms37_1 := NB134_113.out
      have hs38 : w'.cell? ⟨gb134, 2, none⟩ = some (.int .i64 0) := (blk_cell BK134.out 2).trans rfl
      have hfs38 := blk_frozen BK134.out 2
      have hns38_0 := NB110_134.out
      have hns38_1 := NB113_134.out
      have hms38_0 := NB134_110.out
      have hms38_1 := NB134_113.out
      have hs39 : w'.cell? ⟨gb134, 3, none⟩ = some (.int .i64 0) := (blk_cell BK134.out 3).trans rfl
      have hfs39 := blk_frozen BK134.out 3
      have hns39_0 := NB110_134.out
      have hns39_1 := NB113_134.out
      have hms39_0 := NB134_110.out
      have hms39_1 := NB134_113.out
      have hs40 : w'.cell? ⟨gb134, 4, none⟩ = some (.int .i64 0) := (blk_cell BK134.out 4).trans rfl
      have hfs40 := blk_frozen BK134.out 4
      have hns40_0 := NB110_134.out
      have hns40_1 := NB113_134.out
      have hms40_0 := NB134_110.out
      have hms40_1 := NB134_113.out
      refine skip_ (w1 := ?_) (by rfl) rfl ?_ ?_
      rotate_left
      ·go_simp
       rfl
      refine hK.out _ _ ⟨v123, v128, gb134, m19_, (by rw [ha.out]; exact putSel_none (v := undef) rfl), fun h0_ => absurd ((hon 19 (by kernel_rfl)).symm.trans h0_) (by decide), (by (with_reducible repeat (first | refine blk_drewN ?_ _ | refine blk_drew ?_ | refine blk_alloc ?_ _)); refine blk_far ?_ NB110_134.out _; (with_reducible repeat (first | refine blk_drewN ?_ _ | refine blk_drew ?_ | refine blk_alloc ?_ _)); refine blk_far ?_ NB110_134.out _; (with_reducible repeat (first | refine blk_drewN ?_ _ | refine blk_drew ?_ | refine blk_alloc ?_ _)); refine blk_far ?_ NB110_134.out _; (with_reducible repeat (first | refine blk_drewN ?_ _ | refine blk_drew ?_ | refine blk_alloc ?_ _)); refine blk_far ?_ NB110_134.out _; (with_reducible repeat (first | refine blk_drewN ?_ _ | refine blk_drew ?_ | refine blk_alloc ?_ _)); refine blk_far ?_ NB110_134.out _; (with_reducible repeat (first | refine blk_drewN ?_ _ | refine blk_drew ?_ | refine blk_alloc ?_ _)); exact BK110.out), (by (with_reducible repeat (first | refine blk_drewN ?_ _ | refine blk_drew ?_ | refine blk_alloc ?_ _)); refine blk_far ?_ NB113_134.out _; (with_reducible repeat (first | refine blk_drewN ?_ _ | refine blk_drew ?_ | refine blk_alloc ?_ _)); refine blk_far ?_ NB113_134.out _; (with_reducible repeat (first | refine blk_drewN ?_ _ | refine blk_drew ?_ | refine blk_alloc ?_ _)); refine blk_far ?_ NB113_134.out _; (with_reducible repeat (first | refine blk_drewN ?_ _ | refine blk_drew ?_ | refine blk_alloc ?_ _)); refine blk_far ?_ NB113_134.out _; (with_reducible repeat (first | refine blk_drewN ?_ _ | refine blk_drew ?_ | refine blk_alloc ?_ _)); refine blk_far ?_ NB113_134.out _; (with_reducible repeat (first | refine blk_drewN ?_ _ | refine blk_drew ?_ | refine blk_alloc ?_ _)); exact BK113.out), fun h0_ => absurd ((hon 3 (by kernel_rfl)).symm.trans h0_) (by decide), (by repeat (first | (with_reducible first | exact HK.out | apply KeepBut.set_ | apply keep_drewN | apply keep_drew | apply keep_alloc | refine keep_far ?_ GW110.out _ | refine keep_far ?_ GW113.out _ | refine keep_far ?_ GW134.out _) | exact HK.out)), (by repeat (first | (with_reducible first | exact HB.out | apply below_alloc | apply pw_below_drewN | apply below_drew1 | refine below_set ?_ (IsS97.ge HI0.out) | refine below_set ?_ GE110.out | refine below_set ?_ GE113.out | refine below_set ?_ GE134.out) | exact HB.out)), fun _ h1_ => absurd ((hon 7 (by kernel_rfl)).symm.trans h1_) (by decide), fun _ h1_ => absurd ((hon 10 (by kernel_rfl)).symm.trans h1_) (by decide), fun _ h1_ => absurd ((hon 12 (by kernel_rfl)).symm.trans h1_) (by decide), fun _ => (by (with_reducible repeat (first | apply Kd.R_alloc | apply Kd.R_drewN | apply Kd.R_drew)); exact Kd.R_mono (Kd.R_far (p := ⟨gb134, 4, none⟩) (Kd.R_far (p := ⟨gb134, 3, none⟩) (Kd.R_far (p := ⟨gb134, 2, none⟩) (Kd.R_far (p := ⟨gb134, 1, none⟩) (Kd.R_far (p := ⟨gb134, 0, none⟩) (Kd.R_types HO124.out BK134.out (by decide)) (fun _ hk => hk.2) (.int .i64 t116)) (fun _ hk => hk.2) (.int .i64 t118)) (fun _ hk => hk.2) (.int .i64 t125)) (fun _ hk => hk.2) (.int .i64 t130)) (fun _ hk => hk.2) (.int .i64 t132)) (fun _ hk => hk.1)), fun _ h1_ => absurd ((hon 15 (by kernel_rfl)).symm.trans h1_) (by decide), fun _ => (by (with_reducible repeat (first | apply Kd.R_alloc | apply Kd.R_drewN | apply Kd.R_drew)); exact Kd.R_mono (Kd.R_far (p := ⟨gb134, 4, none⟩) (Kd.R_far (p := ⟨gb134, 3, none⟩) (Kd.R_far (p := ⟨gb134, 2, none⟩) (Kd.R_far (p := ⟨gb134, 1, none⟩) (Kd.R_far (p := ⟨gb134, 0, none⟩) (Kd.R_types HO129.out BK134.out (by decide)) (fun _ hk => hk.2) (.int .i64 t116)) (fun _ hk => hk.2) (.int .i64 t118)) (fun _ hk => hk.2) (.int .i64 t125)) (fun _ hk => hk.2) (.int .i64 t130)) (fun _ hk => hk.2) (.int .i64 t132)) (fun _ hk => hk.1)), fun _ h1_ => absurd ((hon 17 (by kernel_rfl)).symm.trans h1_) (by decide), fun _ => (by repeat (first | (with_reducible first | exact HI0.out | apply IsS97.alloc | apply IsS97.drewN | apply IsS97.drew | apply IsS97.set_1 | refine IsS97.far ?_ NB0_110.out _ | refine IsS97.far ?_ NB0_113.out _ | refine IsS97.far ?_ NB0_134.out _) | exact HI0.out)), fun _ => (by (with_reducible repeat (first | apply Kd.R_alloc | apply Kd.R_drewN | apply Kd.R_drew)); exact Kd.R_mono (Kd.R_far (p := ⟨gb134, 4, none⟩) (Kd.R_far (p := ⟨gb134, 3, none⟩) (Kd.R_far (p := ⟨gb134, 2, none⟩) (Kd.R_far (p := ⟨gb134, 1, none⟩) (Kd.R_far (p := ⟨gb134, 0, none⟩) (Kd.R_mono HO_114001.out (fun k_ hk => (⟨hk, hk⟩ : _ ∧ k_ ≠ gb134))) (fun _ hk => hk.2) (.int .i64 t116)) (fun _ hk => hk.2) (.int .i64 t118)) (fun _ hk => hk.2) (.int .i64 t125)) (fun _ hk => hk.2) (.int .i64 t130)) (fun _ hk => hk.2) (.int .i64 t132)) (fun _ hk => hk.1)), fun _ h1_ => absurd ((up_self b 20).symm.trans h1_) (by decide), fun _ => GW134.out, fun _ => GE134.out, fun _ => NB0_134.out, fun _ => NB134_0.out, fun _ => NB110_134.out, fun _ => NB134_110.out, fun _ => NB113_134.out, fun _ => NB134_113.out, fun _ => (by (with_reducible repeat (first | refine blk_drewN ?_ _ | refine blk_drew ?_ | refine blk_alloc ?_ _)); refine blk_put (cs := #[.int .i64 t116, .int .i64 t118, .int .i64 t125, .int .i64 t130, .int .i64 0]) ?_ 4 _ rfl; (with_reducible repeat (first | refine blk_drewN ?_ _ | refine blk_drew ?_ | refine blk_alloc ?_ _)); refine blk_put (cs := #[.int .i64 t116, .int .i64 t118, .int .i64 t125, .int .i64 0, .int .i64 0]) ?_ 3 _ rfl; (with_reducible repeat (first | refine blk_drewN ?_ _ | refine blk_drew ?_ | refine blk_alloc ?_ _)); refine blk_put (cs := #[.int .i64 t116, .int .i64 t118, .int .i64 0, .int .i64 0, .int .i64 0]) ?_ 2 _ rfl; (with_reducible repeat (first | refine blk_drewN ?_ _ | refine blk_drew ?_ | refine blk_alloc ?_ _)); refine blk_put (cs := #[.int .i64 t116, .int .i64 0, .int .i64 0, .int .i64 0, .int .i64 0]) ?_ 1 _ rfl; (with_reducible repeat (first | refine blk_drewN ?_ _ | refine blk_drew ?_ | refine blk_alloc ?_ _)); refine blk_put (cs := #[.int .i64 0, .int .i64 0, .int .i64 0, .int .i64 0, .int .i64 0]) ?_ 0 _ rfl; (with_reducible repeat (first | refine blk_drewN ?_ _ | refine blk_drew ?_ | refine blk_alloc ?_ _)); exact BK134.out), Q_X19_⟩
     exact steps_nil
    rintro b a w40 hall ⟨v123, v128, gb134, m19_, ha, Q_HO_114001, Q_BK110, Q_BK113, Q_HI0, Q_HK, Q_HB, Q_HI0_e3, Q_HI0_e7, Q_HI0_e10, Q_HO124, Q_HI0_e12, Q_HO129, Q_HI0_e15, Q_HI0_e17, Q_HO_114001_e19, Q_BK134, Q_GW134, Q_GE134, Q_NB0_134, Q_NB134_0, Q_NB110_134, Q_NB134_110, Q_NB113_134, Q_NB134_113, Q_BK134_e20, Q_X19_⟩
    clear BK110 BK113 HB HI0 HK HO_114001
    have hb2_ := hall 2 (by kernel_rfl)
    have hb3_ := hall 3 (by kernel_rfl)
    have hb6_ := hall 6 (by kernel_rfl)
    have hb7_ := hall 7 (by kernel_rfl)
    have hb10_ := hall 10 (by kernel_rfl)
    have hb11_ := hall 11 (by kernel_rfl)
    have hb12_ := hall 12 (by kernel_rfl)
    have hb14_ := hall 14 (by kernel_rfl)
    have hb15_ := hall 15 (by kernel_rfl)
    have hb17_ := hall 17 (by kernel_rfl)
    have hb18_ := hall 18 (by kernel_rfl)
    have hb19_ := hall 19 (by kernel_rfl)
    have hb20_ := hall 20 (by kernel_rfl)
    subst ha
    obtain rfl := Q_X19_ hb19_
    simp only [putSel, hb2_, hb3_, hb6_, hb7_, hb10_, hb11_, hb12_, hb14_, hb15_, hb17_, hb18_, hb19_, hb20_, if_true, Act.put, List.setIfInBounds_toArray, List.set_cons_zero, List.set_cons_succ]
    clear Q_HO_114001
    have BK110 := Aside0.mk Q_BK110
    clear Q_BK110
    have BK113 := Aside0.mk Q_BK113
    clear Q_BK113
    clear Q_HI0
    have HK := Aside0.mk Q_HK
    clear Q_HK
    have HB := Aside0.mk Q_HB
    clear Q_HB
    clear Q_HI0_e3
    clear Q_HI0_e7
    clear Q_HI0_e10
    have HO124 := Aside0.mk (Q_HO124 hb11_)
    clear Q_HO124
    clear Q_HI0_e12
    have HO129 := Aside0.mk (Q_HO129 hb14_)
    clear Q_HO129
    clear Q_HI0_e15
    have HI0 := Aside0.mk (Q_HI0_e17 hb17_)
    clear Q_HI0_e17
    have HO_114001 := Aside0.mk (Q_HO_114001_e19 hb19_)
    clear Q_HO_114001_e19
    clear Q_BK134
    have GW134 := Aside0.mk (Q_GW134 hb19_)
    clear Q_GW134
    have GE134 := Aside0.mk (Q_GE134 hb19_)
    clear Q_GE134
    have NB0_134 := Aside0.mk (Q_NB0_134 hb19_)
    clear Q_NB0_134
    have NB134_0 := Aside0.mk (Q_NB134_0 hb19_)
    clear Q_NB134_0
    have NB110_134 := Aside0.mk (Q_NB110_134 hb19_)
    clear Q_NB110_134
    have NB134_110 := Aside0.mk (Q_NB134_110 hb19_)
    clear Q_NB134_110
    have NB113_134 := Aside0.mk (Q_NB113_134 hb19_)
    clear Q_NB113_134
    have NB134_113 := Aside0.mk (Q_NB134_113 hb19_)
    clear Q_NB134_113
    have BK134 := Aside0.mk (Q_BK134_e20 hb20_)
    clear Q_BK134_e20
    clear hall hb2_ hb3_ hb6_ hb7_ hb10_ hb11_ hb12_ hb14_ hb15_ hb17_ hb18_ hb19_ hb20_
    have hnb41 := NB134_110.out
    have hnc41 := NB110_134.out
    have hnb42 := NB134_113.out
    have hnc42 := NB113_134.out
    have hnb43 := NB134_0.out
    have hnc43 := NB0_134.out
    have hcz44_0 : w40.cell? ⟨gb134, 0, none⟩ = some (.int .i64 t116) := (blk_cell BK134.out 0).trans rfl
    have hcz44_1 : w40.cell? ⟨gb134, 1, none⟩ = some (.int .i64 t118) := (blk_cell BK134.out 1).trans rfl
    have hcz44_2 : w40.cell? ⟨gb134, 2, none⟩ = some (.int .i64 t125) := (blk_cell BK134.out 2).trans rfl
    have hcz44_3 : w40.cell? ⟨gb134, 3, none⟩ = some (.int .i64 t130) := (blk_cell BK134.out 3).trans rfl
    have hcz44_4 : w40.cell? ⟨gb134, 4, none⟩ = some (.int .i64 t132) := (blk_cell BK134.out 4).trans rfl
    have hfz44_0 := blk_frozen BK134.out 0
    have hfz44_1 := blk_frozen BK134.out 1
    have hfz44_2 := blk_frozen BK134.out 2
    have hfz44_3 := blk_frozen BK134.out 3
    have hfz44_4 := blk_frozen BK134.out 4
    have hnb45 := NB113_110.out
    have hnc45 := NB110_113.out
    have hnb46 := NB113_0.out
    have hnc46 := NB0_113.out
    have hcz47_0 : w40.cell? ⟨gb113, 0, none⟩ = some (.int .i64 (wrap64 (2 + t111))) := (blk_cell BK113.out 0).trans rfl
    have hcz47_1 : w40.cell? ⟨gb113, 1, none⟩ = some (u114001) := (blk_cell BK113.out 1).trans rfl
    have hfz47_0 := blk_frozen BK113.out 0
    have hfz47_1 := blk_frozen BK113.out 1
    have H := HH_.out
    clear HH_
    by_cases c18 : t116 = t118
    ·rw [if_pos c18] at H
     have c18b0 : (t116 == t118) = true := beq_iff_eq.mpr c18
     have c18b1 : (t116 != t118) = false := bne_eq_false_iff_eq.mpr c18
     clear c18
     by_cases c19 : (wrap64 (2 + t111)) = 0
     ·rw [if_pos c19] at H
      exact absurd H (by simp)
     ·rw [if_neg c19] at H
      have c19b0 : ((wrap64 (2 + t111)) == 0) = false := beq_eq_false_iff_ne.mpr c19
      have c19b1 : ((wrap64 (2 + t111)) != 0) = true := bne_iff_ne.mpr c19
      by_cases c20 : x114001_1.length < 3518437208883
      ·rw [if_pos c20] at H
       have LMc20 := Aside0.mk c20
       clear c20
       obtain ⟨y135, hy135⟩ : ∃ y_ : List (S34), y_ = (x114001_1 ++ [(⟨t116, Int.tmod (wrap64 (t118 + 1)) (wrap64 (2 + t111)), t125, t130, t132⟩ : S34)]) := ⟨_, rfl⟩
       replace H : (spec_l30Net.l0 k1 (wrap64 (x4_1 - 1)) s0_0 t133 (wrap64 (2 + t111)) y135) = some (r1, r2, r3) := by first | (rw [hy135]; with_reducible exact H) | (have H2_ := (Option.bind_some _ _).symm.trans H; rw [hy135]; with_reducible exact H2_) | (have H2_ := (Option.bind_some _ _).symm.trans H; with_reducible exact H2_) | with_reducible exact H | (rw [hy135]; exact H) | exact H
       have Ny135 := Aside0.mk hy135
       clear hy135
       have H' := Aside0.mk H
       clear H
       try go_wp2_with (first | ((with_reducible refine gate_builtin (b := .append) (xs := #[.tmp 48, .tmp 50]) rfl ?_); at_builtin; refine Kd.R_append k34 w.heap.size rfl (.tmp 48) (.tmp 50) 23 34 (.agg #[(.int .i64 0), (.int .i64 0), (.int .i64 0), (.int .i64 0), (.int .i64 0)]) 40 rfl Try.underlying23 info34 rfl (by decide) (by omega) u114001 x114001_1 (⟨t116, Int.tmod (wrap64 (t118 + 1)) (wrap64 (2 + t111)), t125, t130, t132⟩ : S34) [.int .i64 t116, .int .i64 (Int.tmod (wrap64 (t118 + 1)) (wrap64 (2 + t111))), .int .i64 t125, .int .i64 t130, .int .i64 t132] (fun k_ => k_ ≠ gb134) (fun _ => False) rfl (by first | (go_simp; done) | (go_simp; rfl)) ?aP (fun _ hk => hk.elim) ?aF ?aO (Below.refl _ _) ?aS ?aL ?_; (case aP => exact k34_mkM _ _ _ (⟨t116, Int.tmod (wrap64 (t118 + 1)) (wrap64 (2 + t111)), t125, t130, t132⟩ : S34)); (case aF => exact (fun k_ hk => Kd.freshB (g := gb134) (o := .cells #[.int .i64 t116, .int .i64 (Int.tmod (wrap64 (t118 + 1)) (wrap64 (2 + t111))), .int .i64 t125, .int .i64 t130, .int .i64 t132] 34 (0, 0)) (by (with_reducible repeat (first | refine blk_drewN ?_ _ | refine blk_drew ?_ | refine blk_alloc ?_ _)); refine blk_put (cs := #[.int .i64 t116, .int .i64 t118, .int .i64 t125, .int .i64 t130, .int .i64 t132]) ?_ 1 _ rfl; (with_reducible repeat (first | refine blk_drewN ?_ _ | refine blk_drew ?_ | refine blk_alloc ?_ _)); exact BK134.out) k_ hk)); (case aO => exact (by (with_reducible repeat (first | apply Kd.R_alloc | apply Kd.R_drewN | apply Kd.R_drew)); exact Kd.R_mono (Kd.R_far (p := ⟨gb134, 1, none⟩) (Kd.R_mono HO_114001.out (fun k_ hk => (⟨hk, hk⟩ : _ ∧ k_ ≠ gb134))) (fun _ hk => hk.2) (.int .i64 (Int.tmod (wrap64 (t118 + 1)) (wrap64 (2 + t111))))) (fun _ hk => hk.1))); (case aS => exact (keep_size (w := w) (g := g) (row := none) (by repeat (first | (with_reducible first | exact HK.out | apply KeepBut.set_ | apply keep_drewN | apply keep_drew | apply keep_alloc | refine keep_far ?_ GW110.out _ | refine keep_far ?_ GW113.out _ | refine keep_far ?_ GW134.out _) | exact HK.out)))); (case aL => have := LMc20.out; omega); intro v136 w48 ho hb hg hat; rw [← Ny135.out] at ho; have n0_ := Aside0.mk (blk_grown (g := gb110) (o := .cells #[.int .i64 0, .slice none 0 0] 25 (0, 0)) (by (with_reducible repeat (first | refine blk_drewN ?_ _ | refine blk_drew ?_ | refine blk_alloc ?_ _)); refine blk_far ?_ NB110_134.out _; (with_reducible repeat (first | refine blk_drewN ?_ _ | refine blk_drew ?_ | refine blk_alloc ?_ _)); exact BK110.out) hg (Kd.R_ne HO_114001.out BK110.out (by decide))); have n1_ := Aside0.mk (blk_grown (g := gb113) (o := .cells #[.int .i64 (wrap64 (2 + t111)), u114001] 25 (0, 0)) (by (with_reducible repeat (first | refine blk_drewN ?_ _ | refine blk_drew ?_ | refine blk_alloc ?_ _)); refine blk_far ?_ NB113_134.out _; (with_reducible repeat (first | refine blk_drewN ?_ _ | refine blk_drew ?_ | refine blk_alloc ?_ _)); exact BK113.out) hg (Kd.R_ne HO_114001.out BK113.out (by decide))); have n2_ := Aside0.mk (IsS97.grown2 HI0.out (by repeat (first | (with_reducible first | exact HI0.out | apply IsS97.alloc | apply IsS97.drewN | apply IsS97.drew | apply IsS97.set_1 | refine IsS97.far ?_ NB0_110.out _ | refine IsS97.far ?_ NB0_113.out _ | refine IsS97.far ?_ NB0_134.out _) | exact HI0.out)) hg (IsS97.own_ne HI0.out HO_114001.out (by decide))); have n3_ := Aside0.mk (Kd.R_over' (by (with_reducible repeat (first | apply Kd.R_alloc | apply Kd.R_drewN | apply Kd.R_drew)); exact (Kd.R_mono (Kd.R_far (p := ⟨gb134, 1, none⟩) (Kd.R_types HO124.out BK134.out (by decide)) (fun _ hk => hk.2) (.int .i64 (Int.tmod (wrap64 (t118 + 1)) (wrap64 (2 + t111))))) (fun _ h_ => h_.1))) (Kd.R_typed (by (with_reducible repeat (first | apply Kd.R_alloc | apply Kd.R_drewN | apply Kd.R_drew)); exact (Kd.R_mono (Kd.R_far (p := ⟨gb134, 1, none⟩) (Kd.R_mono HO_114001.out (fun k_ hk => (⟨hk, hk⟩ : _ ∧ k_ ≠ gb134))) (fun _ hk => hk.2) (.int .i64 (Int.tmod (wrap64 (t118 + 1)) (wrap64 (2 + t111))))) (fun _ h_ => h_.1)))) (by decide) hg); have n4_ := Aside0.mk (Kd.R_over' (by (with_reducible repeat (first | apply Kd.R_alloc | apply Kd.R_drewN | apply Kd.R_drew)); exact (Kd.R_mono (Kd.R_far (p := ⟨gb134, 1, none⟩) (Kd.R_types HO129.out BK134.out (by decide)) (fun _ hk => hk.2) (.int .i64 (Int.tmod (wrap64 (t118 + 1)) (wrap64 (2 + t111))))) (fun _ h_ => h_.1))) (Kd.R_typed (by (with_reducible repeat (first | apply Kd.R_alloc | apply Kd.R_drewN | apply Kd.R_drew)); exact (Kd.R_mono (Kd.R_far (p := ⟨gb134, 1, none⟩) (Kd.R_mono HO_114001.out (fun k_ hk => (⟨hk, hk⟩ : _ ∧ k_ ≠ gb134))) (fun _ hk => hk.2) (.int .i64 (Int.tmod (wrap64 (t118 + 1)) (wrap64 (2 + t111))))) (fun _ h_ => h_.1)))) (by decide) hg); have n5_ := Aside0.mk (blk_grown (g := gb134) (o := .cells #[.int .i64 t116, .int .i64 (Int.tmod (wrap64 (t118 + 1)) (wrap64 (2 + t111))), .int .i64 t125, .int .i64 t130, .int .i64 t132] 34 (0, 0)) (by (with_reducible repeat (first | refine blk_drewN ?_ _ | refine blk_drew ?_ | refine blk_alloc ?_ _)); refine blk_put (cs := #[.int .i64 t116, .int .i64 t118, .int .i64 t125, .int .i64 t130, .int .i64 t132]) ?_ 1 _ rfl; (with_reducible repeat (first | refine blk_drewN ?_ _ | refine blk_drew ?_ | refine blk_alloc ?_ _)); exact BK134.out) hg (Kd.R_away HO_114001.out (fun _ hk => hk))); have n6_ := Aside0.mk (below_weaken (by repeat (first | (with_reducible first | exact HB.out | apply below_alloc | apply pw_below_drewN | apply below_drew1 | refine below_set ?_ (IsS97.ge HI0.out) | refine below_set ?_ GE110.out | refine below_set ?_ GE113.out | refine below_set ?_ GE134.out) | exact HB.out)) HL.out hb); have n7_ := Aside0.mk (KeepBut.trans (by repeat (first | (with_reducible first | exact HK.out | apply KeepBut.set_ | apply keep_drewN | apply keep_drew | apply keep_alloc | refine keep_far ?_ GW110.out _ | refine keep_far ?_ GW113.out _ | refine keep_far ?_ GW134.out _) | exact HK.out)) (KeepBut.of_grown hg g) (Kd.R_base2 HO_114001.out)); have n8_ := Aside0.mk (ho); clear BK110; clear BK113; clear HI0; clear HO124; clear HO129; clear BK134; clear HB; clear HK; clear HO_114001; have BK110 := n0_; have BK113 := n1_; have HI0 := n2_; have HO124 := n3_; have HO129 := n4_; have BK134 := n5_; have HB := n6_; have HK := n7_; have HO137 := n8_; clear n0_ n1_ n2_ n3_ n4_ n5_ n6_ n7_ n8_; clear ho hb hg hat; obtain ⟨Ao49, co49, eo49⟩ := Kd.R_slice HO137.out; subst eo49; have hcz50_0 : w48.cell? ⟨gb113, 0, none⟩ = some (.int .i64 (wrap64 (2 + t111))) := (blk_cell BK113.out 0).trans rfl; have hcz50_1 : w48.cell? ⟨gb113, 1, none⟩ = some (u114001) := (blk_cell BK113.out 1).trans rfl; have hfz50_0 := blk_frozen BK113.out 0; have hfz50_1 := blk_frozen BK113.out 1))
       go_roundg k1
       case measure => have := HK1.out; omega
       case rel => exact ⟨(wrap64 (x4_1 - 1)), (t133), (y135), (.slice Ao49 y135.length co49), (by first | rfl | (simp; done) | (simp [*]; done)), H', ⟨by have := HK1.out; omega⟩, ⟨by (with_reducible repeat (first | apply Kd.R_alloc | apply Kd.R_drewN | apply Kd.R_drew)); exact Kd.R_mono (Kd.R_far (p := ⟨gb113, 1, none⟩) (Kd.R_types HO137.out BK113.out (by decide)) (fun _ hk => hk.2) (.slice Ao49 y135.length co49)) (fun _ hk => trivial)⟩, ⟨by (with_reducible repeat (first | refine blk_drewN ?_ _ | refine blk_drew ?_ | refine blk_alloc ?_ _)); refine blk_far ?_ NB110_113.out _; (with_reducible repeat (first | refine blk_drewN ?_ _ | refine blk_drew ?_ | refine blk_alloc ?_ _)); exact BK110.out⟩, ⟨by (with_reducible repeat (first | refine blk_drewN ?_ _ | refine blk_drew ?_ | refine blk_alloc ?_ _)); refine blk_put (cs := #[.int .i64 (wrap64 (2 + t111)), u114001]) ?_ 1 _ rfl; (with_reducible repeat (first | refine blk_drewN ?_ _ | refine blk_drew ?_ | refine blk_alloc ?_ _)); exact BK113.out⟩, ⟨by repeat (first | (with_reducible first | exact HI0.out | apply IsS97.alloc | apply IsS97.drewN | apply IsS97.drew | apply IsS97.set_1 | refine IsS97.far ?_ NB0_110.out _ | refine IsS97.far ?_ NB0_113.out _ | refine IsS97.far ?_ NB0_134.out _) | exact HI0.out)⟩, ⟨by repeat (first | (with_reducible first | exact HK.out | apply KeepBut.set_ | apply keep_drewN | apply keep_drew | apply keep_alloc | refine keep_far ?_ GW110.out _ | refine keep_far ?_ GW113.out _ | refine keep_far ?_ GW134.out _) | exact HK.out)⟩, ⟨by repeat (first | (with_reducible first | exact HB.out | apply below_alloc | apply pw_below_drewN | apply below_drew1 | refine below_set ?_ (IsS97.ge HI0.out) | refine below_set ?_ GE110.out | refine below_set ?_ GE113.out | refine below_set ?_ GE134.out) | exact HB.out)⟩⟩
      ·rw [if_neg c20] at H
       exact absurd H (by simp)
    ·rw [if_neg c18] at H
     have c18b0 : (t116 == t118) = false := beq_eq_false_iff_ne.mpr c18
     have c18b1 : (t116 != t118) = true := bne_iff_ne.mpr c18
     by_cases c51 : x114001_1.length < 3518437208883
     ·rw [if_pos c51] at H
      have LMc51 := Aside0.mk c51
      clear c51
      obtain ⟨y138, hy138⟩ : ∃ y_ : List (S34), y_ = (x114001_1 ++ [(⟨t116, t118, t125, t130, t132⟩ : S34)]) := ⟨_, rfl⟩
      replace H : (spec_l30Net.l0 k1 (wrap64 (x4_1 - 1)) s0_0 t133 (wrap64 (2 + t111)) y138) = some (r1, r2, r3) := by first | (rw [hy138]; with_reducible exact H) | (have H2_ := (Option.bind_some _ _).symm.trans H; rw [hy138]; with_reducible exact H2_) | (have H2_ := (Option.bind_some _ _).symm.trans H; with_reducible exact H2_) | with_reducible exact H | (rw [hy138]; exact H) | exact H
      have Ny138 := Aside0.mk hy138
      clear hy138
      have H' := Aside0.mk H
      clear H
      try go_wp2_with (first | ((with_reducible refine gate_builtin (b := .append) (xs := #[.tmp 48, .tmp 50]) rfl ?_); at_builtin; refine Kd.R_append k34 w.heap.size rfl (.tmp 48) (.tmp 50) 23 34 (.agg #[(.int .i64 0), (.int .i64 0), (.int .i64 0), (.int .i64 0), (.int .i64 0)]) 40 rfl Try.underlying23 info34 rfl (by decide) (by omega) u114001 x114001_1 (⟨t116, t118, t125, t130, t132⟩ : S34) [.int .i64 t116, .int .i64 t118, .int .i64 t125, .int .i64 t130, .int .i64 t132] (fun k_ => k_ ≠ gb134) (fun _ => False) rfl rfl ?aP (fun _ hk => hk.elim) ?aF ?aO (Below.refl _ _) ?aS ?aL ?_; (case aP => exact k34_mkM _ _ _ (⟨t116, t118, t125, t130, t132⟩ : S34)); (case aF => exact (fun k_ hk => Kd.freshB (g := gb134) (o := .cells #[.int .i64 t116, .int .i64 t118, .int .i64 t125, .int .i64 t130, .int .i64 t132] 34 (0, 0)) (by (with_reducible repeat (first | refine blk_drewN ?_ _ | refine blk_drew ?_ | refine blk_alloc ?_ _)); exact BK134.out) k_ hk)); (case aO => exact (by (with_reducible repeat (first | apply Kd.R_alloc | apply Kd.R_drewN | apply Kd.R_drew)); exact HO_114001.out)); (case aS => exact (keep_size (w := w) (g := g) (row := none) (by repeat (first | (with_reducible first | exact HK.out | apply KeepBut.set_ | apply keep_drewN | apply keep_drew | apply keep_alloc | refine keep_far ?_ GW110.out _ | refine keep_far ?_ GW113.out _ | refine keep_far ?_ GW134.out _) | exact HK.out)))); (case aL => have := LMc51.out; omega); intro v139 w79 ho hb hg hat; rw [← Ny138.out] at ho; have n0_ := Aside0.mk (blk_grown (g := gb110) (o := .cells #[.int .i64 0, .slice none 0 0] 25 (0, 0)) (by (with_reducible repeat (first | refine blk_drewN ?_ _ | refine blk_drew ?_ | refine blk_alloc ?_ _)); exact BK110.out) hg (Kd.R_ne HO_114001.out BK110.out (by decide))); have n1_ := Aside0.mk (blk_grown (g := gb113) (o := .cells #[.int .i64 (wrap64 (2 + t111)), u114001] 25 (0, 0)) (by (with_reducible repeat (first | refine blk_drewN ?_ _ | refine blk_drew ?_ | refine blk_alloc ?_ _)); exact BK113.out) hg (Kd.R_ne HO_114001.out BK113.out (by decide))); have n2_ := Aside0.mk (IsS97.grown2 HI0.out (by repeat (first | (with_reducible first | exact HI0.out | apply IsS97.alloc | apply IsS97.drewN | apply IsS97.drew | apply IsS97.set_1 | refine IsS97.far ?_ NB0_110.out _ | refine IsS97.far ?_ NB0_113.out _ | refine IsS97.far ?_ NB0_134.out _) | exact HI0.out)) hg (IsS97.own_ne HI0.out HO_114001.out (by decide))); have n3_ := Aside0.mk (Kd.R_over' (by (with_reducible repeat (first | apply Kd.R_alloc | apply Kd.R_drewN | apply Kd.R_drew)); exact HO124.out) (Kd.R_typed (by (with_reducible repeat (first | apply Kd.R_alloc | apply Kd.R_drewN | apply Kd.R_drew)); exact HO_114001.out)) (by decide) hg); have n4_ := Aside0.mk (Kd.R_over' (by (with_reducible repeat (first | apply Kd.R_alloc | apply Kd.R_drewN | apply Kd.R_drew)); exact HO129.out) (Kd.R_typed (by (with_reducible repeat (first | apply Kd.R_alloc | apply Kd.R_drewN | apply Kd.R_drew)); exact HO_114001.out)) (by decide) hg); have n5_ := Aside0.mk (blk_grown (g := gb134) (o := .cells #[.int .i64 t116, .int .i64 t118, .int .i64 t125, .int .i64 t130, .int .i64 t132] 34 (0, 0)) (by (with_reducible repeat (first | refine blk_drewN ?_ _ | refine blk_drew ?_ | refine blk_alloc ?_ _)); exact BK134.out) hg (Kd.R_away HO_114001.out (fun _ hk => hk))); have n6_ := Aside0.mk (below_weaken (by repeat (first | (with_reducible first | exact HB.out | apply below_alloc | apply pw_below_drewN | apply below_drew1 | refine below_set ?_ (IsS97.ge HI0.out) | refine below_set ?_ GE110.out | refine below_set ?_ GE113.out | refine below_set ?_ GE134.out) | exact HB.out)) HL.out hb); have n7_ := Aside0.mk (KeepBut.trans (by repeat (first | (with_reducible first | exact HK.out | apply KeepBut.set_ | apply keep_drewN | apply keep_drew | apply keep_alloc | refine keep_far ?_ GW110.out _ | refine keep_far ?_ GW113.out _ | refine keep_far ?_ GW134.out _) | exact HK.out)) (KeepBut.of_grown hg g) (Kd.R_base2 HO_114001.out)); have n8_ := Aside0.mk (ho); clear BK110; clear BK113; clear HI0; clear HO124; clear HO129; clear BK134; clear HB; clear HK; clear HO_114001; have BK110 := n0_; have BK113 := n1_; have HI0 := n2_; have HO124 := n3_; have HO129 := n4_; have BK134 := n5_; have HB := n6_; have HK := n7_; have HO140 := n8_; clear n0_ n1_ n2_ n3_ n4_ n5_ n6_ n7_ n8_; clear ho hb hg hat; obtain ⟨Ao80, co80, eo80⟩ := Kd.R_slice HO140.out; subst eo80; have hcz81_0 : w79.cell? ⟨gb113, 0, none⟩ = some (.int .i64 (wrap64 (2 + t111))) := (blk_cell BK113.out 0).trans rfl; have hcz81_1 : w79.cell? ⟨gb113, 1, none⟩ = some (u114001) := (blk_cell BK113.out 1).trans rfl; have hfz81_0 := blk_frozen BK113.out 0; have hfz81_1 := blk_frozen BK113.out 1))
      go_roundg k1
      case measure => have := HK1.out; omega
      case rel => exact ⟨(wrap64 (x4_1 - 1)), (t133), (y138), (.slice Ao80 y138.length co80), (by first | rfl | (simp; done) | (simp [*]; done)), H', ⟨by have := HK1.out; omega⟩, ⟨by (with_reducible repeat (first | apply Kd.R_alloc | apply Kd.R_drewN | apply Kd.R_drew)); exact Kd.R_mono (Kd.R_far (p := ⟨gb113, 1, none⟩) (Kd.R_types HO140.out BK113.out (by decide)) (fun _ hk => hk.2) (.slice Ao80 y138.length co80)) (fun _ hk => trivial)⟩, ⟨by (with_reducible repeat (first | refine blk_drewN ?_ _ | refine blk_drew ?_ | refine blk_alloc ?_ _)); refine blk_far ?_ NB110_113.out _; (with_reducible repeat (first | refine blk_drewN ?_ _ | refine blk_drew ?_ | refine blk_alloc ?_ _)); exact BK110.out⟩, ⟨by (with_reducible repeat (first | refine blk_drewN ?_ _ | refine blk_drew ?_ | refine blk_alloc ?_ _)); refine blk_put (cs := #[.int .i64 (wrap64 (2 + t111)), u114001]) ?_ 1 _ rfl; (with_reducible repeat (first | refine blk_drewN ?_ _ | refine blk_drew ?_ | refine blk_alloc ?_ _)); exact BK113.out⟩, ⟨by repeat (first | (with_reducible first | exact HI0.out | apply IsS97.alloc | apply IsS97.drewN | apply IsS97.drew | apply IsS97.set_1 | refine IsS97.far ?_ NB0_110.out _ | refine IsS97.far ?_ NB0_113.out _ | refine IsS97.far ?_ NB0_134.out _) | exact HI0.out)⟩, ⟨by repeat (first | (with_reducible first | exact HK.out | apply KeepBut.set_ | apply keep_drewN | apply keep_drew | apply keep_alloc | refine keep_far ?_ GW110.out _ | refine keep_far ?_ GW113.out _ | refine keep_far ?_ GW134.out _) | exact HK.out)⟩, ⟨by repeat (first | (with_reducible first | exact HB.out | apply below_alloc | apply pw_below_drewN | apply below_drew1 | refine below_set ?_ (IsS97.ge HI0.out) | refine below_set ?_ GE110.out | refine below_set ?_ GE113.out | refine below_set ?_ GE134.out) | exact HB.out)⟩⟩
     ·rw [if_neg c51] at H
      exact absurd H (by simp)
   ·rw [if_neg c11] at H
    have c11b0 : decide (0 < x4_1) = false := decide_eq_false c11
    clear c11
    simp only [Option.some.injEq, Prod.mk.injEq] at H
    obtain ⟨rfl, rfl, rfl⟩ := H
    have hnb82 := NB113_110.out
    have hnc82 := NB110_113.out
    have hnb83 := NB113_0.out
    have hnc83 := NB0_113.out
    have hcz84_0 : wr.cell? ⟨gb113, 0, none⟩ = some (.int .i64 (wrap64 (2 + t111))) := (blk_cell BK113.out 0).trans rfl
    have hcz84_1 : wr.cell? ⟨gb113, 1, none⟩ = some (u114001) := (blk_cell BK113.out 1).trans rfl
    have hfz84_0 := blk_frozen BK113.out 0
    have hfz84_1 := blk_frozen BK113.out 1
    have hnb85 := NB110_0.out
    have hnc85 := NB0_110.out
    have hcz86_0 : wr.cell? ⟨gb110, 0, none⟩ = some (.int .i64 0) := (blk_cell BK110.out 0).trans rfl
    have hcz86_1 : wr.cell? ⟨gb110, 1, none⟩ = some (.slice none 0 0) := (blk_cell BK110.out 1).trans rfl
    have hfz86_0 := blk_frozen BK110.out 0
    have hfz86_1 := blk_frozen BK110.out 1
    obtain ⟨Ao87, co87, eo87⟩ := Kd.R_slice HO_114001.out
    subst eo87
    go_wp2
    refine bodyPost_ret (results_cell_row rfl _ _ gb110 25 #[.int .i64 (wrap64 (2 + t111)), .slice Ao87 x114001_1.length co87] (0, 0) _ rfl (by (with_reducible repeat (first | refine blk_drewN ?_ _ | refine blk_drew ?_ | refine blk_alloc ?_ _)); refine blk_put (cs := #[.int .i64 (wrap64 (2 + t111)), .slice none 0 0]) ?_ 1 _ rfl; (with_reducible repeat (first | refine blk_drewN ?_ _ | refine blk_drew ?_ | refine blk_alloc ?_ _)); refine blk_put (cs := #[.int .i64 0, .slice none 0 0]) ?_ 0 _ rfl; (with_reducible repeat (first | refine blk_drewN ?_ _ | refine blk_drew ?_ | refine blk_alloc ?_ _)); exact BK110.out) Try.underlying25 rfl (by kernel_rfl)) rfl ?_
    exact ⟨_, by first | rfl | (simp [errW_none, errW_some] <;> rfl) | (simp [*, errW_none, errW_some] <;> rfl), by (with_reducible repeat (first | apply Kd.R_alloc | apply Kd.R_drewN | apply Kd.R_drew)); exact Kd.R_mono (Kd.R_far (p := ⟨gb110, 1, none⟩) (Kd.R_far (p := ⟨gb110, 0, none⟩) (Kd.R_types HO_114001.out BK110.out (by decide)) (fun _ hk => hk.2) (.int .i64 (wrap64 (2 + t111)))) (fun _ hk => hk.2) (.slice Ao87 x114001_1.length co87)) (fun _ hk => trivial), by repeat (first | (with_reducible first | exact HI0.out | apply IsS97.alloc | apply IsS97.drewN | apply IsS97.drew | apply IsS97.set_1 | refine IsS97.far ?_ NB0_110.out _ | refine IsS97.far ?_ NB0_113.out _) | exact HI0.out), by repeat (first | (with_reducible first | exact HB.out | apply below_alloc | apply pw_below_drewN | apply below_drew1 | refine below_set ?_ (IsS97.ge HI0.out) | refine below_set ?_ GE110.out | refine below_set ?_ GE113.out) | exact HB.out), by repeat (first | (with_reducible first | exact HK.out | apply KeepBut.set_ | apply keep_drewN | apply keep_drew | apply keep_alloc | refine keep_far ?_ GW110.out _ | refine keep_far ?_ GW113.out _) | exact HK.out)⟩
end Go.Proofs.Ytljdcinpjnijcaa.Pr
end
