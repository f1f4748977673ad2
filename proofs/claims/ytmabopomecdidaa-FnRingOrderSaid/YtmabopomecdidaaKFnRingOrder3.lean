/- For the statement FnRingOrder of this seat: it is proved here, with no further conditions (part 4 of its texts: words, walks of the functions, the plain law, the row). -/
import Derived.Test.YtmabopomecdidaaKFnRingOrder2
section
namespace Go.Proofs.Ytmabopomecdidaa.Pr
open Go.RowKit Go.Proofs.YtmabopomecdidaaW.PrintWords Go.Proofs.YtmabopomecdidaaW.PrintLast Go.Proofs.YtmabopomecdidaaW.PrintMore
attribute [local go_sem] max2_int min2_int max_two min_two max_three min_three max_four min_four
set_option linter.unusedVariables false
set_option linter.unusedSimpArgs false
def spec_l30Net.l0 : Nat → Int → List Int → Int → Int → List (S45) → Option (Int × (List (S45)) × Int)
 | 0, _, _, _, _, _ => none
 | k + 1, x4, x1000, x1001, x211000, x211001 => if x4 > 0 then ((spec_l30Rd_pick.f k x1000 x1001 x211000).bind fun bt213 => ((spec_l30Rd_pick.f k x1000 bt213.2 x211000).bind fun bt215 => ((spec_l30Rd_pick.f k x1000 bt215.2 100).bind fun bt217 => ((spec_l30Rd_one.f k x1000 bt217.2 (([0, 1, 2, 5, 9, bt217.1] : List Int))).bind fun bt222 => ((spec_l30Rd_one.f k x1000 bt222.2 (([0, 0, 3, 8] : List Int))).bind fun bt227 => ((spec_l30Rd_pick.f k x1000 bt227.2 10).bind fun bt229 => (if bt213.1 = bt215.1 then (if x211000 = 0 then (none) else (if x211001.length < 3518437208883 then (spec_l30Net.l0 k (wrap64 (x4 - 1)) x1000 bt229.2 x211000 (x211001 ++ [(⟨bt213.1, Int.tmod (wrap64 (bt215.1 + 1)) x211000, bt222.1, bt227.1, bt229.1⟩ : S45)])) else (none))) else (if x211001.length < 3518437208883 then (spec_l30Net.l0 k (wrap64 (x4 - 1)) x1000 bt229.2 x211000 (x211001 ++ [(⟨bt213.1, bt215.1, bt222.1, bt227.1, bt229.1⟩ : S45)])) else (none))))))))) else (some (x211000, x211001, x1001))
def spec_l30Net.f (k : Nat) (s0_0 : List Int) (s0_1 : Int) : Option (Int × (List (S45)) × Int) := (spec_l30Rd_pick.f k s0_0 s0_1 5).bind fun bt208 => ((spec_l30Rd_pick.f k s0_0 bt208.2 14).bind fun bt211 => (spec_l30Net.l0 k bt211.1 s0_0 bt211.2 (wrap64 (2 + bt208.1)) ([] : List (S45))))
theorem spec_l30Net.mono_l : ∀ k, (∀ y0 y1 y2 y3 y4, LeO (spec_l30Net.l0 k y0 y1 y2 y3 y4) (spec_l30Net.l0 (k + 1) y0 y1 y2 y3 y4))
 | 0 => fun _ _ _ _ _ r h => by simp [spec_l30Net.l0] at h
 | k + 1 => by
  have ih0 := spec_l30Net.mono_l k
  ·intro y0 y1 y2 y3 y4
   unfold spec_l30Net.l0
   repeat' first
   | (with_reducible exact ih0 _ _ _ _ _)
   | (with_reducible exact spec_l30Rd_one.mono _ _ _ _)
   | (with_reducible exact spec_l30Rd_pick.mono _ _ _ _)
   | (with_reducible exact LeO.refl _)
   | (with_reducible exact LeO.none _)
   | (with_reducible refine LeO.ite ?_ ?_)
   | (with_reducible refine LeO.bind ?_ (fun _ => ?_))
   | exact ih0 _ _ _ _ _
   | exact spec_l30Rd_one.mono _ _ _ _
   | exact spec_l30Rd_pick.mono _ _ _ _
   | exact LeO.none _
   | refine LeO.ite ?_ ?_
   | refine LeO.bind ?_ (fun _ => ?_)
theorem spec_l30Net.mono : ∀ a0 a1 k, LeO (spec_l30Net.f k a0 a1) (spec_l30Net.f (k + 1) a0 a1) := by
 intro a0 a1 k
 have ih0 := spec_l30Net.mono_l k
 unfold spec_l30Net.f
 repeat' first
   | (with_reducible exact ih0 _ _ _ _ _)
   | (with_reducible exact spec_l30Rd_one.mono _ _ _ _)
   | (with_reducible exact spec_l30Rd_pick.mono _ _ _ _)
   | (with_reducible exact LeO.refl _)
   | (with_reducible exact LeO.none _)
   | (with_reducible refine LeO.ite ?_ ?_)
   | (with_reducible refine LeO.bind ?_ (fun _ => ?_))
   | exact ih0 _ _ _ _ _
   | exact spec_l30Rd_one.mono _ _ _ _
   | exact spec_l30Rd_pick.mono _ _ _ _
   | exact LeO.none _
   | refine LeO.ite ?_ ?_
   | refine LeO.bind ?_ (fun _ => ?_)
def spec_l30Net.T5 : Bool × List (List Nat × List Nat) := (true, [([], []), ([], []), ([1], [1]), ([0, 2], [0, 2]), ([], []), ([], []), ([5], [5]), ([4, 6, 3], [4, 6]), ([], []), ([], []), ([9, 7], [9]), ([10], [10]), ([8, 11, 10], [8, 11]), ([], []), ([], []), ([13, 14, 12], [13, 14]), ([], []), ([16, 15], [16]), ([3, 7, 12, 15, 17], [3, 7, 12, 15, 17]), ([], []), ([19, 18, 17, 0, 1, 2, 3, 4, 5, 6, 7, 8, 9, 10, 11, 12, 13, 14, 15, 16, 17, 18, 19], [18, 19])])
def spec_l30Net.B5 : List Nat := [0, 0, 2, 7, 0, 0, 32, 127, 0, 0, 767, 1791, 4095, 0, 0, 32767, 0, 131071, 262143, 0, 1048575]
theorem spec_l30Net.tab5 : rtab .any (opsOf Try.f115 5) = spec_l30Net.T5 := by kernel_rfl
theorem spec_l30Net.bits5 : waitsOk spec_l30Net.T5.2 spec_l30Net.B5 = true := by kernel_rfl
set_option maxHeartbeats 8000000 in
set_option maxRecDepth 100000 in
theorem spec_l30Net.calls (k : Nat) (g : Nat) (s0_0 : List Int) (s0_1 : Int) (r1 : Int) (r2 : List (S45)) (r3 : Int) (w0 w : World) (hI : IsS112 w0 w g s0_0 s0_1) (hB : Below w0.heap.size w0 w) (h : spec_l30Net.f k s0_0 s0_1 = some (r1, r2, r3)) :
  Calls Try.prog 115 #[.pointer (some ⟨g, 0, none⟩)] w fun e w' => ∃ v1_ : Value, e = .returned (.agg #[.int .i64 r1, v1_]) ∧ Kd.R k45 45 w' w.heap.size (fun _ => True) v1_ r2 ∧ IsS112 w0 w' g s0_0 r3 ∧ Below w0.heap.size w0 w' ∧ KeepBut w w' g none := by
 have hu38 := Try.underlying38
 have hu45 := Try.underlying45
 have HI0 := Aside0.mk hI
 have HLTg := Aside0.mk (IsS112.lt hI)
 have HK := Aside0.mk (KeepBut.refl w g none)
 have HL := Aside0.mk hB.size
 clear hI
 have HW0 := Aside0.mk hB.size
 have HB := Aside0.mk hB
 clear hB
 have H : ((spec_l30Rd_pick.f k s0_0 s0_1 5).bind fun bt208 => ((spec_l30Rd_pick.f k s0_0 bt208.2 14).bind fun bt211 => (spec_l30Net.l0 k bt211.1 s0_0 bt211.2 (wrap64 (2 + bt208.1)) ([] : List (S45))))) = some (r1, r2, r3) := h
 clear h
 replace H := Option.bind_eq_some_iff.mp H
 obtain ⟨⟨t208, t209⟩, A20, H⟩ := H
 replace H : ((spec_l30Rd_pick.f k s0_0 t209 14).bind fun bt211 => (spec_l30Net.l0 k bt211.1 s0_0 bt211.2 (wrap64 (2 + t208)) ([] : List (S45)))) = some (r1, r2, r3) := H
 have A2 := Aside0.mk A20
 clear A20
 replace H := Option.bind_eq_some_iff.mp H
 obtain ⟨⟨t211, t212⟩, A30, H⟩ := H
 replace H : (spec_l30Net.l0 k t211 s0_0 t212 (wrap64 (2 + t208)) ([] : List (S45))) = some (r1, r2, r3) := H
 have A3 := Aside0.mk A30
 clear A30
 have H' := Aside0.mk H
 clear H
 go_enter Try.func115, Try.ntmps115
 go_wp2_with (first | ((with_reducible refine gate_dst (N := 2) rfl ?_); refine box_event ?hg (N := 2) ?hd (cs := #[.int .i64 0, .slice none 0 0]) (t := 38) ?hr ?_; (case hd => rfl); (case hg => rfl); (case hr => first | (go_simp; done) | (go_simp; rfl)); intro gb207 hg w4 hbox hb; have n0_ := Aside0.mk (IsS112.below (by repeat (first | (with_reducible first | exact HI0.out | apply IsS112.alloc | apply IsS112.drewN | apply IsS112.drew | apply IsS112.set_1) | exact HI0.out)) hb); have n1_ := Aside0.mk (KeepBut.trans (by repeat (first | (with_reducible first | exact HK.out | apply KeepBut.set_ | apply keep_drewN | apply keep_drew | apply keep_alloc) | exact HK.out)) (KeepBut.of_below hb g none) (.inl rfl)); have n2_ := Aside0.mk (below_step (by repeat (first | (with_reducible first | exact HB.out | apply below_alloc | apply pw_below_drewN | apply below_drew1 | refine below_set ?_ (IsS112.ge HI0.out)) | exact HB.out)) hb); have n3_ := Aside0.mk (hbox); have n4_ := Aside0.mk ((by rw [hg]; exact (keep_size (w := w) (g := g) (row := none) (by repeat (first | (with_reducible first | exact HK.out | apply KeepBut.set_ | apply keep_drewN | apply keep_drew | apply keep_alloc) | exact HK.out))) : w.heap.size ≤ gb207)); have n5_ := Aside0.mk ((Nat.le_trans HW0.out (by rw [hg]; exact (keep_size (w := w) (g := g) (row := none) (by repeat (first | (with_reducible first | exact HK.out | apply KeepBut.set_ | apply keep_drewN | apply keep_drew | apply keep_alloc) | exact HK.out))) : w.heap.size ≤ gb207) : w0.heap.size ≤ gb207)); have n6_ := Aside0.mk ((by rw [hg]; exact Nat.ne_of_lt (IsS112.lt (show IsS112 w0 _ g s0_0 s0_1 from by repeat (first | (with_reducible first | exact HI0.out | apply IsS112.alloc | apply IsS112.drewN | apply IsS112.drew | apply IsS112.set_1) | exact HI0.out))) : g ≠ gb207)); have n7_ := Aside0.mk ((by rw [hg]; exact Nat.ne_of_gt (IsS112.lt (show IsS112 w0 _ g s0_0 s0_1 from by repeat (first | (with_reducible first | exact HI0.out | apply IsS112.alloc | apply IsS112.drewN | apply IsS112.drew | apply IsS112.set_1) | exact HI0.out))) : gb207 ≠ g)); clear HI0; clear HK; clear HB; have HI0 := n0_; have HK := n1_; have HB := n2_; have BK207 := n3_; have GW207 := n4_; have GE207 := n5_; have NB0_207 := n6_; have NB207_0 := n7_; clear n0_ n1_ n2_ n3_ n4_ n5_ n6_ n7_; clear hb hbox hg) | ((with_reducible refine gate_callee (f := 74) rfl ?_); refine goesL_ (some 7) rfl rfl Try.func74 (by kernel_rfl) rfl #[.pointer (some ⟨g, 0, none⟩), .int .i64 5] rfl (by (try simp only [List.map_toArray, List.map_cons, List.map_nil]); first | done | rfl | (simp only [List.length_drop, List.length_take]; rfl)) ?_; (with_reducible refine (spec_l30Rd_pick.calls k g s0_0 s0_1 5 t208 t209 w0 _ ?side1 ?side2 A2.out).mono ?_); (case side1 => repeat (first | (with_reducible first | exact HI0.out | apply IsS112.alloc | apply IsS112.drewN | apply IsS112.drew | apply IsS112.set_1 | refine IsS112.far ?_ NB0_207.out _) | exact HI0.out)); (case side2 => repeat (first | (with_reducible first | exact HB.out | apply below_alloc | apply pw_below_drewN | apply below_drew1 | refine below_set ?_ (IsS112.ge HI0.out) | refine below_set ?_ GE207.out) | exact HB.out)); rintro e w5 ⟨rfl, hi, hb, hk⟩; refine ⟨_, rfl, ?_⟩; have n0_ := Aside0.mk (KeepBut.blk hk (g' := gb207) (o := .cells #[.int .i64 0, .slice none 0 0] 38 (0, 0)) (by (with_reducible repeat (first | refine blk_drewN ?_ _ | refine blk_drew ?_ | refine blk_alloc ?_ _)); exact BK207.out) NB207_0.out (by simp)); have n1_ := Aside0.mk (KeepBut.trans (by repeat (first | (with_reducible first | exact HK.out | apply KeepBut.set_ | apply keep_drewN | apply keep_drew | apply keep_alloc | refine keep_far ?_ GW207.out _) | exact HK.out)) hk (.inl rfl)); have n2_ := Aside0.mk (hb); have n3_ := Aside0.mk (hi); clear BK207; clear HK; clear HB; clear HI0; have BK207 := n0_; have HK := n1_; have HB := n2_; have HI0 := n3_; clear n0_ n1_ n2_ n3_; (try clear hb); (try clear hb2); (try clear hk); (try clear hi)) | ((with_reducible refine gate_dst (N := 3) rfl ?_); refine box_event ?hg (N := 3) ?hd (cs := #[.int .i64 0, .slice none 0 0]) (t := 38) ?hr ?_; (case hd => rfl); (case hg => rfl); (case hr => first | (go_simp; done) | (go_simp; rfl)); intro gb210 hg w6 hbox hb; have n0_ := Aside0.mk (IsS112.below (by repeat (first | (with_reducible first | exact HI0.out | apply IsS112.alloc | apply IsS112.drewN | apply IsS112.drew | apply IsS112.set_1 | refine IsS112.far ?_ NB0_207.out _) | exact HI0.out)) hb); have n1_ := Aside0.mk (blk_below (g := gb207) (o := .cells #[.int .i64 0, .slice none 0 0] 38 (0, 0)) (by (with_reducible repeat (first | refine blk_drewN ?_ _ | refine blk_drew ?_ | refine blk_alloc ?_ _)); exact BK207.out) hb); have n2_ := Aside0.mk (KeepBut.trans (by repeat (first | (with_reducible first | exact HK.out | apply KeepBut.set_ | apply keep_drewN | apply keep_drew | apply keep_alloc | refine keep_far ?_ GW207.out _) | exact HK.out)) (KeepBut.of_below hb g none) (.inl rfl)); have n3_ := Aside0.mk (below_step (by repeat (first | (with_reducible first | exact HB.out | apply below_alloc | apply pw_below_drewN | apply below_drew1 | refine below_set ?_ (IsS112.ge HI0.out) | refine below_set ?_ GE207.out) | exact HB.out)) hb); have n4_ := Aside0.mk (hbox); have n5_ := Aside0.mk ((by rw [hg]; exact (keep_size (w := w) (g := g) (row := none) (by repeat (first | (with_reducible first | exact HK.out | apply KeepBut.set_ | apply keep_drewN | apply keep_drew | apply keep_alloc | refine keep_far ?_ GW207.out _) | exact HK.out))) : w.heap.size ≤ gb210)); have n6_ := Aside0.mk ((Nat.le_trans HW0.out (by rw [hg]; exact (keep_size (w := w) (g := g) (row := none) (by repeat (first | (with_reducible first | exact HK.out | apply KeepBut.set_ | apply keep_drewN | apply keep_drew | apply keep_alloc | refine keep_far ?_ GW207.out _) | exact HK.out))) : w.heap.size ≤ gb210) : w0.heap.size ≤ gb210)); have n7_ := Aside0.mk ((by rw [hg]; exact Nat.ne_of_lt (blk_lt (g := gb207) (o := .cells #[.int .i64 0, .slice none 0 0] 38 (0, 0)) (by (with_reducible repeat (first | refine blk_drewN ?_ _ | refine blk_drew ?_ | refine blk_alloc ?_ _)); exact BK207.out)) : gb207 ≠ gb210)); have n8_ := Aside0.mk ((by rw [hg]; exact Nat.ne_of_gt (blk_lt (g := gb207) (o := .cells #[.int .i64 0, .slice none 0 0] 38 (0, 0)) (by (with_reducible repeat (first | refine blk_drewN ?_ _ | refine blk_drew ?_ | refine blk_alloc ?_ _)); exact BK207.out)) : gb210 ≠ gb207)); have n9_ := Aside0.mk ((by rw [hg]; exact Nat.ne_of_lt (IsS112.lt (show IsS112 w0 _ g s0_0 t209 from by repeat (first | (with_reducible first | exact HI0.out | apply IsS112.alloc | apply IsS112.drewN | apply IsS112.drew | apply IsS112.set_1 | refine IsS112.far ?_ NB0_207.out _) | exact HI0.out))) : g ≠ gb210)); have n10_ := Aside0.mk ((by rw [hg]; exact Nat.ne_of_gt (IsS112.lt (show IsS112 w0 _ g s0_0 t209 from by repeat (first | (with_reducible first | exact HI0.out | apply IsS112.alloc | apply IsS112.drewN | apply IsS112.drew | apply IsS112.set_1 | refine IsS112.far ?_ NB0_207.out _) | exact HI0.out))) : gb210 ≠ g)); clear HI0; clear BK207; clear HK; clear HB; have HI0 := n0_; have BK207 := n1_; have HK := n2_; have HB := n3_; have BK210 := n4_; have GW210 := n5_; have GE210 := n6_; have NB207_210 := n7_; have NB210_207 := n8_; have NB0_210 := n9_; have NB210_0 := n10_; clear n0_ n1_ n2_ n3_ n4_ n5_ n6_ n7_ n8_ n9_ n10_; clear hb hbox hg; have hnb7 := NB210_207.out; have hnc7 := NB207_210.out; have hnb8 := NB210_0.out; have hnc8 := NB0_210.out; have hcz9_0 : w6.cell? ⟨gb210, 0, none⟩ = some (.int .i64 0) := (blk_cell BK210.out 0).trans rfl; have hcz9_1 : w6.cell? ⟨gb210, 1, none⟩ = some (.slice none 0 0) := (blk_cell BK210.out 1).trans rfl; have hfz9_0 := blk_frozen BK210.out 0; have hfz9_1 := blk_frozen BK210.out 1) | ((with_reducible refine gate_callee (f := 74) rfl ?_); refine goesL_ (some 11) rfl rfl Try.func74 (by kernel_rfl) rfl #[.pointer (some ⟨g, 0, none⟩), .int .i64 14] rfl (by (try simp only [List.map_toArray, List.map_cons, List.map_nil]); first | done | rfl | (simp only [List.length_drop, List.length_take]; rfl)) ?_; (with_reducible refine (spec_l30Rd_pick.calls k g s0_0 t209 14 t211 t212 w0 _ ?side1 ?side2 A3.out).mono ?_); (case side1 => repeat (first | (with_reducible first | exact HI0.out | apply IsS112.alloc | apply IsS112.drewN | apply IsS112.drew | apply IsS112.set_1 | refine IsS112.far ?_ NB0_207.out _ | refine IsS112.far ?_ NB0_210.out _) | exact HI0.out)); (case side2 => repeat (first | (with_reducible first | exact HB.out | apply below_alloc | apply pw_below_drewN | apply below_drew1 | refine below_set ?_ (IsS112.ge HI0.out) | refine below_set ?_ GE207.out | refine below_set ?_ GE210.out) | exact HB.out)); rintro e w10 ⟨rfl, hi, hb, hk⟩; refine ⟨_, rfl, ?_⟩; have n0_ := Aside0.mk (KeepBut.blk hk (g' := gb207) (o := .cells #[.int .i64 0, .slice none 0 0] 38 (0, 0)) (by (with_reducible repeat (first | refine blk_drewN ?_ _ | refine blk_drew ?_ | refine blk_alloc ?_ _)); refine blk_far ?_ NB207_210.out _; (with_reducible repeat (first | refine blk_drewN ?_ _ | refine blk_drew ?_ | refine blk_alloc ?_ _)); refine blk_far ?_ NB207_210.out _; (with_reducible repeat (first | refine blk_drewN ?_ _ | refine blk_drew ?_ | refine blk_alloc ?_ _)); exact BK207.out) NB207_0.out (by simp)); have n1_ := Aside0.mk (KeepBut.blk hk (g' := gb210) (o := .cells #[.int .i64 (wrap64 (2 + t208)), .slice none 0 0] 38 (0, 0)) (by (with_reducible repeat (first | refine blk_drewN ?_ _ | refine blk_drew ?_ | refine blk_alloc ?_ _)); refine blk_put (cs := #[.int .i64 (wrap64 (2 + t208)), .slice none 0 0]) ?_ 1 _ rfl; (with_reducible repeat (first | refine blk_drewN ?_ _ | refine blk_drew ?_ | refine blk_alloc ?_ _)); refine blk_put (cs := #[.int .i64 0, .slice none 0 0]) ?_ 0 _ rfl; (with_reducible repeat (first | refine blk_drewN ?_ _ | refine blk_drew ?_ | refine blk_alloc ?_ _)); exact BK210.out) NB210_0.out (by simp)); have n2_ := Aside0.mk (KeepBut.trans (by repeat (first | (with_reducible first | exact HK.out | apply KeepBut.set_ | apply keep_drewN | apply keep_drew | apply keep_alloc | refine keep_far ?_ GW207.out _ | refine keep_far ?_ GW210.out _) | exact HK.out)) hk (.inl rfl)); have n3_ := Aside0.mk (hb); have n4_ := Aside0.mk (hi); clear BK207; clear BK210; clear HK; clear HB; clear HI0; have BK207 := n0_; have BK210 := n1_; have HK := n2_; have HB := n3_; have HI0 := n4_; clear n0_ n1_ n2_ n3_ n4_; (try clear hb); (try clear hb2); (try clear hk); (try clear hi)))
 go_loopg [4] k (fun kq v4 w' => ∃ (x4_1 : Int) (x1001_1 : Int) (x211001_1 : List (S45)) (u211001 : Value), v4 = .int .i64 x4_1 ∧ Aside0 (spec_l30Net.l0 kq x4_1 s0_0 x1001_1 (wrap64 (2 + t208)) x211001_1 = some (r1, r2, r3)) ∧ Aside0 (kq ≤ k) ∧ Aside0 (Kd.R k45 45 w' w.heap.size (fun _ => True) u211001 x211001_1) ∧ Aside0 (w'.heap[gb207]? = some (.cells #[.int .i64 0, (.slice none 0 0)] 38 (0, 0))) ∧ Aside0 (w'.heap[gb210]? = some (.cells #[.int .i64 (wrap64 (2 + t208)), u211001] 38 (0, 0))) ∧ Aside0 (IsS112 w0 w' g s0_0 x1001_1) ∧ Aside0 (KeepBut w w' g none) ∧ Aside0 (Below w0.heap.size w0 w'))
 case atStart => exact ⟨(t211), (t212), (([] : List (S45))), (.slice none 0 0), (by first | rfl | (simp; done) | (simp [*]; done)), H', ⟨Nat.le_refl _⟩, ⟨by first | exact Kd.R_nil _ _ _ _ _ | exact Kd.N_nil _ _ _ _ _ | exact Kd.V_nil _ _ _ _ _ | exact Kd.Q_nil _ _ _ _ _ | exact Kd.S_nil _ _ _ _ _⟩, ⟨by (with_reducible repeat (first | refine blk_drewN ?_ _ | refine blk_drew ?_ | refine blk_alloc ?_ _)); exact BK207.out⟩, ⟨by (with_reducible repeat (first | refine blk_drewN ?_ _ | refine blk_drew ?_ | refine blk_alloc ?_ _)); exact BK210.out⟩, ⟨by repeat (first | (with_reducible first | exact HI0.out | apply IsS112.alloc | apply IsS112.drewN | apply IsS112.drew | apply IsS112.set_1 | refine IsS112.far ?_ NB0_207.out _ | refine IsS112.far ?_ NB0_210.out _) | exact HI0.out)⟩, ⟨by repeat (first | (with_reducible first | exact HK.out | apply KeepBut.set_ | apply keep_drewN | apply keep_drew | apply keep_alloc | refine keep_far ?_ GW207.out _ | refine keep_far ?_ GW210.out _) | exact HK.out)⟩, ⟨by repeat (first | (with_reducible first | exact HB.out | apply below_alloc | apply pw_below_drewN | apply below_drew1 | refine below_set ?_ (IsS112.ge HI0.out) | refine below_set ?_ GE207.out | refine below_set ?_ GE210.out) | exact HB.out)⟩⟩
 case round =>
  clear H'
  try clear c1
  try clear p2
  try clear p6
  try clear c7
  try clear c8
  try clear hcz9_0
  try clear hcz9_1
  try clear hfz9_0
  try clear hfz9_1
  obtain ⟨x4_1, x1001_1, x211001_1, u211001, rfl, HA, HK1, HO_211001, BK207, BK210, HI0, HK, HB⟩ := hrel
  cases gk with
  | zero => exact absurd HA.out (by simp [spec_l30Net.l0])
  | succ k1 =>
   have H := HA.out
   clear HA
   simp only [spec_l30Net.l0] at H
   by_cases c11 : x4_1 > 0
   ·rw [if_pos c11] at H
    have c11b0 : decide (0 < x4_1) = true := decide_eq_true c11
    clear c11
    replace H := Option.bind_eq_some_iff.mp H
    obtain ⟨⟨t213, t214⟩, A120, H⟩ := H
    replace H : ((spec_l30Rd_pick.f k1 s0_0 t214 (wrap64 (2 + t208))).bind fun bt215 => ((spec_l30Rd_pick.f k1 s0_0 bt215.2 100).bind fun bt217 => ((spec_l30Rd_one.f k1 s0_0 bt217.2 (([0, 1, 2, 5, 9, bt217.1] : List Int))).bind fun bt222 => ((spec_l30Rd_one.f k1 s0_0 bt222.2 (([0, 0, 3, 8] : List Int))).bind fun bt227 => ((spec_l30Rd_pick.f k1 s0_0 bt227.2 10).bind fun bt229 => (if t213 = bt215.1 then (if (wrap64 (2 + t208)) = 0 then (none) else (if x211001_1.length < 3518437208883 then (spec_l30Net.l0 k1 (wrap64 (x4_1 - 1)) s0_0 bt229.2 (wrap64 (2 + t208)) (x211001_1 ++ [(⟨t213, Int.tmod (wrap64 (bt215.1 + 1)) (wrap64 (2 + t208)), bt222.1, bt227.1, bt229.1⟩ : S45)])) else (none))) else (if x211001_1.length < 3518437208883 then (spec_l30Net.l0 k1 (wrap64 (x4_1 - 1)) s0_0 bt229.2 (wrap64 (2 + t208)) (x211001_1 ++ [(⟨t213, bt215.1, bt222.1, bt227.1, bt229.1⟩ : S45)])) else (none)))))))) = some (r1, r2, r3) := H
    have A12 := Aside0.mk A120
    clear A120
    replace H := Option.bind_eq_some_iff.mp H
    obtain ⟨⟨t215, t216⟩, A130, H⟩ := H
    replace H : ((spec_l30Rd_pick.f k1 s0_0 t216 100).bind fun bt217 => ((spec_l30Rd_one.f k1 s0_0 bt217.2 (([0, 1, 2, 5, 9, bt217.1] : List Int))).bind fun bt222 => ((spec_l30Rd_one.f k1 s0_0 bt222.2 (([0, 0, 3, 8] : List Int))).bind fun bt227 => ((spec_l30Rd_pick.f k1 s0_0 bt227.2 10).bind fun bt229 => (if t213 = t215 then (if (wrap64 (2 + t208)) = 0 then (none) else (if x211001_1.length < 3518437208883 then (spec_l30Net.l0 k1 (wrap64 (x4_1 - 1)) s0_0 bt229.2 (wrap64 (2 + t208)) (x211001_1 ++ [(⟨t213, Int.tmod (wrap64 (t215 + 1)) (wrap64 (2 + t208)), bt222.1, bt227.1, bt229.1⟩ : S45)])) else (none))) else (if x211001_1.length < 3518437208883 then (spec_l30Net.l0 k1 (wrap64 (x4_1 - 1)) s0_0 bt229.2 (wrap64 (2 + t208)) (x211001_1 ++ [(⟨t213, t215, bt222.1, bt227.1, bt229.1⟩ : S45)])) else (none))))))) = some (r1, r2, r3) := H
    have A13 := Aside0.mk A130
    clear A130
    replace H := Option.bind_eq_some_iff.mp H
    obtain ⟨⟨t217, t218⟩, A140, H⟩ := H
    replace H : ((spec_l30Rd_one.f k1 s0_0 t218 (([0, 1, 2, 5, 9, t217] : List Int))).bind fun bt222 => ((spec_l30Rd_one.f k1 s0_0 bt222.2 (([0, 0, 3, 8] : List Int))).bind fun bt227 => ((spec_l30Rd_pick.f k1 s0_0 bt227.2 10).bind fun bt229 => (if t213 = t215 then (if (wrap64 (2 + t208)) = 0 then (none) else (if x211001_1.length < 3518437208883 then (spec_l30Net.l0 k1 (wrap64 (x4_1 - 1)) s0_0 bt229.2 (wrap64 (2 + t208)) (x211001_1 ++ [(⟨t213, Int.tmod (wrap64 (t215 + 1)) (wrap64 (2 + t208)), bt222.1, bt227.1, bt229.1⟩ : S45)])) else (none))) else (if x211001_1.length < 3518437208883 then (spec_l30Net.l0 k1 (wrap64 (x4_1 - 1)) s0_0 bt229.2 (wrap64 (2 + t208)) (x211001_1 ++ [(⟨t213, t215, bt222.1, bt227.1, bt229.1⟩ : S45)])) else (none)))))) = some (r1, r2, r3) := H
    have A14 := Aside0.mk A140
    clear A140
    obtain ⟨y219, hy219⟩ : ∃ y_ : List Int, y_ = (([0, 1, 2, 5, 9, t217] : List Int)) := ⟨_, rfl⟩
    replace H : ((spec_l30Rd_one.f k1 s0_0 t218 y219).bind fun bt222 => ((spec_l30Rd_one.f k1 s0_0 bt222.2 (([0, 0, 3, 8] : List Int))).bind fun bt227 => ((spec_l30Rd_pick.f k1 s0_0 bt227.2 10).bind fun bt229 => (if t213 = t215 then (if (wrap64 (2 + t208)) = 0 then (none) else (if x211001_1.length < 3518437208883 then (spec_l30Net.l0 k1 (wrap64 (x4_1 - 1)) s0_0 bt229.2 (wrap64 (2 + t208)) (x211001_1 ++ [(⟨t213, Int.tmod (wrap64 (t215 + 1)) (wrap64 (2 + t208)), bt222.1, bt227.1, bt229.1⟩ : S45)])) else (none))) else (if x211001_1.length < 3518437208883 then (spec_l30Net.l0 k1 (wrap64 (x4_1 - 1)) s0_0 bt229.2 (wrap64 (2 + t208)) (x211001_1 ++ [(⟨t213, t215, bt222.1, bt227.1, bt229.1⟩ : S45)])) else (none)))))) = some (r1, r2, r3) := by first | (rw [hy219]; with_reducible exact H) | (have H2_ := (Option.bind_some _ _).symm.trans H; rw [hy219]; with_reducible exact H2_) | (have H2_ := (Option.bind_some _ _).symm.trans H; with_reducible exact H2_) | with_reducible exact H | (rw [hy219]; exact H) | exact H
    have Ny219 := Aside0.mk hy219
    clear hy219
    replace H := Option.bind_eq_some_iff.mp H
    obtain ⟨⟨t222, t223⟩, A150, H⟩ := H
    replace H : ((spec_l30Rd_one.f k1 s0_0 t223 (([0, 0, 3, 8] : List Int))).bind fun bt227 => ((spec_l30Rd_pick.f k1 s0_0 bt227.2 10).bind fun bt229 => (if t213 = t215 then (if (wrap64 (2 + t208)) = 0 then (none) else (if x211001_1.length < 3518437208883 then (spec_l30Net.l0 k1 (wrap64 (x4_1 - 1)) s0_0 bt229.2 (wrap64 (2 + t208)) (x211001_1 ++ [(⟨t213, Int.tmod (wrap64 (t215 + 1)) (wrap64 (2 + t208)), t222, bt227.1, bt229.1⟩ : S45)])) else (none))) else (if x211001_1.length < 3518437208883 then (spec_l30Net.l0 k1 (wrap64 (x4_1 - 1)) s0_0 bt229.2 (wrap64 (2 + t208)) (x211001_1 ++ [(⟨t213, t215, t222, bt227.1, bt229.1⟩ : S45)])) else (none))))) = some (r1, r2, r3) := H
    have A15 := Aside0.mk A150
    clear A150
    obtain ⟨y224, hy224⟩ : ∃ y_ : List Int, y_ = (([0, 0, 3, 8] : List Int)) := ⟨_, rfl⟩
    replace H : ((spec_l30Rd_one.f k1 s0_0 t223 y224).bind fun bt227 => ((spec_l30Rd_pick.f k1 s0_0 bt227.2 10).bind fun bt229 => (if t213 = t215 then (if (wrap64 (2 + t208)) = 0 then (none) else (if x211001_1.length < 3518437208883 then (spec_l30Net.l0 k1 (wrap64 (x4_1 - 1)) s0_0 bt229.2 (wrap64 (2 + t208)) (x211001_1 ++ [(⟨t213, Int.tmod (wrap64 (t215 + 1)) (wrap64 (2 + t208)), t222, bt227.1, bt229.1⟩ : S45)])) else (none))) else (if x211001_1.length < 3518437208883 then (spec_l30Net.l0 k1 (wrap64 (x4_1 - 1)) s0_0 bt229.2 (wrap64 (2 + t208)) (x211001_1 ++ [(⟨t213, t215, t222, bt227.1, bt229.1⟩ : S45)])) else (none))))) = some (r1, r2, r3) := by first | (rw [hy224]; with_reducible exact H) | (have H2_ := (Option.bind_some _ _).symm.trans H; rw [hy224]; with_reducible exact H2_) | (have H2_ := (Option.bind_some _ _).symm.trans H; with_reducible exact H2_) | with_reducible exact H | (rw [hy224]; exact H) | exact H
    have Ny224 := Aside0.mk hy224
    clear hy224
    replace H := Option.bind_eq_some_iff.mp H
    obtain ⟨⟨t227, t228⟩, A160, H⟩ := H
    replace H : ((spec_l30Rd_pick.f k1 s0_0 t228 10).bind fun bt229 => (if t213 = t215 then (if (wrap64 (2 + t208)) = 0 then (none) else (if x211001_1.length < 3518437208883 then (spec_l30Net.l0 k1 (wrap64 (x4_1 - 1)) s0_0 bt229.2 (wrap64 (2 + t208)) (x211001_1 ++ [(⟨t213, Int.tmod (wrap64 (t215 + 1)) (wrap64 (2 + t208)), t222, t227, bt229.1⟩ : S45)])) else (none))) else (if x211001_1.length < 3518437208883 then (spec_l30Net.l0 k1 (wrap64 (x4_1 - 1)) s0_0 bt229.2 (wrap64 (2 + t208)) (x211001_1 ++ [(⟨t213, t215, t222, t227, bt229.1⟩ : S45)])) else (none)))) = some (r1, r2, r3) := H
    have A16 := Aside0.mk A160
    clear A160
    replace H := Option.bind_eq_some_iff.mp H
    obtain ⟨⟨t229, t230⟩, A170, H⟩ := H
    replace H : (if t213 = t215 then (if (wrap64 (2 + t208)) = 0 then (none) else (if x211001_1.length < 3518437208883 then (spec_l30Net.l0 k1 (wrap64 (x4_1 - 1)) s0_0 t230 (wrap64 (2 + t208)) (x211001_1 ++ [(⟨t213, Int.tmod (wrap64 (t215 + 1)) (wrap64 (2 + t208)), t222, t227, t229⟩ : S45)])) else (none))) else (if x211001_1.length < 3518437208883 then (spec_l30Net.l0 k1 (wrap64 (x4_1 - 1)) s0_0 t230 (wrap64 (2 + t208)) (x211001_1 ++ [(⟨t213, t215, t222, t227, t229⟩ : S45)])) else (none))) = some (r1, r2, r3) := H
    have A17 := Aside0.mk A170
    clear A170
    by_cases c18 : t213 = t215
    ·rw [if_pos c18] at H
     have c18b0 : (t213 == t215) = true := beq_iff_eq.mpr c18
     have c18b1 : (t213 != t215) = false := bne_eq_false_iff_eq.mpr c18
     clear c18
     by_cases c19 : (wrap64 (2 + t208)) = 0
     ·rw [if_pos c19] at H
      exact absurd H (by simp)
     ·rw [if_neg c19] at H
      have c19b0 : ((wrap64 (2 + t208)) == 0) = false := beq_eq_false_iff_ne.mpr c19
      have c19b1 : ((wrap64 (2 + t208)) != 0) = true := bne_iff_ne.mpr c19
      by_cases c20 : x211001_1.length < 3518437208883
      ·rw [if_pos c20] at H
       have LMc20 := Aside0.mk c20
       clear c20
       obtain ⟨y232, hy232⟩ : ∃ y_ : List (S45), y_ = (x211001_1 ++ [(⟨t213, Int.tmod (wrap64 (t215 + 1)) (wrap64 (2 + t208)), t222, t227, t229⟩ : S45)]) := ⟨_, rfl⟩
       replace H : (spec_l30Net.l0 k1 (wrap64 (x4_1 - 1)) s0_0 t230 (wrap64 (2 + t208)) y232) = some (r1, r2, r3) := by first | (rw [hy232]; with_reducible exact H) | (have H2_ := (Option.bind_some _ _).symm.trans H; rw [hy232]; with_reducible exact H2_) | (have H2_ := (Option.bind_some _ _).symm.trans H; with_reducible exact H2_) | with_reducible exact H | (rw [hy232]; exact H) | exact H
       have Ny232 := Aside0.mk hy232
       clear hy232
       have H' := Aside0.mk H
       clear H
       try go_wp2
       have n0_ := Aside0.mk (Kd.R_drew HO_211001.out)
       have n1_ := Aside0.mk (blk_drew BK207.out)
       have n2_ := Aside0.mk (blk_drew BK210.out)
       have n3_ := Aside0.mk (IsS112.drew HI0.out)
       have n4_ := Aside0.mk (keep_drew HK.out)
       have n5_ := Aside0.mk (below_drew1 HB.out)
       clear HO_211001
       clear BK207
       clear BK210
       clear HI0
       clear HK
       clear HB
       have HO_211001 := n0_
       have BK207 := n1_
       have BK210 := n2_
       have HI0 := n3_
       have HK := n4_
       have HB := n5_
       clear n0_ n1_ n2_ n3_ n4_ n5_
       refine start_ (n := 21) (S := fun w' => True) (ds := []) #[false, false, false, false, false, false, false, false, false, false, false, false, false, false, false, false, false, false, false, false, false] (by kernel_rfl) rfl rfl trivial (fun hHeld => ?_); refine with_tabW spec_l30Net.tab5 spec_l30Net.bits5 (fun HT_ HW_ => ?_)
       generalize wr.drew = w21 at HO_211001 BK207 BK210 HI0 HK HB hHeld ⊢
       refine pure_ (i := 0) (N := some 16) (v := ?_) (a' := ?_) #[true, false, false, false, false, false, false, false, false, false, false, false, false, false, false, false, false, false, false, false, false] rfl rfl (any_of HT_.out (by kernel_rfl)) (fun _ _ _ h => h) (Or.inl ⟨by rfl, ?_⟩) ?_ ?_
       rotate_left
       ·intro w'
        go_simp
        with_reducible rfl
       rotate_left
       ·simp only [Act.put, List.setIfInBounds_toArray, List.set_cons_zero, List.set_cons_succ, i64_w, i32_w]
        rfl
       refine pure_ (i := 1) (N := some 17) (v := ?_) (a' := ?_) #[true, true, false, false, false, false, false, false, false, false, false, false, false, false, false, false, false, false, false, false, false] rfl rfl (any_of HT_.out (by kernel_rfl)) (fun _ _ _ h => h) (Or.inl ⟨by rfl, ?_⟩) ?_ ?_
       rotate_left
       ·intro w'
        go_simp
        with_reducible rfl
       rotate_left
       ·simp only [Act.put, List.setIfInBounds_toArray, List.set_cons_zero, List.set_cons_succ, i64_w, i32_w]
        rfl
       refine pure_ (i := 4) (N := some 20) (v := ?_) (a' := ?_) #[true, true, false, false, true, false, false, false, false, false, false, false, false, false, false, false, false, false, false, false, false] rfl rfl (any_of HT_.out (by kernel_rfl)) (fun _ _ _ h => h) (Or.inl ⟨by rfl, ?_⟩) ?_ ?_
       rotate_left
       ·intro w'
        go_simp
        with_reducible rfl
       rotate_left
       ·simp only [Act.put, List.setIfInBounds_toArray, List.set_cons_zero, List.set_cons_succ, i64_w, i32_w]
        rfl
       refine pure_ (i := 5) (N := some 21) (v := ?_) (a' := ?_) #[true, true, false, false, true, true, false, false, false, false, false, false, false, false, false, false, false, false, false, false, false] rfl rfl (any_of HT_.out (by kernel_rfl)) (fun _ _ _ h => h) (Or.inl ⟨by rfl, ?_⟩) ?_ ?_
       rotate_left
       ·intro w'
        go_simp
        with_reducible rfl
       rotate_left
       ·simp only [Act.put, List.setIfInBounds_toArray, List.set_cons_zero, List.set_cons_succ, i64_w, i32_w]
        rfl
       refine pure_ (i := 8) (N := some 24) (v := ?_) (a' := ?_) #[true, true, false, false, true, true, false, false, true, false, false, false, false, false, false, false, false, false, false, false, false] rfl rfl (any_of HT_.out (by kernel_rfl)) (fun _ _ _ h => h) (Or.inl ⟨by rfl, ?_⟩) ?_ ?_
       rotate_left
       ·intro w'
        go_simp
        with_reducible rfl
       rotate_left
       ·simp only [Act.put, List.setIfInBounds_toArray, List.set_cons_zero, List.set_cons_succ, i64_w, i32_w]
        rfl
       refine pure_ (i := 9) (N := some 25) (v := ?_) (a' := ?_) #[true, true, false, false, true, true, false, false, true, true, false, false, false, false, false, false, false, false, false, false, false] rfl rfl (any_of HT_.out (by kernel_rfl)) (fun _ _ _ h => h) (Or.inl ⟨by rfl, ?_⟩) ?_ ?_
       rotate_left
       ·intro w'
        go_simp
        with_reducible rfl
       rotate_left
       ·simp only [Act.put, List.setIfInBounds_toArray, List.set_cons_zero, List.set_cons_succ, i64_w, i32_w]
        rfl
       refine pure_ (i := 13) (N := some 29) (v := ?_) (a' := ?_) #[true, true, false, false, true, true, false, false, true, true, false, false, false, true, false, false, false, false, false, false, false] rfl rfl (any_of HT_.out (by kernel_rfl)) (fun _ _ _ h => h) (Or.inl ⟨by rfl, ?_⟩) ?_ ?_
       rotate_left
       ·intro w'
        go_simp
        with_reducible rfl
       rotate_left
       ·simp only [Act.put, List.setIfInBounds_toArray, List.set_cons_zero, List.set_cons_succ, i64_w, i32_w]
        rfl
       refine pure_ (i := 16) (N := some 32) (v := ?_) (a' := ?_) #[true, true, false, false, true, true, false, false, true, true, false, false, false, true, false, false, true, false, false, false, false] rfl rfl (any_of HT_.out (by kernel_rfl)) (fun _ _ _ h => h) (Or.inl ⟨by rfl, ?_⟩) ?_ ?_
       rotate_left
       ·intro w'
        go_simp
        with_reducible rfl
       rotate_left
       ·simp only [Act.put, List.setIfInBounds_toArray, List.set_cons_zero, List.set_cons_succ, i64_w, i32_w]
        rfl
       refine inv_at [2, 3, 6, 7, 10, 11, 12, 14, 15, 17, 18, 19, 20] (fun a0_ b a w' => ∃ (v220 : Value) (v225 : Value) (gb231 : Nat) (m19_ : Value), a = putSel a0_ b [(2, 18, .int .i64 (wrap64 (2 + t208))), (3, 19, .int .i64 t213), (6, 22, .int .i64 (wrap64 (2 + t208))), (7, 23, .int .i64 t215), (10, 26, .int .i64 t217), (11, 27, v220), (12, 28, .int .i64 t222), (14, 30, v225), (15, 31, .int .i64 t227), (17, 33, .int .i64 t229), (18, 34, .agg #[.int .i64 t213, .int .i64 t215, .int .i64 t222, .int .i64 t227, .int .i64 t229]), (19, 5, m19_)] ∧ (b 19 = false → Kd.R k45 45 w' w.heap.size (fun _ => True) u211001 x211001_1) ∧ (w'.heap[gb207]? = some (.cells #[.int .i64 0, .slice none 0 0] 38 (0, 0))) ∧ (w'.heap[gb210]? = some (.cells #[.int .i64 (wrap64 (2 + t208)), u211001] 38 (0, 0))) ∧ (b 3 = false → IsS112 w0 w' g s0_0 x1001_1) ∧ (KeepBut w w' g none) ∧ (Below w0.heap.size w0 w') ∧ (b 3 = true → b 7 = false → IsS112 w0 w' g s0_0 t214) ∧ (b 7 = true → b 10 = false → IsS112 w0 w' g s0_0 t216) ∧ (b 10 = true → b 12 = false → IsS112 w0 w' g s0_0 t218) ∧ (b 11 = true → Kd.R (Kd.int .i64) 3 w' w.heap.size (fun _ => True) v220 y219) ∧ (b 12 = true → b 15 = false → IsS112 w0 w' g s0_0 t223) ∧ (b 14 = true → Kd.R (Kd.int .i64) 3 w' w.heap.size (fun _ => True) v225 y224) ∧ (b 15 = true → b 17 = false → IsS112 w0 w' g s0_0 t228) ∧ (b 17 = true → IsS112 w0 w' g s0_0 t230) ∧ (b 19 = true → Kd.R k45 45 w' w.heap.size (fun k_ => k_ ≠ gb231) u211001 x211001_1) ∧ (b 19 = true → b 20 = false → w'.heap[gb231]? = some (.cells #[.int .i64 0, .int .i64 0, .int .i64 0, .int .i64 0, .int .i64 0] 45 (0, 0))) ∧ (b 19 = true → w.heap.size ≤ gb231) ∧ (b 19 = true → w0.heap.size ≤ gb231) ∧ (b 19 = true → g ≠ gb231) ∧ (b 19 = true → gb231 ≠ g) ∧ (b 19 = true → gb207 ≠ gb231) ∧ (b 19 = true → gb231 ≠ gb207) ∧ (b 19 = true → gb210 ≠ gb231) ∧ (b 19 = true → gb231 ≠ gb210) ∧ (b 20 = true → w'.heap[gb231]? = some (.cells #[.int .i64 t213, .int .i64 t215, .int .i64 t222, .int .i64 t227, .int .i64 t229] 45 (0, 0))) ∧ (b 19 = true → (m19_ : Value) = .pointer (some ⟨gb231, 0, none⟩))) HT_.out HW_.out (by kernel_rfl) (by kernel_rfl) ?_ ?_ ?_
       ·exact ⟨.bool false, .bool false, 0, .bool false, by simp only [putSel, Bool.false_eq_true, if_false], fun _ => HO_211001.out, BK207.out, BK210.out, fun _ => HI0.out, HK.out, HB.out, fun h_ => absurd h_ (by decide), fun h_ => absurd h_ (by decide), fun h_ => absurd h_ (by decide), fun h_ => absurd h_ (by decide), fun h_ => absurd h_ (by decide), fun h_ => absurd h_ (by decide), fun h_ => absurd h_ (by decide), fun h_ => absurd h_ (by decide), fun h_ => absurd h_ (by decide), fun h_ => absurd h_ (by decide), fun h_ => absurd h_ (by decide), fun h_ => absurd h_ (by decide), fun h_ => absurd h_ (by decide), fun h_ => absurd h_ (by decide), fun h_ => absurd h_ (by decide), fun h_ => absurd h_ (by decide), fun h_ => absurd h_ (by decide), fun h_ => absurd h_ (by decide), fun h_ => absurd h_ (by decide), fun h_ => absurd h_ (by decide)⟩
       ·skip
        clear BK207 BK210 HB HI0 HK HO_211001
        refine steps_cons ?_ ?_
        ·rintro b a w' ⟨v220, v225, gb231, m19_, ha, Q_HO_211001, Q_BK207, Q_BK210, Q_HI0, Q_HK, Q_HB, Q_HI0_e3, Q_HI0_e7, Q_HI0_e10, Q_HO221, Q_HI0_e12, Q_HO226, Q_HI0_e15, Q_HI0_e17, Q_HO_211001_e19, Q_BK231, Q_GW231, Q_GE231, Q_NB0_231, Q_NB231_0, Q_NB207_231, Q_NB231_207, Q_NB210_231, Q_NB231_210, Q_BK231_e20, Q_X19_⟩ hb_ hon hoff
         refine ⟨_, rfl, fun K hK => ?_⟩
         have e17 : a.tmps[17]? = some (.pointer (some ⟨gb210, 0, none⟩)) := by rw [ha]; exact (putSel_off rfl).trans rfl
         replace ha := Aside0.mk ha
         have BK207 := Aside0.mk Q_BK207
         have BK210 := Aside0.mk Q_BK210
         have HI0 := Aside0.mk (Q_HI0 (hoff 3 (by kernel_rfl)))
         have HK := Aside0.mk Q_HK
         have HB := Aside0.mk Q_HB
         have hc0_ : w'.cell? ⟨gb210, 0, none⟩ = some (.int .i64 (wrap64 (2 + t208))) := (blk_cell BK210.out 0).trans rfl
         have hc1_ : w'.cell? ⟨gb210, 1, none⟩ = some (u211001) := (blk_cell BK210.out 1).trans rfl
         refine value_ (w1 := w') (v := .int .i64 (wrap64 (2 + t208))) (by rfl) rfl ?_ ?_
         ·go_simp
          (try simp only [i64_w])
          try rfl
         refine hK.out _ _ ⟨v220, v225, gb231, m19_, (by rw [ha.out]; exact putSel_upk 0 hb_ rfl rfl rfl), Q_HO_211001, Q_BK207, Q_BK210, Q_HI0, Q_HK, Q_HB, fun h0_ _ => absurd ((hoff 3 (by kernel_rfl)).symm.trans h0_) (by decide), fun h0_ _ => absurd ((hoff 7 (by kernel_rfl)).symm.trans h0_) (by decide), fun h0_ _ => absurd ((hoff 10 (by kernel_rfl)).symm.trans h0_) (by decide), fun h0_ => absurd ((hoff 11 (by kernel_rfl)).symm.trans h0_) (by decide), fun h0_ _ => absurd ((hoff 12 (by kernel_rfl)).symm.trans h0_) (by decide), Q_HO226, fun h0_ _ => absurd ((hoff 15 (by kernel_rfl)).symm.trans h0_) (by decide), fun h0_ => absurd ((hoff 17 (by kernel_rfl)).symm.trans h0_) (by decide), Q_HO_211001_e19, Q_BK231, Q_GW231, Q_GE231, Q_NB0_231, Q_NB231_0, Q_NB207_231, Q_NB231_207, Q_NB210_231, Q_NB231_210, fun h0_ => absurd ((hoff 20 (by kernel_rfl)).symm.trans h0_) (by decide), Q_X19_⟩
        refine steps_cons ?_ ?_
        ·rintro b a w' ⟨v220, v225, gb231, m19_, ha, Q_HO_211001, Q_BK207, Q_BK210, Q_HI0, Q_HK, Q_HB, Q_HI0_e3, Q_HI0_e7, Q_HI0_e10, Q_HO221, Q_HI0_e12, Q_HO226, Q_HI0_e15, Q_HI0_e17, Q_HO_211001_e19, Q_BK231, Q_GW231, Q_GE231, Q_NB0_231, Q_NB231_0, Q_NB207_231, Q_NB231_207, Q_NB210_231, Q_NB231_210, Q_BK231_e20, Q_X19_⟩ hb_ hon hoff
         refine ⟨_, rfl, fun K hK => ?_⟩
         have e16 : a.tmps[16]? = some (.pointer (some ⟨g, 0, none⟩)) := by rw [ha]; exact (putSel_off rfl).trans rfl
         have e18 : a.tmps[18]? = some (.int .i64 (wrap64 (2 + t208))) := by rw [ha]; exact putSel_on (e := (2, 18, .int .i64 (wrap64 (2 + t208)))) 0 rfl rfl (hon 2 (by kernel_rfl)) rfl
         replace ha := Aside0.mk ha
         have BK207 := Aside0.mk Q_BK207
         have BK210 := Aside0.mk Q_BK210
         have HI0 := Aside0.mk (Q_HI0 hb_)
         have HK := Aside0.mk Q_HK
         have HB := Aside0.mk Q_HB
         refine goes_ Try.func74 (by kernel_rfl) rfl #[.pointer (some ⟨g, 0, none⟩), .int .i64 (wrap64 (2 + t208))] (by rfl) rfl rfl (by first | (simp only [List.map_toArray, List.map_cons, List.map_nil, Act.eval, Array.getD_eq_getD_getElem?, Option.getD_some, e16, e18]; done) | (simp only [List.map_toArray, List.map_cons, List.map_nil, Act.eval, Array.getD_eq_getD_getElem?, Option.getD_some, e16, e18]; rfl)) ?_
         with_reducible refine (spec_l30Rd_pick.calls k1 g s0_0 x1001_1 (wrap64 (2 + t208)) t213 t214 w0 _ ?side1 ?side2 A12.out).mono ?_
         (case side1 => repeat (first | (with_reducible first | exact HI0.out | apply IsS112.alloc | apply IsS112.drewN | apply IsS112.drew | apply IsS112.set_1 | refine IsS112.far ?_ NB0_207.out _ | refine IsS112.far ?_ NB0_210.out _) | exact HI0.out))
         (case side2 => repeat (first | (with_reducible first | exact HB.out | apply below_alloc | apply pw_below_drewN | apply below_drew1 | refine below_set ?_ (IsS112.ge HI0.out) | refine below_set ?_ GE207.out | refine below_set ?_ GE210.out) | exact HB.out))
         rintro e w22 ⟨rfl, hi, hb, hk⟩
         refine ⟨_, rfl, ?_⟩
         have n1_ := Aside0.mk (KeepBut.blk hk (g' := gb207) (o := .cells #[.int .i64 0, .slice none 0 0] 38 (0, 0)) (by (with_reducible repeat (first | refine blk_drewN ?_ _ | refine blk_drew ?_ | refine blk_alloc ?_ _)); exact BK207.out) NB207_0.out (by simp))
         have n2_ := Aside0.mk (KeepBut.blk hk (g' := gb210) (o := .cells #[.int .i64 (wrap64 (2 + t208)), u211001] 38 (0, 0)) (by (with_reducible repeat (first | refine blk_drewN ?_ _ | refine blk_drew ?_ | refine blk_alloc ?_ _)); exact BK210.out) NB210_0.out (by simp))
         have n3_ := Aside0.mk (KeepBut.trans (by repeat (first | (with_reducible first | exact HK.out | apply KeepBut.set_ | apply keep_drewN | apply keep_drew | apply keep_alloc | refine keep_far ?_ GW207.out _ | refine keep_far ?_ GW210.out _) | exact HK.out)) hk (.inl rfl))
         have n4_ := Aside0.mk (hb)
         have n5_ := Aside0.mk (hi)
         have z_HO_211001 := fun (h0_ : b 19 = false) => (show Kd.R k45 45 w22 w.heap.size (fun _ => True) u211001 x211001_1 from by first | exact (Kd.R_mono (Kd.R_keep (IsS112.apart (show IsS112 w0 _ g s0_0 x1001_1 from by repeat (first | (with_reducible first | exact HI0.out | apply IsS112.alloc | apply IsS112.drewN | apply IsS112.drew | apply IsS112.set_1 | refine IsS112.far ?_ NB0_207.out _ | refine IsS112.far ?_ NB0_210.out _) | exact HI0.out)) (by (with_reducible repeat (first | apply Kd.R_alloc | apply Kd.R_drewN | apply Kd.R_drew)); exact (Q_HO_211001 h0_)) (by decide)) hk (fun _ h => h.2)) (fun _ h => h.1)) | exact Kd.R_mono (Kd.R_mono (Kd.R_keep (IsS112.apart (show IsS112 w0 _ g s0_0 x1001_1 from by repeat (first | (with_reducible first | exact HI0.out | apply IsS112.alloc | apply IsS112.drewN | apply IsS112.drew | apply IsS112.set_1 | refine IsS112.far ?_ NB0_207.out _ | refine IsS112.far ?_ NB0_210.out _) | exact HI0.out)) (by (with_reducible repeat (first | apply Kd.R_alloc | apply Kd.R_drewN | apply Kd.R_drew)); exact (Q_HO_211001 h0_)) (by decide)) hk (fun _ h => h.2)) (fun _ h => h.1)) (fun _ h_ => by first | trivial | exact h_ | exact h_.1))
         have z_HO226 := fun (h0_ : b 14 = true) => (show Kd.R (Kd.int .i64) 3 w22 w.heap.size (fun _ => True) v225 y224 from by first | exact (Kd.R_mono (Kd.R_keep (IsS112.apart (show IsS112 w0 _ g s0_0 x1001_1 from by repeat (first | (with_reducible first | exact HI0.out | apply IsS112.alloc | apply IsS112.drewN | apply IsS112.drew | apply IsS112.set_1 | refine IsS112.far ?_ NB0_207.out _ | refine IsS112.far ?_ NB0_210.out _) | exact HI0.out)) (by (with_reducible repeat (first | apply Kd.R_alloc | apply Kd.R_drewN | apply Kd.R_drew)); exact (Q_HO226 h0_)) (by decide)) hk (fun _ h => h.2)) (fun _ h => h.1)) | exact Kd.R_mono (Kd.R_mono (Kd.R_keep (IsS112.apart (show IsS112 w0 _ g s0_0 x1001_1 from by repeat (first | (with_reducible first | exact HI0.out | apply IsS112.alloc | apply IsS112.drewN | apply IsS112.drew | apply IsS112.set_1 | refine IsS112.far ?_ NB0_207.out _ | refine IsS112.far ?_ NB0_210.out _) | exact HI0.out)) (by (with_reducible repeat (first | apply Kd.R_alloc | apply Kd.R_drewN | apply Kd.R_drew)); exact (Q_HO226 h0_)) (by decide)) hk (fun _ h => h.2)) (fun _ h => h.1)) (fun _ h_ => by first | trivial | exact h_ | exact h_.1))
         have z_HO_211001_e19 := fun (h0_ : b 19 = true) => (show Kd.R k45 45 w22 w.heap.size (fun k_ => k_ ≠ gb231) u211001 x211001_1 from by first | exact (Kd.R_mono (Kd.R_keep (IsS112.apart (show IsS112 w0 _ g s0_0 x1001_1 from by repeat (first | (with_reducible first | exact HI0.out | apply IsS112.alloc | apply IsS112.drewN | apply IsS112.drew | apply IsS112.set_1 | refine IsS112.far ?_ NB0_207.out _ | refine IsS112.far ?_ NB0_210.out _) | exact HI0.out)) (by (with_reducible repeat (first | apply Kd.R_alloc | apply Kd.R_drewN | apply Kd.R_drew)); exact (Q_HO_211001_e19 h0_)) (by decide)) hk (fun _ h => h.2)) (fun _ h => h.1)) | exact Kd.R_mono (Kd.R_mono (Kd.R_keep (IsS112.apart (show IsS112 w0 _ g s0_0 x1001_1 from by repeat (first | (with_reducible first | exact HI0.out | apply IsS112.alloc | apply IsS112.drewN | apply IsS112.drew | apply IsS112.set_1 | refine IsS112.far ?_ NB0_207.out _ | refine IsS112.far ?_ NB0_210.out _) | exact HI0.out)) (by (with_reducible repeat (first | apply Kd.R_alloc | apply Kd.R_drewN | apply Kd.R_drew)); exact (Q_HO_211001_e19 h0_)) (by decide)) hk (fun _ h => h.2)) (fun _ h => h.1)) (fun _ h_ => by first | trivial | exact h_ | exact h_.1))
         have z_BK231 := fun (h0_ : b 19 = true) (h1_ : b 20 = false) => (show w22.heap[gb231]? = some (.cells #[.int .i64 0, .int .i64 0, .int .i64 0, .int .i64 0, .int .i64 0] 45 (0, 0)) from by first | exact (KeepBut.blk hk (g' := gb231) (o := .cells #[.int .i64 0, .int .i64 0, .int .i64 0, .int .i64 0, .int .i64 0] 45 (0, 0)) (by (with_reducible repeat (first | refine blk_drewN ?_ _ | refine blk_drew ?_ | refine blk_alloc ?_ _)); exact (Q_BK231 h0_ h1_)) (Q_NB231_0 h0_) (by simp)))
         clear BK207
         clear BK210
         clear HK
         clear HB
         clear HI0
         have BK207 := n1_
         have BK210 := n2_
         have HK := n3_
         have HB := n4_
         have HI0 := n5_
         clear n1_ n2_ n3_ n4_ n5_
         (try clear hb)
         (try clear hb2)
         (try clear hk)
         (try clear hi)
         refine hK.out _ _ ⟨v220, v225, gb231, m19_, (by rw [ha.out]; exact putSel_upk 1 hb_ rfl rfl rfl), z_HO_211001, (by (with_reducible repeat (first | refine blk_drewN ?_ _ | refine blk_drew ?_ | refine blk_alloc ?_ _)); exact BK207.out), (by (with_reducible repeat (first | refine blk_drewN ?_ _ | refine blk_drew ?_ | refine blk_alloc ?_ _)); exact BK210.out), fun h0_ => absurd ((up_self b 3).symm.trans h0_) (by decide), (by repeat (first | (with_reducible first | exact HK.out | apply KeepBut.set_ | apply keep_drewN | apply keep_drew | apply keep_alloc | refine keep_far ?_ GW207.out _ | refine keep_far ?_ GW210.out _) | exact HK.out)), (by repeat (first | (with_reducible first | exact HB.out | apply below_alloc | apply pw_below_drewN | apply below_drew1 | refine below_set ?_ (IsS112.ge HI0.out) | refine below_set ?_ GE207.out | refine below_set ?_ GE210.out) | exact HB.out)), fun _ _ => (by repeat (first | (with_reducible first | exact HI0.out | apply IsS112.alloc | apply IsS112.drewN | apply IsS112.drew | apply IsS112.set_1 | refine IsS112.far ?_ NB0_207.out _ | refine IsS112.far ?_ NB0_210.out _) | exact HI0.out)), fun h0_ _ => absurd ((hoff 7 (by kernel_rfl)).symm.trans h0_) (by decide), fun h0_ _ => absurd ((hoff 10 (by kernel_rfl)).symm.trans h0_) (by decide), fun h0_ => absurd ((hoff 11 (by kernel_rfl)).symm.trans h0_) (by decide), fun h0_ _ => absurd ((hoff 12 (by kernel_rfl)).symm.trans h0_) (by decide), z_HO226, fun h0_ _ => absurd ((hoff 15 (by kernel_rfl)).symm.trans h0_) (by decide), fun h0_ => absurd ((hoff 17 (by kernel_rfl)).symm.trans h0_) (by decide), z_HO_211001_e19, z_BK231, Q_GW231, Q_GE231, Q_NB0_231, Q_NB231_0, Q_NB207_231, Q_NB231_207, Q_NB210_231, Q_NB231_210, fun h0_ => absurd ((hoff 20 (by kernel_rfl)).symm.trans h0_) (by decide), Q_X19_⟩
        refine steps_cons ?_ ?_
        ·rintro b a w' ⟨v220, v225, gb231, m19_, ha, Q_HO_211001, Q_BK207, Q_BK210, Q_HI0, Q_HK, Q_HB, Q_HI0_e3, Q_HI0_e7, Q_HI0_e10, Q_HO221, Q_HI0_e12, Q_HO226, Q_HI0_e15, Q_HI0_e17, Q_HO_211001_e19, Q_BK231, Q_GW231, Q_GE231, Q_NB0_231, Q_NB231_0, Q_NB207_231, Q_NB231_207, Q_NB210_231, Q_NB231_210, Q_BK231_e20, Q_X19_⟩ hb_ hon hoff
         refine ⟨_, rfl, fun K hK => ?_⟩
         have e21 : a.tmps[21]? = some (.pointer (some ⟨gb210, 0, none⟩)) := by rw [ha]; exact (putSel_off rfl).trans rfl
         replace ha := Aside0.mk ha
         have BK207 := Aside0.mk Q_BK207
         have BK210 := Aside0.mk Q_BK210
         have HK := Aside0.mk Q_HK
         have HB := Aside0.mk Q_HB
         have hc0_ : w'.cell? ⟨gb210, 0, none⟩ = some (.int .i64 (wrap64 (2 + t208))) := (blk_cell BK210.out 0).trans rfl
         have hc1_ : w'.cell? ⟨gb210, 1, none⟩ = some (u211001) := (blk_cell BK210.out 1).trans rfl
         refine value_ (w1 := w') (v := .int .i64 (wrap64 (2 + t208))) (by rfl) rfl ?_ ?_
         ·go_simp
          (try simp only [i64_w])
          try rfl
         refine hK.out _ _ ⟨v220, v225, gb231, m19_, (by rw [ha.out]; exact putSel_upk 2 hb_ rfl rfl rfl), Q_HO_211001, Q_BK207, Q_BK210, Q_HI0, Q_HK, Q_HB, Q_HI0_e3, fun h0_ _ => absurd ((hoff 7 (by kernel_rfl)).symm.trans h0_) (by decide), fun h0_ _ => absurd ((hoff 10 (by kernel_rfl)).symm.trans h0_) (by decide), fun h0_ => absurd ((hoff 11 (by kernel_rfl)).symm.trans h0_) (by decide), fun h0_ _ => absurd ((hoff 12 (by kernel_rfl)).symm.trans h0_) (by decide), Q_HO226, fun h0_ _ => absurd ((hoff 15 (by kernel_rfl)).symm.trans h0_) (by decide), fun h0_ => absurd ((hoff 17 (by kernel_rfl)).symm.trans h0_) (by decide), Q_HO_211001_e19, Q_BK231, Q_GW231, Q_GE231, Q_NB0_231, Q_NB231_0, Q_NB207_231, Q_NB231_207, Q_NB210_231, Q_NB231_210, fun h0_ => absurd ((hoff 20 (by kernel_rfl)).symm.trans h0_) (by decide), Q_X19_⟩
        refine steps_cons ?_ ?_
        ·rintro b a w' ⟨v220, v225, gb231, m19_, ha, Q_HO_211001, Q_BK207, Q_BK210, Q_HI0, Q_HK, Q_HB, Q_HI0_e3, Q_HI0_e7, Q_HI0_e10, Q_HO221, Q_HI0_e12, Q_HO226, Q_HI0_e15, Q_HI0_e17, Q_HO_211001_e19, Q_BK231, Q_GW231, Q_GE231, Q_NB0_231, Q_NB231_0, Q_NB207_231, Q_NB231_207, Q_NB210_231, Q_NB231_210, Q_BK231_e20, Q_X19_⟩ hb_ hon hoff
         refine ⟨_, rfl, fun K hK => ?_⟩
         have e20 : a.tmps[20]? = some (.pointer (some ⟨g, 0, none⟩)) := by rw [ha]; exact (putSel_off rfl).trans rfl
         have e22 : a.tmps[22]? = some (.int .i64 (wrap64 (2 + t208))) := by rw [ha]; exact putSel_on (e := (6, 22, .int .i64 (wrap64 (2 + t208)))) 2 rfl rfl (hon 6 (by kernel_rfl)) rfl
         replace ha := Aside0.mk ha
         have BK207 := Aside0.mk Q_BK207
         have BK210 := Aside0.mk Q_BK210
         have HK := Aside0.mk Q_HK
         have HB := Aside0.mk Q_HB
         have HI0 := Aside0.mk (Q_HI0_e3 (hon 3 (by kernel_rfl)) hb_)
         refine goes_ Try.func74 (by kernel_rfl) rfl #[.pointer (some ⟨g, 0, none⟩), .int .i64 (wrap64 (2 + t208))] (by rfl) rfl rfl (by first | (simp only [List.map_toArray, List.map_cons, List.map_nil, Act.eval, Array.getD_eq_getD_getElem?, Option.getD_some, e20, e22]; done) | (simp only [List.map_toArray, List.map_cons, List.map_nil, Act.eval, Array.getD_eq_getD_getElem?, Option.getD_some, e20, e22]; rfl)) ?_
         with_reducible refine (spec_l30Rd_pick.calls k1 g s0_0 t214 (wrap64 (2 + t208)) t215 t216 w0 _ ?side1 ?side2 A13.out).mono ?_
         (case side1 => repeat (first | (with_reducible first | exact HI0.out | apply IsS112.alloc | apply IsS112.drewN | apply IsS112.drew | apply IsS112.set_1 | refine IsS112.far ?_ NB0_207.out _ | refine IsS112.far ?_ NB0_210.out _) | exact HI0.out))
         (case side2 => repeat (first | (with_reducible first | exact HB.out | apply below_alloc | apply pw_below_drewN | apply below_drew1 | refine below_set ?_ (IsS112.ge HI0.out) | refine below_set ?_ GE207.out | refine below_set ?_ GE210.out) | exact HB.out))
         rintro e w24 ⟨rfl, hi, hb, hk⟩
         refine ⟨_, rfl, ?_⟩
         have n1_ := Aside0.mk (KeepBut.blk hk (g' := gb207) (o := .cells #[.int .i64 0, .slice none 0 0] 38 (0, 0)) (by (with_reducible repeat (first | refine blk_drewN ?_ _ | refine blk_drew ?_ | refine blk_alloc ?_ _)); exact BK207.out) NB207_0.out (by simp))
         have n2_ := Aside0.mk (KeepBut.blk hk (g' := gb210) (o := .cells #[.int .i64 (wrap64 (2 + t208)), u211001] 38 (0, 0)) (by (with_reducible repeat (first | refine blk_drewN ?_ _ | refine blk_drew ?_ | refine blk_alloc ?_ _)); exact BK210.out) NB210_0.out (by simp))
         have n3_ := Aside0.mk (KeepBut.trans (by repeat (first | (with_reducible first | exact HK.out | apply KeepBut.set_ | apply keep_drewN | apply keep_drew | apply keep_alloc | refine keep_far ?_ GW207.out _ | refine keep_far ?_ GW210.out _) | exact HK.out)) hk (.inl rfl))
         have n4_ := Aside0.mk (hb)
         have n5_ := Aside0.mk (hi)
         have z_HO_211001 := fun (h0_ : b 19 = false) => (show Kd.R k45 45 w24 w.heap.size (fun _ => True) u211001 x211001_1 from by first | exact (Kd.R_mono (Kd.R_keep (IsS112.apart (show IsS112 w0 _ g s0_0 t214 from by repeat (first | (with_reducible first | exact HI0.out | apply IsS112.alloc | apply IsS112.drewN | apply IsS112.drew | apply IsS112.set_1 | refine IsS112.far ?_ NB0_207.out _ | refine IsS112.far ?_ NB0_210.out _) | exact HI0.out)) (by (with_reducible repeat (first | apply Kd.R_alloc | apply Kd.R_drewN | apply Kd.R_drew)); exact (Q_HO_211001 h0_)) (by decide)) hk (fun _ h => h.2)) (fun _ h => h.1)) | exact Kd.R_mono (Kd.R_mono (Kd.R_keep (IsS112.apart (show IsS112 w0 _ g s0_0 t214 from by repeat (first | (with_reducible first | exact HI0.out | apply IsS112.alloc | apply IsS112.drewN | apply IsS112.drew | apply IsS112.set_1 | refine IsS112.far ?_ NB0_207.out _ | refine IsS112.far ?_ NB0_210.out _) | exact HI0.out)) (by (with_reducible repeat (first | apply Kd.R_alloc | apply Kd.R_drewN | apply Kd.R_drew)); exact (Q_HO_211001 h0_)) (by decide)) hk (fun _ h => h.2)) (fun _ h => h.1)) (fun _ h_ => by first | trivial | exact h_ | exact h_.1))
         have z_HO226 := fun (h0_ : b 14 = true) => (show Kd.R (Kd.int .i64) 3 w24 w.heap.size (fun _ => True) v225 y224 from by first | exact (Kd.R_mono (Kd.R_keep (IsS112.apart (show IsS112 w0 _ g s0_0 t214 from by repeat (first | (with_reducible first | exact HI0.out | apply IsS112.alloc | apply IsS112.drewN | apply IsS112.drew | apply IsS112.set_1 | refine IsS112.far ?_ NB0_207.out _ | refine IsS112.far ?_ NB0_210.out _) | exact HI0.out)) (by (with_reducible repeat (first | apply Kd.R_alloc | apply Kd.R_drewN | apply Kd.R_drew)); exact (Q_HO226 h0_)) (by decide)) hk (fun _ h => h.2)) (fun _ h => h.1)) | exact Kd.R_mono (Kd.R_mono (Kd.R_keep (IsS112.apart (show IsS112 w0 _ g s0_0 t214 from by repeat (first | (with_reducible first | exact HI0.out | apply IsS112.alloc | apply IsS112.drewN | apply IsS112.drew | apply IsS112.set_1 | refine IsS112.far ?_ NB0_207.out _ | refine IsS112.far ?_ NB0_210.out _) | exact HI0.out)) (by (with_reducible repeat (first | apply Kd.R_alloc | apply Kd.R_drewN | apply Kd.R_drew)); exact (Q_HO226 h0_)) (by decide)) hk (fun _ h => h.2)) (fun _ h => h.1)) (fun _ h_ => by first | trivial | exact h_ | exact h_.1))
         have z_HO_211001_e19 := fun (h0_ : b 19 = true) => (show Kd.R k45 45 w24 w.heap.size (fun k_ => k_ ≠ gb231) u211001 x211001_1 from by first | exact (Kd.R_mono (Kd.R_keep (IsS112.apart (show IsS112 w0 _ g s0_0 t214 from by repeat (first | (with_reducible first | exact HI0.out | apply IsS112.alloc | apply IsS112.drewN | apply IsS112.drew | apply IsS112.set_1 | refine IsS112.far ?_ NB0_207.out _ | refine IsS112.far ?_ NB0_210.out _) | exact HI0.out)) (by (with_reducible repeat (first | apply Kd.R_alloc | apply Kd.R_drewN | apply Kd.R_drew)); exact (Q_HO_211001_e19 h0_)) (by decide)) hk (fun _ h => h.2)) (fun _ h => h.1)) | exact Kd.R_mono (Kd.R_mono (Kd.R_keep (IsS112.apart (show IsS112 w0 _ g s0_0 t214 from by repeat (first | (with_reducible first | exact HI0.out | apply IsS112.alloc | apply IsS112.drewN | apply IsS112.drew | apply IsS112.set_1 | refine IsS112.far ?_ NB0_207.out _ | refine IsS112.far ?_ NB0_210.out _) | exact HI0.out)) (by (with_reducible repeat (first | apply Kd.R_alloc | apply Kd.R_drewN | apply Kd.R_drew)); exact (Q_HO_211001_e19 h0_)) (by decide)) hk (fun _ h => h.2)) (fun _ h => h.1)) (fun _ h_ => by first | trivial | exact h_ | exact h_.1))
         have z_BK231 := fun (h0_ : b 19 = true) (h1_ : b 20 = false) => (show w24.heap[gb231]? = some (.cells #[.int .i64 0, .int .i64 0, .int .i64 0, .int .i64 0, .int .i64 0] 45 (0, 0)) from by first | exact (KeepBut.blk hk (g' := gb231) (o := .cells #[.int .i64 0, .int .i64 0, .int .i64 0, .int .i64 0, .int .i64 0] 45 (0, 0)) (by (with_reducible repeat (first | refine blk_drewN ?_ _ | refine blk_drew ?_ | refine blk_alloc ?_ _)); exact (Q_BK231 h0_ h1_)) (Q_NB231_0 h0_) (by simp)))
         clear BK207
         clear BK210
         clear HK
         clear HB
         clear HI0
         have BK207 := n1_
         have BK210 := n2_
         have HK := n3_
         have HB := n4_
         have HI0 := n5_
         clear n1_ n2_ n3_ n4_ n5_
         (try clear hb)
         (try clear hb2)
         (try clear hk)
         (try clear hi)
         refine hK.out _ _ ⟨v220, v225, gb231, m19_, (by rw [ha.out]; exact putSel_upk 3 hb_ rfl rfl rfl), z_HO_211001, (by (with_reducible repeat (first | refine blk_drewN ?_ _ | refine blk_drew ?_ | refine blk_alloc ?_ _)); exact BK207.out), (by (with_reducible repeat (first | refine blk_drewN ?_ _ | refine blk_drew ?_ | refine blk_alloc ?_ _)); exact BK210.out), fun h0_ => absurd ((hon 3 (by kernel_rfl)).symm.trans h0_) (by decide), (by repeat (first | (with_reducible first | exact HK.out | apply KeepBut.set_ | apply keep_drewN | apply keep_drew | apply keep_alloc | refine keep_far ?_ GW207.out _ | refine keep_far ?_ GW210.out _) | exact HK.out)), (by repeat (first | (with_reducible first | exact HB.out | apply below_alloc | apply pw_below_drewN | apply below_drew1 | refine below_set ?_ (IsS112.ge HI0.out) | refine below_set ?_ GE207.out | refine below_set ?_ GE210.out) | exact HB.out)), fun _ h1_ => absurd ((up_self b 7).symm.trans h1_) (by decide), fun _ _ => (by repeat (first | (with_reducible first | exact HI0.out | apply IsS112.alloc | apply IsS112.drewN | apply IsS112.drew | apply IsS112.set_1 | refine IsS112.far ?_ NB0_207.out _ | refine IsS112.far ?_ NB0_210.out _) | exact HI0.out)), fun h0_ _ => absurd ((hoff 10 (by kernel_rfl)).symm.trans h0_) (by decide), fun h0_ => absurd ((hoff 11 (by kernel_rfl)).symm.trans h0_) (by decide), fun h0_ _ => absurd ((hoff 12 (by kernel_rfl)).symm.trans h0_) (by decide), z_HO226, fun h0_ _ => absurd ((hoff 15 (by kernel_rfl)).symm.trans h0_) (by decide), fun h0_ => absurd ((hoff 17 (by kernel_rfl)).symm.trans h0_) (by decide), z_HO_211001_e19, z_BK231, Q_GW231, Q_GE231, Q_NB0_231, Q_NB231_0, Q_NB207_231, Q_NB231_207, Q_NB210_231, Q_NB231_210, fun h0_ => absurd ((hoff 20 (by kernel_rfl)).symm.trans h0_) (by decide), Q_X19_⟩
        refine steps_cons ?_ ?_
        ·rintro b a w' ⟨v220, v225, gb231, m19_, ha, Q_HO_211001, Q_BK207, Q_BK210, Q_HI0, Q_HK, Q_HB, Q_HI0_e3, Q_HI0_e7, Q_HI0_e10, Q_HO221, Q_HI0_e12, Q_HO226, Q_HI0_e15, Q_HI0_e17, Q_HO_211001_e19, Q_BK231, Q_GW231, Q_GE231, Q_NB0_231, Q_NB231_0, Q_NB207_231, Q_NB231_207, Q_NB210_231, Q_NB231_210, Q_BK231_e20, Q_X19_⟩ hb_ hon hoff
         refine ⟨_, rfl, fun K hK => ?_⟩
         have e25 : a.tmps[25]? = some (.pointer (some ⟨g, 0, none⟩)) := by rw [ha]; exact (putSel_off rfl).trans rfl
         replace ha := Aside0.mk ha
         have BK207 := Aside0.mk Q_BK207
         have BK210 := Aside0.mk Q_BK210
         have HK := Aside0.mk Q_HK
         have HB := Aside0.mk Q_HB
         have HI0 := Aside0.mk (Q_HI0_e7 (hon 7 (by kernel_rfl)) hb_)
         refine goes_ Try.func74 (by kernel_rfl) rfl #[.pointer (some ⟨g, 0, none⟩), .int .i64 100] (by rfl) rfl rfl (by first | (simp only [List.map_toArray, List.map_cons, List.map_nil, Act.eval, Array.getD_eq_getD_getElem?, Option.getD_some, e25]; done) | (simp only [List.map_toArray, List.map_cons, List.map_nil, Act.eval, Array.getD_eq_getD_getElem?, Option.getD_some, e25]; rfl)) ?_
         with_reducible refine (spec_l30Rd_pick.calls k1 g s0_0 t216 100 t217 t218 w0 _ ?side1 ?side2 A14.out).mono ?_
         (case side1 => repeat (first | (with_reducible first | exact HI0.out | apply IsS112.alloc | apply IsS112.drewN | apply IsS112.drew | apply IsS112.set_1 | refine IsS112.far ?_ NB0_207.out _ | refine IsS112.far ?_ NB0_210.out _) | exact HI0.out))
         (case side2 => repeat (first | (with_reducible first | exact HB.out | apply below_alloc | apply pw_below_drewN | apply below_drew1 | refine below_set ?_ (IsS112.ge HI0.out) | refine below_set ?_ GE207.out | refine below_set ?_ GE210.out) | exact HB.out))
         rintro e w25 ⟨rfl, hi, hb, hk⟩
         refine ⟨_, rfl, ?_⟩
         have n1_ := Aside0.mk (KeepBut.blk hk (g' := gb207) (o := .cells #[.int .i64 0, .slice none 0 0] 38 (0, 0)) (by (with_reducible repeat (first | refine blk_drewN ?_ _ | refine blk_drew ?_ | refine blk_alloc ?_ _)); exact BK207.out) NB207_0.out (by simp))
         have n2_ := Aside0.mk (KeepBut.blk hk (g' := gb210) (o := .cells #[.int .i64 (wrap64 (2 + t208)), u211001] 38 (0, 0)) (by (with_reducible repeat (first | refine blk_drewN ?_ _ | refine blk_drew ?_ | refine blk_alloc ?_ _)); exact BK210.out) NB210_0.out (by simp))
         have n3_ := Aside0.mk (KeepBut.trans (by repeat (first | (with_reducible first | exact HK.out | apply KeepBut.set_ | apply keep_drewN | apply keep_drew | apply keep_alloc | refine keep_far ?_ GW207.out _ | refine keep_far ?_ GW210.out _) | exact HK.out)) hk (.inl rfl))
         have n4_ := Aside0.mk (hb)
         have n5_ := Aside0.mk (hi)
         have z_HO_211001 := fun (h0_ : b 19 = false) => (show Kd.R k45 45 w25 w.heap.size (fun _ => True) u211001 x211001_1 from by first | exact (Kd.R_mono (Kd.R_keep (IsS112.apart (show IsS112 w0 _ g s0_0 t216 from by repeat (first | (with_reducible first | exact HI0.out | apply IsS112.alloc | apply IsS112.drewN | apply IsS112.drew | apply IsS112.set_1 | refine IsS112.far ?_ NB0_207.out _ | refine IsS112.far ?_ NB0_210.out _) | exact HI0.out)) (by (with_reducible repeat (first | apply Kd.R_alloc | apply Kd.R_drewN | apply Kd.R_drew)); exact (Q_HO_211001 h0_)) (by decide)) hk (fun _ h => h.2)) (fun _ h => h.1)) | exact Kd.R_mono (Kd.R_mono (Kd.R_keep (IsS112.apart (show IsS112 w0 _ g s0_0 t216 from by repeat (first | (with_reducible first | exact HI0.out | apply IsS112.alloc | apply IsS112.drewN | apply IsS112.drew | apply IsS112.set_1 | refine IsS112.far ?_ NB0_207.out _ | refine IsS112.far ?_ NB0_210.out _) | exact HI0.out)) (by (with_reducible repeat (first | apply Kd.R_alloc | apply Kd.R_drewN | apply Kd.R_drew)); exact (Q_HO_211001 h0_)) (by decide)) hk (fun _ h => h.2)) (fun _ h => h.1)) (fun _ h_ => by first | trivial | exact h_ | exact h_.1))
         have z_HO226 := fun (h0_ : b 14 = true) => (show Kd.R (Kd.int .i64) 3 w25 w.heap.size (fun _ => True) v225 y224 from by first | exact (Kd.R_mono (Kd.R_keep (IsS112.apart (show IsS112 w0 _ g s0_0 t216 from by repeat (first | (with_reducible first | exact HI0.out | apply IsS112.alloc | apply IsS112.drewN | apply IsS112.drew | apply IsS112.set_1 | refine IsS112.far ?_ NB0_207.out _ | refine IsS112.far ?_ NB0_210.out _) | exact HI0.out)) (by (with_reducible repeat (first | apply Kd.R_alloc | apply Kd.R_drewN | apply Kd.R_drew)); exact (Q_HO226 h0_)) (by decide)) hk (fun _ h => h.2)) (fun _ h => h.1)) | exact Kd.R_mono (Kd.R_mono (Kd.R_keep (IsS112.apart (show IsS112 w0 _ g s0_0 t216 from by repeat (first | (with_reducible first | exact HI0.out | apply IsS112.alloc | apply IsS112.drewN | apply IsS112.drew | apply IsS112.set_1 | refine IsS112.far ?_ NB0_207.out _ | refine IsS112.far ?_ NB0_210.out _) | exact HI0.out)) (by (with_reducible repeat (first | apply Kd.R_alloc | apply Kd.R_drewN | apply Kd.R_drew)); exact (Q_HO226 h0_)) (by decide)) hk (fun _ h => h.2)) (fun _ h => h.1)) (fun _ h_ => by first | trivial | exact h_ | exact h_.1))
         have z_HO_211001_e19 := fun (h0_ : b 19 = true) => (show Kd.R k45 45 w25 w.heap.size (fun k_ => k_ ≠ gb231) u211001 x211001_1 from by first | exact (Kd.R_mono (Kd.R_keep (IsS112.apart (show IsS112 w0 _ g s0_0 t216 from by repeat (first | (with_reducible first | exact HI0.out | apply IsS112.alloc | apply IsS112.drewN | apply IsS112.drew | apply IsS112.set_1 | refine IsS112.far ?_ NB0_207.out _ | refine IsS112.far ?_ NB0_210.out _) | exact HI0.out)) (by (with_reducible repeat (first | apply Kd.R_alloc | apply Kd.R_drewN | apply Kd.R_drew)); exact (Q_HO_211001_e19 h0_)) (by decide)) hk (fun _ h => h.2)) (fun _ h => h.1)) | exact Kd.R_mono (Kd.R_mono (Kd.R_keep (IsS112.apart (show IsS112 w0 _ g s0_0 t216 from by repeat (first | (with_reducible first | exact HI0.out | apply IsS112.alloc | apply IsS112.drewN | apply IsS112.drew | apply IsS112.set_1 | refine IsS112.far ?_ NB0_207.out _ | refine IsS112.far ?_ NB0_210.out _) | exact HI0.out)) (by (with_reducible repeat (first | apply Kd.R_alloc | apply Kd.R_drewN | apply Kd.R_drew)); exact (Q_HO_211001_e19 h0_)) (by decide)) hk (fun _ h => h.2)) (fun _ h => h.1)) (fun _ h_ => by first | trivial | exact h_ | exact h_.1))
         have z_BK231 := fun (h0_ : b 19 = true) (h1_ : b 20 = false) => (show w25.heap[gb231]? = some (.cells #[.int .i64 0, .int .i64 0, .int .i64 0, .int .i64 0, .int .i64 0] 45 (0, 0)) from by first | exact (KeepBut.blk hk (g' := gb231) (o := .cells #[.int .i64 0, .int .i64 0, .int .i64 0, .int .i64 0, .int .i64 0] 45 (0, 0)) (by (with_reducible repeat (first | refine blk_drewN ?_ _ | refine blk_drew ?_ | refine blk_alloc ?_ _)); exact (Q_BK231 h0_ h1_)) (Q_NB231_0 h0_) (by simp)))
         clear BK207
         clear BK210
         clear HK
         clear HB
         clear HI0
         have BK207 := n1_
         have BK210 := n2_
         have HK := n3_
         have HB := n4_
         have HI0 := n5_
         clear n1_ n2_ n3_ n4_ n5_
         (try clear hb)
         (try clear hb2)
         (try clear hk)
         (try clear hi)
         refine hK.out _ _ ⟨v220, v225, gb231, m19_, (by rw [ha.out]; exact putSel_upk 4 hb_ rfl rfl rfl), z_HO_211001, (by (with_reducible repeat (first | refine blk_drewN ?_ _ | refine blk_drew ?_ | refine blk_alloc ?_ _)); exact BK207.out), (by (with_reducible repeat (first | refine blk_drewN ?_ _ | refine blk_drew ?_ | refine blk_alloc ?_ _)); exact BK210.out), fun h0_ => absurd ((hon 3 (by kernel_rfl)).symm.trans h0_) (by decide), (by repeat (first | (with_reducible first | exact HK.out | apply KeepBut.set_ | apply keep_drewN | apply keep_drew | apply keep_alloc | refine keep_far ?_ GW207.out _ | refine keep_far ?_ GW210.out _) | exact HK.out)), (by repeat (first | (with_reducible first | exact HB.out | apply below_alloc | apply pw_below_drewN | apply below_drew1 | refine below_set ?_ (IsS112.ge HI0.out) | refine below_set ?_ GE207.out | refine below_set ?_ GE210.out) | exact HB.out)), fun _ h1_ => absurd ((hon 7 (by kernel_rfl)).symm.trans h1_) (by decide), fun _ h1_ => absurd ((up_self b 10).symm.trans h1_) (by decide), fun _ _ => (by repeat (first | (with_reducible first | exact HI0.out | apply IsS112.alloc | apply IsS112.drewN | apply IsS112.drew | apply IsS112.set_1 | refine IsS112.far ?_ NB0_207.out _ | refine IsS112.far ?_ NB0_210.out _) | exact HI0.out)), fun h0_ => absurd ((hoff 11 (by kernel_rfl)).symm.trans h0_) (by decide), fun h0_ _ => absurd ((hoff 12 (by kernel_rfl)).symm.trans h0_) (by decide), z_HO226, fun h0_ _ => absurd ((hoff 15 (by kernel_rfl)).symm.trans h0_) (by decide), fun h0_ => absurd ((hoff 17 (by kernel_rfl)).symm.trans h0_) (by decide), z_HO_211001_e19, z_BK231, Q_GW231, Q_GE231, Q_NB0_231, Q_NB231_0, Q_NB207_231, Q_NB231_207, Q_NB210_231, Q_NB231_210, fun h0_ => absurd ((hoff 20 (by kernel_rfl)).symm.trans h0_) (by decide), Q_X19_⟩
        refine steps_cons ?_ ?_
        ·rintro b a w' ⟨v220, v225, gb231, m19_, ha, Q_HO_211001, Q_BK207, Q_BK210, Q_HI0, Q_HK, Q_HB, Q_HI0_e3, Q_HI0_e7, Q_HI0_e10, Q_HO221, Q_HI0_e12, Q_HO226, Q_HI0_e15, Q_HI0_e17, Q_HO_211001_e19, Q_BK231, Q_GW231, Q_GE231, Q_NB0_231, Q_NB231_0, Q_NB207_231, Q_NB231_207, Q_NB210_231, Q_NB231_210, Q_BK231_e20, Q_X19_⟩ hb_ hon hoff
         refine ⟨_, rfl, fun K hK => ?_⟩
         have e26 : a.tmps[26]? = some (.int .i64 t217) := by rw [ha]; exact putSel_on (e := (10, 26, .int .i64 t217)) 4 rfl rfl (hon 10 (by kernel_rfl)) rfl
         replace ha := Aside0.mk ha
         have BK207 := Aside0.mk Q_BK207
         have BK210 := Aside0.mk Q_BK210
         have HK := Aside0.mk Q_HK
         have HB := Aside0.mk Q_HB
         have HI0 := Aside0.mk (Q_HI0_e10 (hon 10 (by kernel_rfl)) (hoff 12 (by kernel_rfl)))
         refine Kd.R_lit_step (Kd.int .i64) _ 3 ?hg (N := 27) ?hd (xs := ([0, 1, 2, 5, 9, t217] : List Int)) (inner := [.int .i64 0, .int .i64 1, .int .i64 2, .int .i64 5, .int .i64 9, .int .i64 t217]) (ok := fun _ => True) (okp := fun _ => True) ?hr ?hp (fun _ hk => hk) trivial (Below.refl _ _) (Nat.le_refl _) (by simp) ?_; (case hd => rfl); (case hg => rfl); (case hr => first | (go_simp; done) | (go_simp; rfl)); (case hp => exact (Reps.one (show Kd.M (Kd.int .i64) _ _ _ 0 [.int .i64 0] from rfl) (Reps.one (show Kd.M (Kd.int .i64) _ _ _ 1 [.int .i64 1] from rfl) (Reps.one (show Kd.M (Kd.int .i64) _ _ _ 2 [.int .i64 2] from rfl) (Reps.one (show Kd.M (Kd.int .i64) _ _ _ 5 [.int .i64 5] from rfl) (Reps.one (show Kd.M (Kd.int .i64) _ _ _ 9 [.int .i64 9] from rfl) (Reps.one (show Kd.M (Kd.int .i64) _ _ _ t217 [.int .i64 t217] from rfl) (Reps.none _ _))))))))
         intro v220 w26 ho27 hb hg_ hnew_
         clear hg_ hnew_
         (first | rw [← Ny219.out] at ho27 | (simp only [Int.reduceToNat] at ho27; rw [← Ny219.out] at ho27))
         have n1_ := Aside0.mk (Kd.R_lower ho27 (keep_size (w := w) (g := g) (row := none) (by repeat (first | (with_reducible first | exact HK.out | apply KeepBut.set_ | apply keep_drewN | apply keep_drew | apply keep_alloc | refine keep_far ?_ GW207.out _ | refine keep_far ?_ GW210.out _) | exact HK.out))))
         have n2_ := Aside0.mk (blk_below (g := gb207) (o := .cells #[.int .i64 0, .slice none 0 0] 38 (0, 0)) (by (with_reducible repeat (first | refine blk_drewN ?_ _ | refine blk_drew ?_ | refine blk_alloc ?_ _)); exact BK207.out) hb)
         have n3_ := Aside0.mk (blk_below (g := gb210) (o := .cells #[.int .i64 (wrap64 (2 + t208)), u211001] 38 (0, 0)) (by (with_reducible repeat (first | refine blk_drewN ?_ _ | refine blk_drew ?_ | refine blk_alloc ?_ _)); exact BK210.out) hb)
         have n4_ := Aside0.mk (IsS112.below (by repeat (first | (with_reducible first | exact HI0.out | apply IsS112.alloc | apply IsS112.drewN | apply IsS112.drew | apply IsS112.set_1 | refine IsS112.far ?_ NB0_207.out _ | refine IsS112.far ?_ NB0_210.out _) | exact HI0.out)) hb)
         have n5_ := Aside0.mk (KeepBut.trans (by repeat (first | (with_reducible first | exact HK.out | apply KeepBut.set_ | apply keep_drewN | apply keep_drew | apply keep_alloc | refine keep_far ?_ GW207.out _ | refine keep_far ?_ GW210.out _) | exact HK.out)) (KeepBut.of_below hb g none) (.inl rfl))
         have n6_ := Aside0.mk (below_step (by repeat (first | (with_reducible first | exact HB.out | apply below_alloc | apply pw_below_drewN | apply below_drew1 | refine below_set ?_ (IsS112.ge HI0.out) | refine below_set ?_ GE207.out | refine below_set ?_ GE210.out) | exact HB.out)) hb)
         have z_HO_211001 := fun (h0_ : b 19 = false) => (show Kd.R k45 45 w26 w.heap.size (fun _ => True) u211001 x211001_1 from by first | exact (Kd.R_below (by (with_reducible repeat (first | apply Kd.R_alloc | apply Kd.R_drewN | apply Kd.R_drew)); exact (Q_HO_211001 h0_)) hb) | exact Kd.R_mono (Kd.R_below (by (with_reducible repeat (first | apply Kd.R_alloc | apply Kd.R_drewN | apply Kd.R_drew)); exact (Q_HO_211001 h0_)) hb) (fun _ h_ => by first | trivial | exact h_ | exact h_.1))
         have z_HO226 := fun (h0_ : b 14 = true) => (show Kd.R (Kd.int .i64) 3 w26 w.heap.size (fun _ => True) v225 y224 from by first | exact (Kd.R_elder' (by (with_reducible repeat (first | apply Kd.R_alloc | apply Kd.R_drewN | apply Kd.R_drew)); exact (Q_HO226 h0_)) (Kd.R_base ho27) hb) | exact Kd.R_mono (Kd.R_elder' (by (with_reducible repeat (first | apply Kd.R_alloc | apply Kd.R_drewN | apply Kd.R_drew)); exact (Q_HO226 h0_)) (Kd.R_base ho27) hb) (fun _ h_ => by first | trivial | exact h_ | exact h_.1))
         have z_HO_211001_e19 := fun (h0_ : b 19 = true) => (show Kd.R k45 45 w26 w.heap.size (fun k_ => k_ ≠ gb231) u211001 x211001_1 from by first | exact (Kd.R_below (by (with_reducible repeat (first | apply Kd.R_alloc | apply Kd.R_drewN | apply Kd.R_drew)); exact (Q_HO_211001_e19 h0_)) hb) | exact Kd.R_mono (Kd.R_below (by (with_reducible repeat (first | apply Kd.R_alloc | apply Kd.R_drewN | apply Kd.R_drew)); exact (Q_HO_211001_e19 h0_)) hb) (fun _ h_ => by first | trivial | exact h_ | exact h_.1))
         have z_BK231 := fun (h0_ : b 19 = true) (h1_ : b 20 = false) => (show w26.heap[gb231]? = some (.cells #[.int .i64 0, .int .i64 0, .int .i64 0, .int .i64 0, .int .i64 0] 45 (0, 0)) from by first | exact (blk_below (g := gb231) (o := .cells #[.int .i64 0, .int .i64 0, .int .i64 0, .int .i64 0, .int .i64 0] 45 (0, 0)) (by (with_reducible repeat (first | refine blk_drewN ?_ _ | refine blk_drew ?_ | refine blk_alloc ?_ _)); exact (Q_BK231 h0_ h1_)) hb))
         clear BK207
         clear BK210
         clear HI0
         clear HK
         clear HB
         have HO221 := n1_
         have BK207 := n2_
         have BK210 := n3_
         have HI0 := n4_
         have HK := n5_
         have HB := n6_
         clear n1_ n2_ n3_ n4_ n5_ n6_
         clear hb ho27
         refine hK.out _ _ ⟨v220, v225, gb231, m19_, (by rw [ha.out]; exact putSel_upk 5 hb_ rfl rfl rfl), z_HO_211001, (by (with_reducible repeat (first | refine blk_drewN ?_ _ | refine blk_drew ?_ | refine blk_alloc ?_ _)); exact BK207.out), (by (with_reducible repeat (first | refine blk_drewN ?_ _ | refine blk_drew ?_ | refine blk_alloc ?_ _)); exact BK210.out), fun h0_ => absurd ((hon 3 (by kernel_rfl)).symm.trans h0_) (by decide), (by repeat (first | (with_reducible first | exact HK.out | apply KeepBut.set_ | apply keep_drewN | apply keep_drew | apply keep_alloc | refine keep_far ?_ GW207.out _ | refine keep_far ?_ GW210.out _) | exact HK.out)), (by repeat (first | (with_reducible first | exact HB.out | apply below_alloc | apply pw_below_drewN | apply below_drew1 | refine below_set ?_ (IsS112.ge HI0.out) | refine below_set ?_ GE207.out | refine below_set ?_ GE210.out) | exact HB.out)), fun _ h1_ => absurd ((hon 7 (by kernel_rfl)).symm.trans h1_) (by decide), fun _ h1_ => absurd ((hon 10 (by kernel_rfl)).symm.trans h1_) (by decide), fun _ _ => (by repeat (first | (with_reducible first | exact HI0.out | apply IsS112.alloc | apply IsS112.drewN | apply IsS112.drew | apply IsS112.set_1 | refine IsS112.far ?_ NB0_207.out _ | refine IsS112.far ?_ NB0_210.out _) | exact HI0.out)), fun _ => (by (with_reducible repeat (first | apply Kd.R_alloc | apply Kd.R_drewN | apply Kd.R_drew)); exact HO221.out), fun h0_ _ => absurd ((hoff 12 (by kernel_rfl)).symm.trans h0_) (by decide), z_HO226, fun h0_ _ => absurd ((hoff 15 (by kernel_rfl)).symm.trans h0_) (by decide), fun h0_ => absurd ((hoff 17 (by kernel_rfl)).symm.trans h0_) (by decide), z_HO_211001_e19, z_BK231, Q_GW231, Q_GE231, Q_NB0_231, Q_NB231_0, Q_NB207_231, Q_NB231_207, Q_NB210_231, Q_NB231_210, fun h0_ => absurd ((hoff 20 (by kernel_rfl)).symm.trans h0_) (by decide), Q_X19_⟩
        refine steps_cons ?_ ?_
        ·rintro b a w' ⟨v220, v225, gb231, m19_, ha, Q_HO_211001, Q_BK207, Q_BK210, Q_HI0, Q_HK, Q_HB, Q_HI0_e3, Q_HI0_e7, Q_HI0_e10, Q_HO221, Q_HI0_e12, Q_HO226, Q_HI0_e15, Q_HI0_e17, Q_HO_211001_e19, Q_BK231, Q_GW231, Q_GE231, Q_NB0_231, Q_NB231_0, Q_NB207_231, Q_NB231_207, Q_NB210_231, Q_NB231_210, Q_BK231_e20, Q_X19_⟩ hb_ hon hoff
         refine ⟨_, rfl, fun K hK => ?_⟩
         have e24 : a.tmps[24]? = some (.pointer (some ⟨g, 0, none⟩)) := by rw [ha]; exact (putSel_off rfl).trans rfl
         have e27 : a.tmps[27]? = some (v220) := by rw [ha]; exact putSel_on (e := (11, 27, v220)) 5 rfl rfl (hon 11 (by kernel_rfl)) rfl
         replace ha := Aside0.mk ha
         have BK207 := Aside0.mk Q_BK207
         have BK210 := Aside0.mk Q_BK210
         have HK := Aside0.mk Q_HK
         have HB := Aside0.mk Q_HB
         have HI0 := Aside0.mk (Q_HI0_e10 (hon 10 (by kernel_rfl)) hb_)
         have HO221 := Aside0.mk (Q_HO221 (hon 11 (by kernel_rfl)))
         obtain ⟨Ao28, co28, eo28⟩ := Kd.R_slice HO221.out
         (first | subst eo28 | (injection eo28 with f1_ f2_ f3_; have f4_ := f1_.symm; have f5_ := f3_.symm; clear f1_ f2_ f3_; subst f4_; subst f5_))
         refine goes_ Try.func75 (by kernel_rfl) rfl #[.pointer (some ⟨g, 0, none⟩), .slice Ao28 y219.length co28] (by rfl) rfl rfl (by first | (simp only [List.map_toArray, List.map_cons, List.map_nil, Act.eval, Array.getD_eq_getD_getElem?, Option.getD_some, e24, e27]; done) | (simp only [List.map_toArray, List.map_cons, List.map_nil, Act.eval, Array.getD_eq_getD_getElem?, Option.getD_some, e24, e27]; rfl)) ?_
         with_reducible refine (spec_l30Rd_one.calls k1 g s0_0 t218 _ _ y219 t222 t223 w0 _ ?side1 ?side2 ?side3 ?side4 ?side5 A15.out).mono ?_
         (case side1 => repeat (first | (with_reducible first | exact HI0.out | apply IsS112.alloc | apply IsS112.drewN | apply IsS112.drew | apply IsS112.set_1 | refine IsS112.far ?_ NB0_207.out _ | refine IsS112.far ?_ NB0_210.out _) | exact HI0.out))
         (case side2 => repeat (first | (with_reducible first | exact HB.out | apply below_alloc | apply pw_below_drewN | apply below_drew1 | refine below_set ?_ (IsS112.ge HI0.out) | refine below_set ?_ GE207.out | refine below_set ?_ GE210.out) | exact HB.out))
         (case side3 => repeat (first | exact (Kd.R_reads' HO221.out).2.2 | (with_reducible refine Kd.C_alloc ?_ _) | (with_reducible refine Kd.C_drewN ?_ _) | (with_reducible refine Kd.C_drew ?_)))
         (case side4 => exact (Kd.R_reads' HO221.out).2.1)
         (case side5 => exact far_slice (IsS112.own_ne HI0.out HO221.out (by decide)))
         rintro e w29 ⟨rfl, hi, hb, hk⟩
         refine ⟨_, rfl, ?_⟩
         have n1_ := Aside0.mk (KeepBut.blk hk (g' := gb207) (o := .cells #[.int .i64 0, .slice none 0 0] 38 (0, 0)) (by (with_reducible repeat (first | refine blk_drewN ?_ _ | refine blk_drew ?_ | refine blk_alloc ?_ _)); exact BK207.out) NB207_0.out (by simp))
         have n2_ := Aside0.mk (KeepBut.blk hk (g' := gb210) (o := .cells #[.int .i64 (wrap64 (2 + t208)), u211001] 38 (0, 0)) (by (with_reducible repeat (first | refine blk_drewN ?_ _ | refine blk_drew ?_ | refine blk_alloc ?_ _)); exact BK210.out) NB210_0.out (by simp))
         have n3_ := Aside0.mk (Kd.R_mono (Kd.R_keep (IsS112.apart (show IsS112 w0 _ g s0_0 t218 from by repeat (first | (with_reducible first | exact HI0.out | apply IsS112.alloc | apply IsS112.drewN | apply IsS112.drew | apply IsS112.set_1 | refine IsS112.far ?_ NB0_207.out _ | refine IsS112.far ?_ NB0_210.out _) | exact HI0.out)) (by (with_reducible repeat (first | apply Kd.R_alloc | apply Kd.R_drewN | apply Kd.R_drew)); exact HO221.out) (by decide)) hk (fun _ h => h.2)) (fun _ h => h.1))
         have n4_ := Aside0.mk (KeepBut.trans (by repeat (first | (with_reducible first | exact HK.out | apply KeepBut.set_ | apply keep_drewN | apply keep_drew | apply keep_alloc | refine keep_far ?_ GW207.out _ | refine keep_far ?_ GW210.out _) | exact HK.out)) hk (.inl rfl))
         have n5_ := Aside0.mk (hb)
         have n6_ := Aside0.mk (hi)
         have z_HO_211001 := fun (h0_ : b 19 = false) => (show Kd.R k45 45 w29 w.heap.size (fun _ => True) u211001 x211001_1 from by first | exact (Kd.R_mono (Kd.R_keep (IsS112.apart (show IsS112 w0 _ g s0_0 t218 from by repeat (first | (with_reducible first | exact HI0.out | apply IsS112.alloc | apply IsS112.drewN | apply IsS112.drew | apply IsS112.set_1 | refine IsS112.far ?_ NB0_207.out _ | refine IsS112.far ?_ NB0_210.out _) | exact HI0.out)) (by (with_reducible repeat (first | apply Kd.R_alloc | apply Kd.R_drewN | apply Kd.R_drew)); exact (Q_HO_211001 h0_)) (by decide)) hk (fun _ h => h.2)) (fun _ h => h.1)) | exact Kd.R_mono (Kd.R_mono (Kd.R_keep (IsS112.apart (show IsS112 w0 _ g s0_0 t218 from by repeat (first | (with_reducible first | exact HI0.out | apply IsS112.alloc | apply IsS112.drewN | apply IsS112.drew | apply IsS112.set_1 | refine IsS112.far ?_ NB0_207.out _ | refine IsS112.far ?_ NB0_210.out _) | exact HI0.out)) (by (with_reducible repeat (first | apply Kd.R_alloc | apply Kd.R_drewN | apply Kd.R_drew)); exact (Q_HO_211001 h0_)) (by decide)) hk (fun _ h => h.2)) (fun _ h => h.1)) (fun _ h_ => by first | trivial | exact h_ | exact h_.1))
         have z_HO226 := fun (h0_ : b 14 = true) => (show Kd.R (Kd.int .i64) 3 w29 w.heap.size (fun _ => True) v225 y224 from by first | exact (Kd.R_mono (Kd.R_keep (IsS112.apart (show IsS112 w0 _ g s0_0 t218 from by repeat (first | (with_reducible first | exact HI0.out | apply IsS112.alloc | apply IsS112.drewN | apply IsS112.drew | apply IsS112.set_1 | refine IsS112.far ?_ NB0_207.out _ | refine IsS112.far ?_ NB0_210.out _) | exact HI0.out)) (by (with_reducible repeat (first | apply Kd.R_alloc | apply Kd.R_drewN | apply Kd.R_drew)); exact (Q_HO226 h0_)) (by decide)) hk (fun _ h => h.2)) (fun _ h => h.1)) | exact Kd.R_mono (Kd.R_mono (Kd.R_keep (IsS112.apart (show IsS112 w0 _ g s0_0 t218 from by repeat (first | (with_reducible first | exact HI0.out | apply IsS112.alloc | apply IsS112.drewN | apply IsS112.drew | apply IsS112.set_1 | refine IsS112.far ?_ NB0_207.out _ | refine IsS112.far ?_ NB0_210.out _) | exact HI0.out)) (by (with_reducible repeat (first | apply Kd.R_alloc | apply Kd.R_drewN | apply Kd.R_drew)); exact (Q_HO226 h0_)) (by decide)) hk (fun _ h => h.2)) (fun _ h => h.1)) (fun _ h_ => by first | trivial | exact h_ | exact h_.1))
         have z_HO_211001_e19 := fun (h0_ : b 19 = true) => (show Kd.R k45 45 w29 w.heap.size (fun k_ => k_ ≠ gb231) u211001 x211001_1 from by first | exact (Kd.R_mono (Kd.R_keep (IsS112.apart (show IsS112 w0 _ g s0_0 t218 from by repeat (first | (with_reducible first | exact HI0.out | apply IsS112.alloc | apply IsS112.drewN | apply IsS112.drew | apply IsS112.set_1 | refine IsS112.far ?_ NB0_207.out _ | refine IsS112.far ?_ NB0_210.out _) | exact HI0.out)) (by (with_reducible repeat (first | apply Kd.R_alloc | apply Kd.R_drewN | apply Kd.R_drew)); exact (Q_HO_211001_e19 h0_)) (by decide)) hk (fun _ h => h.2)) (fun _ h => h.1)) | exact Kd.R_mono (Kd.R_mono (Kd.R_keep (IsS112.apart (show IsS112 w0 _ g s0_0 t218 from by repeat (first | (with_reducible first | exact HI0.out | apply IsS112.alloc | apply IsS112.drewN | apply IsS112.drew | apply IsS112.set_1 | refine IsS112.far ?_ NB0_207.out _ | refine IsS112.far ?_ NB0_210.out _) | exact HI0.out)) (by (with_reducible repeat (first | apply Kd.R_alloc | apply Kd.R_drewN | apply Kd.R_drew)); exact (Q_HO_211001_e19 h0_)) (by decide)) hk (fun _ h => h.2)) (fun _ h => h.1)) (fun _ h_ => by first | trivial | exact h_ | exact h_.1))
         have z_BK231 := fun (h0_ : b 19 = true) (h1_ : b 20 = false) => (show w29.heap[gb231]? = some (.cells #[.int .i64 0, .int .i64 0, .int .i64 0, .int .i64 0, .int .i64 0] 45 (0, 0)) from by first | exact (KeepBut.blk hk (g' := gb231) (o := .cells #[.int .i64 0, .int .i64 0, .int .i64 0, .int .i64 0, .int .i64 0] 45 (0, 0)) (by (with_reducible repeat (first | refine blk_drewN ?_ _ | refine blk_drew ?_ | refine blk_alloc ?_ _)); exact (Q_BK231 h0_ h1_)) (Q_NB231_0 h0_) (by simp)))
         clear BK207
         clear BK210
         clear HO221
         clear HK
         clear HB
         clear HI0
         have BK207 := n1_
         have BK210 := n2_
         have HO221 := n3_
         have HK := n4_
         have HB := n5_
         have HI0 := n6_
         clear n1_ n2_ n3_ n4_ n5_ n6_
         (try clear hb)
         (try clear hb2)
         (try clear hk)
         (try clear hi)
         refine hK.out _ _ ⟨.slice Ao28 y219.length co28, v225, gb231, m19_, (by rw [ha.out]; exact putSel_upk 6 hb_ rfl rfl rfl), z_HO_211001, (by (with_reducible repeat (first | refine blk_drewN ?_ _ | refine blk_drew ?_ | refine blk_alloc ?_ _)); exact BK207.out), (by (with_reducible repeat (first | refine blk_drewN ?_ _ | refine blk_drew ?_ | refine blk_alloc ?_ _)); exact BK210.out), fun h0_ => absurd ((hon 3 (by kernel_rfl)).symm.trans h0_) (by decide), (by repeat (first | (with_reducible first | exact HK.out | apply KeepBut.set_ | apply keep_drewN | apply keep_drew | apply keep_alloc | refine keep_far ?_ GW207.out _ | refine keep_far ?_ GW210.out _) | exact HK.out)), (by repeat (first | (with_reducible first | exact HB.out | apply below_alloc | apply pw_below_drewN | apply below_drew1 | refine below_set ?_ (IsS112.ge HI0.out) | refine below_set ?_ GE207.out | refine below_set ?_ GE210.out) | exact HB.out)), fun _ h1_ => absurd ((hon 7 (by kernel_rfl)).symm.trans h1_) (by decide), fun _ h1_ => absurd ((hon 10 (by kernel_rfl)).symm.trans h1_) (by decide), fun _ h1_ => absurd ((up_self b 12).symm.trans h1_) (by decide), fun _ => (by (with_reducible repeat (first | apply Kd.R_alloc | apply Kd.R_drewN | apply Kd.R_drew)); exact HO221.out), fun _ _ => (by repeat (first | (with_reducible first | exact HI0.out | apply IsS112.alloc | apply IsS112.drewN | apply IsS112.drew | apply IsS112.set_1 | refine IsS112.far ?_ NB0_207.out _ | refine IsS112.far ?_ NB0_210.out _) | exact HI0.out)), z_HO226, fun h0_ _ => absurd ((hoff 15 (by kernel_rfl)).symm.trans h0_) (by decide), fun h0_ => absurd ((hoff 17 (by kernel_rfl)).symm.trans h0_) (by decide), z_HO_211001_e19, z_BK231, Q_GW231, Q_GE231, Q_NB0_231, Q_NB231_0, Q_NB207_231, Q_NB231_207, Q_NB210_231, Q_NB231_210, fun h0_ => absurd ((hoff 20 (by kernel_rfl)).symm.trans h0_) (by decide), Q_X19_⟩
        refine steps_cons ?_ ?_
        ·rintro b a w' ⟨v220, v225, gb231, m19_, ha, Q_HO_211001, Q_BK207, Q_BK210, Q_HI0, Q_HK, Q_HB, Q_HI0_e3, Q_HI0_e7, Q_HI0_e10, Q_HO221, Q_HI0_e12, Q_HO226, Q_HI0_e15, Q_HI0_e17, Q_HO_211001_e19, Q_BK231, Q_GW231, Q_GE231, Q_NB0_231, Q_NB231_0, Q_NB207_231, Q_NB231_207, Q_NB210_231, Q_NB231_210, Q_BK231_e20, Q_X19_⟩ hb_ hon hoff
         refine ⟨_, rfl, fun K hK => ?_⟩
         replace ha := Aside0.mk ha
         have BK207 := Aside0.mk Q_BK207
         have BK210 := Aside0.mk Q_BK210
         have HK := Aside0.mk Q_HK
         have HB := Aside0.mk Q_HB
         refine Kd.R_lit_step (Kd.int .i64) _ 3 ?hg (N := 30) ?hd (xs := ([0, 0, 3, 8] : List Int)) (inner := [.int .i64 0, .int .i64 0, .int .i64 3, .int .i64 8]) (ok := fun _ => True) (okp := fun _ => True) ?hr ?hp (fun _ hk => hk) trivial (Below.refl _ _) (Nat.le_refl _) (by simp) ?_; (case hd => rfl); (case hg => rfl); (case hr => first | (go_simp; done) | (go_simp; rfl)); (case hp => exact (Reps.one (show Kd.M (Kd.int .i64) _ _ _ 0 [.int .i64 0] from rfl) (Reps.one (show Kd.M (Kd.int .i64) _ _ _ 0 [.int .i64 0] from rfl) (Reps.one (show Kd.M (Kd.int .i64) _ _ _ 3 [.int .i64 3] from rfl) (Reps.one (show Kd.M (Kd.int .i64) _ _ _ 8 [.int .i64 8] from rfl) (Reps.none _ _))))))
         intro v225 w22 ho23 hb hg_ hnew_
         clear hg_ hnew_
         (first | rw [← Ny224.out] at ho23 | (simp only [Int.reduceToNat] at ho23; rw [← Ny224.out] at ho23))
         have n1_ := Aside0.mk (Kd.R_lower ho23 (keep_size (w := w) (g := g) (row := none) (by repeat (first | (with_reducible first | exact HK.out | apply KeepBut.set_ | apply keep_drewN | apply keep_drew | apply keep_alloc | refine keep_far ?_ GW207.out _ | refine keep_far ?_ GW210.out _) | exact HK.out))))
         have n2_ := Aside0.mk (blk_below (g := gb207) (o := .cells #[.int .i64 0, .slice none 0 0] 38 (0, 0)) (by (with_reducible repeat (first | refine blk_drewN ?_ _ | refine blk_drew ?_ | refine blk_alloc ?_ _)); exact BK207.out) hb)
         have n3_ := Aside0.mk (blk_below (g := gb210) (o := .cells #[.int .i64 (wrap64 (2 + t208)), u211001] 38 (0, 0)) (by (with_reducible repeat (first | refine blk_drewN ?_ _ | refine blk_drew ?_ | refine blk_alloc ?_ _)); exact BK210.out) hb)
         have n5_ := Aside0.mk (KeepBut.trans (by repeat (first | (with_reducible first | exact HK.out | apply KeepBut.set_ | apply keep_drewN | apply keep_drew | apply keep_alloc | refine keep_far ?_ GW207.out _ | refine keep_far ?_ GW210.out _) | exact HK.out)) (KeepBut.of_below hb g none) (.inl rfl))
         have n6_ := Aside0.mk (below_step (by repeat (first | (with_reducible first | exact HB.out | apply below_alloc | apply pw_below_drewN | apply below_drew1 | refine below_set ?_ GE207.out | refine below_set ?_ GE210.out) | exact HB.out)) hb)
         have z_HO_211001 := fun (h0_ : b 19 = false) => (show Kd.R k45 45 w22 w.heap.size (fun _ => True) u211001 x211001_1 from by first | exact (Kd.R_below (by (with_reducible repeat (first | apply Kd.R_alloc | apply Kd.R_drewN | apply Kd.R_drew)); exact (Q_HO_211001 h0_)) hb) | exact Kd.R_mono (Kd.R_below (by (with_reducible repeat (first | apply Kd.R_alloc | apply Kd.R_drewN | apply Kd.R_drew)); exact (Q_HO_211001 h0_)) hb) (fun _ h_ => by first | trivial | exact h_ | exact h_.1))
         have z_HI0 := fun (h0_ : b 3 = false) => (show IsS112 w0 w22 g s0_0 x1001_1 from by first | exact (IsS112.below (by repeat (first | (with_reducible first | exact (Q_HI0 h0_) | apply IsS112.alloc | apply IsS112.drewN | apply IsS112.drew | apply IsS112.set_1 | refine IsS112.far ?_ NB0_207.out _ | refine IsS112.far ?_ NB0_210.out _) | exact (Q_HI0 h0_))) hb))
         have z_HI0_e3 := fun (h0_ : b 3 = true) (h1_ : b 7 = false) => (show IsS112 w0 w22 g s0_0 t214 from by first | exact (IsS112.below (by repeat (first | (with_reducible first | exact (Q_HI0_e3 h0_ h1_) | apply IsS112.alloc | apply IsS112.drewN | apply IsS112.drew | apply IsS112.set_1 | refine IsS112.far ?_ NB0_207.out _ | refine IsS112.far ?_ NB0_210.out _) | exact (Q_HI0_e3 h0_ h1_))) hb))
         have z_HI0_e7 := fun (h0_ : b 7 = true) (h1_ : b 10 = false) => (show IsS112 w0 w22 g s0_0 t216 from by first | exact (IsS112.below (by repeat (first | (with_reducible first | exact (Q_HI0_e7 h0_ h1_) | apply IsS112.alloc | apply IsS112.drewN | apply IsS112.drew | apply IsS112.set_1 | refine IsS112.far ?_ NB0_207.out _ | refine IsS112.far ?_ NB0_210.out _) | exact (Q_HI0_e7 h0_ h1_))) hb))
         have z_HI0_e10 := fun (h0_ : b 10 = true) (h1_ : b 12 = false) => (show IsS112 w0 w22 g s0_0 t218 from by first | exact (IsS112.below (by repeat (first | (with_reducible first | exact (Q_HI0_e10 h0_ h1_) | apply IsS112.alloc | apply IsS112.drewN | apply IsS112.drew | apply IsS112.set_1 | refine IsS112.far ?_ NB0_207.out _ | refine IsS112.far ?_ NB0_210.out _) | exact (Q_HI0_e10 h0_ h1_))) hb))
         have z_HO221 := fun (h0_ : b 11 = true) => (show Kd.R (Kd.int .i64) 3 w22 w.heap.size (fun _ => True) v220 y219 from by first | exact (Kd.R_elder' (by (with_reducible repeat (first | apply Kd.R_alloc | apply Kd.R_drewN | apply Kd.R_drew)); exact (Q_HO221 h0_)) (Kd.R_base ho23) hb) | exact Kd.R_mono (Kd.R_elder' (by (with_reducible repeat (first | apply Kd.R_alloc | apply Kd.R_drewN | apply Kd.R_drew)); exact (Q_HO221 h0_)) (Kd.R_base ho23) hb) (fun _ h_ => by first | trivial | exact h_ | exact h_.1))
         have z_HI0_e12 := fun (h0_ : b 12 = true) (h1_ : b 15 = false) => (show IsS112 w0 w22 g s0_0 t223 from by first | exact (IsS112.below (by repeat (first | (with_reducible first | exact (Q_HI0_e12 h0_ h1_) | apply IsS112.alloc | apply IsS112.drewN | apply IsS112.drew | apply IsS112.set_1 | refine IsS112.far ?_ NB0_207.out _ | refine IsS112.far ?_ NB0_210.out _) | exact (Q_HI0_e12 h0_ h1_))) hb))
         have z_HO_211001_e19 := fun (h0_ : b 19 = true) => (show Kd.R k45 45 w22 w.heap.size (fun k_ => k_ ≠ gb231) u211001 x211001_1 from by first | exact (Kd.R_below (by (with_reducible repeat (first | apply Kd.R_alloc | apply Kd.R_drewN | apply Kd.R_drew)); exact (Q_HO_211001_e19 h0_)) hb) | exact Kd.R_mono (Kd.R_below (by (with_reducible repeat (first | apply Kd.R_alloc | apply Kd.R_drewN | apply Kd.R_drew)); exact (Q_HO_211001_e19 h0_)) hb) (fun _ h_ => by first | trivial | exact h_ | exact h_.1))
         have z_BK231 := fun (h0_ : b 19 = true) (h1_ : b 20 = false) => (show w22.heap[gb231]? = some (.cells #[.int .i64 0, .int .i64 0, .int .i64 0, .int .i64 0, .int .i64 0] 45 (0, 0)) from by first | exact (blk_below (g := gb231) (o := .cells #[.int .i64 0, .int .i64 0, .int .i64 0, .int .i64 0, .int .i64 0] 45 (0, 0)) (by (with_reducible repeat (first | refine blk_drewN ?_ _ | refine blk_drew ?_ | refine blk_alloc ?_ _)); exact (Q_BK231 h0_ h1_)) hb))
         clear BK207
         clear BK210
         clear HK
         clear HB
         have HO226 := n1_
         have BK207 := n2_
         have BK210 := n3_
         have HK := n5_
         have HB := n6_
         clear n1_ n2_ n3_ n5_ n6_
         clear hb ho23
         refine hK.out _ _ ⟨v220, v225, gb231, m19_, (by rw [ha.out]; exact putSel_upk 7 hb_ rfl rfl rfl), z_HO_211001, (by (with_reducible repeat (first | refine blk_drewN ?_ _ | refine blk_drew ?_ | refine blk_alloc ?_ _)); exact BK207.out), (by (with_reducible repeat (first | refine blk_drewN ?_ _ | refine blk_drew ?_ | refine blk_alloc ?_ _)); exact BK210.out), z_HI0, (by repeat (first | (with_reducible first | exact HK.out | apply KeepBut.set_ | apply keep_drewN | apply keep_drew | apply keep_alloc | refine keep_far ?_ GW207.out _ | refine keep_far ?_ GW210.out _) | exact HK.out)), (by repeat (first | (with_reducible first | exact HB.out | apply below_alloc | apply pw_below_drewN | apply below_drew1 | refine below_set ?_ GE207.out | refine below_set ?_ GE210.out) | exact HB.out)), z_HI0_e3, z_HI0_e7, z_HI0_e10, z_HO221, z_HI0_e12, fun _ => (by (with_reducible repeat (first | apply Kd.R_alloc | apply Kd.R_drewN | apply Kd.R_drew)); exact HO226.out), fun h0_ _ => absurd ((hoff 15 (by kernel_rfl)).symm.trans h0_) (by decide), fun h0_ => absurd ((hoff 17 (by kernel_rfl)).symm.trans h0_) (by decide), z_HO_211001_e19, z_BK231, Q_GW231, Q_GE231, Q_NB0_231, Q_NB231_0, Q_NB207_231, Q_NB231_207, Q_NB210_231, Q_NB231_210, fun h0_ => absurd ((hoff 20 (by kernel_rfl)).symm.trans h0_) (by decide), Q_X19_⟩
        refine steps_cons ?_ ?_
        ·rintro b a w' ⟨v220, v225, gb231, m19_, ha, Q_HO_211001, Q_BK207, Q_BK210, Q_HI0, Q_HK, Q_HB, Q_HI0_e3, Q_HI0_e7, Q_HI0_e10, Q_HO221, Q_HI0_e12, Q_HO226, Q_HI0_e15, Q_HI0_e17, Q_HO_211001_e19, Q_BK231, Q_GW231, Q_GE231, Q_NB0_231, Q_NB231_0, Q_NB207_231, Q_NB231_207, Q_NB210_231, Q_NB231_210, Q_BK231_e20, Q_X19_⟩ hb_ hon hoff
         refine ⟨_, rfl, fun K hK => ?_⟩
         have e29 : a.tmps[29]? = some (.pointer (some ⟨g, 0, none⟩)) := by rw [ha]; exact (putSel_off rfl).trans rfl
         have e30 : a.tmps[30]? = some (v225) := by rw [ha]; exact putSel_on (e := (14, 30, v225)) 7 rfl rfl (hon 14 (by kernel_rfl)) rfl
         replace ha := Aside0.mk ha
         have BK207 := Aside0.mk Q_BK207
         have BK210 := Aside0.mk Q_BK210
         have HK := Aside0.mk Q_HK
         have HB := Aside0.mk Q_HB
         have HO221 := Aside0.mk (Q_HO221 (hon 11 (by kernel_rfl)))
         have HI0 := Aside0.mk (Q_HI0_e12 (hon 12 (by kernel_rfl)) hb_)
         have HO226 := Aside0.mk (Q_HO226 (hon 14 (by kernel_rfl)))
         obtain ⟨Ao32, co32, eo32⟩ := Kd.R_slice HO226.out
         (first | subst eo32 | (injection eo32 with f1_ f2_ f3_; have f4_ := f1_.symm; have f5_ := f3_.symm; clear f1_ f2_ f3_; subst f4_; subst f5_))
         refine goes_ Try.func75 (by kernel_rfl) rfl #[.pointer (some ⟨g, 0, none⟩), .slice Ao32 y224.length co32] (by rfl) rfl rfl (by first | (simp only [List.map_toArray, List.map_cons, List.map_nil, Act.eval, Array.getD_eq_getD_getElem?, Option.getD_some, e29, e30]; done) | (simp only [List.map_toArray, List.map_cons, List.map_nil, Act.eval, Array.getD_eq_getD_getElem?, Option.getD_some, e29, e30]; rfl)) ?_
         with_reducible refine (spec_l30Rd_one.calls k1 g s0_0 t223 _ _ y224 t227 t228 w0 _ ?side1 ?side2 ?side3 ?side4 ?side5 A16.out).mono ?_
         (case side1 => repeat (first | (with_reducible first | exact HI0.out | apply IsS112.alloc | apply IsS112.drewN | apply IsS112.drew | apply IsS112.set_1 | refine IsS112.far ?_ NB0_207.out _ | refine IsS112.far ?_ NB0_210.out _) | exact HI0.out))
         (case side2 => repeat (first | (with_reducible first | exact HB.out | apply below_alloc | apply pw_below_drewN | apply below_drew1 | refine below_set ?_ (IsS112.ge HI0.out) | refine below_set ?_ GE207.out | refine below_set ?_ GE210.out) | exact HB.out))
         (case side3 => repeat (first | exact (Kd.R_reads' HO226.out).2.2 | (with_reducible refine Kd.C_alloc ?_ _) | (with_reducible refine Kd.C_drewN ?_ _) | (with_reducible refine Kd.C_drew ?_)))
         (case side4 => exact (Kd.R_reads' HO226.out).2.1)
         (case side5 => exact far_slice (IsS112.own_ne HI0.out HO226.out (by decide)))
         rintro e w33 ⟨rfl, hi, hb, hk⟩
         refine ⟨_, rfl, ?_⟩
         have n1_ := Aside0.mk (KeepBut.blk hk (g' := gb207) (o := .cells #[.int .i64 0, .slice none 0 0] 38 (0, 0)) (by (with_reducible repeat (first | refine blk_drewN ?_ _ | refine blk_drew ?_ | refine blk_alloc ?_ _)); exact BK207.out) NB207_0.out (by simp))
         have n2_ := Aside0.mk (KeepBut.blk hk (g' := gb210) (o := .cells #[.int .i64 (wrap64 (2 + t208)), u211001] 38 (0, 0)) (by (with_reducible repeat (first | refine blk_drewN ?_ _ | refine blk_drew ?_ | refine blk_alloc ?_ _)); exact BK210.out) NB210_0.out (by simp))
         have n3_ := Aside0.mk (Kd.R_mono (Kd.R_keep (IsS112.apart (show IsS112 w0 _ g s0_0 t223 from by repeat (first | (with_reducible first | exact HI0.out | apply IsS112.alloc | apply IsS112.drewN | apply IsS112.drew | apply IsS112.set_1 | refine IsS112.far ?_ NB0_207.out _ | refine IsS112.far ?_ NB0_210.out _) | exact HI0.out)) (by (with_reducible repeat (first | apply Kd.R_alloc | apply Kd.R_drewN | apply Kd.R_drew)); exact HO221.out) (by decide)) hk (fun _ h => h.2)) (fun _ h => h.1))
         have n4_ := Aside0.mk (Kd.R_mono (Kd.R_keep (IsS112.apart (show IsS112 w0 _ g s0_0 t223 from by repeat (first | (with_reducible first | exact HI0.out | apply IsS112.alloc | apply IsS112.drewN | apply IsS112.drew | apply IsS112.set_1 | refine IsS112.far ?_ NB0_207.out _ | refine IsS112.far ?_ NB0_210.out _) | exact HI0.out)) (by (with_reducible repeat (first | apply Kd.R_alloc | apply Kd.R_drewN | apply Kd.R_drew)); exact HO226.out) (by decide)) hk (fun _ h => h.2)) (fun _ h => h.1))
         have n5_ := Aside0.mk (KeepBut.trans (by repeat (first | (with_reducible first | exact HK.out | apply KeepBut.set_ | apply keep_drewN | apply keep_drew | apply keep_alloc | refine keep_far ?_ GW207.out _ | refine keep_far ?_ GW210.out _) | exact HK.out)) hk (.inl rfl))
         have n6_ := Aside0.mk (hb)
         have n7_ := Aside0.mk (hi)
         have z_HO_211001 := fun (h0_ : b 19 = false) => (show Kd.R k45 45 w33 w.heap.size (fun _ => True) u211001 x211001_1 from by first | exact (Kd.R_mono (Kd.R_keep (IsS112.apart (show IsS112 w0 _ g s0_0 t223 from by repeat (first | (with_reducible first | exact HI0.out | apply IsS112.alloc | apply IsS112.drewN | apply IsS112.drew | apply IsS112.set_1 | refine IsS112.far ?_ NB0_207.out _ | refine IsS112.far ?_ NB0_210.out _) | exact HI0.out)) (by (with_reducible repeat (first | apply Kd.R_alloc | apply Kd.R_drewN | apply Kd.R_drew)); exact (Q_HO_211001 h0_)) (by decide)) hk (fun _ h => h.2)) (fun _ h => h.1)) | exact Kd.R_mono (Kd.R_mono (Kd.R_keep (IsS112.apart (show IsS112 w0 _ g s0_0 t223 from by repeat (first | (with_reducible first | exact HI0.out | apply IsS112.alloc | apply IsS112.drewN | apply IsS112.drew | apply IsS112.set_1 | refine IsS112.far ?_ NB0_207.out _ | refine IsS112.far ?_ NB0_210.out _) | exact HI0.out)) (by (with_reducible repeat (first | apply Kd.R_alloc | apply Kd.R_drewN | apply Kd.R_drew)); exact (Q_HO_211001 h0_)) (by decide)) hk (fun _ h => h.2)) (fun _ h => h.1)) (fun _ h_ => by first | trivial | exact h_ | exact h_.1))
         have z_HO_211001_e19 := fun (h0_ : b 19 = true) => (show Kd.R k45 45 w33 w.heap.size (fun k_ => k_ ≠ gb231) u211001 x211001_1 from by first | exact (Kd.R_mono (Kd.R_keep (IsS112.apart (show IsS112 w0 _ g s0_0 t223 from by repeat (first | (with_reducible first | exact HI0.out | apply IsS112.alloc | apply IsS112.drewN | apply IsS112.drew | apply IsS112.set_1 | refine IsS112.far ?_ NB0_207.out _ | refine IsS112.far ?_ NB0_210.out _) | exact HI0.out)) (by (with_reducible repeat (first | apply Kd.R_alloc | apply Kd.R_drewN | apply Kd.R_drew)); exact (Q_HO_211001_e19 h0_)) (by decide)) hk (fun _ h => h.2)) (fun _ h => h.1)) | exact Kd.R_mono (Kd.R_mono (Kd.R_keep (IsS112.apart (show IsS112 w0 _ g s0_0 t223 from by repeat (first | (with_reducible first | exact HI0.out | apply IsS112.alloc | apply IsS112.drewN | apply IsS112.drew | apply IsS112.set_1 | refine IsS112.far ?_ NB0_207.out _ | refine IsS112.far ?_ NB0_210.out _) | exact HI0.out)) (by (with_reducible repeat (first | apply Kd.R_alloc | apply Kd.R_drewN | apply Kd.R_drew)); exact (Q_HO_211001_e19 h0_)) (by decide)) hk (fun _ h => h.2)) (fun _ h => h.1)) (fun _ h_ => by first | trivial | exact h_ | exact h_.1))
         have z_BK231 := fun (h0_ : b 19 = true) (h1_ : b 20 = false) => (show w33.heap[gb231]? = some (.cells #[.int .i64 0, .int .i64 0, .int .i64 0, .int .i64 0, .int .i64 0] 45 (0, 0)) from by first | exact (KeepBut.blk hk (g' := gb231) (o := .cells #[.int .i64 0, .int .i64 0, .int .i64 0, .int .i64 0, .int .i64 0] 45 (0, 0)) (by (with_reducible repeat (first | refine blk_drewN ?_ _ | refine blk_drew ?_ | refine blk_alloc ?_ _)); exact (Q_BK231 h0_ h1_)) (Q_NB231_0 h0_) (by simp)))
         clear BK207
         clear BK210
         clear HO221
         clear HO226
         clear HK
         clear HB
         clear HI0
         have BK207 := n1_
         have BK210 := n2_
         have HO221 := n3_
         have HO226 := n4_
         have HK := n5_
         have HB := n6_
         have HI0 := n7_
         clear n1_ n2_ n3_ n4_ n5_ n6_ n7_
         (try clear hb)
         (try clear hb2)
         (try clear hk)
         (try clear hi)
         refine hK.out _ _ ⟨v220, .slice Ao32 y224.length co32, gb231, m19_, (by rw [ha.out]; exact putSel_upk 8 hb_ rfl rfl rfl), z_HO_211001, (by (with_reducible repeat (first | refine blk_drewN ?_ _ | refine blk_drew ?_ | refine blk_alloc ?_ _)); exact BK207.out), (by (with_reducible repeat (first | refine blk_drewN ?_ _ | refine blk_drew ?_ | refine blk_alloc ?_ _)); exact BK210.out), fun h0_ => absurd ((hon 3 (by kernel_rfl)).symm.trans h0_) (by decide), (by repeat (first | (with_reducible first | exact HK.out | apply KeepBut.set_ | apply keep_drewN | apply keep_drew | apply keep_alloc | refine keep_far ?_ GW207.out _ | refine keep_far ?_ GW210.out _) | exact HK.out)), (by repeat (first | (with_reducible first | exact HB.out | apply below_alloc | apply pw_below_drewN | apply below_drew1 | refine below_set ?_ (IsS112.ge HI0.out) | refine below_set ?_ GE207.out | refine below_set ?_ GE210.out) | exact HB.out)), fun _ h1_ => absurd ((hon 7 (by kernel_rfl)).symm.trans h1_) (by decide), fun _ h1_ => absurd ((hon 10 (by kernel_rfl)).symm.trans h1_) (by decide), fun _ h1_ => absurd ((hon 12 (by kernel_rfl)).symm.trans h1_) (by decide), fun _ => (by (with_reducible repeat (first | apply Kd.R_alloc | apply Kd.R_drewN | apply Kd.R_drew)); exact HO221.out), fun _ h1_ => absurd ((up_self b 15).symm.trans h1_) (by decide), fun _ => (by (with_reducible repeat (first | apply Kd.R_alloc | apply Kd.R_drewN | apply Kd.R_drew)); exact HO226.out), fun _ _ => (by repeat (first | (with_reducible first | exact HI0.out | apply IsS112.alloc | apply IsS112.drewN | apply IsS112.drew | apply IsS112.set_1 | refine IsS112.far ?_ NB0_207.out _ | refine IsS112.far ?_ NB0_210.out _) | exact HI0.out)), fun h0_ => absurd ((hoff 17 (by kernel_rfl)).symm.trans h0_) (by decide), z_HO_211001_e19, z_BK231, Q_GW231, Q_GE231, Q_NB0_231, Q_NB231_0, Q_NB207_231, Q_NB231_207, Q_NB210_231, Q_NB231_210, fun h0_ => absurd ((hoff 20 (by kernel_rfl)).symm.trans h0_) (by decide), Q_X19_⟩
        refine steps_cons ?_ ?_
        ·rintro b a w' ⟨v220, v225, gb231, m19_, ha, Q_HO_211001, Q_BK207, Q_BK210, Q_HI0, Q_HK, Q_HB, Q_HI0_e3, Q_HI0_e7, Q_HI0_e10, Q_HO221, Q_HI0_e12, Q_HO226, Q_HI0_e15, Q_HI0_e17, Q_HO_211001_e19, Q_BK231, Q_GW231, Q_GE231, Q_NB0_231, Q_NB231_0, Q_NB207_231, Q_NB231_207, Q_NB210_231, Q_NB231_210, Q_BK231_e20, Q_X19_⟩ hb_ hon hoff
         refine ⟨_, rfl, fun K hK => ?_⟩
         have e32 : a.tmps[32]? = some (.pointer (some ⟨g, 0, none⟩)) := by rw [ha]; exact (putSel_off rfl).trans rfl
         replace ha := Aside0.mk ha
         have BK207 := Aside0.mk Q_BK207
         have BK210 := Aside0.mk Q_BK210
         have HK := Aside0.mk Q_HK
         have HB := Aside0.mk Q_HB
         have HO221 := Aside0.mk (Q_HO221 (hon 11 (by kernel_rfl)))
         have HO226 := Aside0.mk (Q_HO226 (hon 14 (by kernel_rfl)))
         have HI0 := Aside0.mk (Q_HI0_e15 (hon 15 (by kernel_rfl)) hb_)
         refine goes_ Try.func74 (by kernel_rfl) rfl #[.pointer (some ⟨g, 0, none⟩), .int .i64 10] (by rfl) rfl rfl (by first | (simp only [List.map_toArray, List.map_cons, List.map_nil, Act.eval, Array.getD_eq_getD_getElem?, Option.getD_some, e32]; done) | (simp only [List.map_toArray, List.map_cons, List.map_nil, Act.eval, Array.getD_eq_getD_getElem?, Option.getD_some, e32]; rfl)) ?_
         with_reducible refine (spec_l30Rd_pick.calls k1 g s0_0 t228 10 t229 t230 w0 _ ?side1 ?side2 A17.out).mono ?_
         (case side1 => repeat (first | (with_reducible first | exact HI0.out | apply IsS112.alloc | apply IsS112.drewN | apply IsS112.drew | apply IsS112.set_1 | refine IsS112.far ?_ NB0_207.out _ | refine IsS112.far ?_ NB0_210.out _) | exact HI0.out))
         (case side2 => repeat (first | (with_reducible first | exact HB.out | apply below_alloc | apply pw_below_drewN | apply below_drew1 | refine below_set ?_ (IsS112.ge HI0.out) | refine below_set ?_ GE207.out | refine below_set ?_ GE210.out) | exact HB.out))
         rintro e w34 ⟨rfl, hi, hb, hk⟩
         refine ⟨_, rfl, ?_⟩
         have n1_ := Aside0.mk (KeepBut.blk hk (g' := gb207) (o := .cells #[.int .i64 0, .slice none 0 0] 38 (0, 0)) (by (with_reducible repeat (first | refine blk_drewN ?_ _ | refine blk_drew ?_ | refine blk_alloc ?_ _)); exact BK207.out) NB207_0.out (by simp))
         have n2_ := Aside0.mk (KeepBut.blk hk (g' := gb210) (o := .cells #[.int .i64 (wrap64 (2 + t208)), u211001] 38 (0, 0)) (by (with_reducible repeat (first | refine blk_drewN ?_ _ | refine blk_drew ?_ | refine blk_alloc ?_ _)); exact BK210.out) NB210_0.out (by simp))
         have n3_ := Aside0.mk (Kd.R_mono (Kd.R_keep (IsS112.apart (show IsS112 w0 _ g s0_0 t228 from by repeat (first | (with_reducible first | exact HI0.out | apply IsS112.alloc | apply IsS112.drewN | apply IsS112.drew | apply IsS112.set_1 | refine IsS112.far ?_ NB0_207.out _ | refine IsS112.far ?_ NB0_210.out _) | exact HI0.out)) (by (with_reducible repeat (first | apply Kd.R_alloc | apply Kd.R_drewN | apply Kd.R_drew)); exact HO221.out) (by decide)) hk (fun _ h => h.2)) (fun _ h => h.1))
         have n4_ := Aside0.mk (Kd.R_mono (Kd.R_keep (IsS112.apart (show IsS112 w0 _ g s0_0 t228 from by repeat (first | (with_reducible first | exact HI0.out | apply IsS112.alloc | apply IsS112.drewN | apply IsS112.drew | apply IsS112.set_1 | refine IsS112.far ?_ NB0_207.out _ | refine IsS112.far ?_ NB0_210.out _) | exact HI0.out)) (by (with_reducible repeat (first | apply Kd.R_alloc | apply Kd.R_drewN | apply Kd.R_drew)); exact HO226.out) (by decide)) hk (fun _ h => h.2)) (fun _ h => h.1))
         have n5_ := Aside0.mk (KeepBut.trans (by repeat (first | (with_reducible first | exact HK.out | apply KeepBut.set_ | apply keep_drewN | apply keep_drew | apply keep_alloc | refine keep_far ?_ GW207.out _ | refine keep_far ?_ GW210.out _) | exact HK.out)) hk (.inl rfl))
         have n6_ := Aside0.mk (hb)
         have n7_ := Aside0.mk (hi)
         have z_HO_211001 := fun (h0_ : b 19 = false) => (show Kd.R k45 45 w34 w.heap.size (fun _ => True) u211001 x211001_1 from by first | exact (Kd.R_mono (Kd.R_keep (IsS112.apart (show IsS112 w0 _ g s0_0 t228 from by repeat (first | (with_reducible first | exact HI0.out | apply IsS112.alloc | apply IsS112.drewN | apply IsS112.drew | apply IsS112.set_1 | refine IsS112.far ?_ NB0_207.out _ | refine IsS112.far ?_ NB0_210.out _) | exact HI0.out)) (by (with_reducible repeat (first | apply Kd.R_alloc | apply Kd.R_drewN | apply Kd.R_drew)); exact (Q_HO_211001 h0_)) (by decide)) hk (fun _ h => h.2)) (fun _ h => h.1)) | exact Kd.R_mono (Kd.R_mono (Kd.R_keep (IsS112.apart (show IsS112 w0 _ g s0_0 t228 from by repeat (first | (with_reducible first | exact HI0.out | apply IsS112.alloc | apply IsS112.drewN | apply IsS112.drew | apply IsS112.set_1 | refine IsS112.far ?_ NB0_207.out _ | refine IsS112.far ?_ NB0_210.out _) | exact HI0.out)) (by (with_reducible repeat (first | apply Kd.R_alloc | apply Kd.R_drewN | apply Kd.R_drew)); exact (Q_HO_211001 h0_)) (by decide)) hk (fun _ h => h.2)) (fun _ h => h.1)) (fun _ h_ => by first | trivial | exact h_ | exact h_.1))
         have z_HO_211001_e19 := fun (h0_ : b 19 = true) => (show Kd.R k45 45 w34 w.heap.size (fun k_ => k_ ≠ gb231) u211001 x211001_1 from by first | exact (Kd.R_mono (Kd.R_keep (IsS112.apart (show IsS112 w0 _ g s0_0 t228 from by repeat (first | (with_reducible first | exact HI0.out | apply IsS112.alloc | apply IsS112.drewN | apply IsS112.drew | apply IsS112.set_1 | refine IsS112.far ?_ NB0_207.out _ | refine IsS112.far ?_ NB0_210.out _) | exact HI0.out)) (by (with_reducible repeat (first | apply Kd.R_alloc | apply Kd.R_drewN | apply Kd.R_drew)); exact (Q_HO_211001_e19 h0_)) (by decide)) hk (fun _ h => h.2)) (fun _ h => h.1)) | exact Kd.R_mono (Kd.R_mono (Kd.R_keep (IsS112.apart (show IsS112 w0 _ g s0_0 t228 from by repeat (first | (with_reducible first | exact HI0.out | apply IsS112.alloc | apply IsS112.drewN | apply IsS112.drew | apply IsS112.set_1 | refine IsS112.far ?_ NB0_207.out _ | refine IsS112.far ?_ NB0_210.out _) | exact HI0.out)) (by (with_reducible repeat (first | apply Kd.R_alloc | apply Kd.R_drewN | apply Kd.R_drew)); exact (Q_HO_211001_e19 h0_)) (by decide)) hk (fun _ h => h.2)) (fun _ h => h.1)) (fun _ h_ => by first | trivial | exact h_ | exact h_.1))
         have z_BK231 := fun (h0_ : b 19 = true) (h1_ : b 20 = false) => (show w34.heap[gb231]? = some (.cells #[.int .i64 0, .int .i64 0, .int .i64 0, .int .i64 0, .int .i64 0] 45 (0, 0)) from by first | exact (KeepBut.blk hk (g' := gb231) (o := .cells #[.int .i64 0, .int .i64 0, .int .i64 0, .int .i64 0, .int .i64 0] 45 (0, 0)) (by (with_reducible repeat (first | refine blk_drewN ?_ _ | refine blk_drew ?_ | refine blk_alloc ?_ _)); exact (Q_BK231 h0_ h1_)) (Q_NB231_0 h0_) (by simp)))
         clear BK207
         clear BK210
         clear HO221
         clear HO226
         clear HK
         clear HB
         clear HI0
         have BK207 := n1_
         have BK210 := n2_
         have HO221 := n3_
         have HO226 := n4_
         have HK := n5_
         have HB := n6_
         have HI0 := n7_
         clear n1_ n2_ n3_ n4_ n5_ n6_ n7_
         (try clear hb)
         (try clear hb2)
         (try clear hk)
         (try clear hi)
         refine hK.out _ _ ⟨v220, v225, gb231, m19_, (by rw [ha.out]; exact putSel_upk 9 hb_ rfl rfl rfl), z_HO_211001, (by (with_reducible repeat (first | refine blk_drewN ?_ _ | refine blk_drew ?_ | refine blk_alloc ?_ _)); exact BK207.out), (by (with_reducible repeat (first | refine blk_drewN ?_ _ | refine blk_drew ?_ | refine blk_alloc ?_ _)); exact BK210.out), fun h0_ => absurd ((hon 3 (by kernel_rfl)).symm.trans h0_) (by decide), (by repeat (first | (with_reducible first | exact HK.out | apply KeepBut.set_ | apply keep_drewN | apply keep_drew | apply keep_alloc | refine keep_far ?_ GW207.out _ | refine keep_far ?_ GW210.out _) | exact HK.out)), (by repeat (first | (with_reducible first | exact HB.out | apply below_alloc | apply pw_below_drewN | apply below_drew1 | refine below_set ?_ (IsS112.ge HI0.out) | refine below_set ?_ GE207.out | refine below_set ?_ GE210.out) | exact HB.out)), fun _ h1_ => absurd ((hon 7 (by kernel_rfl)).symm.trans h1_) (by decide), fun _ h1_ => absurd ((hon 10 (by kernel_rfl)).symm.trans h1_) (by decide), fun _ h1_ => absurd ((hon 12 (by kernel_rfl)).symm.trans h1_) (by decide), fun _ => (by (with_reducible repeat (first | apply Kd.R_alloc | apply Kd.R_drewN | apply Kd.R_drew)); exact HO221.out), fun _ h1_ => absurd ((hon 15 (by kernel_rfl)).symm.trans h1_) (by decide), fun _ => (by (with_reducible repeat (first | apply Kd.R_alloc | apply Kd.R_drewN | apply Kd.R_drew)); exact HO226.out), fun _ h1_ => absurd ((up_self b 17).symm.trans h1_) (by decide), fun _ => (by repeat (first | (with_reducible first | exact HI0.out | apply IsS112.alloc | apply IsS112.drewN | apply IsS112.drew | apply IsS112.set_1 | refine IsS112.far ?_ NB0_207.out _ | refine IsS112.far ?_ NB0_210.out _) | exact HI0.out)), z_HO_211001_e19, z_BK231, Q_GW231, Q_GE231, Q_NB0_231, Q_NB231_0, Q_NB207_231, Q_NB231_207, Q_NB210_231, Q_NB231_210, fun h0_ => absurd ((hoff 20 (by kernel_rfl)).symm.trans h0_) (by decide), Q_X19_⟩
        refine steps_cons ?_ ?_
        ·rintro b a w' ⟨v220, v225, gb231, m19_, ha, Q_HO_211001, Q_BK207, Q_BK210, Q_HI0, Q_HK, Q_HB, Q_HI0_e3, Q_HI0_e7, Q_HI0_e10, Q_HO221, Q_HI0_e12, Q_HO226, Q_HI0_e15, Q_HI0_e17, Q_HO_211001_e19, Q_BK231, Q_GW231, Q_GE231, Q_NB0_231, Q_NB231_0, Q_NB207_231, Q_NB231_207, Q_NB210_231, Q_NB231_210, Q_BK231_e20, Q_X19_⟩ hb_ hon hoff
         refine ⟨_, rfl, fun K hK => ?_⟩
         have e19 : a.tmps[19]? = some (.int .i64 t213) := by rw [ha]; exact putSel_on (e := (3, 19, .int .i64 t213)) 1 rfl rfl (hon 3 (by kernel_rfl)) rfl
         have e23 : a.tmps[23]? = some (.int .i64 t215) := by rw [ha]; exact putSel_on (e := (7, 23, .int .i64 t215)) 3 rfl rfl (hon 7 (by kernel_rfl)) rfl
         have e28 : a.tmps[28]? = some (.int .i64 t222) := by rw [ha]; exact putSel_on (e := (12, 28, .int .i64 t222)) 6 rfl rfl (hon 12 (by kernel_rfl)) rfl
         have e31 : a.tmps[31]? = some (.int .i64 t227) := by rw [ha]; exact putSel_on (e := (15, 31, .int .i64 t227)) 8 rfl rfl (hon 15 (by kernel_rfl)) rfl
         have e33 : a.tmps[33]? = some (.int .i64 t229) := by rw [ha]; exact putSel_on (e := (17, 33, .int .i64 t229)) 9 rfl rfl (hon 17 (by kernel_rfl)) rfl
         replace ha := Aside0.mk ha
         have BK207 := Aside0.mk Q_BK207
         have BK210 := Aside0.mk Q_BK210
         have HK := Aside0.mk Q_HK
         have HB := Aside0.mk Q_HB
         have HO221 := Aside0.mk (Q_HO221 (hon 11 (by kernel_rfl)))
         have HO226 := Aside0.mk (Q_HO226 (hon 14 (by kernel_rfl)))
         have HI0 := Aside0.mk (Q_HI0_e17 (hon 17 (by kernel_rfl)))
         refine value_ (w1 := w') (v := .agg #[.int .i64 t213, .int .i64 t215, .int .i64 t222, .int .i64 t227, .int .i64 t229]) (by rfl) rfl ?_ ?_
         ·go_simp
          (try simp only [i64_w])
          try rfl
         refine hK.out _ _ ⟨v220, v225, gb231, m19_, (by rw [ha.out]; exact putSel_upk 10 hb_ rfl rfl rfl), Q_HO_211001, Q_BK207, Q_BK210, fun h0_ => absurd ((hon 3 (by kernel_rfl)).symm.trans h0_) (by decide), Q_HK, Q_HB, fun _ h1_ => absurd ((hon 7 (by kernel_rfl)).symm.trans h1_) (by decide), fun _ h1_ => absurd ((hon 10 (by kernel_rfl)).symm.trans h1_) (by decide), fun _ h1_ => absurd ((hon 12 (by kernel_rfl)).symm.trans h1_) (by decide), Q_HO221, fun _ h1_ => absurd ((hon 15 (by kernel_rfl)).symm.trans h1_) (by decide), Q_HO226, fun _ h1_ => absurd ((hon 17 (by kernel_rfl)).symm.trans h1_) (by decide), Q_HI0_e17, Q_HO_211001_e19, Q_BK231, Q_GW231, Q_GE231, Q_NB0_231, Q_NB231_0, Q_NB207_231, Q_NB231_207, Q_NB210_231, Q_NB231_210, fun h0_ => absurd ((hoff 20 (by kernel_rfl)).symm.trans h0_) (by decide), Q_X19_⟩
        refine steps_cons ?_ ?_
        ·rintro b a w' ⟨v220, v225, gb231, m19_, ha, Q_HO_211001, Q_BK207, Q_BK210, Q_HI0, Q_HK, Q_HB, Q_HI0_e3, Q_HI0_e7, Q_HI0_e10, Q_HO221, Q_HI0_e12, Q_HO226, Q_HI0_e15, Q_HI0_e17, Q_HO_211001_e19, Q_BK231, Q_GW231, Q_GE231, Q_NB0_231, Q_NB231_0, Q_NB207_231, Q_NB231_207, Q_NB210_231, Q_NB231_210, Q_BK231_e20, Q_X19_⟩ hb_ hon hoff
         refine ⟨_, rfl, fun K hK => ?_⟩
         replace ha := Aside0.mk ha
         have HO_211001 := Aside0.mk (Q_HO_211001 hb_)
         have BK207 := Aside0.mk Q_BK207
         have BK210 := Aside0.mk Q_BK210
         have HK := Aside0.mk Q_HK
         have HB := Aside0.mk Q_HB
         refine box_step ?hg (N := 5) ?hd (cs := #[.int .i64 0, .int .i64 0, .int .i64 0, .int .i64 0, .int .i64 0]) (t := 45) ?hr ?_; (case hd => rfl); (case hg => rfl); (case hr => first | (go_simp; done) | (go_simp; rfl))
         intro gb231 hg w22 hbox hb
         have n0_ := Aside0.mk (Kd.R_below (Kd.R_elderB (by (with_reducible repeat (first | apply Kd.R_alloc | apply Kd.R_drewN | apply Kd.R_drew)); exact HO_211001.out) gb231 (Nat.le_of_eq hg.symm)) hb)
         have n1_ := Aside0.mk (blk_below (g := gb207) (o := .cells #[.int .i64 0, .slice none 0 0] 38 (0, 0)) (by (with_reducible repeat (first | refine blk_drewN ?_ _ | refine blk_drew ?_ | refine blk_alloc ?_ _)); exact BK207.out) hb)
         have n2_ := Aside0.mk (blk_below (g := gb210) (o := .cells #[.int .i64 (wrap64 (2 + t208)), u211001] 38 (0, 0)) (by (with_reducible repeat (first | refine blk_drewN ?_ _ | refine blk_drew ?_ | refine blk_alloc ?_ _)); exact BK210.out) hb)
         have n4_ := Aside0.mk (KeepBut.trans (by repeat (first | (with_reducible first | exact HK.out | apply KeepBut.set_ | apply keep_drewN | apply keep_drew | apply keep_alloc | refine keep_far ?_ GW207.out _ | refine keep_far ?_ GW210.out _) | exact HK.out)) (KeepBut.of_below hb g none) (.inl rfl))
         have n5_ := Aside0.mk (below_step (by repeat (first | (with_reducible first | exact HB.out | apply below_alloc | apply pw_below_drewN | apply below_drew1 | refine below_set ?_ GE207.out | refine below_set ?_ GE210.out) | exact HB.out)) hb)
         have n6_ := Aside0.mk (hbox)
         have n7_ := Aside0.mk ((by rw [hg]; exact (keep_size (w := w) (g := g) (row := none) (by repeat (first | (with_reducible first | exact HK.out | apply KeepBut.set_ | apply keep_drewN | apply keep_drew | apply keep_alloc | refine keep_far ?_ GW207.out _ | refine keep_far ?_ GW210.out _) | exact HK.out))) : w.heap.size ≤ gb231))
         have n8_ := Aside0.mk ((Nat.le_trans HW0.out (by rw [hg]; exact (keep_size (w := w) (g := g) (row := none) (by repeat (first | (with_reducible first | exact HK.out | apply KeepBut.set_ | apply keep_drewN | apply keep_drew | apply keep_alloc | refine keep_far ?_ GW207.out _ | refine keep_far ?_ GW210.out _) | exact HK.out))) : w.heap.size ≤ gb231) : w0.heap.size ≤ gb231))
         have n9_ := Aside0.mk ((by rw [hg]; exact Nat.ne_of_lt (blk_lt (g := gb207) (o := .cells #[.int .i64 0, .slice none 0 0] 38 (0, 0)) (by (with_reducible repeat (first | refine blk_drewN ?_ _ | refine blk_drew ?_ | refine blk_alloc ?_ _)); exact BK207.out)) : gb207 ≠ gb231))
         have n10_ := Aside0.mk ((by rw [hg]; exact Nat.ne_of_gt (blk_lt (g := gb207) (o := .cells #[.int .i64 0, .slice none 0 0] 38 (0, 0)) (by (with_reducible repeat (first | refine blk_drewN ?_ _ | refine blk_drew ?_ | refine blk_alloc ?_ _)); exact BK207.out)) : gb231 ≠ gb207))
         have n11_ := Aside0.mk ((by rw [hg]; exact Nat.ne_of_lt (blk_lt (g := gb210) (o := .cells #[.int .i64 (wrap64 (2 + t208)), u211001] 38 (0, 0)) (by (with_reducible repeat (first | refine blk_drewN ?_ _ | refine blk_drew ?_ | refine blk_alloc ?_ _)); exact BK210.out)) : gb210 ≠ gb231))
         have n12_ := Aside0.mk ((by rw [hg]; exact Nat.ne_of_gt (blk_lt (g := gb210) (o := .cells #[.int .i64 (wrap64 (2 + t208)), u211001] 38 (0, 0)) (by (with_reducible repeat (first | refine blk_drewN ?_ _ | refine blk_drew ?_ | refine blk_alloc ?_ _)); exact BK210.out)) : gb231 ≠ gb210))
         have n13_ := Aside0.mk ((by rw [hg]; exact Nat.ne_of_lt (Nat.lt_of_lt_of_le HLTg.out (by first | exact HK.out.1 | (have := HK.out.1; simp; omega))) : g ≠ gb231))
         have n14_ := Aside0.mk ((by rw [hg]; exact Nat.ne_of_gt (Nat.lt_of_lt_of_le HLTg.out (by first | exact HK.out.1 | (have := HK.out.1; simp; omega))) : gb231 ≠ g))
         have z_HI0 := fun (h0_ : b 3 = false) => (show IsS112 w0 w22 g s0_0 x1001_1 from by first | exact (IsS112.below (by repeat (first | (with_reducible first | exact (Q_HI0 h0_) | apply IsS112.alloc | apply IsS112.drewN | apply IsS112.drew | apply IsS112.set_1 | refine IsS112.far ?_ NB0_207.out _ | refine IsS112.far ?_ NB0_210.out _) | exact (Q_HI0 h0_))) hb))
         have z_HI0_e3 := fun (h0_ : b 3 = true) (h1_ : b 7 = false) => (show IsS112 w0 w22 g s0_0 t214 from by first | exact (IsS112.below (by repeat (first | (with_reducible first | exact (Q_HI0_e3 h0_ h1_) | apply IsS112.alloc | apply IsS112.drewN | apply IsS112.drew | apply IsS112.set_1 | refine IsS112.far ?_ NB0_207.out _ | refine IsS112.far ?_ NB0_210.out _) | exact (Q_HI0_e3 h0_ h1_))) hb))
         have z_HI0_e7 := fun (h0_ : b 7 = true) (h1_ : b 10 = false) => (show IsS112 w0 w22 g s0_0 t216 from by first | exact (IsS112.below (by repeat (first | (with_reducible first | exact (Q_HI0_e7 h0_ h1_) | apply IsS112.alloc | apply IsS112.drewN | apply IsS112.drew | apply IsS112.set_1 | refine IsS112.far ?_ NB0_207.out _ | refine IsS112.far ?_ NB0_210.out _) | exact (Q_HI0_e7 h0_ h1_))) hb))
         have z_HI0_e10 := fun (h0_ : b 10 = true) (h1_ : b 12 = false) => (show IsS112 w0 w22 g s0_0 t218 from by first | exact (IsS112.below (by repeat (first | (with_reducible first | exact (Q_HI0_e10 h0_ h1_) | apply IsS112.alloc | apply IsS112.drewN | apply IsS112.drew | apply IsS112.set_1 | refine IsS112.far ?_ NB0_207.out _ | refine IsS112.far ?_ NB0_210.out _) | exact (Q_HI0_e10 h0_ h1_))) hb))
         have z_HO221 := fun (h0_ : b 11 = true) => (show Kd.R (Kd.int .i64) 3 w22 w.heap.size (fun _ => True) v220 y219 from by first | exact (Kd.R_below (by (with_reducible repeat (first | apply Kd.R_alloc | apply Kd.R_drewN | apply Kd.R_drew)); exact (Q_HO221 h0_)) hb) | exact Kd.R_mono (Kd.R_below (by (with_reducible repeat (first | apply Kd.R_alloc | apply Kd.R_drewN | apply Kd.R_drew)); exact (Q_HO221 h0_)) hb) (fun _ h_ => by first | trivial | exact h_ | exact h_.1))
         have z_HI0_e12 := fun (h0_ : b 12 = true) (h1_ : b 15 = false) => (show IsS112 w0 w22 g s0_0 t223 from by first | exact (IsS112.below (by repeat (first | (with_reducible first | exact (Q_HI0_e12 h0_ h1_) | apply IsS112.alloc | apply IsS112.drewN | apply IsS112.drew | apply IsS112.set_1 | refine IsS112.far ?_ NB0_207.out _ | refine IsS112.far ?_ NB0_210.out _) | exact (Q_HI0_e12 h0_ h1_))) hb))
         have z_HO226 := fun (h0_ : b 14 = true) => (show Kd.R (Kd.int .i64) 3 w22 w.heap.size (fun _ => True) v225 y224 from by first | exact (Kd.R_below (by (with_reducible repeat (first | apply Kd.R_alloc | apply Kd.R_drewN | apply Kd.R_drew)); exact (Q_HO226 h0_)) hb) | exact Kd.R_mono (Kd.R_below (by (with_reducible repeat (first | apply Kd.R_alloc | apply Kd.R_drewN | apply Kd.R_drew)); exact (Q_HO226 h0_)) hb) (fun _ h_ => by first | trivial | exact h_ | exact h_.1))
         have z_HI0_e15 := fun (h0_ : b 15 = true) (h1_ : b 17 = false) => (show IsS112 w0 w22 g s0_0 t228 from by first | exact (IsS112.below (by repeat (first | (with_reducible first | exact (Q_HI0_e15 h0_ h1_) | apply IsS112.alloc | apply IsS112.drewN | apply IsS112.drew | apply IsS112.set_1 | refine IsS112.far ?_ NB0_207.out _ | refine IsS112.far ?_ NB0_210.out _) | exact (Q_HI0_e15 h0_ h1_))) hb))
         have z_HI0_e17 := fun (h0_ : b 17 = true) => (show IsS112 w0 w22 g s0_0 t230 from by first | exact (IsS112.below (by repeat (first | (with_reducible first | exact (Q_HI0_e17 h0_) | apply IsS112.alloc | apply IsS112.drewN | apply IsS112.drew | apply IsS112.set_1 | refine IsS112.far ?_ NB0_207.out _ | refine IsS112.far ?_ NB0_210.out _) | exact (Q_HI0_e17 h0_))) hb))
         clear HO_211001
         clear BK207
         clear BK210
         clear HK
         clear HB
         have HO_211001 := n0_
         have BK207 := n1_
         have BK210 := n2_
         have HK := n4_
         have HB := n5_
         have BK231 := n6_
         have GW231 := n7_
         have GE231 := n8_
         have NB207_231 := n9_
         have NB231_207 := n10_
         have NB210_231 := n11_
         have NB231_210 := n12_
         have NB0_231 := n13_
         have NB231_0 := n14_
         clear n0_ n1_ n2_ n4_ n5_ n6_ n7_ n8_ n9_ n10_ n11_ n12_ n13_ n14_
         clear hb hbox hg
         refine hK.out _ _ ⟨v220, v225, gb231, (.pointer (some ⟨gb231, 0, none⟩)), (by rw [ha.out]; exact putSel_upk 11 hb_ rfl rfl rfl), fun h0_ => absurd ((up_self b 19).symm.trans h0_) (by decide), (by (with_reducible repeat (first | refine blk_drewN ?_ _ | refine blk_drew ?_ | refine blk_alloc ?_ _)); exact BK207.out), (by (with_reducible repeat (first | refine blk_drewN ?_ _ | refine blk_drew ?_ | refine blk_alloc ?_ _)); exact BK210.out), z_HI0, (by repeat (first | (with_reducible first | exact HK.out | apply KeepBut.set_ | apply keep_drewN | apply keep_drew | apply keep_alloc | refine keep_far ?_ GW207.out _ | refine keep_far ?_ GW210.out _ | refine keep_far ?_ GW231.out _) | exact HK.out)), (by repeat (first | (with_reducible first | exact HB.out | apply below_alloc | apply pw_below_drewN | apply below_drew1 | refine below_set ?_ GE207.out | refine below_set ?_ GE210.out | refine below_set ?_ GE231.out) | exact HB.out)), z_HI0_e3, z_HI0_e7, z_HI0_e10, z_HO221, z_HI0_e12, z_HO226, z_HI0_e15, z_HI0_e17, fun _ => (by (with_reducible repeat (first | apply Kd.R_alloc | apply Kd.R_drewN | apply Kd.R_drew)); exact Kd.R_mono HO_211001.out (fun _ hk => hk.2)), fun _ _ => (by (with_reducible repeat (first | refine blk_drewN ?_ _ | refine blk_drew ?_ | refine blk_alloc ?_ _)); exact BK231.out), fun _ => GW231.out, fun _ => GE231.out, fun _ => NB0_231.out, fun _ => NB231_0.out, fun _ => NB207_231.out, fun _ => NB231_207.out, fun _ => NB210_231.out, fun _ => NB231_210.out, fun h0_ => absurd ((hoff 20 (by kernel_rfl)).symm.trans h0_) (by decide), fun _ => rfl⟩
        refine steps_cons ?_ ?_
        ·rintro b a w' ⟨v220, v225, gb231, m19_, ha, Q_HO_211001, Q_BK207, Q_BK210, Q_HI0, Q_HK, Q_HB, Q_HI0_e3, Q_HI0_e7, Q_HI0_e10, Q_HO221, Q_HI0_e12, Q_HO226, Q_HI0_e15, Q_HI0_e17, Q_HO_211001_e19, Q_BK231, Q_GW231, Q_GE231, Q_NB0_231, Q_NB231_0, Q_NB207_231, Q_NB231_207, Q_NB210_231, Q_NB231_210, Q_BK231_e20, Q_X19_⟩ hb_ hon hoff
         refine ⟨_, rfl, fun K hK => ?_⟩
         have e5 : a.tmps[5]? = some (m19_) := by rw [ha]; exact putSel_on (e := (19, 5, m19_)) 11 rfl rfl (hon 19 (by kernel_rfl)) rfl
         rw [Q_X19_ (hon 19 (by kernel_rfl))] at e5
         have e34 : a.tmps[34]? = some (.agg #[.int .i64 t213, .int .i64 t215, .int .i64 t222, .int .i64 t227, .int .i64 t229]) := by rw [ha]; exact putSel_on (e := (18, 34, .agg #[.int .i64 t213, .int .i64 t215, .int .i64 t222, .int .i64 t227, .int .i64 t229])) 10 rfl rfl (hon 18 (by kernel_rfl)) rfl
         replace ha := Aside0.mk ha
         have BK207 := Aside0.mk Q_BK207
         have BK210 := Aside0.mk Q_BK210
         have HK := Aside0.mk Q_HK
         have HB := Aside0.mk Q_HB
         have HO221 := Aside0.mk (Q_HO221 (hon 11 (by kernel_rfl)))
         have HO226 := Aside0.mk (Q_HO226 (hon 14 (by kernel_rfl)))
         have HI0 := Aside0.mk (Q_HI0_e17 (hon 17 (by kernel_rfl)))
         have HO_211001 := Aside0.mk (Q_HO_211001_e19 (hon 19 (by kernel_rfl)))
         have BK231 := Aside0.mk (Q_BK231 (hon 19 (by kernel_rfl)) hb_)
         have GW231 := Aside0.mk (Q_GW231 (hon 19 (by kernel_rfl)))
         have GE231 := Aside0.mk (Q_GE231 (hon 19 (by kernel_rfl)))
         have NB0_231 := Aside0.mk (Q_NB0_231 (hon 19 (by kernel_rfl)))
         have NB231_0 := Aside0.mk (Q_NB231_0 (hon 19 (by kernel_rfl)))
         have NB207_231 := Aside0.mk (Q_NB207_231 (hon 19 (by kernel_rfl)))
         have NB231_207 := Aside0.mk (Q_NB231_207 (hon 19 (by kernel_rfl)))
         have NB210_231 := Aside0.mk (Q_NB210_231 (hon 19 (by kernel_rfl)))
         have NB231_210 := Aside0.mk (Q_NB231_210 (hon 19 (by kernel_rfl)))
         have hs36 : w'.cell? ⟨gb231, 0, none⟩ = some (.int .i64 0) := (blk_cell BK231.out 0).trans rfl
         have hfs36 := blk_frozen BK231.out 0
         have hns36_0 := NB207_231.out
         have hns36_1 := NB210_231.out
         have hms36_0 := NB231_207.out
         have hms36_1 := NB231_210.out
         have hs37 : w'.cell? ⟨gb231, 1, none⟩ = some (.int .i64 0) := (blk_cell BK231.out 1).trans rfl
         have hfs37 := blk_frozen BK231.out 1
         have hns37_0 := NB207_231.out
         have hns37_1 := NB210_231.out
         have hms37_0 := NB231_207.out
         have hms37_1 := NB231_210.out
         have hs38 : w'.cell? ⟨gb231, 2, none⟩ = some (.int .i64 0) := (blk_cell BK231.out 2).trans rfl
         have hfs38 := blk_frozen BK231.out 2
         have hns38_0 := NB207_231.out
         have hns38_1 := NB210_231.out
         have hms38_0 := NB231_207.out
         have hms38_1 := NB231_210.out
         have hs39 : w'.cell? ⟨gb231, 3, none⟩ = some (.int .i64 0) := (blk_cell BK231.out 3).trans rfl
         have hfs39 := blk_frozen BK231.out 3
         have hns39_0 := NB207_231.out
         have hns39_1 := NB210_231.out
         have hms39_0 := NB231_207.out
         have hms39_1 := NB231_210.out
         have hs40 : w'.cell? ⟨gb231, 4, none⟩ = some (.int .i64 0) := (blk_cell BK231.out 4).trans rfl
         have hfs40 := blk_frozen BK231.out 4
         have hns40_0 := NB207_231.out
         have hns40_1 := NB210_231.out
         have hms40_0 := NB231_207.out
         have hms40_1 := NB231_210.out
         refine skip_ (w1 := ?_) (by rfl) rfl ?_ ?_
         rotate_left
         ·go_simp
          rfl
         refine hK.out _ _ ⟨v220, v225, gb231, m19_, (by rw [ha.out]; exact putSel_none (v := undef) rfl), fun h0_ => absurd ((hon 19 (by kernel_rfl)).symm.trans h0_) (by decide), (by (with_reducible repeat (first | refine blk_drewN ?_ _ | refine blk_drew ?_ | refine blk_alloc ?_ _)); refine blk_far ?_ NB207_231.out _; (with_reducible repeat (first | refine blk_drewN ?_ _ | refine blk_drew ?_ | refine blk_alloc ?_ _)); refine blk_far ?_ NB207_231.out _; (with_reducible repeat (first | refine blk_drewN ?_ _ | refine blk_drew ?_ | refine blk_alloc ?_ _)); refine blk_far ?_ NB207_231.out _; (with_reducible repeat (first | refine blk_drewN ?_ _ | refine blk_drew ?_ | refine blk_alloc ?_ _)); refine blk_far ?_ NB207_231.out _; (with_reducible repeat (first | refine blk_drewN ?_ _ | refine blk_drew ?_ | refine blk_alloc ?_ _)); refine blk_far ?_ NB207_231.out _; (with_reducible repeat (first | refine blk_drewN ?_ _ | refine blk_drew ?_ | refine blk_alloc ?_ _)); exact BK207.out), (by (with_reducible repeat (first | refine blk_drewN ?_ _ | refine blk_drew ?_ | refine blk_alloc ?_ _)); refine blk_far ?_ NB210_231.out _; (with_reducible repeat (first | refine blk_drewN ?_ _ | refine blk_drew ?_ | refine blk_alloc ?_ _)); refine blk_far ?_ NB210_231.out _; (with_reducible repeat (first | refine blk_drewN ?_ _ | refine blk_drew ?_ | refine blk_alloc ?_ _)); refine blk_far ?_ NB210_231.out _; (with_reducible repeat (first | refine blk_drewN ?_ _ | refine blk_drew ?_ | refine blk_alloc ?_ _)); refine blk_far ?_ NB210_231.out _; (with_reducible repeat (first | refine blk_drewN ?_ _ | refine blk_drew ?_ | refine blk_alloc ?_ _)); refine blk_far ?_ NB210_231.out _; (with_reducible repeat (first | refine blk_drewN ?_ _ | refine blk_drew ?_ | refine blk_alloc ?_ _)); exact BK210.out), fun h0_ => absurd ((hon 3 (by kernel_rfl)).symm.trans h0_) (by decide), (by repeat (first | (with_reducible first | exact HK.out | apply KeepBut.set_ | apply keep_drewN | apply keep_drew | apply keep_alloc | refine keep_far ?_ GW207.out _ | refine keep_far ?_ GW210.out _ | refine keep_far ?_ GW231.out _) | exact HK.out)), (by repeat (first | (with_reducible first | exact HB.out | apply below_alloc | apply pw_below_drewN | apply below_drew1 | refine below_set ?_ (IsS112.ge HI0.out) | refine below_set ?_ GE207.out | refine below_set ?_ GE210.out | refine below_set ?_ GE231.out) | exact HB.out)), fun _ h1_ => absurd ((hon 7 (by kernel_rfl)).symm.trans h1_) (by decide), fun _ h1_ => absurd ((hon 10 (by kernel_rfl)).symm.trans h1_) (by decide), fun _ h1_ => absurd ((hon 12 (by kernel_rfl)).symm.trans h1_) (by decide), fun _ => (by (with_reducible repeat (first | apply Kd.R_alloc | apply Kd.R_drewN | apply Kd.R_drew)); exact Kd.R_mono (Kd.R_far (p := ⟨gb231, 4, none⟩) (Kd.R_far (p := ⟨gb231, 3, none⟩) (Kd.R_far (p := ⟨gb231, 2, none⟩) (Kd.R_far (p := ⟨gb231, 1, none⟩) (Kd.R_far (p := ⟨gb231, 0, none⟩) (Kd.R_types HO221.out BK231.out (by decide)) (fun _ hk => hk.2) (.int .i64 t213)) (fun _ hk => hk.2) (.int .i64 t215)) (fun _ hk => hk.2) (.int .i64 t222)) (fun _ hk => hk.2) (.int .i64 t227)) (fun _ hk => hk.2) (.int .i64 t229)) (fun _ hk => hk.1)), fun _ h1_ => absurd ((hon 15 (by kernel_rfl)).symm.trans h1_) (by decide), fun _ => (by (with_reducible repeat (first | apply Kd.R_alloc | apply Kd.R_drewN | apply Kd.R_drew)); exact Kd.R_mono (Kd.R_far (p := ⟨gb231, 4, none⟩) (Kd.R_far (p := ⟨gb231, 3, none⟩) (Kd.R_far (p := ⟨gb231, 2, none⟩) (Kd.R_far (p := ⟨gb231, 1, none⟩) (Kd.R_far (p := ⟨gb231, 0, none⟩) (Kd.R_types HO226.out BK231.out (by decide)) (fun _ hk => hk.2) (.int .i64 t213)) (fun _ hk => hk.2) (.int .i64 t215)) (fun _ hk => hk.2) (.int .i64 t222)) (fun _ hk => hk.2) (.int .i64 t227)) (fun _ hk => hk.2) (.int .i64 t229)) (fun _ hk => hk.1)), fun _ h1_ => absurd ((hon 17 (by kernel_rfl)).symm.trans h1_) (by decide), fun _ => (by repeat (first | (with_reducible first | exact HI0.out | apply IsS112.alloc | apply IsS112.drewN | apply IsS112.drew | apply IsS112.set_1 | refine IsS112.far ?_ NB0_207.out _ | refine IsS112.far ?_ NB0_210.out _ | refine IsS112.far ?_ NB0_231.out _) | exact HI0.out)), fun _ => (by (with_reducible repeat (first | apply Kd.R_alloc | apply Kd.R_drewN | apply Kd.R_drew)); exact Kd.R_mono (Kd.R_far (p := ⟨gb231, 4, none⟩) (Kd.R_far (p := ⟨gb231, 3, none⟩) (Kd.R_far (p := ⟨gb231, 2, none⟩) (Kd.R_far (p := ⟨gb231, 1, none⟩) (Kd.R_far (p := ⟨gb231, 0, none⟩) (Kd.R_mono HO_211001.out (fun k_ hk => (⟨hk, hk⟩ : _ ∧ k_ ≠ gb231))) (fun _ hk => hk.2) (.int .i64 t213)) (fun _ hk => hk.2) (.int .i64 t215)) (fun _ hk => hk.2) (.int .i64 t222)) (fun _ hk => hk.2) (.int .i64 t227)) (fun _ hk => hk.2) (.int .i64 t229)) (fun _ hk => hk.1)), fun _ h1_ => absurd ((up_self b 20).symm.trans h1_) (by decide), fun _ => GW231.out, fun _ => GE231.out, fun _ => NB0_231.out, fun _ => NB231_0.out, fun _ => NB207_231.out, fun _ => NB231_207.out, fun _ => NB210_231.out, fun _ => NB231_210.out, fun _ => (by (with_reducible repeat (first | refine blk_drewN ?_ _ | refine blk_drew ?_ | refine blk_alloc ?_ _)); refine blk_put (cs := #[.int .i64 t213, .int .i64 t215, .int .i64 t222, .int .i64 t227, .int .i64 0]) ?_ 4 _ rfl; (with_reducible repeat (first | refine blk_drewN ?_ _ | refine blk_drew ?_ | refine blk_alloc ?_ _)); refine blk_put (cs := #[.int .i64 t213, .int .i64 t215, .int .i64 t222, .int .i64 0, .int .i64 0]) ?_ 3 _ rfl; (with_reducible repeat (first | refine blk_drewN ?_ _ | refine blk_drew ?_ | refine blk_alloc ?_ _)); refine blk_put (cs := #[.int .i64 t213, .int .i64 t215, .int .i64 0, .int .i64 0, .int .i64 0]) ?_ 2 _ rfl; (with_reducible repeat (first | refine blk_drewN ?_ _ | refine blk_drew ?_ | refine blk_alloc ?_ _)); refine blk_put (cs := #[.int .i64 t213, .int .i64 0, .int .i64 0, .int .i64 0, .int .i64 0]) ?_ 1 _ rfl; (with_reducible repeat (first | refine blk_drewN ?_ _ | refine blk_drew ?_ | refine blk_alloc ?_ _)); refine blk_put (cs := #[.int .i64 0, .int .i64 0, .int .i64 0, .int .i64 0, .int .i64 0]) ?_ 0 _ rfl; (with_reducible repeat (first | refine blk_drewN ?_ _ | refine blk_drew ?_ | refine blk_alloc ?_ _)); exact BK231.out), Q_X19_⟩
        exact steps_nil
       rintro b a w40 hall ⟨v220, v225, gb231, m19_, ha, Q_HO_211001, Q_BK207, Q_BK210, Q_HI0, Q_HK, Q_HB, Q_HI0_e3, Q_HI0_e7, Q_HI0_e10, Q_HO221, Q_HI0_e12, Q_HO226, Q_HI0_e15, Q_HI0_e17, Q_HO_211001_e19, Q_BK231, Q_GW231, Q_GE231, Q_NB0_231, Q_NB231_0, Q_NB207_231, Q_NB231_207, Q_NB210_231, Q_NB231_210, Q_BK231_e20, Q_X19_⟩
       clear BK207 BK210 HB HI0 HK HO_211001
       have hb2_ := hall 2 (by kernel_rfl)
       have hb3_ := hall 3 (by kernel_rfl)
       have hb6_ := hall 6 (by kernel_rfl)
       have hb7_ := hall 7 (by kernel_rfl)
       have hb10_ := hall 10 (by kernel_rfl)
       have hb11_ := hall 11 (by kernel_rfl)
       have hb12_ := hall 12 (by kernel_rfl)
       have hb14_ := hall 14 (by kernel_rfl)
       have hb15_ := hall 15 (by kernel_rfl)
       have hb17_ := hall 17 (by kernel_rfl)
       have hb18_ := hall 18 (by kernel_rfl)
       have hb19_ := hall 19 (by kernel_rfl)
       have hb20_ := hall 20 (by kernel_rfl)
       subst ha
       obtain rfl := Q_X19_ hb19_
       simp only [putSel, hb2_, hb3_, hb6_, hb7_, hb10_, hb11_, hb12_, hb14_, hb15_, hb17_, hb18_, hb19_, hb20_, if_true, Act.put, List.setIfInBounds_toArray, List.set_cons_zero, List.set_cons_succ]
       clear Q_HO_211001
       have BK207 := Aside0.mk Q_BK207
       clear Q_BK207
       have BK210 := Aside0.mk Q_BK210
       clear Q_BK210
       clear Q_HI0
       have HK := Aside0.mk Q_HK
       clear Q_HK
       have HB := Aside0.mk Q_HB
       clear Q_HB
       clear Q_HI0_e3
       clear Q_HI0_e7
       clear Q_HI0_e10
       have HO221 := Aside0.mk (Q_HO221 hb11_)
       clear Q_HO221
       clear Q_HI0_e12
       have HO226 := Aside0.mk (Q_HO226 hb14_)
       clear Q_HO226
       clear Q_HI0_e15
       have HI0 := Aside0.mk (Q_HI0_e17 hb17_)
       clear Q_HI0_e17
       have HO_211001 := Aside0.mk (Q_HO_211001_e19 hb19_)
       clear Q_HO_211001_e19
       clear Q_BK231
       have GW231 := Aside0.mk (Q_GW231 hb19_)
       clear Q_GW231
       have GE231 := Aside0.mk (Q_GE231 hb19_)
       clear Q_GE231
       have NB0_231 := Aside0.mk (Q_NB0_231 hb19_)
       clear Q_NB0_231
       have NB231_0 := Aside0.mk (Q_NB231_0 hb19_)
       clear Q_NB231_0
       have NB207_231 := Aside0.mk (Q_NB207_231 hb19_)
       clear Q_NB207_231
       have NB231_207 := Aside0.mk (Q_NB231_207 hb19_)
       clear Q_NB231_207
       have NB210_231 := Aside0.mk (Q_NB210_231 hb19_)
       clear Q_NB210_231
       have NB231_210 := Aside0.mk (Q_NB231_210 hb19_)
       clear Q_NB231_210
       have BK231 := Aside0.mk (Q_BK231_e20 hb20_)
       clear Q_BK231_e20
       clear hall hb2_ hb3_ hb6_ hb7_ hb10_ hb11_ hb12_ hb14_ hb15_ hb17_ hb18_ hb19_ hb20_
       have hnb41 := NB231_207.out
       have hnc41 := NB207_231.out
       have hnb42 := NB231_210.out
       have hnc42 := NB210_231.out
       have hnb43 := NB231_0.out
       have hnc43 := NB0_231.out
       have hcz44_0 : w40.cell? ⟨gb231, 0, none⟩ = some (.int .i64 t213) := (blk_cell BK231.out 0).trans rfl
       have hcz44_1 : w40.cell? ⟨gb231, 1, none⟩ = some (.int .i64 t215) := (blk_cell BK231.out 1).trans rfl
       have hcz44_2 : w40.cell? ⟨gb231, 2, none⟩ = some (.int .i64 t222) := (blk_cell BK231.out 2).trans rfl
       have hcz44_3 : w40.cell? ⟨gb231, 3, none⟩ = some (.int .i64 t227) := (blk_cell BK231.out 3).trans rfl
       have hcz44_4 : w40.cell? ⟨gb231, 4, none⟩ = some (.int .i64 t229) := (blk_cell BK231.out 4).trans rfl
       have hfz44_0 := blk_frozen BK231.out 0
       have hfz44_1 := blk_frozen BK231.out 1
       have hfz44_2 := blk_frozen BK231.out 2
       have hfz44_3 := blk_frozen BK231.out 3
       have hfz44_4 := blk_frozen BK231.out 4
       have hnb45 := NB210_207.out
       have hnc45 := NB207_210.out
       have hnb46 := NB210_0.out
       have hnc46 := NB0_210.out
       have hcz47_0 : w40.cell? ⟨gb210, 0, none⟩ = some (.int .i64 (wrap64 (2 + t208))) := (blk_cell BK210.out 0).trans rfl
       have hcz47_1 : w40.cell? ⟨gb210, 1, none⟩ = some (u211001) := (blk_cell BK210.out 1).trans rfl
       have hfz47_0 := blk_frozen BK210.out 0
       have hfz47_1 := blk_frozen BK210.out 1
       try go_wp2_with (first | ((with_reducible refine gate_builtin (b := .append) (xs := #[.tmp 48, .tmp 50]) rfl ?_); at_builtin; refine Kd.R_append k45 w.heap.size rfl (.tmp 48) (.tmp 50) 36 45 (.agg #[(.int .i64 0), (.int .i64 0), (.int .i64 0), (.int .i64 0), (.int .i64 0)]) 40 rfl Try.underlying36 info45 rfl (by decide) (by omega) u211001 x211001_1 (⟨t213, Int.tmod (wrap64 (t215 + 1)) (wrap64 (2 + t208)), t222, t227, t229⟩ : S45) [.int .i64 t213, .int .i64 (Int.tmod (wrap64 (t215 + 1)) (wrap64 (2 + t208))), .int .i64 t222, .int .i64 t227, .int .i64 t229] (fun k_ => k_ ≠ gb231) (fun _ => False) rfl (by first | (go_simp; done) | (go_simp; rfl)) ?aP (fun _ hk => hk.elim) ?aF ?aO (Below.refl _ _) ?aS ?aL ?_; (case aP => exact k45_mkM _ _ _ (⟨t213, Int.tmod (wrap64 (t215 + 1)) (wrap64 (2 + t208)), t222, t227, t229⟩ : S45)); (case aF => exact (fun k_ hk => Kd.freshB (g := gb231) (o := .cells #[.int .i64 t213, .int .i64 (Int.tmod (wrap64 (t215 + 1)) (wrap64 (2 + t208))), .int .i64 t222, .int .i64 t227, .int .i64 t229] 45 (0, 0)) (by (with_reducible repeat (first | refine blk_drewN ?_ _ | refine blk_drew ?_ | refine blk_alloc ?_ _)); refine blk_put (cs := #[.int .i64 t213, .int .i64 t215, .int .i64 t222, .int .i64 t227, .int .i64 t229]) ?_ 1 _ rfl; (with_reducible repeat (first | refine blk_drewN ?_ _ | refine blk_drew ?_ | refine blk_alloc ?_ _)); exact BK231.out) k_ hk)); (case aO => exact (by (with_reducible repeat (first | apply Kd.R_alloc | apply Kd.R_drewN | apply Kd.R_drew)); exact Kd.R_mono (Kd.R_far (p := ⟨gb231, 1, none⟩) (Kd.R_mono HO_211001.out (fun k_ hk => (⟨hk, hk⟩ : _ ∧ k_ ≠ gb231))) (fun _ hk => hk.2) (.int .i64 (Int.tmod (wrap64 (t215 + 1)) (wrap64 (2 + t208))))) (fun _ hk => hk.1))); (case aS => exact (keep_size (w := w) (g := g) (row := none) (by repeat (first | (with_reducible first | exact HK.out | apply KeepBut.set_ | apply keep_drewN | apply keep_drew | apply keep_alloc | refine keep_far ?_ GW207.out _ | refine keep_far ?_ GW210.out _ | refine keep_far ?_ GW231.out _) | exact HK.out)))); (case aL => have := LMc20.out; omega); intro v233 w48 ho hb hg hat; rw [← Ny232.out] at ho; have n0_ := Aside0.mk (blk_grown (g := gb207) (o := .cells #[.int .i64 0, .slice none 0 0] 38 (0, 0)) (by (with_reducible repeat (first | refine blk_drewN ?_ _ | refine blk_drew ?_ | refine blk_alloc ?_ _)); refine blk_far ?_ NB207_231.out _; (with_reducible repeat (first | refine blk_drewN ?_ _ | refine blk_drew ?_ | refine blk_alloc ?_ _)); exact BK207.out) hg (Kd.R_ne HO_211001.out BK207.out (by decide))); have n1_ := Aside0.mk (blk_grown (g := gb210) (o := .cells #[.int .i64 (wrap64 (2 + t208)), u211001] 38 (0, 0)) (by (with_reducible repeat (first | refine blk_drewN ?_ _ | refine blk_drew ?_ | refine blk_alloc ?_ _)); refine blk_far ?_ NB210_231.out _; (with_reducible repeat (first | refine blk_drewN ?_ _ | refine blk_drew ?_ | refine blk_alloc ?_ _)); exact BK210.out) hg (Kd.R_ne HO_211001.out BK210.out (by decide))); have n2_ := Aside0.mk (IsS112.grown2 HI0.out (by repeat (first | (with_reducible first | exact HI0.out | apply IsS112.alloc | apply IsS112.drewN | apply IsS112.drew | apply IsS112.set_1 | refine IsS112.far ?_ NB0_207.out _ | refine IsS112.far ?_ NB0_210.out _ | refine IsS112.far ?_ NB0_231.out _) | exact HI0.out)) hg (IsS112.own_ne HI0.out HO_211001.out (by decide))); have n3_ := Aside0.mk (Kd.R_over' (by (with_reducible repeat (first | apply Kd.R_alloc | apply Kd.R_drewN | apply Kd.R_drew)); exact (Kd.R_mono (Kd.R_far (p := ⟨gb231, 1, none⟩) (Kd.R_types HO221.out BK231.out (by decide)) (fun _ hk => hk.2) (.int .i64 (Int.tmod (wrap64 (t215 + 1)) (wrap64 (2 + t208))))) (fun _ h_ => h_.1))) (Kd.R_typed (by (with_reducible repeat (first | apply Kd.R_alloc | apply Kd.R_drewN | apply Kd.R_drew)); exact (Kd.R_mono (Kd.R_far (p := ⟨gb231, 1, none⟩) (Kd.R_mono HO_211001.out (fun k_ hk => (⟨hk, hk⟩ : _ ∧ k_ ≠ gb231))) (fun _ hk => hk.2) (.int .i64 (Int.tmod (wrap64 (t215 + 1)) (wrap64 (2 + t208))))) (fun _ h_ => h_.1)))) (by decide) hg); have n4_ := Aside0.mk (Kd.R_over' (by (with_reducible repeat (first | apply Kd.R_alloc | apply Kd.R_drewN | apply Kd.R_drew)); exact (Kd.R_mono (Kd.R_far (p := ⟨gb231, 1, none⟩) (Kd.R_types HO226.out BK231.out (by decide)) (fun _ hk => hk.2) (.int .i64 (Int.tmod (wrap64 (t215 + 1)) (wrap64 (2 + t208))))) (fun _ h_ => h_.1))) (Kd.R_typed (by (with_reducible repeat (first | apply Kd.R_alloc | apply Kd.R_drewN | apply Kd.R_drew)); exact (Kd.R_mono (Kd.R_far (p := ⟨gb231, 1, none⟩) (Kd.R_mono HO_211001.out (fun k_ hk => (⟨hk, hk⟩ : _ ∧ k_ ≠ gb231))) (fun _ hk => hk.2) (.int .i64 (Int.tmod (wrap64 (t215 + 1)) (wrap64 (2 + t208))))) (fun _ h_ => h_.1)))) (by decide) hg); have n5_ := Aside0.mk (blk_grown (g := gb231) (o := .cells #[.int .i64 t213, .int .i64 (Int.tmod (wrap64 (t215 + 1)) (wrap64 (2 + t208))), .int .i64 t222, .int .i64 t227, .int .i64 t229] 45 (0, 0)) (by (with_reducible repeat (first | refine blk_drewN ?_ _ | refine blk_drew ?_ | refine blk_alloc ?_ _)); refine blk_put (cs := #[.int .i64 t213, .int .i64 t215, .int .i64 t222, .int .i64 t227, .int .i64 t229]) ?_ 1 _ rfl; (with_reducible repeat (first | refine blk_drewN ?_ _ | refine blk_drew ?_ | refine blk_alloc ?_ _)); exact BK231.out) hg (Kd.R_away HO_211001.out (fun _ hk => hk))); have n6_ := Aside0.mk (below_weaken (by repeat (first | (with_reducible first | exact HB.out | apply below_alloc | apply pw_below_drewN | apply below_drew1 | refine below_set ?_ (IsS112.ge HI0.out) | refine below_set ?_ GE207.out | refine below_set ?_ GE210.out | refine below_set ?_ GE231.out) | exact HB.out)) HL.out hb); have n7_ := Aside0.mk (KeepBut.trans (by repeat (first | (with_reducible first | exact HK.out | apply KeepBut.set_ | apply keep_drewN | apply keep_drew | apply keep_alloc | refine keep_far ?_ GW207.out _ | refine keep_far ?_ GW210.out _ | refine keep_far ?_ GW231.out _) | exact HK.out)) (KeepBut.of_grown hg g) (Kd.R_base2 HO_211001.out)); have n8_ := Aside0.mk (ho); clear BK207; clear BK210; clear HI0; clear HO221; clear HO226; clear BK231; clear HB; clear HK; clear HO_211001; have BK207 := n0_; have BK210 := n1_; have HI0 := n2_; have HO221 := n3_; have HO226 := n4_; have BK231 := n5_; have HB := n6_; have HK := n7_; have HO234 := n8_; clear n0_ n1_ n2_ n3_ n4_ n5_ n6_ n7_ n8_; clear ho hb hg hat; obtain ⟨Ao49, co49, eo49⟩ := Kd.R_slice HO234.out; subst eo49; have hcz50_0 : w48.cell? ⟨gb210, 0, none⟩ = some (.int .i64 (wrap64 (2 + t208))) := (blk_cell BK210.out 0).trans rfl; have hcz50_1 : w48.cell? ⟨gb210, 1, none⟩ = some (u211001) := (blk_cell BK210.out 1).trans rfl; have hfz50_0 := blk_frozen BK210.out 0; have hfz50_1 := blk_frozen BK210.out 1))
       go_roundg k1
       case measure => have := HK1.out; omega
       case rel => exact ⟨(wrap64 (x4_1 - 1)), (t230), (y232), (.slice Ao49 y232.length co49), (by first | rfl | (simp; done) | (simp [*]; done)), H', ⟨by have := HK1.out; omega⟩, ⟨by (with_reducible repeat (first | apply Kd.R_alloc | apply Kd.R_drewN | apply Kd.R_drew)); exact Kd.R_mono (Kd.R_far (p := ⟨gb210, 1, none⟩) (Kd.R_types HO234.out BK210.out (by decide)) (fun _ hk => hk.2) (.slice Ao49 y232.length co49)) (fun _ hk => trivial)⟩, ⟨by (with_reducible repeat (first | refine blk_drewN ?_ _ | refine blk_drew ?_ | refine blk_alloc ?_ _)); refine blk_far ?_ NB207_210.out _; (with_reducible repeat (first | refine blk_drewN ?_ _ | refine blk_drew ?_ | refine blk_alloc ?_ _)); exact BK207.out⟩, ⟨by (with_reducible repeat (first | refine blk_drewN ?_ _ | refine blk_drew ?_ | refine blk_alloc ?_ _)); refine blk_put (cs := #[.int .i64 (wrap64 (2 + t208)), u211001]) ?_ 1 _ rfl; (with_reducible repeat (first | refine blk_drewN ?_ _ | refine blk_drew ?_ | refine blk_alloc ?_ _)); exact BK210.out⟩, ⟨by repeat (first | (with_reducible first | exact HI0.out | apply IsS112.alloc | apply IsS112.drewN | apply IsS112.drew | apply IsS112.set_1 | refine IsS112.far ?_ NB0_207.out _ | refine IsS112.far ?_ NB0_210.out _ | refine IsS112.far ?_ NB0_231.out _) | exact HI0.out)⟩, ⟨by repeat (first | (with_reducible first | exact HK.out | apply KeepBut.set_ | apply keep_drewN | apply keep_drew | apply keep_alloc | refine keep_far ?_ GW207.out _ | refine keep_far ?_ GW210.out _ | refine keep_far ?_ GW231.out _) | exact HK.out)⟩, ⟨by repeat (first | (with_reducible first | exact HB.out | apply below_alloc | apply pw_below_drewN | apply below_drew1 | refine below_set ?_ (IsS112.ge HI0.out) | refine below_set ?_ GE207.out | refine below_set ?_ GE210.out | refine below_set ?_ GE231.out) | exact HB.out)⟩⟩
      ·rw [if_neg c20] at H
       exact absurd H (by simp)
    ·rw [if_neg c18] at H
     have c18b0 : (t213 == t215) = false := beq_eq_false_iff_ne.mpr c18
     have c18b1 : (t213 != t215) = true := bne_iff_ne.mpr c18
     by_cases c51 : x211001_1.length < 3518437208883
     ·rw [if_pos c51] at H
      have LMc51 := Aside0.mk c51
      clear c51
      obtain ⟨y235, hy235⟩ : ∃ y_ : List (S45), y_ = (x211001_1 ++ [(⟨t213, t215, t222, t227, t229⟩ : S45)]) := ⟨_, rfl⟩
      replace H : (spec_l30Net.l0 k1 (wrap64 (x4_1 - 1)) s0_0 t230 (wrap64 (2 + t208)) y235) = some (r1, r2, r3) := by first | (rw [hy235]; with_reducible exact H) | (have H2_ := (Option.bind_some _ _).symm.trans H; rw [hy235]; with_reducible exact H2_) | (have H2_ := (Option.bind_some _ _).symm.trans H; with_reducible exact H2_) | with_reducible exact H | (rw [hy235]; exact H) | exact H
      have Ny235 := Aside0.mk hy235
      clear hy235
      have H' := Aside0.mk H
      clear H
      try go_wp2
      have n0_ := Aside0.mk (Kd.R_drew HO_211001.out)
      have n1_ := Aside0.mk (blk_drew BK207.out)
      have n2_ := Aside0.mk (blk_drew BK210.out)
      have n3_ := Aside0.mk (IsS112.drew HI0.out)
      have n4_ := Aside0.mk (keep_drew HK.out)
      have n5_ := Aside0.mk (below_drew1 HB.out)
      clear HO_211001
      clear BK207
      clear BK210
      clear HI0
      clear HK
      clear HB
      have HO_211001 := n0_
      have BK207 := n1_
      have BK210 := n2_
      have HI0 := n3_
      have HK := n4_
      have HB := n5_
      clear n0_ n1_ n2_ n3_ n4_ n5_
      refine start_ (n := 21) (S := fun w' => True) (ds := []) #[false, false, false, false, false, false, false, false, false, false, false, false, false, false, false, false, false, false, false, false, false] (by kernel_rfl) rfl rfl trivial (fun hHeld => ?_); refine with_tabW spec_l30Net.tab5 spec_l30Net.bits5 (fun HT_ HW_ => ?_)
      generalize wr.drew = w52 at HO_211001 BK207 BK210 HI0 HK HB hHeld ⊢
      refine pure_ (i := 0) (N := some 16) (v := ?_) (a' := ?_) #[true, false, false, false, false, false, false, false, false, false, false, false, false, false, false, false, false, false, false, false, false] rfl rfl (any_of HT_.out (by kernel_rfl)) (fun _ _ _ h => h) (Or.inl ⟨by rfl, ?_⟩) ?_ ?_
      rotate_left
      ·intro w'
       go_simp
       with_reducible rfl
      rotate_left
      ·simp only [Act.put, List.setIfInBounds_toArray, List.set_cons_zero, List.set_cons_succ, i64_w, i32_w]
       rfl
      refine pure_ (i := 1) (N := some 17) (v := ?_) (a' := ?_) #[true, true, false, false, false, false, false, false, false, false, false, false, false, false, false, false, false, false, false, false, false] rfl rfl (any_of HT_.out (by kernel_rfl)) (fun _ _ _ h => h) (Or.inl ⟨by rfl, ?_⟩) ?_ ?_
      rotate_left
      ·intro w'
       go_simp
       with_reducible rfl
      rotate_left
      ·simp only [Act.put, List.setIfInBounds_toArray, List.set_cons_zero, List.set_cons_succ, i64_w, i32_w]
       rfl
      refine pure_ (i := 4) (N := some 20) (v := ?_) (a' := ?_) #[true, true, false, false, true, false, false, false, false, false, false, false, false, false, false, false, false, false, false, false, false] rfl rfl (any_of HT_.out (by kernel_rfl)) (fun _ _ _ h => h) (Or.inl ⟨by rfl, ?_⟩) ?_ ?_
      rotate_left
      ·intro w'
       go_simp
       with_reducible rfl
      rotate_left
      ·simp only [Act.put, List.setIfInBounds_toArray, List.set_cons_zero, List.set_cons_succ, i64_w, i32_w]
       rfl
      refine pure_ (i := 5) (N := some 21) (v := ?_) (a' := ?_) #[true, true, false, false, true, true, false, false, false, false, false, false, false, false, false, false, false, false, false, false, false] rfl rfl (any_of HT_.out (by kernel_rfl)) (fun _ _ _ h => h) (Or.inl ⟨by rfl, ?_⟩) ?_ ?_
      rotate_left
      ·intro w'
       go_simp
       with_reducible rfl
      rotate_left
      ·simp only [Act.put, List.setIfInBounds_toArray, List.set_cons_zero, List.set_cons_succ, i64_w, i32_w]
       rfl
      refine pure_ (i := 8) (N := some 24) (v := ?_) (a' := ?_) #[true, true, false, false, true, true, false, false, true, false, false, false, false, false, false, false, false, false, false, false, false] rfl rfl (any_of HT_.out (by kernel_rfl)) (fun _ _ _ h => h) (Or.inl ⟨by rfl, ?_⟩) ?_ ?_
      rotate_left
      ·intro w'
       go_simp
       with_reducible rfl
      rotate_left
      ·simp only [Act.put, List.setIfInBounds_toArray, List.set_cons_zero, List.set_cons_succ, i64_w, i32_w]
       rfl
      refine pure_ (i := 9) (N := some 25) (v := ?_) (a' := ?_) #[true, true, false, false, true, true, false, false, true, true, false, false, false, false, false, false, false, false, false, false, false] rfl rfl (any_of HT_.out (by kernel_rfl)) (fun _ _ _ h => h) (Or.inl ⟨by rfl, ?_⟩) ?_ ?_
      rotate_left
      ·intro w'
       go_simp
       with_reducible rfl
      rotate_left
      ·simp only [Act.put, List.setIfInBounds_toArray, List.set_cons_zero, List.set_cons_succ, i64_w, i32_w]
       rfl
      refine pure_ (i := 13) (N := some 29) (v := ?_) (a' := ?_) #[true, true, false, false, true, true, false, false, true, true, false, false, false, true, false, false, false, false, false, false, false] rfl rfl (any_of HT_.out (by kernel_rfl)) (fun _ _ _ h => h) (Or.inl ⟨by rfl, ?_⟩) ?_ ?_
      rotate_left
      ·intro w'
       go_simp
       with_reducible rfl
      rotate_left
      ·simp only [Act.put, List.setIfInBounds_toArray, List.set_cons_zero, List.set_cons_succ, i64_w, i32_w]
       rfl
      refine pure_ (i := 16) (N := some 32) (v := ?_) (a' := ?_) #[true, true, false, false, true, true, false, false, true, true, false, false, false, true, false, false, true, false, false, false, false] rfl rfl (any_of HT_.out (by kernel_rfl)) (fun _ _ _ h => h) (Or.inl ⟨by rfl, ?_⟩) ?_ ?_
      rotate_left
      ·intro w'
       go_simp
       with_reducible rfl
      rotate_left
      ·simp only [Act.put, List.setIfInBounds_toArray, List.set_cons_zero, List.set_cons_succ, i64_w, i32_w]
       rfl
      refine inv_at [2, 3, 6, 7, 10, 11, 12, 14, 15, 17, 18, 19, 20] (fun a0_ b a w' => ∃ (v220 : Value) (v225 : Value) (gb231 : Nat) (m19_ : Value), a = putSel a0_ b [(2, 18, .int .i64 (wrap64 (2 + t208))), (3, 19, .int .i64 t213), (6, 22, .int .i64 (wrap64 (2 + t208))), (7, 23, .int .i64 t215), (10, 26, .int .i64 t217), (11, 27, v220), (12, 28, .int .i64 t222), (14, 30, v225), (15, 31, .int .i64 t227), (17, 33, .int .i64 t229), (18, 34, .agg #[.int .i64 t213, .int .i64 t215, .int .i64 t222, .int .i64 t227, .int .i64 t229]), (19, 5, m19_)] ∧ (b 19 = false → Kd.R k45 45 w' w.heap.size (fun _ => True) u211001 x211001_1) ∧ (w'.heap[gb207]? = some (.cells #[.int .i64 0, .slice none 0 0] 38 (0, 0))) ∧ (w'.heap[gb210]? = some (.cells #[.int .i64 (wrap64 (2 + t208)), u211001] 38 (0, 0))) ∧ (b 3 = false → IsS112 w0 w' g s0_0 x1001_1) ∧ (KeepBut w w' g none) ∧ (Below w0.heap.size w0 w') ∧ (b 3 = true → b 7 = false → IsS112 w0 w' g s0_0 t214) ∧ (b 7 = true → b 10 = false → IsS112 w0 w' g s0_0 t216) ∧ (b 10 = true → b 12 = false → IsS112 w0 w' g s0_0 t218) ∧ (b 11 = true → Kd.R (Kd.int .i64) 3 w' w.heap.size (fun _ => True) v220 y219) ∧ (b 12 = true → b 15 = false → IsS112 w0 w' g s0_0 t223) ∧ (b 14 = true → Kd.R (Kd.int .i64) 3 w' w.heap.size (fun _ => True) v225 y224) ∧ (b 15 = true → b 17 = false → IsS112 w0 w' g s0_0 t228) ∧ (b 17 = true → IsS112 w0 w' g s0_0 t230) ∧ (b 19 = true → Kd.R k45 45 w' w.heap.size (fun k_ => k_ ≠ gb231) u211001 x211001_1) ∧ (b 19 = true → b 20 = false → w'.heap[gb231]? = some (.cells #[.int .i64 0, .int .i64 0, .int .i64 0, .int .i64 0, .int .i64 0] 45 (0, 0))) ∧ (b 19 = true → w.heap.size ≤ gb231) ∧ (b 19 = true → w0.heap.size ≤ gb231) ∧ (b 19 = true → g ≠ gb231) ∧ (b 19 = true → gb231 ≠ g) ∧ (b 19 = true → gb207 ≠ gb231) ∧ (b 19 = true → gb231 ≠ gb207) ∧ (b 19 = true → gb210 ≠ gb231) ∧ (b 19 = true → gb231 ≠ gb210) ∧ (b 20 = true → w'.heap[gb231]? = some (.cells #[.int .i64 t213, .int .i64 t215, .int .i64 t222, .int .i64 t227, .int .i64 t229] 45 (0, 0))) ∧ (b 19 = true → (m19_ : Value) = .pointer (some ⟨gb231, 0, none⟩))) HT_.out HW_.out (by kernel_rfl) (by kernel_rfl) ?_ ?_ ?_
      ·exact ⟨.bool false, .bool false, 0, .bool false, by simp only [putSel, Bool.false_eq_true, if_false], fun _ => HO_211001.out, BK207.out, BK210.out, fun _ => HI0.out, HK.out, HB.out, fun h_ => absurd h_ (by decide), fun h_ => absurd h_ (by decide), fun h_ => absurd h_ (by decide), fun h_ => absurd h_ (by decide), fun h_ => absurd h_ (by decide), fun h_ => absurd h_ (by decide), fun h_ => absurd h_ (by decide), fun h_ => absurd h_ (by decide), fun h_ => absurd h_ (by decide), fun h_ => absurd h_ (by decide), fun h_ => absurd h_ (by decide), fun h_ => absurd h_ (by decide), fun h_ => absurd h_ (by decide), fun h_ => absurd h_ (by decide), fun h_ => absurd h_ (by decide), fun h_ => absurd h_ (by decide), fun h_ => absurd h_ (by decide), fun h_ => absurd h_ (by decide), fun h_ => absurd h_ (by decide), fun h_ => absurd h_ (by decide)⟩
      ·skip
       clear BK207 BK210 HB HI0 HK HO_211001
       refine steps_cons ?_ ?_
       ·rintro b a w' ⟨v220, v225, gb231, m19_, ha, Q_HO_211001, Q_BK207, Q_BK210, Q_HI0, Q_HK, Q_HB, Q_HI0_e3, Q_HI0_e7, Q_HI0_e10, Q_HO221, Q_HI0_e12, Q_HO226, Q_HI0_e15, Q_HI0_e17, Q_HO_211001_e19, Q_BK231, Q_GW231, Q_GE231, Q_NB0_231, Q_NB231_0, Q_NB207_231, Q_NB231_207, Q_NB210_231, Q_NB231_210, Q_BK231_e20, Q_X19_⟩ hb_ hon hoff
        refine ⟨_, rfl, fun K hK => ?_⟩
        have e17 : a.tmps[17]? = some (.pointer (some ⟨gb210, 0, none⟩)) := by rw [ha]; exact (putSel_off rfl).trans rfl
        replace ha := Aside0.mk ha
        have BK207 := Aside0.mk Q_BK207
        have BK210 := Aside0.mk Q_BK210
        have HI0 := Aside0.mk (Q_HI0 (hoff 3 (by kernel_rfl)))
        have HK := Aside0.mk Q_HK
        have HB := Aside0.mk Q_HB
        have hc0_ : w'.cell? ⟨gb210, 0, none⟩ = some (.int .i64 (wrap64 (2 + t208))) := (blk_cell BK210.out 0).trans rfl
        have hc1_ : w'.cell? ⟨gb210, 1, none⟩ = some (u211001) := (blk_cell BK210.out 1).trans rfl
        refine value_ (w1 := w') (v := .int .i64 (wrap64 (2 + t208))) (by rfl) rfl ?_ ?_
        ·go_simp
         (try simp only [i64_w])
         try rfl
        refine hK.out _ _ ⟨v220, v225, gb231, m19_, (by rw [ha.out]; exact putSel_upk 0 hb_ rfl rfl rfl), Q_HO_211001, Q_BK207, Q_BK210, Q_HI0, Q_HK, Q_HB, fun h0_ _ => absurd ((hoff 3 (by kernel_rfl)).symm.trans h0_) (by decide), fun h0_ _ => absurd ((hoff 7 (by kernel_rfl)).symm.trans h0_) (by decide), fun h0_ _ => absurd ((hoff 10 (by kernel_rfl)).symm.trans h0_) (by decide), fun h0_ => absurd ((hoff 11 (by kernel_rfl)).symm.trans h0_) (by decide), fun h0_ _ => absurd ((hoff 12 (by kernel_rfl)).symm.trans h0_) (by decide), Q_HO226, fun h0_ _ => absurd ((hoff 15 (by kernel_rfl)).symm.trans h0_) (by decide), fun h0_ => absurd ((hoff 17 (by kernel_rfl)).symm.trans h0_) (by decide), Q_HO_211001_e19, Q_BK231, Q_GW231, Q_GE231, Q_NB0_231, Q_NB231_0, Q_NB207_231, Q_NB231_207, Q_NB210_231, Q_NB231_210, fun h0_ => absurd ((hoff 20 (by kernel_rfl)).symm.trans h0_) (by decide), Q_X19_⟩
       refine steps_cons ?_ ?_
       ·rintro b a w' ⟨v220, v225, gb231, m19_, ha, Q_HO_211001, Q_BK207, Q_BK210, Q_HI0, Q_HK, Q_HB, Q_HI0_e3, Q_HI0_e7, Q_HI0_e10, Q_HO221, Q_HI0_e12, Q_HO226, Q_HI0_e15, Q_HI0_e17, Q_HO_211001_e19, Q_BK231, Q_GW231, Q_GE231, Q_NB0_231, Q_NB231_0, Q_NB207_231, Q_NB231_207, Q_NB210_231, Q_NB231_210, Q_BK231_e20, Q_X19_⟩ hb_ hon hoff
        refine ⟨_, rfl, fun K hK => ?_⟩
        have e16 : a.tmps[16]? = some (.pointer (some ⟨g, 0, none⟩)) := by rw [ha]; exact (putSel_off rfl).trans rfl
        have e18 : a.tmps[18]? = some (.int .i64 (wrap64 (2 + t208))) := by rw [ha]; exact putSel_on (e := (2, 18, .int .i64 (wrap64 (2 + t208)))) 0 rfl rfl (hon 2 (by kernel_rfl)) rfl
        replace ha := Aside0.mk ha
        have BK207 := Aside0.mk Q_BK207
        have BK210 := Aside0.mk Q_BK210
        have HI0 := Aside0.mk (Q_HI0 hb_)
        have HK := Aside0.mk Q_HK
        have HB := Aside0.mk Q_HB
        refine goes_ Try.func74 (by kernel_rfl) rfl #[.pointer (some ⟨g, 0, none⟩), .int .i64 (wrap64 (2 + t208))] (by rfl) rfl rfl (by first | (simp only [List.map_toArray, List.map_cons, List.map_nil, Act.eval, Array.getD_eq_getD_getElem?, Option.getD_some, e16, e18]; done) | (simp only [List.map_toArray, List.map_cons, List.map_nil, Act.eval, Array.getD_eq_getD_getElem?, Option.getD_some, e16, e18]; rfl)) ?_
        with_reducible refine (spec_l30Rd_pick.calls k1 g s0_0 x1001_1 (wrap64 (2 + t208)) t213 t214 w0 _ ?side1 ?side2 A12.out).mono ?_
        (case side1 => repeat (first | (with_reducible first | exact HI0.out | apply IsS112.alloc | apply IsS112.drewN | apply IsS112.drew | apply IsS112.set_1 | refine IsS112.far ?_ NB0_207.out _ | refine IsS112.far ?_ NB0_210.out _) | exact HI0.out))
        (case side2 => repeat (first | (with_reducible first | exact HB.out | apply below_alloc | apply pw_below_drewN | apply below_drew1 | refine below_set ?_ (IsS112.ge HI0.out) | refine below_set ?_ GE207.out | refine below_set ?_ GE210.out) | exact HB.out))
        rintro e w53 ⟨rfl, hi, hb, hk⟩
        refine ⟨_, rfl, ?_⟩
        have n1_ := Aside0.mk (KeepBut.blk hk (g' := gb207) (o := .cells #[.int .i64 0, .slice none 0 0] 38 (0, 0)) (by (with_reducible repeat (first | refine blk_drewN ?_ _ | refine blk_drew ?_ | refine blk_alloc ?_ _)); exact BK207.out) NB207_0.out (by simp))
        have n2_ := Aside0.mk (KeepBut.blk hk (g' := gb210) (o := .cells #[.int .i64 (wrap64 (2 + t208)), u211001] 38 (0, 0)) (by (with_reducible repeat (first | refine blk_drewN ?_ _ | refine blk_drew ?_ | refine blk_alloc ?_ _)); exact BK210.out) NB210_0.out (by simp))
        have n3_ := Aside0.mk (KeepBut.trans (by repeat (first | (with_reducible first | exact HK.out | apply KeepBut.set_ | apply keep_drewN | apply keep_drew | apply keep_alloc | refine keep_far ?_ GW207.out _ | refine keep_far ?_ GW210.out _) | exact HK.out)) hk (.inl rfl))
        have n4_ := Aside0.mk (hb)
        have n5_ := Aside0.mk (hi)
        have z_HO_211001 := fun (h0_ : b 19 = false) => (show Kd.R k45 45 w53 w.heap.size (fun _ => True) u211001 x211001_1 from by first | exact (Kd.R_mono (Kd.R_keep (IsS112.apart (show IsS112 w0 _ g s0_0 x1001_1 from by repeat (first | (with_reducible first | exact HI0.out | apply IsS112.alloc | apply IsS112.drewN | apply IsS112.drew | apply IsS112.set_1 | refine IsS112.far ?_ NB0_207.out _ | refine IsS112.far ?_ NB0_210.out _) | exact HI0.out)) (by (with_reducible repeat (first | apply Kd.R_alloc | apply Kd.R_drewN | apply Kd.R_drew)); exact (Q_HO_211001 h0_)) (by decide)) hk (fun _ h => h.2)) (fun _ h => h.1)) | exact Kd.R_mono (Kd.R_mono (Kd.R_keep (IsS112.apart (show IsS112 w0 _ g s0_0 x1001_1 from by repeat (first | (with_reducible first | exact HI0.out | apply IsS112.alloc | apply IsS112.drewN | apply IsS112.drew | apply IsS112.set_1 | refine IsS112.far ?_ NB0_207.out _ | refine IsS112.far ?_ NB0_210.out _) | exact HI0.out)) (by (with_reducible repeat (first | apply Kd.R_alloc | apply Kd.R_drewN | apply Kd.R_drew)); exact (Q_HO_211001 h0_)) (by decide)) hk (fun _ h => h.2)) (fun _ h => h.1)) (fun _ h_ => by first | trivial | exact h_ | exact h_.1))
        have z_HO226 := fun (h0_ : b 14 = true) => (show Kd.R (Kd.int .i64) 3 w53 w.heap.size (fun _ => True) v225 y224 from by first | exact (Kd.R_mono (Kd.R_keep (IsS112.apart (show IsS112 w0 _ g s0_0 x1001_1 from by repeat (first | (with_reducible first | exact HI0.out | apply IsS112.alloc | apply IsS112.drewN | apply IsS112.drew | apply IsS112.set_1 | refine IsS112.far ?_ NB0_207.out _ | refine IsS112.far ?_ NB0_210.out _) | exact HI0.out)) (by (with_reducible repeat (first | apply Kd.R_alloc | apply Kd.R_drewN | apply Kd.R_drew)); exact (Q_HO226 h0_)) (by decide)) hk (fun _ h => h.2)) (fun _ h => h.1)) | exact Kd.R_mono (Kd.R_mono (Kd.R_keep (IsS112.apart (show IsS112 w0 _ g s0_0 x1001_1 from by repeat (first | (with_reducible first | exact HI0.out | apply IsS112.alloc | apply IsS112.drewN | apply IsS112.drew | apply IsS112.set_1 | refine IsS112.far ?_ NB0_207.out _ | refine IsS112.far ?_ NB0_210.out _) | exact HI0.out)) (by (with_reducible repeat (first | apply Kd.R_alloc | apply Kd.R_drewN | apply Kd.R_drew)); exact (Q_HO226 h0_)) (by decide)) hk (fun _ h => h.2)) (fun _ h => h.1)) (fun _ h_ => by first | trivial | exact h_ | exact h_.1))
        have z_HO_211001_e19 := fun (h0_ : b 19 = true) => (show Kd.R k45 45 w53 w.heap.size (fun k_ => k_ ≠ gb231) u211001 x211001_1 from by first | exact (Kd.R_mono (Kd.R_keep (IsS112.apart (show IsS112 w0 _ g s0_0 x1001_1 from by repeat (first | (with_reducible first | exact HI0.out | apply IsS112.alloc | apply IsS112.drewN | apply IsS112.drew | apply IsS112.set_1 | refine IsS112.far ?_ NB0_207.out _ | refine IsS112.far ?_ NB0_210.out _) | exact HI0.out)) (by (with_reducible repeat (first | apply Kd.R_alloc | apply Kd.R_drewN | apply Kd.R_drew)); exact (Q_HO_211001_e19 h0_)) (by decide)) hk (fun _ h => h.2)) (fun _ h => h.1)) | exact Kd.R_mono (Kd.R_mono (Kd.R_keep (IsS112.apart (show IsS112 w0 _ g s0_0 x1001_1 from by repeat (first | (with_reducible first | exact HI0.out | apply IsS112.alloc | apply IsS112.drewN | apply IsS112.drew | apply IsS112.set_1 | refine IsS112.far ?_ NB0_207.out _ | refine IsS112.far ?_ NB0_210.out _) | exact HI0.out)) (by (with_reducible repeat (first | apply Kd.R_alloc | apply Kd.R_drewN | apply Kd.R_drew)); exact (Q_HO_211001_e19 h0_)) (by decide)) hk (fun _ h => h.2)) (fun _ h => h.1)) (fun _ h_ => by first | trivial | exact h_ | exact h_.1))
        have z_BK231 := fun (h0_ : b 19 = true) (h1_ : b 20 = false) => (show w53.heap[gb231]? = some (.cells #[.int .i64 0, .int .i64 0, .int .i64 0, .int .i64 0, .int .i64 0] 45 (0, 0)) from by first | exact (KeepBut.blk hk (g' := gb231) (o := .cells #[.int .i64 0, .int .i64 0, .int .i64 0, .int .i64 0, .int .i64 0] 45 (0, 0)) (by (with_reducible repeat (first | refine blk_drewN ?_ _ | refine blk_drew ?_ | refine blk_alloc ?_ _)); exact (Q_BK231 h0_ h1_)) (Q_NB231_0 h0_) (by simp)))
        clear BK207
        clear BK210
        clear HK
        clear HB
        clear HI0
        have BK207 := n1_
        have BK210 := n2_
        have HK := n3_
        have HB := n4_
        have HI0 := n5_
        clear n1_ n2_ n3_ n4_ n5_
        (try clear hb)
        (try clear hb2)
        (try clear hk)
        (try clear hi)
        refine hK.out _ _ ⟨v220, v225, gb231, m19_, (by rw [ha.out]; exact putSel_upk 1 hb_ rfl rfl rfl), z_HO_211001, (by (with_reducible repeat (first | refine blk_drewN ?_ _ | refine blk_drew ?_ | refine blk_alloc ?_ _)); exact BK207.out), (by (with_reducible repeat (first | refine blk_drewN ?_ _ | refine blk_drew ?_ | refine blk_alloc ?_ _)); exact BK210.out), fun h0_ => absurd ((up_self b 3).symm.trans h0_) (by decide), (by repeat (first | (with_reducible first | exact HK.out | apply KeepBut.set_ | apply keep_drewN | apply keep_drew | apply keep_alloc | refine keep_far ?_ GW207.out _ | refine keep_far ?_ GW210.out _) | exact HK.out)), (by repeat (first | (with_reducible first | exact HB.out | apply below_alloc | apply pw_below_drewN | apply below_drew1 | refine below_set ?_ (IsS112.ge HI0.out) | refine below_set ?_ GE207.out | refine below_set ?_ GE210.out) | exact HB.out)), fun _ _ => (by repeat (first | (with_reducible first | exact HI0.out | apply IsS112.alloc | apply IsS112.drewN | apply IsS112.drew | apply IsS112.set_1 | refine IsS112.far ?_ NB0_207.out _ | refine IsS112.far ?_ NB0_210.out _) | exact HI0.out)), fun h0_ _ => absurd ((hoff 7 (by kernel_rfl)).symm.trans h0_) (by decide), fun h0_ _ => absurd ((hoff 10 (by kernel_rfl)).symm.trans h0_) (by decide), fun h0_ => absurd ((hoff 11 (by kernel_rfl)).symm.trans h0_) (by decide), fun h0_ _ => absurd ((hoff 12 (by kernel_rfl)).symm.trans h0_) (by decide), z_HO226, fun h0_ _ => absurd ((hoff 15 (by kernel_rfl)).symm.trans h0_) (by decide), fun h0_ => absurd ((hoff 17 (by kernel_rfl)).symm.trans h0_) (by decide), z_HO_211001_e19, z_BK231, Q_GW231, Q_GE231, Q_NB0_231, Q_NB231_0, Q_NB207_231, Q_NB231_207, Q_NB210_231, Q_NB231_210, fun h0_ => absurd ((hoff 20 (by kernel_rfl)).symm.trans h0_) (by decide), Q_X19_⟩
       refine steps_cons ?_ ?_
       ·rintro b a w' ⟨v220, v225, gb231, m19_, ha, Q_HO_211001, Q_BK207, Q_BK210, Q_HI0, Q_HK, Q_HB, Q_HI0_e3, Q_HI0_e7, Q_HI0_e10, Q_HO221, Q_HI0_e12, Q_HO226, Q_HI0_e15, Q_HI0_e17, Q_HO_211001_e19, Q_BK231, Q_GW231, Q_GE231, Q_NB0_231, Q_NB231_0, Q_NB207_231, Q_NB231_207, Q_NB210_231, Q_NB231_210, Q_BK231_e20, Q_X19_⟩ hb_ hon hoff
        refine ⟨_, rfl, fun K hK => ?_⟩
        have e21 : a.tmps[21]? = some (.pointer (some ⟨gb210, 0, none⟩)) := by rw [ha]; exact (putSel_off rfl).trans rfl
        replace ha := Aside0.mk ha
        have BK207 := Aside0.mk Q_BK207
        have BK210 := Aside0.mk Q_BK210
        have HK := Aside0.mk Q_HK
        have HB := Aside0.mk Q_HB
        have hc0_ : w'.cell? ⟨gb210, 0, none⟩ = some (.int .i64 (wrap64 (2 + t208))) := (blk_cell BK210.out 0).trans rfl
        have hc1_ : w'.cell? ⟨gb210, 1, none⟩ = some (u211001) := (blk_cell BK210.out 1).trans rfl
        refine value_ (w1 := w') (v := .int .i64 (wrap64 (2 + t208))) (by rfl) rfl ?_ ?_
        ·go_simp
         (try simp only [i64_w])
         try rfl
        refine hK.out _ _ ⟨v220, v225, gb231, m19_, (by rw [ha.out]; exact putSel_upk 2 hb_ rfl rfl rfl), Q_HO_211001, Q_BK207, Q_BK210, Q_HI0, Q_HK, Q_HB, Q_HI0_e3, fun h0_ _ => absurd ((hoff 7 (by kernel_rfl)).symm.trans h0_) (by decide), fun h0_ _ => absurd ((hoff 10 (by kernel_rfl)).symm.trans h0_) (by decide), fun h0_ => absurd ((hoff 11 (by kernel_rfl)).symm.trans h0_) (by decide), fun h0_ _ => absurd ((hoff 12 (by kernel_rfl)).symm.trans h0_) (by decide), Q_HO226, fun h0_ _ => absurd ((hoff 15 (by kernel_rfl)).symm.trans h0_) (by decide), fun h0_ => absurd ((hoff 17 (by kernel_rfl)).symm.trans h0_) (by decide), Q_HO_211001_e19, Q_BK231, Q_GW231, Q_GE231, Q_NB0_231, Q_NB231_0, Q_NB207_231, Q_NB231_207, Q_NB210_231, Q_NB231_210, fun h0_ => absurd ((hoff 20 (by kernel_rfl)).symm.trans h0_) (by decide), Q_X19_⟩
       refine steps_cons ?_ ?_
       ·rintro b a w' ⟨v220, v225, gb231, m19_, ha, Q_HO_211001, Q_BK207, Q_BK210, Q_HI0, Q_HK, Q_HB, Q_HI0_e3, Q_HI0_e7, Q_HI0_e10, Q_HO221, Q_HI0_e12, Q_HO226, Q_HI0_e15, Q_HI0_e17, Q_HO_211001_e19, Q_BK231, Q_GW231, Q_GE231, Q_NB0_231, Q_NB231_0, Q_NB207_231, Q_NB231_207, Q_NB210_231, Q_NB231_210, Q_BK231_e20, Q_X19_⟩ hb_ hon hoff
        refine ⟨_, rfl, fun K hK => ?_⟩
        have e20 : a.tmps[20]? = some (.pointer (some ⟨g, 0, none⟩)) := by rw [ha]; exact (putSel_off rfl).trans rfl
        have e22 : a.tmps[22]? = some (.int .i64 (wrap64 (2 + t208))) := by rw [ha]; exact putSel_on (e := (6, 22, .int .i64 (wrap64 (2 + t208)))) 2 rfl rfl (hon 6 (by kernel_rfl)) rfl
        replace ha := Aside0.mk ha
        have BK207 := Aside0.mk Q_BK207
        have BK210 := Aside0.mk Q_BK210
        have HK := Aside0.mk Q_HK
        have HB := Aside0.mk Q_HB
        have HI0 := Aside0.mk (Q_HI0_e3 (hon 3 (by kernel_rfl)) hb_)
        refine goes_ Try.func74 (by kernel_rfl) rfl #[.pointer (some ⟨g, 0, none⟩), .int .i64 (wrap64 (2 + t208))] (by rfl) rfl rfl (by first | (simp only [List.map_toArray, List.map_cons, List.map_nil, Act.eval, Array.getD_eq_getD_getElem?, Option.getD_some, e20, e22]; done) | (simp only [List.map_toArray, List.map_cons, List.map_nil, Act.eval, Array.getD_eq_getD_getElem?, Option.getD_some, e20, e22]; rfl)) ?_
        with_reducible refine (spec_l30Rd_pick.calls k1 g s0_0 t214 (wrap64 (2 + t208)) t215 t216 w0 _ ?side1 ?side2 A13.out).mono ?_
        (case side1 => repeat (first | (with_reducible first | exact HI0.out | apply IsS112.alloc | apply IsS112.drewN | apply IsS112.drew | apply IsS112.set_1 | refine IsS112.far ?_ NB0_207.out _ | refine IsS112.far ?_ NB0_210.out _) | exact HI0.out))
        (case side2 => repeat (first | (with_reducible first | exact HB.out | apply below_alloc | apply pw_below_drewN | apply below_drew1 | refine below_set ?_ (IsS112.ge HI0.out) | refine below_set ?_ GE207.out | refine below_set ?_ GE210.out) | exact HB.out))
        rintro e w55 ⟨rfl, hi, hb, hk⟩
        refine ⟨_, rfl, ?_⟩
        have n1_ := Aside0.mk (KeepBut.blk hk (g' := gb207) (o := .cells #[.int .i64 0, .slice none 0 0] 38 (0, 0)) (by (with_reducible repeat (first | refine blk_drewN ?_ _ | refine blk_drew ?_ | refine blk_alloc ?_ _)); exact BK207.out) NB207_0.out (by simp))
        have n2_ := Aside0.mk (KeepBut.blk hk (g' := gb210) (o := .cells #[.int .i64 (wrap64 (2 + t208)), u211001] 38 (0, 0)) (by (with_reducible repeat (first | refine blk_drewN ?_ _ | refine blk_drew ?_ | refine blk_alloc ?_ _)); exact BK210.out) NB210_0.out (by simp))
        have n3_ := Aside0.mk (KeepBut.trans (by repeat (first | (with_reducible first | exact HK.out | apply KeepBut.set_ | apply keep_drewN | apply keep_drew | apply keep_alloc | refine keep_far ?_ GW207.out _ | refine keep_far ?_ GW210.out _) | exact HK.out)) hk (.inl rfl))
        have n4_ := Aside0.mk (hb)
        have n5_ := Aside0.mk (hi)
        have z_HO_211001 := fun (h0_ : b 19 = false) => (show Kd.R k45 45 w55 w.heap.size (fun _ => True) u211001 x211001_1 from by first | exact (Kd.R_mono (Kd.R_keep (IsS112.apart (show IsS112 w0 _ g s0_0 t214 from by repeat (first | (with_reducible first | exact HI0.out | apply IsS112.alloc | apply IsS112.drewN | apply IsS112.drew | apply IsS112.set_1 | refine IsS112.far ?_ NB0_207.out _ | refine IsS112.far ?_ NB0_210.out _) | exact HI0.out)) (by (with_reducible repeat (first | apply Kd.R_alloc | apply Kd.R_drewN | apply Kd.R_drew)); exact (Q_HO_211001 h0_)) (by decide)) hk (fun _ h => h.2)) (fun _ h => h.1)) | exact Kd.R_mono (Kd.R_mono (Kd.R_keep (IsS112.apart (show IsS112 w0 _ g s0_0 t214 from by repeat (first | (with_reducible first | exact HI0.out | apply IsS112.alloc | apply IsS112.drewN | apply IsS112.drew | apply IsS112.set_1 | refine IsS112.far ?_ NB0_207.out _ | refine IsS112.far ?_ NB0_210.out _) | exact HI0.out)) (by (with_reducible repeat (first | apply Kd.R_alloc | apply Kd.R_drewN | apply Kd.R_drew)); exact (Q_HO_211001 h0_)) (by decide)) hk (fun _ h => h.2)) (fun _ h => h.1)) (fun _ h_ => by first | trivial | exact h_ | exact h_.1))
        have z_HO226 := fun (h0_ : b 14 = true) => (show Kd.R (Kd.int .i64) 3 w55 w.heap.size (fun _ => True) v225 y224 from by first | exact (Kd.R_mono (Kd.R_keep (IsS112.apart (show IsS112 w0 _ g s0_0 t214 from by repeat (first | (with_reducible first | exact HI0.out | apply IsS112.alloc | apply IsS112.drewN | apply IsS112.drew | apply IsS112.set_1 | refine IsS112.far ?_ NB0_207.out _ | refine IsS112.far ?_ NB0_210.out _) | exact HI0.out)) (by (with_reducible repeat (first | apply Kd.R_alloc | apply Kd.R_drewN | apply Kd.R_drew)); exact (Q_HO226 h0_)) (by decide)) hk (fun _ h => h.2)) (fun _ h => h.1)) | exact Kd.R_mono (Kd.R_mono (Kd.R_keep (IsS112.apart (show IsS112 w0 _ g s0_0 t214 from by repeat (first | (with_reducible first | exact HI0.out | apply IsS112.alloc | apply IsS112.drewN | apply IsS112.drew | apply IsS112.set_1 | refine IsS112.far ?_ NB0_207.out _ | refine IsS112.far ?_ NB0_210.out _) | exact HI0.out)) (by (with_reducible repeat (first | apply Kd.R_alloc | apply Kd.R_drewN | apply Kd.R_drew)); exact (Q_HO226 h0_)) (by decide)) hk (fun _ h => h.2)) (fun _ h => h.1)) (fun _ h_ => by first | trivial | exact h_ | exact h_.1))
        have z_HO_211001_e19 := fun (h0_ : b 19 = true) => (show Kd.R k45 45 w55 w.heap.size (fun k_ => k_ ≠ gb231) u211001 x211001_1 from by first | exact (Kd.R_mono (Kd.R_keep (IsS112.apart (show IsS112 w0 _ g s0_0 t214 from by repeat (first | (with_reducible first | exact HI0.out | apply IsS112.alloc | apply IsS112.drewN | apply IsS112.drew | apply IsS112.set_1 | refine IsS112.far ?_ NB0_207.out _ | refine IsS112.far ?_ NB0_210.out _) | exact HI0.out)) (by (with_reducible repeat (first | apply Kd.R_alloc | apply Kd.R_drewN | apply Kd.R_drew)); exact (Q_HO_211001_e19 h0_)) (by decide)) hk (fun _ h => h.2)) (fun _ h => h.1)) | exact Kd.R_mono (Kd.R_mono (Kd.R_keep (IsS112.apart (show IsS112 w0 _ g s0_0 t214 from by repeat (first | (with_reducible first | exact HI0.out | apply IsS112.alloc | apply IsS112.drewN | apply IsS112.drew | apply IsS112.set_1 | refine IsS112.far ?_ NB0_207.out _ | refine IsS112.far ?_ NB0_210.out _) | exact HI0.out)) (by (with_reducible repeat (first | apply Kd.R_alloc | apply Kd.R_drewN | apply Kd.R_drew)); exact (Q_HO_211001_e19 h0_)) (by decide)) hk (fun _ h => h.2)) (fun _ h => h.1)) (fun _ h_ => by first | trivial | exact h_ | exact h_.1))
        have z_BK231 := fun (h0_ : b 19 = true) (h1_ : b 20 = false) => (show w55.heap[gb231]? = some (.cells #[.int .i64 0, .int .i64 0, .int .i64 0, .int .i64 0, .int .i64 0] 45 (0, 0)) from by first | exact (KeepBut.blk hk (g' := gb231) (o := .cells #[.int .i64 0, .int .i64 0, .int .i64 0, .int .i64 0, .int .i64 0] 45 (0, 0)) (by (with_reducible repeat (first | refine blk_drewN ?_ _ | refine blk_drew ?_ | refine blk_alloc ?_ _)); exact (Q_BK231 h0_ h1_)) (Q_NB231_0 h0_) (by simp)))
        clear BK207
        clear BK210
        clear HK
        clear HB
        clear HI0
        have BK207 := n1_
        have BK210 := n2_
        have HK := n3_
        have HB := n4_
        have HI0 := n5_
        clear n1_ n2_ n3_ n4_ n5_
        (try clear hb)
        (try clear hb2)
        (try clear hk)
        (try clear hi)
        refine hK.out _ _ ⟨v220, v225, gb231, m19_, (by rw [ha.out]; exact putSel_upk 3 hb_ rfl rfl rfl), z_HO_211001, (by (with_reducible repeat (first | refine blk_drewN ?_ _ | refine blk_drew ?_ | refine blk_alloc ?_ _)); exact BK207.out), (by (with_reducible repeat (first | refine blk_drewN ?_ _ | refine blk_drew ?_ | refine blk_alloc ?_ _)); exact BK210.out), fun h0_ => absurd ((hon 3 (by kernel_rfl)).symm.trans h0_) (by decide), (by repeat (first | (with_reducible first | exact HK.out | apply KeepBut.set_ | apply keep_drewN | apply keep_drew | apply keep_alloc | refine keep_far ?_ GW207.out _ | refine keep_far ?_ GW210.out _) | exact HK.out)), (by repeat (first | (with_reducible first | exact HB.out | apply below_alloc | apply pw_below_drewN | apply below_drew1 | refine below_set ?_ (IsS112.ge HI0.out) | refine below_set ?_ GE207.out | refine below_set ?_ GE210.out) | exact HB.out)), fun _ h1_ => absurd ((up_self b 7).symm.trans h1_) (by decide), fun _ _ => (by repeat (first | (with_reducible first | exact HI0.out | apply IsS112.alloc | apply IsS112.drewN | apply IsS112.drew | apply IsS112.set_1 | refine IsS112.far ?_ NB0_207.out _ | refine IsS112.far ?_ NB0_210.out _) | exact HI0.out)), fun h0_ _ => absurd ((hoff 10 (by kernel_rfl)).symm.trans h0_) (by decide), fun h0_ => absurd ((hoff 11 (by kernel_rfl)).symm.trans h0_) (by decide), fun h0_ _ => absurd ((hoff 12 (by kernel_rfl)).symm.trans h0_) (by decide), z_HO226, fun h0_ _ => absurd ((hoff 15 (by kernel_rfl)).symm.trans h0_) (by decide), fun h0_ => absurd ((hoff 17 (by kernel_rfl)).symm.trans h0_) (by decide), z_HO_211001_e19, z_BK231, Q_GW231, Q_GE231, Q_NB0_231, Q_NB231_0, Q_NB207_231, Q_NB231_207, Q_NB210_231, Q_NB231_210, fun h0_ => absurd ((hoff 20 (by kernel_rfl)).symm.trans h0_) (by decide), Q_X19_⟩
       refine steps_cons ?_ ?_
       ·rintro b a w' ⟨v220, v225, gb231, m19_, ha, Q_HO_211001, Q_BK207, Q_BK210, Q_HI0, Q_HK, Q_HB, Q_HI0_e3, Q_HI0_e7, Q_HI0_e10, Q_HO221, Q_HI0_e12, Q_HO226, Q_HI0_e15, Q_HI0_e17, Q_HO_211001_e19, Q_BK231, Q_GW231, Q_GE231, Q_NB0_231, Q_NB231_0, Q_NB207_231, Q_NB231_207, Q_NB210_231, Q_NB231_210, Q_BK231_e20, Q_X19_⟩ hb_ hon hoff
        refine ⟨_, rfl, fun K hK => ?_⟩
        have e25 : a.tmps[25]? = some (.pointer (some ⟨g, 0, none⟩)) := by rw [ha]; exact (putSel_off rfl).trans rfl
        replace ha := Aside0.mk ha
        have BK207 := Aside0.mk Q_BK207
        have BK210 := Aside0.mk Q_BK210
        have HK := Aside0.mk Q_HK
        have HB := Aside0.mk Q_HB
        have HI0 := Aside0.mk (Q_HI0_e7 (hon 7 (by kernel_rfl)) hb_)
        refine goes_ Try.func74 (by kernel_rfl) rfl #[.pointer (some ⟨g, 0, none⟩), .int .i64 100] (by rfl) rfl rfl (by first | (simp only [List.map_toArray, List.map_cons, List.map_nil, Act.eval, Array.getD_eq_getD_getElem?, Option.getD_some, e25]; done) | (simp only [List.map_toArray, List.map_cons, List.map_nil, Act.eval, Array.getD_eq_getD_getElem?, Option.getD_some, e25]; rfl)) ?_
        with_reducible refine (spec_l30Rd_pick.calls k1 g s0_0 t216 100 t217 t218 w0 _ ?side1 ?side2 A14.out).mono ?_
        (case side1 => repeat (first | (with_reducible first | exact HI0.out | apply IsS112.alloc | apply IsS112.drewN | apply IsS112.drew | apply IsS112.set_1 | refine IsS112.far ?_ NB0_207.out _ | refine IsS112.far ?_ NB0_210.out _) | exact HI0.out))
        (case side2 => repeat (first | (with_reducible first | exact HB.out | apply below_alloc | apply pw_below_drewN | apply below_drew1 | refine below_set ?_ (IsS112.ge HI0.out) | refine below_set ?_ GE207.out | refine below_set ?_ GE210.out) | exact HB.out))
        rintro e w56 ⟨rfl, hi, hb, hk⟩
        refine ⟨_, rfl, ?_⟩
        have n1_ := Aside0.mk (KeepBut.blk hk (g' := gb207) (o := .cells #[.int .i64 0, .slice none 0 0] 38 (0, 0)) (by (with_reducible repeat (first | refine blk_drewN ?_ _ | refine blk_drew ?_ | refine blk_alloc ?_ _)); exact BK207.out) NB207_0.out (by simp))
        have n2_ := Aside0.mk (KeepBut.blk hk (g' := gb210) (o := .cells #[.int .i64 (wrap64 (2 + t208)), u211001] 38 (0, 0)) (by (with_reducible repeat (first | refine blk_drewN ?_ _ | refine blk_drew ?_ | refine blk_alloc ?_ _)); exact BK210.out) NB210_0.out (by simp))
        have n3_ := Aside0.mk (KeepBut.trans (by repeat (first | (with_reducible first | exact HK.out | apply KeepBut.set_ | apply keep_drewN | apply keep_drew | apply keep_alloc | refine keep_far ?_ GW207.out _ | refine keep_far ?_ GW210.out _) | exact HK.out)) hk (.inl rfl))
        have n4_ := Aside0.mk (hb)
        have n5_ := Aside0.mk (hi)
        have z_HO_211001 := fun (h0_ : b 19 = false) => (show Kd.R k45 45 w56 w.heap.size (fun _ => True) u211001 x211001_1 from by first | exact (Kd.R_mono (Kd.R_keep (IsS112.apart (show IsS112 w0 _ g s0_0 t216 from by repeat (first | (with_reducible first | exact HI0.out | apply IsS112.alloc | apply IsS112.drewN | apply IsS112.drew | apply IsS112.set_1 | refine IsS112.far ?_ NB0_207.out _ | refine IsS112.far ?_ NB0_210.out _) | exact HI0.out)) (by (with_reducible repeat (first | apply Kd.R_alloc | apply Kd.R_drewN | apply Kd.R_drew)); exact (Q_HO_211001 h0_)) (by decide)) hk (fun _ h => h.2)) (fun _ h => h.1)) | exact Kd.R_mono (Kd.R_mono (Kd.R_keep (IsS112.apart (show IsS112 w0 _ g s0_0 t216 from by repeat (first | (with_reducible first | exact HI0.out | apply IsS112.alloc | apply IsS112.drewN | apply IsS112.drew | apply IsS112.set_1 | refine IsS112.far ?_ NB0_207.out _ | refine IsS112.far ?_ NB0_210.out _) | exact HI0.out)) (by (with_reducible repeat (first | apply Kd.R_alloc | apply Kd.R_drewN | apply Kd.R_drew)); exact (Q_HO_211001 h0_)) (by decide)) hk (fun _ h => h.2)) (fun _ h => h.1)) (fun _ h_ => by first | trivial | exact h_ | exact h_.1))
        have z_HO226 := fun (h0_ : b 14 = true) => (show Kd.R (Kd.int .i64) 3 w56 w.heap.size (fun _ => True) v225 y224 from by first | exact (Kd.R_mono (Kd.R_keep (IsS112.apart (show IsS112 w0 _ g s0_0 t216 from by repeat (first | (with_reducible first | exact HI0.out | apply IsS112.alloc | apply IsS112.drewN | apply IsS112.drew | apply IsS112.set_1 | refine IsS112.far ?_ NB0_207.out _ | refine IsS112.far ?_ NB0_210.out _) | exact HI0.out)) (by (with_reducible repeat (first | apply Kd.R_alloc | apply Kd.R_drewN | apply Kd.R_drew)); exact (Q_HO226 h0_)) (by decide)) hk (fun _ h => h.2)) (fun _ h => h.1)) | exact Kd.R_mono (Kd.R_mono (Kd.R_keep (IsS112.apart (show IsS112 w0 _ g s0_0 t216 from by repeat (first | (with_reducible first | exact HI0.out | apply IsS112.alloc | apply IsS112.drewN | apply IsS112.drew | apply IsS112.set_1 | refine IsS112.far ?_ NB0_207.out _ | refine IsS112.far ?_ NB0_210.out _) | exact HI0.out)) (by (with_reducible repeat (first | apply Kd.R_alloc | apply Kd.R_drewN | apply Kd.R_drew)); exact (Q_HO226 h0_)) (by decide)) hk (fun _ h => h.2)) (fun _ h => h.1)) (fun _ h_ => by first | trivial | exact h_ | exact h_.1))
        have z_HO_211001_e19 := fun (h0_ : b 19 = true) => (show Kd.R k45 45 w56 w.heap.size (fun k_ => k_ ≠ gb231) u211001 x211001_1 from by first | exact (Kd.R_mono (Kd.R_keep (IsS112.apart (show IsS112 w0 _ g s0_0 t216 from by repeat (first | (with_reducible first | exact HI0.out | apply IsS112.alloc | apply IsS112.drewN | apply IsS112.drew | apply IsS112.set_1 | refine IsS112.far ?_ NB0_207.out _ | refine IsS112.far ?_ NB0_210.out _) | exact HI0.out)) (by (with_reducible repeat (first | apply Kd.R_alloc | apply Kd.R_drewN | apply Kd.R_drew)); exact (Q_HO_211001_e19 h0_)) (by decide)) hk (fun _ h => h.2)) (fun _ h => h.1)) | exact Kd.R_mono (Kd.R_mono (Kd.R_keep (IsS112.apart (show IsS112 w0 _ g s0_0 t216 from by repeat (first | (with_reducible first | exact HI0.out | apply IsS112.alloc | apply IsS112.drewN | apply IsS112.drew | apply IsS112.set_1 | refine IsS112.far ?_ NB0_207.out _ | refine IsS112.far ?_ NB0_210.out _) | exact HI0.out)) (by (with_reducible repeat (first | apply Kd.R_alloc | apply Kd.R_drewN | apply Kd.R_drew)); exact (Q_HO_211001_e19 h0_)) (by decide)) hk (fun _ h => h.2)) (fun _ h => h.1)) (fun _ h_ => by first | trivial | exact h_ | exact h_.1))
        have z_BK231 := fun (h0_ : b 19 = true) (h1_ : b 20 = false) => (show w56.heap[gb231]? = some (.cells #[.int .i64 0, .int .i64 0, .int .i64 0, .int .i64 0, .int .i64 0] 45 (0, 0)) from by first | exact (KeepBut.blk hk (g' := gb231) (o := .cells #[.int .i64 0, .int .i64 0, .int .i64 0, .int .i64 0, .int .i64 0] 45 (0, 0)) (by (with_reducible repeat (first | refine blk_drewN ?_ _ | refine blk_drew ?_ | refine blk_alloc ?_ _)); exact (Q_BK231 h0_ h1_)) (Q_NB231_0 h0_) (by simp)))
        clear BK207
        clear BK210
        clear HK
        clear HB
        clear HI0
        have BK207 := n1_
        have BK210 := n2_
        have HK := n3_
        have HB := n4_
        have HI0 := n5_
        clear n1_ n2_ n3_ n4_ n5_
        (try clear hb)
        (try clear hb2)
        (try clear hk)
        (try clear hi)
        refine hK.out _ _ ⟨v220, v225, gb231, m19_, (by rw [ha.out]; exact putSel_upk 4 hb_ rfl rfl rfl), z_HO_211001, (by (with_reducible repeat (first | refine blk_drewN ?_ _ | refine blk_drew ?_ | refine blk_alloc ?_ _)); exact BK207.out), (by (with_reducible repeat (first | refine blk_drewN ?_ _ | refine blk_drew ?_ | refine blk_alloc ?_ _)); exact BK210.out), fun h0_ => absurd ((hon 3 (by kernel_rfl)).symm.trans h0_) (by decide), (by repeat (first | (with_reducible first | exact HK.out | apply KeepBut.set_ | apply keep_drewN | apply keep_drew | apply keep_alloc | refine keep_far ?_ GW207.out _ | refine keep_far ?_ GW210.out _) | exact HK.out)), (by repeat (first | (with_reducible first | exact HB.out | apply below_alloc | apply pw_below_drewN | apply below_drew1 | refine below_set ?_ (IsS112.ge HI0.out) | refine below_set ?_ GE207.out | refine below_set ?_ GE210.out) | exact HB.out)), fun _ h1_ => absurd ((hon 7 (by kernel_rfl)).symm.trans h1_) (by decide), fun _ h1_ => absurd ((up_self b 10).symm.trans h1_) (by decide), fun _ _ => (by repeat (first | (with_reducible first | exact HI0.out | apply IsS112.alloc | apply IsS112.drewN | apply IsS112.drew | apply IsS112.set_1 | refine IsS112.far ?_ NB0_207.out _ | refine IsS112.far ?_ NB0_210.out _) | exact HI0.out)), fun h0_ => absurd ((hoff 11 (by kernel_rfl)).symm.trans h0_) (by decide), fun h0_ _ => absurd ((hoff 12 (by kernel_rfl)).symm.trans h0_) (by decide), z_HO226, fun h0_ _ => absurd ((hoff 15 (by kernel_rfl)).symm.trans h0_) (by decide), fun h0_ => absurd ((hoff 17 (by kernel_rfl)).symm.trans h0_) (by decide), z_HO_211001_e19, z_BK231, Q_GW231, Q_GE231, Q_NB0_231, Q_NB231_0, Q_NB207_231, Q_NB231_207, Q_NB210_231, Q_NB231_210, fun h0_ => absurd ((hoff 20 (by kernel_rfl)).symm.trans h0_) (by decide), Q_X19_⟩
       refine steps_cons ?_ ?_
       ·rintro b a w' ⟨v220, v225, gb231, m19_, ha, Q_HO_211001, Q_BK207, Q_BK210, Q_HI0, Q_HK, Q_HB, Q_HI0_e3, Q_HI0_e7, Q_HI0_e10, Q_HO221, Q_HI0_e12, Q_HO226, Q_HI0_e15, Q_HI0_e17, Q_HO_211001_e19, Q_BK231, Q_GW231, Q_GE231, Q_NB0_231, Q_NB231_0, Q_NB207_231, Q_NB231_207, Q_NB210_231, Q_NB231_210, Q_BK231_e20, Q_X19_⟩ hb_ hon hoff
        refine ⟨_, rfl, fun K hK => ?_⟩
        have e26 : a.tmps[26]? = some (.int .i64 t217) := by rw [ha]; exact putSel_on (e := (10, 26, .int .i64 t217)) 4 rfl rfl (hon 10 (by kernel_rfl)) rfl
        replace ha := Aside0.mk ha
        have BK207 := Aside0.mk Q_BK207
        have BK210 := Aside0.mk Q_BK210
        have HK := Aside0.mk Q_HK
        have HB := Aside0.mk Q_HB
        have HI0 := Aside0.mk (Q_HI0_e10 (hon 10 (by kernel_rfl)) (hoff 12 (by kernel_rfl)))
        refine Kd.R_lit_step (Kd.int .i64) _ 3 ?hg (N := 27) ?hd (xs := ([0, 1, 2, 5, 9, t217] : List Int)) (inner := [.int .i64 0, .int .i64 1, .int .i64 2, .int .i64 5, .int .i64 9, .int .i64 t217]) (ok := fun _ => True) (okp := fun _ => True) ?hr ?hp (fun _ hk => hk) trivial (Below.refl _ _) (Nat.le_refl _) (by simp) ?_; (case hd => rfl); (case hg => rfl); (case hr => first | (go_simp; done) | (go_simp; rfl)); (case hp => exact (Reps.one (show Kd.M (Kd.int .i64) _ _ _ 0 [.int .i64 0] from rfl) (Reps.one (show Kd.M (Kd.int .i64) _ _ _ 1 [.int .i64 1] from rfl) (Reps.one (show Kd.M (Kd.int .i64) _ _ _ 2 [.int .i64 2] from rfl) (Reps.one (show Kd.M (Kd.int .i64) _ _ _ 5 [.int .i64 5] from rfl) (Reps.one (show Kd.M (Kd.int .i64) _ _ _ 9 [.int .i64 9] from rfl) (Reps.one (show Kd.M (Kd.int .i64) _ _ _ t217 [.int .i64 t217] from rfl) (Reps.none _ _))))))))
        intro v220 w57 ho58 hb hg_ hnew_
        clear hg_ hnew_
        (first | rw [← Ny219.out] at ho58 | (simp only [Int.reduceToNat] at ho58; rw [← Ny219.out] at ho58))
        have n1_ := Aside0.mk (Kd.R_lower ho58 (keep_size (w := w) (g := g) (row := none) (by repeat (first | (with_reducible first | exact HK.out | apply KeepBut.set_ | apply keep_drewN | apply keep_drew | apply keep_alloc | refine keep_far ?_ GW207.out _ | refine keep_far ?_ GW210.out _) | exact HK.out))))
        have n2_ := Aside0.mk (blk_below (g := gb207) (o := .cells #[.int .i64 0, .slice none 0 0] 38 (0, 0)) (by (with_reducible repeat (first | refine blk_drewN ?_ _ | refine blk_drew ?_ | refine blk_alloc ?_ _)); exact BK207.out) hb)
        have n3_ := Aside0.mk (blk_below (g := gb210) (o := .cells #[.int .i64 (wrap64 (2 + t208)), u211001] 38 (0, 0)) (by (with_reducible repeat (first | refine blk_drewN ?_ _ | refine blk_drew ?_ | refine blk_alloc ?_ _)); exact BK210.out) hb)
        have n4_ := Aside0.mk (IsS112.below (by repeat (first | (with_reducible first | exact HI0.out | apply IsS112.alloc | apply IsS112.drewN | apply IsS112.drew | apply IsS112.set_1 | refine IsS112.far ?_ NB0_207.out _ | refine IsS112.far ?_ NB0_210.out _) | exact HI0.out)) hb)
        have n5_ := Aside0.mk (KeepBut.trans (by repeat (first | (with_reducible first | exact HK.out | apply KeepBut.set_ | apply keep_drewN | apply keep_drew | apply keep_alloc | refine keep_far ?_ GW207.out _ | refine keep_far ?_ GW210.out _) | exact HK.out)) (KeepBut.of_below hb g none) (.inl rfl))
        have n6_ := Aside0.mk (below_step (by repeat (first | (with_reducible first | exact HB.out | apply below_alloc | apply pw_below_drewN | apply below_drew1 | refine below_set ?_ (IsS112.ge HI0.out) | refine below_set ?_ GE207.out | refine below_set ?_ GE210.out) | exact HB.out)) hb)
        have z_HO_211001 := fun (h0_ : b 19 = false) => (show Kd.R k45 45 w57 w.heap.size (fun _ => True) u211001 x211001_1 from by first | exact (Kd.R_below (by (with_reducible repeat (first | apply Kd.R_alloc | apply Kd.R_drewN | apply Kd.R_drew)); exact (Q_HO_211001 h0_)) hb) | exact Kd.R_mono (Kd.R_below (by (with_reducible repeat (first | apply Kd.R_alloc | apply Kd.R_drewN | apply Kd.R_drew)); exact (Q_HO_211001 h0_)) hb) (fun _ h_ => by first | trivial | exact h_ | exact h_.1))
        have z_HO226 := fun (h0_ : b 14 = true) => (show Kd.R (Kd.int .i64) 3 w57 w.heap.size (fun _ => True) v225 y224 from by first | exact (Kd.R_elder' (by (with_reducible repeat (first | apply Kd.R_alloc | apply Kd.R_drewN | apply Kd.R_drew)); exact (Q_HO226 h0_)) (Kd.R_base ho58) hb) | exact Kd.R_mono (Kd.R_elder' (by (with_reducible repeat (first | apply Kd.R_alloc | apply Kd.R_drewN | apply Kd.R_drew)); exact (Q_HO226 h0_)) (Kd.R_base ho58) hb) (fun _ h_ => by first | trivial | exact h_ | exact h_.1))
        have z_HO_211001_e19 := fun (h0_ : b 19 = true) => (show Kd.R k45 45 w57 w.heap.size (fun k_ => k_ ≠ gb231) u211001 x211001_1 from by first | exact (Kd.R_below (by (with_reducible repeat (first | apply Kd.R_alloc | apply Kd.R_drewN | apply Kd.R_drew)); exact (Q_HO_211001_e19 h0_)) hb) | exact Kd.R_mono (Kd.R_below (by (with_reducible repeat (first | apply Kd.R_alloc | apply Kd.R_drewN | apply Kd.R_drew)); exact (Q_HO_211001_e19 h0_)) hb) (fun _ h_ => by first | trivial | exact h_ | exact h_.1))
        have z_BK231 := fun (h0_ : b 19 = true) (h1_ : b 20 = false) => (show w57.heap[gb231]? = some (.cells #[.int .i64 0, .int .i64 0, .int .i64 0, .int .i64 0, .int .i64 0] 45 (0, 0)) from by first | exact (blk_below (g := gb231) (o := .cells #[.int .i64 0, .int .i64 0, .int .i64 0, .int .i64 0, .int .i64 0] 45 (0, 0)) (by (with_reducible repeat (first | refine blk_drewN ?_ _ | refine blk_drew ?_ | refine blk_alloc ?_ _)); exact (Q_BK231 h0_ h1_)) hb))
        clear BK207
        clear BK210
        clear HI0
        clear HK
        clear HB
        have HO221 := n1_
        have BK207 := n2_
        have BK210 := n3_
        have HI0 := n4_
        have HK := n5_
        have HB := n6_
        clear n1_ n2_ n3_ n4_ n5_ n6_
        clear hb ho58
        refine hK.out _ _ ⟨v220, v225, gb231, m19_, (by rw [ha.out]; exact putSel_upk 5 hb_ rfl rfl rfl), z_HO_211001, (by (with_reducible repeat (first | refine blk_drewN ?_ _ | refine blk_drew ?_ | refine blk_alloc ?_ _)); exact BK207.out), (by (with_reducible repeat (first | refine blk_drewN ?_ _ | refine blk_drew ?_ | refine blk_alloc ?_ _)); exact BK210.out), fun h0_ => absurd ((hon 3 (by kernel_rfl)).symm.trans h0_) (by decide), (by repeat (first | (with_reducible first | exact HK.out | apply KeepBut.set_ | apply keep_drewN | apply keep_drew | apply keep_alloc | refine keep_far ?_ GW207.out _ | refine keep_far ?_ GW210.out _) | exact HK.out)), (by repeat (first | (with_reducible first | exact HB.out | apply below_alloc | apply pw_below_drewN | apply below_drew1 | refine below_set ?_ (IsS112.ge HI0.out) | refine below_set ?_ GE207.out | refine below_set ?_ GE210.out) | exact HB.out)), fun _ h1_ => absurd ((hon 7 (by kernel_rfl)).symm.trans h1_) (by decide), fun _ h1_ => absurd ((hon 10 (by kernel_rfl)).symm.trans h1_) (by decide), fun _ _ => (by repeat (first | (with_reducible first | exact HI0.out | apply IsS112.alloc | apply IsS112.drewN | apply IsS112.drew | apply IsS112.set_1 | refine IsS112.far ?_ NB0_207.out _ | refine IsS112.far ?_ NB0_210.out _) | exact HI0.out)), fun _ => (by (with_reducible repeat (first | apply Kd.R_alloc | apply Kd.R_drewN | apply Kd.R_drew)); exact HO221.out), fun h0_ _ => absurd ((hoff 12 (by kernel_rfl)).symm.trans h0_) (by decide), z_HO226, fun h0_ _ => absurd ((hoff 15 (by kernel_rfl)).symm.trans h0_) (by decide), fun h0_ => absurd ((hoff 17 (by kernel_rfl)).symm.trans h0_) (by decide), z_HO_211001_e19, z_BK231, Q_GW231, Q_GE231, Q_NB0_231, Q_NB231_0, Q_NB207_231, Q_NB231_207, Q_NB210_231, Q_NB231_210, fun h0_ => absurd ((hoff 20 (by kernel_rfl)).symm.trans h0_) (by decide), Q_X19_⟩
       refine steps_cons ?_ ?_
       ·rintro b a w' ⟨v220, v225, gb231, m19_, ha, Q_HO_211001, Q_BK207, Q_BK210, Q_HI0, Q_HK, Q_HB, Q_HI0_e3, Q_HI0_e7, Q_HI0_e10, Q_HO221, Q_HI0_e12, Q_HO226, Q_HI0_e15, Q_HI0_e17, Q_HO_211001_e19, Q_BK231, Q_GW231, Q_GE231, Q_NB0_231, Q_NB231_0, Q_NB207_231, Q_NB231_207, Q_NB210_231, Q_NB231_210, Q_BK231_e20, Q_X19_⟩ hb_ hon hoff
        refine ⟨_, rfl, fun K hK => ?_⟩
        have e24 : a.tmps[24]? = some (.pointer (some ⟨g, 0, none⟩)) := by rw [ha]; exact (putSel_off rfl).trans rfl
        have e27 : a.tmps[27]? = some (v220) := by rw [ha]; exact putSel_on (e := (11, 27, v220)) 5 rfl rfl (hon 11 (by kernel_rfl)) rfl
        replace ha := Aside0.mk ha
        have BK207 := Aside0.mk Q_BK207
        have BK210 := Aside0.mk Q_BK210
        have HK := Aside0.mk Q_HK
        have HB := Aside0.mk Q_HB
        have HI0 := Aside0.mk (Q_HI0_e10 (hon 10 (by kernel_rfl)) hb_)
        have HO221 := Aside0.mk (Q_HO221 (hon 11 (by kernel_rfl)))
        obtain ⟨Ao59, co59, eo59⟩ := Kd.R_slice HO221.out
        (first | subst eo59 | (injection eo59 with f1_ f2_ f3_; have f4_ := f1_.symm; have f5_ := f3_.symm; clear f1_ f2_ f3_; subst f4_; subst f5_))
        refine goes_ Try.func75 (by kernel_rfl) rfl #[.pointer (some ⟨g, 0, none⟩), .slice Ao59 y219.length co59] (by rfl) rfl rfl (by first | (simp only [List.map_toArray, List.map_cons, List.map_nil, Act.eval, Array.getD_eq_getD_getElem?, Option.getD_some, e24, e27]; done) | (simp only [List.map_toArray, List.map_cons, List.map_nil, Act.eval, Array.getD_eq_getD_getElem?, Option.getD_some, e24, e27]; rfl)) ?_
        with_reducible refine (spec_l30Rd_one.calls k1 g s0_0 t218 _ _ y219 t222 t223 w0 _ ?side1 ?side2 ?side3 ?side4 ?side5 A15.out).mono ?_
        (case side1 => repeat (first | (with_reducible first | exact HI0.out | apply IsS112.alloc | apply IsS112.drewN | apply IsS112.drew | apply IsS112.set_1 | refine IsS112.far ?_ NB0_207.out _ | refine IsS112.far ?_ NB0_210.out _) | exact HI0.out))
        (case side2 => repeat (first | (with_reducible first | exact HB.out | apply below_alloc | apply pw_below_drewN | apply below_drew1 | refine below_set ?_ (IsS112.ge HI0.out) | refine below_set ?_ GE207.out | refine below_set ?_ GE210.out) | exact HB.out))
        (case side3 => repeat (first | exact (Kd.R_reads' HO221.out).2.2 | (with_reducible refine Kd.C_alloc ?_ _) | (with_reducible refine Kd.C_drewN ?_ _) | (with_reducible refine Kd.C_drew ?_)))
        (case side4 => exact (Kd.R_reads' HO221.out).2.1)
        (case side5 => exact far_slice (IsS112.own_ne HI0.out HO221.out (by decide)))
        rintro e w60 ⟨rfl, hi, hb, hk⟩
        refine ⟨_, rfl, ?_⟩
        have n1_ := Aside0.mk (KeepBut.blk hk (g' := gb207) (o := .cells #[.int .i64 0, .slice none 0 0] 38 (0, 0)) (by (with_reducible repeat (first | refine blk_drewN ?_ _ | refine blk_drew ?_ | refine blk_alloc ?_ _)); exact BK207.out) NB207_0.out (by simp))
        have n2_ := Aside0.mk (KeepBut.blk hk (g' := gb210) (o := .cells #[.int .i64 (wrap64 (2 + t208)), u211001] 38 (0, 0)) (by (with_reducible repeat (first | refine blk_drewN ?_ _ | refine blk_drew ?_ | refine blk_alloc ?_ _)); exact BK210.out) NB210_0.out (by simp))
        have n3_ := Aside0.mk (Kd.R_mono (Kd.R_keep (IsS112.apart (show IsS112 w0 _ g s0_0 t218 from by repeat (first | (with_reducible first | exact HI0.out | apply IsS112.alloc | apply IsS112.drewN | apply IsS112.drew | apply IsS112.set_1 | refine IsS112.far ?_ NB0_207.out _ | refine IsS112.far ?_ NB0_210.out _) | exact HI0.out)) (by (with_reducible repeat (first | apply Kd.R_alloc | apply Kd.R_drewN | apply Kd.R_drew)); exact HO221.out) (by decide)) hk (fun _ h => h.2)) (fun _ h => h.1))
        have n4_ := Aside0.mk (KeepBut.trans (by repeat (first | (with_reducible first | exact HK.out | apply KeepBut.set_ | apply keep_drewN | apply keep_drew | apply keep_alloc | refine keep_far ?_ GW207.out _ | refine keep_far ?_ GW210.out _) | exact HK.out)) hk (.inl rfl))
        have n5_ := Aside0.mk (hb)
        have n6_ := Aside0.mk (hi)
        have z_HO_211001 := fun (h0_ : b 19 = false) => (show Kd.R k45 45 w60 w.heap.size (fun _ => True) u211001 x211001_1 from by first | exact (Kd.R_mono (Kd.R_keep (IsS112.apart (show IsS112 w0 _ g s0_0 t218 from by repeat (first | (with_reducible first | exact HI0.out | apply IsS112.alloc | apply IsS112.drewN | apply IsS112.drew | apply IsS112.set_1 | refine IsS112.far ?_ NB0_207.out _ | refine IsS112.far ?_ NB0_210.out _) | exact HI0.out)) (by (with_reducible repeat (first | apply Kd.R_alloc | apply Kd.R_drewN | apply Kd.R_drew)); exact (Q_HO_211001 h0_)) (by decide)) hk (fun _ h => h.2)) (fun _ h => h.1)) | exact Kd.R_mono (Kd.R_mono (Kd.R_keep (IsS112.apart (show IsS112 w0 _ g s0_0 t218 from by repeat (first | (with_reducible first | exact HI0.out | apply IsS112.alloc | apply IsS112.drewN | apply IsS112.drew | apply IsS112.set_1 | refine IsS112.far ?_ NB0_207.out _ | refine IsS112.far ?_ NB0_210.out _) | exact HI0.out)) (by (with_reducible repeat (first | apply Kd.R_alloc | apply Kd.R_drewN | apply Kd.R_drew)); exact (Q_HO_211001 h0_)) (by decide)) hk (fun _ h => h.2)) (fun _ h => h.1)) (fun _ h_ => by first | trivial | exact h_ | exact h_.1))
        have z_HO226 := fun (h0_ : b 14 = true) => (show Kd.R (Kd.int .i64) 3 w60 w.heap.size (fun _ => True) v225 y224 from by first | exact (Kd.R_mono (Kd.R_keep (IsS112.apart (show IsS112 w0 _ g s0_0 t218 from by repeat (first | (with_reducible first | exact HI0.out | apply IsS112.alloc | apply IsS112.drewN | apply IsS112.drew | apply IsS112.set_1 | refine IsS112.far ?_ NB0_207.out _ | refine IsS112.far ?_ NB0_210.out _) | exact HI0.out)) (by (with_reducible repeat (first | apply Kd.R_alloc | apply Kd.R_drewN | apply Kd.R_drew)); exact (Q_HO226 h0_)) (by decide)) hk (fun _ h => h.2)) (fun _ h => h.1)) | exact Kd.R_mono (Kd.R_mono (Kd.R_keep (IsS112.apart (show IsS112 w0 _ g s0_0 t218 from by repeat (first | (with_reducible first | exact HI0.out | apply IsS112.alloc | apply IsS112.drewN | apply IsS112.drew | apply IsS112.set_1 | refine IsS112.far ?_ NB0_207.out _ | refine IsS112.far ?_ NB0_210.out _) | exact HI0.out)) (by (with_reducible repeat (first | apply Kd.R_alloc | apply Kd.R_drewN | apply Kd.R_drew)); exact (Q_HO226 h0_)) (by decide)) hk (fun _ h => h.2)) (fun _ h => h.1)) (fun _ h_ => by first | trivial | exact h_ | exact h_.1))
        have z_HO_211001_e19 := fun (h0_ : b 19 = true) => (show Kd.R k45 45 w60 w.heap.size (fun k_ => k_ ≠ gb231) u211001 x211001_1 from by first | exact (Kd.R_mono (Kd.R_keep (IsS112.apart (show IsS112 w0 _ g s0_0 t218 from by repeat (first | (with_reducible first | exact HI0.out | apply IsS112.alloc | apply IsS112.drewN | apply IsS112.drew | apply IsS112.set_1 | refine IsS112.far ?_ NB0_207.out _ | refine IsS112.far ?_ NB0_210.out _) | exact HI0.out)) (by (with_reducible repeat (first | apply Kd.R_alloc | apply Kd.R_drewN | apply Kd.R_drew)); exact (Q_HO_211001_e19 h0_)) (by decide)) hk (fun _ h => h.2)) (fun _ h => h.1)) | exact Kd.R_mono (Kd.R_mono (Kd.R_keep (IsS112.apart (show IsS112 w0 _ g s0_0 t218 from by repeat (first | (with_reducible first | exact HI0.out | apply IsS112.alloc | apply IsS112.drewN | apply IsS112.drew | apply IsS112.set_1 | refine IsS112.far ?_ NB0_207.out _ | refine IsS112.far ?_ NB0_210.out _) | exact HI0.out)) (by (with_reducible repeat (first | apply Kd.R_alloc | apply Kd.R_drewN | apply Kd.R_drew)); exact (Q_HO_211001_e19 h0_)) (by decide)) hk (fun _ h => h.2)) (fun _ h => h.1)) (fun _ h_ => by first | trivial | exact h_ | exact h_.1))
        have z_BK231 := fun (h0_ : b 19 = true) (h1_ : b 20 = false) => (show w60.heap[gb231]? = some (.cells #[.int .i64 0, .int .i64 0, .int .i64 0, .int .i64 0, .int .i64 0] 45 (0, 0)) from by first | exact (KeepBut.blk hk (g' := gb231) (o := .cells #[.int .i64 0, .int .i64 0, .int .i64 0, .int .i64 0, .int .i64 0] 45 (0, 0)) (by (with_reducible repeat (first | refine blk_drewN ?_ _ | refine blk_drew ?_ | refine blk_alloc ?_ _)); exact (Q_BK231 h0_ h1_)) (Q_NB231_0 h0_) (by simp)))
        clear BK207
        clear BK210
        clear HO221
        clear HK
        clear HB
        clear HI0
        have BK207 := n1_
        have BK210 := n2_
        have HO221 := n3_
        have HK := n4_
        have HB := n5_
        have HI0 := n6_
        clear n1_ n2_ n3_ n4_ n5_ n6_
        (try clear hb)
        (try clear hb2)
        (try clear hk)
        (try clear hi)
        refine hK.out _ _ ⟨.slice Ao59 y219.length co59, v225, gb231, m19_, (by rw [ha.out]; exact putSel_upk 6 hb_ rfl rfl rfl), z_HO_211001, (by (with_reducible repeat (first | refine blk_drewN ?_ _ | refine blk_drew ?_ | refine blk_alloc ?_ _)); exact BK207.out), (by (with_reducible repeat (first | refine blk_drewN ?_ _ | refine blk_drew ?_ | refine blk_alloc ?_ _)); exact BK210.out), fun h0_ => absurd ((hon 3 (by kernel_rfl)).symm.trans h0_) (by decide), (by repeat (first | (with_reducible first | exact HK.out | apply KeepBut.set_ | apply keep_drewN | apply keep_drew | apply keep_alloc | refine keep_far ?_ GW207.out _ | refine keep_far ?_ GW210.out _) | exact HK.out)), (by repeat (first | (with_reducible first | exact HB.out | apply below_alloc | apply pw_below_drewN | apply below_drew1 | refine below_set ?_ (IsS112.ge HI0.out) | refine below_set ?_ GE207.out | refine below_set ?_ GE210.out) | exact HB.out)), fun _ h1_ => absurd ((hon 7 (by kernel_rfl)).symm.trans h1_) (by decide), fun _ h1_ => absurd ((hon 10 (by kernel_rfl)).symm.trans h1_) (by decide), fun _ h1_ => absurd ((up_self b 12).symm.trans h1_) (by decide), fun _ => (by (with_reducible repeat (first | apply Kd.R_alloc | apply Kd.R_drewN | apply Kd.R_drew)); exact HO221.out), fun _ _ => (by repeat (first | (with_reducible first | exact HI0.out | apply IsS112.alloc | apply IsS112.drewN | apply IsS112.drew | apply IsS112.set_1 | refine IsS112.far ?_ NB0_207.out _ | refine IsS112.far ?_ NB0_210.out _) | exact HI0.out)), z_HO226, fun h0_ _ => absurd ((hoff 15 (by kernel_rfl)).symm.trans h0_) (by decide), fun h0_ => absurd ((hoff 17 (by kernel_rfl)).symm.trans h0_) (by decide), z_HO_211001_e19, z_BK231, Q_GW231, Q_GE231, Q_NB0_231, Q_NB231_0, Q_NB207_231, Q_NB231_207, Q_NB210_231, Q_NB231_210, fun h0_ => absurd ((hoff 20 (by kernel_rfl)).symm.trans h0_) (by decide), Q_X19_⟩
       refine steps_cons ?_ ?_
       ·rintro b a w' ⟨v220, v225, gb231, m19_, ha, Q_HO_211001, Q_BK207, Q_BK210, Q_HI0, Q_HK, Q_HB, Q_HI0_e3, Q_HI0_e7, Q_HI0_e10, Q_HO221, Q_HI0_e12, Q_HO226, Q_HI0_e15, Q_HI0_e17, Q_HO_211001_e19, Q_BK231, Q_GW231, Q_GE231, Q_NB0_231, Q_NB231_0, Q_NB207_231, Q_NB231_207, Q_NB210_231, Q_NB231_210, Q_BK231_e20, Q_X19_⟩ hb_ hon hoff
        refine ⟨_, rfl, fun K hK => ?_⟩
        replace ha := Aside0.mk ha
        have BK207 := Aside0.mk Q_BK207
        have BK210 := Aside0.mk Q_BK210
        have HK := Aside0.mk Q_HK
        have HB := Aside0.mk Q_HB
        refine Kd.R_lit_step (Kd.int .i64) _ 3 ?hg (N := 30) ?hd (xs := ([0, 0, 3, 8] : List Int)) (inner := [.int .i64 0, .int .i64 0, .int .i64 3, .int .i64 8]) (ok := fun _ => True) (okp := fun _ => True) ?hr ?hp (fun _ hk => hk) trivial (Below.refl _ _) (Nat.le_refl _) (by simp) ?_; (case hd => rfl); (case hg => rfl); (case hr => first | (go_simp; done) | (go_simp; rfl)); (case hp => exact (Reps.one (show Kd.M (Kd.int .i64) _ _ _ 0 [.int .i64 0] from rfl) (Reps.one (show Kd.M (Kd.int .i64) _ _ _ 0 [.int .i64 0] from rfl) (Reps.one (show Kd.M (Kd.int .i64) _ _ _ 3 [.int .i64 3] from rfl) (Reps.one (show Kd.M (Kd.int .i64) _ _ _ 8 [.int .i64 8] from rfl) (Reps.none _ _))))))
        intro v225 w53 ho54 hb hg_ hnew_
        clear hg_ hnew_
        (first | rw [← Ny224.out] at ho54 | (simp only [Int.reduceToNat] at ho54; rw [← Ny224.out] at ho54))
        have n1_ := Aside0.mk (Kd.R_lower ho54 (keep_size (w := w) (g := g) (row := none) (by repeat (first | (with_reducible first | exact HK.out | apply KeepBut.set_ | apply keep_drewN | apply keep_drew | apply keep_alloc | refine keep_far ?_ GW207.out _ | refine keep_far ?_ GW210.out _) | exact HK.out))))
        have n2_ := Aside0.mk (blk_below (g := gb207) (o := .cells #[.int .i64 0, .slice none 0 0] 38 (0, 0)) (by (with_reducible repeat (first | refine blk_drewN ?_ _ | refine blk_drew ?_ | refine blk_alloc ?_ _)); exact BK207.out) hb)
        have n3_ := Aside0.mk (blk_below (g := gb210) (o := .cells #[.int .i64 (wrap64 (2 + t208)), u211001] 38 (0, 0)) (by (with_reducible repeat (first | refine blk_drewN ?_ _ | refine blk_drew ?_ | refine blk_alloc ?_ _)); exact BK210.out) hb)
        have n5_ := Aside0.mk (KeepBut.trans (by repeat (first | (with_reducible first | exact HK.out | apply KeepBut.set_ | apply keep_drewN | apply keep_drew | apply keep_alloc | refine keep_far ?_ GW207.out _ | refine keep_far ?_ GW210.out _) | exact HK.out)) (KeepBut.of_below hb g none) (.inl rfl))
        have n6_ := Aside0.mk (below_step (by repeat (first | (with_reducible first | exact HB.out | apply below_alloc | apply pw_below_drewN | apply below_drew1 | refine below_set ?_ GE207.out | refine below_set ?_ GE210.out) | exact HB.out)) hb)
        have z_HO_211001 := fun (h0_ : b 19 = false) => (show Kd.R k45 45 w53 w.heap.size (fun _ => True) u211001 x211001_1 from by first | exact (Kd.R_below (by (with_reducible repeat (first | apply Kd.R_alloc | apply Kd.R_drewN | apply Kd.R_drew)); exact (Q_HO_211001 h0_)) hb) | exact Kd.R_mono (Kd.R_below (by (with_reducible repeat (first | apply Kd.R_alloc | apply Kd.R_drewN | apply Kd.R_drew)); exact (Q_HO_211001 h0_)) hb) (fun _ h_ => by first | trivial | exact h_ | exact h_.1))
        have z_HI0 := fun (h0_ : b 3 = false) => (show IsS112 w0 w53 g s0_0 x1001_1 from by first | exact (IsS112.below (by repeat (first | (with_reducible first | exact (Q_HI0 h0_) | apply IsS112.alloc | apply IsS112.drewN | apply IsS112.drew | apply IsS112.set_1 | refine IsS112.far ?_ NB0_207.out _ | refine IsS112.far ?_ NB0_210.out _) | exact (Q_HI0 h0_))) hb))
        have z_HI0_e3 := fun (h0_ : b 3 = true) (h1_ : b 7 = false) => (show IsS112 w0 w53 g s0_0 t214 from by first | exact (IsS112.below (by repeat (first | (with_reducible first | exact (Q_HI0_e3 h0_ h1_) | apply IsS112.alloc | apply IsS112.drewN | apply IsS112.drew | apply IsS112.set_1 | refine IsS112.far ?_ NB0_207.out _ | refine IsS112.far ?_ NB0_210.out _) | exact (Q_HI0_e3 h0_ h1_))) hb))
        have z_HI0_e7 := fun (h0_ : b 7 = true) (h1_ : b 10 = false) => (show IsS112 w0 w53 g s0_0 t216 from by first | exact (IsS112.below (by repeat (first | (with_reducible first | exact (Q_HI0_e7 h0_ h1_) | apply IsS112.alloc | apply IsS112.drewN | apply IsS112.drew | apply IsS112.set_1 | refine IsS112.far ?_ NB0_207.out _ | refine IsS112.far ?_ NB0_210.out _) | exact (Q_HI0_e7 h0_ h1_))) hb))
        have z_HI0_e10 := fun (h0_ : b 10 = true) (h1_ : b 12 = false) => (show IsS112 w0 w53 g s0_0 t218 from by first | exact (IsS112.below (by repeat (first | (with_reducible first | exact (Q_HI0_e10 h0_ h1_) | apply IsS112.alloc | apply IsS112.drewN | apply IsS112.drew | apply IsS112.set_1 | refine IsS112.far ?_ NB0_207.out _ | refine IsS112.far ?_ NB0_210.out _) | exact (Q_HI0_e10 h0_ h1_))) hb))
        have z_HO221 := fun (h0_ : b 11 = true) => (show Kd.R (Kd.int .i64) 3 w53 w.heap.size (fun _ => True) v220 y219 from by first | exact (Kd.R_elder' (by (with_reducible repeat (first | apply Kd.R_alloc | apply Kd.R_drewN | apply Kd.R_drew)); exact (Q_HO221 h0_)) (Kd.R_base ho54) hb) | exact Kd.R_mono (Kd.R_elder' (by (with_reducible repeat (first | apply Kd.R_alloc | apply Kd.R_drewN | apply Kd.R_drew)); exact (Q_HO221 h0_)) (Kd.R_base ho54) hb) (fun _ h_ => by first | trivial | exact h_ | exact h_.1))
        have z_HI0_e12 := fun (h0_ : b 12 = true) (h1_ : b 15 = false) => (show IsS112 w0 w53 g s0_0 t223 from by first | exact (IsS112.below (by repeat (first | (with_reducible first | exact (Q_HI0_e12 h0_ h1_) | apply IsS112.alloc | apply IsS112.drewN | apply IsS112.drew | apply IsS112.set_1 | refine IsS112.far ?_ NB0_207.out _ | refine IsS112.far ?_ NB0_210.out _) | exact (Q_HI0_e12 h0_ h1_))) hb))
        have z_HO_211001_e19 := fun (h0_ : b 19 = true) => (show Kd.R k45 45 w53 w.heap.size (fun k_ => k_ ≠ gb231) u211001 x211001_1 from by first | exact (Kd.R_below (by (with_reducible repeat (first | apply Kd.R_alloc | apply Kd.R_drewN | apply Kd.R_drew)); exact (Q_HO_211001_e19 h0_)) hb) | exact Kd.R_mono (Kd.R_below (by (with_reducible repeat (first | apply Kd.R_alloc | apply Kd.R_drewN | apply Kd.R_drew)); exact (Q_HO_211001_e19 h0_)) hb) (fun _ h_ => by first | trivial | exact h_ | exact h_.1))
        have z_BK231 := fun (h0_ : b 19 = true) (h1_ : b 20 = false) => (show w53.heap[gb231]? = some (.cells #[.int .i64 0, .int .i64 0, .int .i64 0, .int .i64 0, .int .i64 0] 45 (0, 0)) from by first | exact (blk_below (g := gb231) (o := .cells #[.int .i64 0, .int .i64 0, .int .i64 0, .int .i64 0, .int .i64 0] 45 (0, 0)) (by (with_reducible repeat (first | refine blk_drewN ?_ _ | refine blk_drew ?_ | refine blk_alloc ?_ _)); exact (Q_BK231 h0_ h1_)) hb))
        clear BK207
        clear BK210
        clear HK
        clear HB
        have HO226 := n1_
        have BK207 := n2_
        have BK210 := n3_
        have HK := n5_
        have HB := n6_
        clear n1_ n2_ n3_ n5_ n6_
        clear hb ho54
        refine hK.out _ _ ⟨v220, v225, gb231, m19_, (by rw [ha.out]; exact putSel_upk 7 hb_ rfl rfl rfl), z_HO_211001, (by (with_reducible repeat (first | refine blk_drewN ?_ _ | refine blk_drew ?_ | refine blk_alloc ?_ _)); exact BK207.out), (by (with_reducible repeat (first | refine blk_drewN ?_ _ | refine blk_drew ?_ | refine blk_alloc ?_ _)); exact BK210.out), z_HI0, (by repeat (first | (with_reducible first | exact HK.out | apply KeepBut.set_ | apply keep_drewN | apply keep_drew | apply keep_alloc | refine keep_far ?_ GW207.out _ | refine keep_far ?_ GW210.out _) | exact HK.out)), (by repeat (first | (with_reducible first | exact HB.out | apply below_alloc | apply pw_below_drewN | apply below_drew1 | refine below_set ?_ GE207.out | refine below_set ?_ GE210.out) | exact HB.out)), z_HI0_e3, z_HI0_e7, z_HI0_e10, z_HO221, z_HI0_e12, fun _ => (by (with_reducible repeat (first | apply Kd.R_alloc | apply Kd.R_drewN | apply Kd.R_drew)); exact HO226.out), fun h0_ _ => absurd ((hoff 15 (by kernel_rfl)).symm.trans h0_) (by decide), fun h0_ => absurd ((hoff 17 (by kernel_rfl)).symm.trans h0_) (by decide), z_HO_211001_e19, z_BK231, Q_GW231, Q_GE231, Q_NB0_231, Q_NB231_0, Q_NB207_231, Q_NB231_207, Q_NB210_231, Q_NB231_210, fun h0_ => absurd ((hoff 20 (by kernel_rfl)).symm.trans h0_) (by decide), Q_X19_⟩
       refine steps_cons ?_ ?_
       ·rintro b a w' ⟨v220, v225, gb231, m19_, ha, Q_HO_211001, Q_BK207, Q_BK210, Q_HI0, Q_HK, Q_HB, Q_HI0_e3, Q_HI0_e7, Q_HI0_e10, Q_HO221, Q_HI0_e12, Q_HO226, Q_HI0_e15, Q_HI0_e17, Q_HO_211001_e19, Q_BK231, Q_GW231, Q_GE231, Q_NB0_231, Q_NB231_0, Q_NB207_231, Q_NB231_207, Q_NB210_231, Q_NB231_210, Q_BK231_e20, Q_X19_⟩ hb_ hon hoff
        refine ⟨_, rfl, fun K hK => ?_⟩
        have e29 : a.tmps[29]? = some (.pointer (some ⟨g, 0, none⟩)) := by rw [ha]; exact (putSel_off rfl).trans rfl
        have e30 : a.tmps[30]? = some (v225) := by rw [ha]; exact putSel_on (e := (14, 30, v225)) 7 rfl rfl (hon 14 (by kernel_rfl)) rfl
        replace ha := Aside0.mk ha
        have BK207 := Aside0.mk Q_BK207
        have BK210 := Aside0.mk Q_BK210
        have HK := Aside0.mk Q_HK
        have HB := Aside0.mk Q_HB
        have HO221 := Aside0.mk (Q_HO221 (hon 11 (by kernel_rfl)))
        have HI0 := Aside0.mk (Q_HI0_e12 (hon 12 (by kernel_rfl)) hb_)
        have HO226 := Aside0.mk (Q_HO226 (hon 14 (by kernel_rfl)))
        obtain ⟨Ao63, co63, eo63⟩ := Kd.R_slice HO226.out
        (first | subst eo63 | (injection eo63 with f1_ f2_ f3_; have f4_ := f1_.symm; have f5_ := f3_.symm; clear f1_ f2_ f3_; subst f4_; subst f5_))
        refine goes_ Try.func75 (by kernel_rfl) rfl #[.pointer (some ⟨g, 0, none⟩), .slice Ao63 y224.length co63] (by rfl) rfl rfl (by first | (simp only [List.map_toArray, List.map_cons, List.map_nil, Act.eval, Array.getD_eq_getD_getElem?, Option.getD_some, e29, e30]; done) | (simp only [List.map_toArray, List.map_cons, List.map_nil, Act.eval, Array.getD_eq_getD_getElem?, Option.getD_some, e29, e30]; rfl)) ?_
        with_reducible refine (spec_l30Rd_one.calls k1 g s0_0 t223 _ _ y224 t227 t228 w0 _ ?side1 ?side2 ?side3 ?side4 ?side5 A16.out).mono ?_
        (case side1 => repeat (first | (with_reducible first | exact HI0.out | apply IsS112.alloc | apply IsS112.drewN | apply IsS112.drew | apply IsS112.set_1 | refine IsS112.far ?_ NB0_207.out _ | refine IsS112.far ?_ NB0_210.out _) | exact HI0.out))
        (case side2 => repeat (first | (with_reducible first | exact HB.out | apply below_alloc | apply pw_below_drewN | apply below_drew1 | refine below_set ?_ (IsS112.ge HI0.out) | refine below_set ?_ GE207.out | refine below_set ?_ GE210.out) | exact HB.out))
        (case side3 => repeat (first | exact (Kd.R_reads' HO226.out).2.2 | (with_reducible refine Kd.C_alloc ?_ _) | (with_reducible refine Kd.C_drewN ?_ _) | (with_reducible refine Kd.C_drew ?_)))
        (case side4 => exact (Kd.R_reads' HO226.out).2.1)
        (case side5 => exact far_slice (IsS112.own_ne HI0.out HO226.out (by decide)))
        rintro e w64 ⟨rfl, hi, hb, hk⟩
        refine ⟨_, rfl, ?_⟩
        have n1_ := Aside0.mk (KeepBut.blk hk (g' := gb207) (o := .cells #[.int .i64 0, .slice none 0 0] 38 (0, 0)) (by (with_reducible repeat (first | refine blk_drewN ?_ _ | refine blk_drew ?_ | refine blk_alloc ?_ _)); exact BK207.out) NB207_0.out (by simp))
        have n2_ := Aside0.mk (KeepBut.blk hk (g' := gb210) (o := .cells #[.int .i64 (wrap64 (2 + t208)), u211001] 38 (0, 0)) (by (with_reducible repeat (first | refine blk_drewN ?_ _ | refine blk_drew ?_ | refine blk_alloc ?_ _)); exact BK210.out) NB210_0.out (by simp))
        have n3_ := Aside0.mk (Kd.R_mono (Kd.R_keep (IsS112.apart (show IsS112 w0 _ g s0_0 t223 from by repeat (first | (with_reducible first | exact HI0.out | apply IsS112.alloc | apply IsS112.drewN | apply IsS112.drew | apply IsS112.set_1 | refine IsS112.far ?_ NB0_207.out _ | refine IsS112.far ?_ NB0_210.out _) | exact HI0.out)) (by (with_reducible repeat (first | apply Kd.R_alloc | apply Kd.R_drewN | apply Kd.R_drew)); exact HO221.out) (by decide)) hk (fun _ h => h.2)) (fun _ h => h.1))
        have n4_ := Aside0.mk (Kd.R_mono (Kd.R_keep (IsS112.apart (show IsS112 w0 _ g s0_0 t223 from by repeat (first | (with_reducible first | exact HI0.out | apply IsS112.alloc | apply IsS112.drewN | apply IsS112.drew | apply IsS112.set_1 | refine IsS112.far ?_ NB0_207.out _ | refine IsS112.far ?_ NB0_210.out _) | exact HI0.out)) (by (with_reducible repeat (first | apply Kd.R_alloc | apply Kd.R_drewN | apply Kd.R_drew)); exact HO226.out) (by decide)) hk (fun _ h => h.2)) (fun _ h => h.1))
        have n5_ := Aside0.mk (KeepBut.trans (by repeat (first | (with_reducible first | exact HK.out | apply KeepBut.set_ | apply keep_drewN | apply keep_drew | apply keep_alloc | refine keep_far ?_ GW207.out _ | refine keep_far ?_ GW210.out _) | exact HK.out)) hk (.inl rfl))
        have n6_ := Aside0.mk (hb)
        have n7_ := Aside0.mk (hi)
        have z_HO_211001 := fun (h0_ : b 19 = false) => (show Kd.R k45 45 w64 w.heap.size (fun _ => True) u211001 x211001_1 from by first | exact (Kd.R_mono (Kd.R_keep (IsS112.apart (show IsS112 w0 _ g s0_0 t223 from by repeat (first | (with_reducible first | exact HI0.out | apply IsS112.alloc | apply IsS112.drewN | apply IsS112.drew | apply IsS112.set_1 | refine IsS112.far ?_ NB0_207.out _ | refine IsS112.far ?_ NB0_210.out _) | exact HI0.out)) (by (with_reducible repeat (first | apply Kd.R_alloc | apply Kd.R_drewN | apply Kd.R_drew)); exact (Q_HO_211001 h0_)) (by decide)) hk (fun _ h => h.2)) (fun _ h => h.1)) | exact Kd.R_mono (Kd.R_mono (Kd.R_keep (IsS112.apart (show IsS112 w0 _ g s0_0 t223 from by repeat (first | (with_reducible first | exact HI0.out | apply IsS112.alloc | apply IsS112.drewN | apply IsS112.drew | apply IsS112.set_1 | refine IsS112.far ?_ NB0_207.out _ | refine IsS112.far ?_ NB0_210.out _) | exact HI0.out)) (by (with_reducible repeat (first | apply Kd.R_alloc | apply Kd.R_drewN | apply Kd.R_drew)); exact (Q_HO_211001 h0_)) (by decide)) hk (fun _ h => h.2)) (fun _ h => h.1)) (fun _ h_ => by first | trivial | exact h_ | exact h_.1))
        have z_HO_211001_e19 := fun (h0_ : b 19 = true) => (show Kd.R k45 45 w64 w.heap.size (fun k_ => k_ ≠ gb231) u211001 x211001_1 from by first | exact (Kd.R_mono (Kd.R_keep (IsS112.apart (show IsS112 w0 _ g s0_0 t223 from by repeat (first | (with_reducible first | exact HI0.out | apply IsS112.alloc | apply IsS112.drewN | apply IsS112.drew | apply IsS112.set_1 | refine IsS112.far ?_ NB0_207.out _ | refine IsS112.far ?_ NB0_210.out _) | exact HI0.out)) (by (with_reducible repeat (first | apply Kd.R_alloc | apply Kd.R_drewN | apply Kd.R_drew)); exact (Q_HO_211001_e19 h0_)) (by decide)) hk (fun _ h => h.2)) (fun _ h => h.1)) | exact Kd.R_mono (Kd.R_mono (Kd.R_keep (IsS112.apart (show IsS112 w0 _ g s0_0 t223 from by repeat (first | (with_reducible first | exact HI0.out | apply IsS112.alloc | apply IsS112.drewN | apply IsS112.drew | apply IsS112.set_1 | refine IsS112.far ?_ NB0_207.out _ | refine IsS112.far ?_ NB0_210.out _) | exact HI0.out)) (by (with_reducible repeat (first | apply Kd.R_alloc | apply Kd.R_drewN | apply Kd.R_drew)); exact (Q_HO_211001_e19 h0_)) (by decide)) hk (fun _ h => h.2)) (fun _ h => h.1)) (fun _ h_ => by first | trivial | exact h_ | exact h_.1))
        have z_BK231 := fun (h0_ : b 19 = true) (h1_ : b 20 = false) => (show w64.heap[gb231]? = some (.cells #[.int .i64 0, .int .i64 0, .int .i64 0, .int .i64 0, .int .i64 0] 45 (0, 0)) from by first | exact (KeepBut.blk hk (g' := gb231) (o := .cells #[.int .i64 0, .int .i64 0, .int .i64 0, .int .i64 0, .int .i64 0] 45 (0, 0)) (by (with_reducible repeat (first | refine blk_drewN ?_ _ | refine blk_drew ?_ | refine blk_alloc ?_ _)); exact (Q_BK231 h0_ h1_)) (Q_NB231_0 h0_) (by simp)))
        clear BK207
        clear BK210
        clear HO221
        clear HO226
        clear HK
        clear HB
        clear HI0
        have BK207 := n1_
        have BK210 := n2_
        have HO221 := n3_
        have HO226 := n4_
        have HK := n5_
        have HB := n6_
        have HI0 := n7_
        clear n1_ n2_ n3_ n4_ n5_ n6_ n7_
        (try clear hb)
        (try clear hb2)
        (try clear hk)
        (try clear hi)
        refine hK.out _ _ ⟨v220, .slice Ao63 y224.length co63, gb231, m19_, (by rw [ha.out]; exact putSel_upk 8 hb_ rfl rfl rfl), z_HO_211001, (by (with_reducible repeat (first | refine blk_drewN ?_ _ | refine blk_drew ?_ | refine blk_alloc ?_ _)); exact BK207.out), (by (with_reducible repeat (first | refine blk_drewN ?_ _ | refine blk_drew ?_ | refine blk_alloc ?_ _)); exact BK210.out), fun h0_ => absurd ((hon 3 (by kernel_rfl)).symm.trans h0_) (by decide), (by repeat (first | (with_reducible first | exact HK.out | apply KeepBut.set_ | apply keep_drewN | apply keep_drew | apply keep_alloc | refine keep_far ?_ GW207.out _ | refine keep_far ?_ GW210.out _) | exact HK.out)), (by repeat (first | (with_reducible first | exact HB.out | apply below_alloc | apply pw_below_drewN | apply below_drew1 | refine below_set ?_ (IsS112.ge HI0.out) | refine below_set ?_ GE207.out | refine below_set ?_ GE210.out) | exact HB.out)), fun _ h1_ => absurd ((hon 7 (by kernel_rfl)).symm.trans h1_) (by decide), fun _ h1_ => absurd ((hon 10 (by kernel_rfl)).symm.trans h1_) (by decide), fun _ h1_ => absurd ((hon 12 (by kernel_rfl)).symm.trans h1_) (by decide), fun _ => (by (with_reducible repeat (first | apply Kd.R_alloc | apply Kd.R_drewN | apply Kd.R_drew)); exact HO221.out), fun _ h1_ => absurd ((up_self b 15).symm.trans h1_) (by decide), fun _ => (by (with_reducible repeat (first | apply Kd.R_alloc | apply Kd.R_drewN | apply Kd.R_drew)); exact HO226.out), fun _ _ => (by repeat (first | (with_reducible first | exact HI0.out | apply IsS112.alloc | apply IsS112.drewN | apply IsS112.drew | apply IsS112.set_1 | refine IsS112.far ?_ NB0_207.out _ | refine IsS112.far ?_ NB0_210.out _) | exact HI0.out)), fun h0_ => absurd ((hoff 17 (by kernel_rfl)).symm.trans h0_) (by decide), z_HO_211001_e19, z_BK231, Q_GW231, Q_GE231, Q_NB0_231, Q_NB231_0, Q_NB207_231, Q_NB231_207, Q_NB210_231, Q_NB231_210, fun h0_ => absurd ((hoff 20 (by kernel_rfl)).symm.trans h0_) (by decide), Q_X19_⟩
       refine steps_cons ?_ ?_
       ·rintro b a w' ⟨v220, v225, gb231, m19_, ha, Q_HO_211001, Q_BK207, Q_BK210, Q_HI0, Q_HK, Q_HB, Q_HI0_e3, Q_HI0_e7, Q_HI0_e10, Q_HO221, Q_HI0_e12, Q_HO226, Q_HI0_e15, Q_HI0_e17, Q_HO_211001_e19, Q_BK231, Q_GW231, Q_GE231, Q_NB0_231, Q_NB231_0, Q_NB207_231, Q_NB231_207, Q_NB210_231, Q_NB231_210, Q_BK231_e20, Q_X19_⟩ hb_ hon hoff
        refine ⟨_, rfl, fun K hK => ?_⟩
        have e32 : a.tmps[32]? = some (.pointer (some ⟨g, 0, none⟩)) := by rw [ha]; exact (putSel_off rfl).trans rfl
        replace ha := Aside0.mk ha
        have BK207 := Aside0.mk Q_BK207
        have BK210 := Aside0.mk Q_BK210
        have HK := Aside0.mk Q_HK
        have HB := Aside0.mk Q_HB
        have HO221 := Aside0.mk (Q_HO221 (hon 11 (by kernel_rfl)))
        have HO226 := Aside0.mk (Q_HO226 (hon 14 (by kernel_rfl)))
        have HI0 := Aside0.mk (Q_HI0_e15 (hon 15 (by kernel_rfl)) hb_)
        refine goes_ Try.func74 (by kernel_rfl) rfl #[.pointer (some ⟨g, 0, none⟩), .int .i64 10] (by rfl) rfl rfl (by first | (simp only [List.map_toArray, List.map_cons, List.map_nil, Act.eval, Array.getD_eq_getD_getElem?, Option.getD_some, e32]; done) | (simp only [List.map_toArray, List.map_cons, List.map_nil, Act.eval, Array.getD_eq_getD_getElem?, Option.getD_some, e32]; rfl)) ?_
        with_reducible refine (spec_l30Rd_pick.calls k1 g s0_0 t228 10 t229 t230 w0 _ ?side1 ?side2 A17.out).mono ?_
        (case side1 => repeat (first | (with_reducible first | exact HI0.out | apply IsS112.alloc | apply IsS112.drewN | apply IsS112.drew | apply IsS112.set_1 | refine IsS112.far ?_ NB0_207.out _ | refine IsS112.far ?_ NB0_210.out _) | exact HI0.out))
        (case side2 => repeat (first | (with_reducible first | exact HB.out | apply below_alloc | apply pw_below_drewN | apply below_drew1 | refine below_set ?_ (IsS112.ge HI0.out) | refine below_set ?_ GE207.out | refine below_set ?_ GE210.out) | exact HB.out))
        rintro e w65 ⟨rfl, hi, hb, hk⟩
        refine ⟨_, rfl, ?_⟩
        have n1_ := Aside0.mk (KeepBut.blk hk (g' := gb207) (o := .cells #[.int .i64 0, .slice none 0 0] 38 (0, 0)) (by (with_reducible repeat (first | refine blk_drewN ?_ _ | refine blk_drew ?_ | refine blk_alloc ?_ _)); exact BK207.out) NB207_0.out (by simp))
        have n2_ := Aside0.mk (KeepBut.blk hk (g' := gb210) (o := .cells #[.int .i64 (wrap64 (2 + t208)), u211001] 38 (0, 0)) (by (with_reducible repeat (first | refine blk_drewN ?_ _ | refine blk_drew ?_ | refine blk_alloc ?_ _)); exact BK210.out) NB210_0.out (by simp))
        have n3_ := Aside0.mk (Kd.R_mono (Kd.R_keep (IsS112.apart (show IsS112 w0 _ g s0_0 t228 from by repeat (first | (with_reducible first | exact HI0.out | apply IsS112.alloc | apply IsS112.drewN | apply IsS112.drew | apply IsS112.set_1 | refine IsS112.far ?_ NB0_207.out _ | refine IsS112.far ?_ NB0_210.out _) | exact HI0.out)) (by (with_reducible repeat (first | apply Kd.R_alloc | apply Kd.R_drewN | apply Kd.R_drew)); exact HO221.out) (by decide)) hk (fun _ h => h.2)) (fun _ h => h.1))
        have n4_ := Aside0.mk (Kd.R_mono (Kd.R_keep (IsS112.apart (show IsS112 w0 _ g s0_0 t228 from by repeat (first | (with_reducible first | exact HI0.out | apply IsS112.alloc | apply IsS112.drewN | apply IsS112.drew | apply IsS112.set_1 | refine IsS112.far ?_ NB0_207.out _ | refine IsS112.far ?_ NB0_210.out _) | exact HI0.out)) (by (with_reducible repeat (first | apply Kd.R_alloc | apply Kd.R_drewN | apply Kd.R_drew)); exact HO226.out) (by decide)) hk (fun _ h => h.2)) (fun _ h => h.1))
        have n5_ := Aside0.mk (KeepBut.trans (by repeat (first | (with_reducible first | exact HK.out | apply KeepBut.set_ | apply keep_drewN | apply keep_drew | apply keep_alloc | refine keep_far ?_ GW207.out _ | refine keep_far ?_ GW210.out _) | exact HK.out)) hk (.inl rfl))
        have n6_ := Aside0.mk (hb)
        have n7_ := Aside0.mk (hi)
        have z_HO_211001 := fun (h0_ : b 19 = false) => (show Kd.R k45 45 w65 w.heap.size (fun _ => True) u211001 x211001_1 from by first | exact (Kd.R_mono (Kd.R_keep (IsS112.apart (show IsS112 w0 _ g s0_0 t228 from by repeat (first | (with_reducible first | exact HI0.out | apply IsS112.alloc | apply IsS112.drewN | apply IsS112.drew | apply IsS112.set_1 | refine IsS112.far ?_ NB0_207.out _ | refine IsS112.far ?_ NB0_210.out _) | exact HI0.out)) (by (with_reducible repeat (first | apply Kd.R_alloc | apply Kd.R_drewN | apply Kd.R_drew)); exact (Q_HO_211001 h0_)) (by decide)) hk (fun _ h => h.2)) (fun _ h => h.1)) | exact Kd.R_mono (Kd.R_mono (Kd.R_keep (IsS112.apart (show IsS112 w0 _ g s0_0 t228 from by repeat (first | (with_reducible first | exact HI0.out | apply IsS112.alloc | apply IsS112.drewN | apply IsS112.drew | apply IsS112.set_1 | refine IsS112.far ?_ NB0_207.out _ | refine IsS112.far ?_ NB0_210.out _) | exact HI0.out)) (by (with_reducible repeat (first | apply Kd.R_alloc | apply Kd.R_drewN | apply Kd.R_drew)); exact (Q_HO_211001 h0_)) (by decide)) hk (fun _ h => h.2)) (fun _ h => h.1)) (fun _ h_ => by first | trivial | exact h_ | exact h_.1))
        have z_HO_211001_e19 := fun (h0_ : b 19 = true) => (show Kd.R k45 45 w65 w.heap.size (fun k_ => k_ ≠ gb231) u211001 x211001_1 from by first | exact (Kd.R_mono (Kd.R_keep (IsS112.apart (show IsS112 w0 _ g s0_0 t228 from by repeat (first | (with_reducible first | exact HI0.out | apply IsS112.alloc | apply IsS112.drewN | apply IsS112.drew | apply IsS112.set_1 | refine IsS112.far ?_ NB0_207.out _ | refine IsS112.far ?_ NB0_210.out _) | exact HI0.out)) (by (with_reducible repeat (first | apply Kd.R_alloc | apply Kd.R_drewN | apply Kd.R_drew)); exact (Q_HO_211001_e19 h0_)) (by decide)) hk (fun _ h => h.2)) (fun _ h => h.1)) | exact Kd.R_mono (Kd.R_mono (Kd.R_keep (IsS112.apart (show IsS112 w0 _ g s0_0 t228 from by repeat (first | (with_reducible first | exact HI0.out | apply IsS112.alloc | apply IsS112.drewN | apply IsS112.drew | apply IsS112.set_1 | refine IsS112.far ?_ NB0_207.out _ | refine IsS112.far ?_ NB0_210.out _) | exact HI0.out)) (by (with_reducible repeat (first | apply Kd.R_alloc | apply Kd.R_drewN | apply Kd.R_drew)); exact (Q_HO_211001_e19 h0_)) (by decide)) hk (fun _ h => h.2)) (fun _ h => h.1)) (fun _ h_ => by first | trivial | exact h_ | exact h_.1))
        have z_BK231 := fun (h0_ : b 19 = true) (h1_ : b 20 = false) => (show w65.heap[gb231]? = some (.cells #[.int .i64 0, .int .i64 0, .int .i64 0, .int .i64 0, .int .i64 0] 45 (0, 0)) from by first | exact (KeepBut.blk hk (g' := gb231) (o := .cells #[.int .i64 0, .int .i64 0, .int .i64 0, .int .i64 0, .int .i64 0] 45 (0, 0)) (by (with_reducible repeat (first | refine blk_drewN ?_ _ | refine blk_drew ?_ | refine blk_alloc ?_ _)); exact (Q_BK231 h0_ h1_)) (Q_NB231_0 h0_) (by simp)))
        clear BK207
        clear BK210
        clear HO221
        clear HO226
        clear HK
        clear HB
        clear HI0
        have BK207 := n1_
        have BK210 := n2_
        have HO221 := n3_
        have HO226 := n4_
        have HK := n5_
        have HB := n6_
        have HI0 := n7_
        clear n1_ n2_ n3_ n4_ n5_ n6_ n7_
        (try clear hb)
        (try clear hb2)
        (try clear hk)
        (try clear hi)
        refine hK.out _ _ ⟨v220, v225, gb231, m19_, (by rw [ha.out]; exact putSel_upk 9 hb_ rfl rfl rfl), z_HO_211001, (by (with_reducible repeat (first | refine blk_drewN ?_ _ | refine blk_drew ?_ | refine blk_alloc ?_ _)); exact BK207.out), (by (with_reducible repeat (first | refine blk_drewN ?_ _ | refine blk_drew ?_ | refine blk_alloc ?_ _)); exact BK210.out), fun h0_ => absurd ((hon 3 (by kernel_rfl)).symm.trans h0_) (by decide), (by repeat (first | (with_reducible first | exact HK.out | apply KeepBut.set_ | apply keep_drewN | apply keep_drew | apply keep_alloc | refine keep_far ?_ GW207.out _ | refine keep_far ?_ GW210.out _) | exact HK.out)), (by repeat (first | (with_reducible first | exact HB.out | apply below_alloc | apply pw_below_drewN | apply below_drew1 | refine below_set ?_ (IsS112.ge HI0.out) | refine below_set ?_ GE207.out | refine below_set ?_ GE210.out) | exact HB.out)), fun _ h1_ => absurd ((hon 7 (by kernel_rfl)).symm.trans h1_) (by decide), fun _ h1_ => absurd ((hon 10 (by kernel_rfl)).symm.trans h1_) (by decide), fun _ h1_ => absurd ((hon 12 (by kernel_rfl)).symm.trans h1_) (by decide), fun _ => (by (with_reducible repeat (first | apply Kd.R_alloc | apply Kd.R_drewN | apply Kd.R_drew)); exact HO221.out), fun _ h1_ => absurd ((hon 15 (by kernel_rfl)).symm.trans h1_) (by decide), fun _ => (by (with_reducible repeat (first | apply Kd.R_alloc | apply Kd.R_drewN | apply Kd.R_drew)); exact HO226.out), fun _ h1_ => absurd ((up_self b 17).symm.trans h1_) (by decide), fun _ => (by repeat (first | (with_reducible first | exact HI0.out | apply IsS112.alloc | apply IsS112.drewN | apply IsS112.drew | apply IsS112.set_1 | refine IsS112.far ?_ NB0_207.out _ | refine IsS112.far ?_ NB0_210.out _) | exact HI0.out)), z_HO_211001_e19, z_BK231, Q_GW231, Q_GE231, Q_NB0_231, Q_NB231_0, Q_NB207_231, Q_NB231_207, Q_NB210_231, Q_NB231_210, fun h0_ => absurd ((hoff 20 (by kernel_rfl)).symm.trans h0_) (by decide), Q_X19_⟩
       refine steps_cons ?_ ?_
       ·rintro b a w' ⟨v220, v225, gb231, m19_, ha, Q_HO_211001, Q_BK207, Q_BK210, Q_HI0, Q_HK, Q_HB, Q_HI0_e3, Q_HI0_e7, Q_HI0_e10, Q_HO221, Q_HI0_e12, Q_HO226, Q_HI0_e15, Q_HI0_e17, Q_HO_211001_e19, Q_BK231, Q_GW231, Q_GE231, Q_NB0_231, Q_NB231_0, Q_NB207_231, Q_NB231_207, Q_NB210_231, Q_NB231_210, Q_BK231_e20, Q_X19_⟩ hb_ hon hoff
        refine ⟨_, rfl, fun K hK => ?_⟩
        have e19 : a.tmps[19]? = some (.int .i64 t213) := by rw [ha]; exact putSel_on (e := (3, 19, .int .i64 t213)) 1 rfl rfl (hon 3 (by kernel_rfl)) rfl
        have e23 : a.tmps[23]? = some (.int .i64 t215) := by rw [ha]; exact putSel_on (e := (7, 23, .int .i64 t215)) 3 rfl rfl (hon 7 (by kernel_rfl)) rfl
        have e28 : a.tmps[28]? = some (.int .i64 t222) := by rw [ha]; exact putSel_on (e := (12, 28, .int .i64 t222)) 6 rfl rfl (hon 12 (by kernel_rfl)) rfl
        have e31 : a.tmps[31]? = some (.int .i64 t227) := by rw [ha]; exact putSel_on (e := (15, 31, .int .i64 t227)) 8 rfl rfl (hon 15 (by kernel_rfl)) rfl
        have e33 : a.tmps[33]? = some (.int .i64 t229) := by rw [ha]; exact putSel_on (e := (17, 33, .int .i64 t229)) 9 rfl rfl (hon 17 (by kernel_rfl)) rfl
        replace ha := Aside0.mk ha
        have BK207 := Aside0.mk Q_BK207
        have BK210 := Aside0.mk Q_BK210
        have HK := Aside0.mk Q_HK
        have HB := Aside0.mk Q_HB
        have HO221 := Aside0.mk (Q_HO221 (hon 11 (by kernel_rfl)))
        have HO226 := Aside0.mk (Q_HO226 (hon 14 (by kernel_rfl)))
        have HI0 := Aside0.mk (Q_HI0_e17 (hon 17 (by kernel_rfl)))
        refine value_ (w1 := w') (v := .agg #[.int .i64 t213, .int .i64 t215, .int .i64 t222, .int .i64 t227, .int .i64 t229]) (by rfl) rfl ?_ ?_
        ·go_simp
         (try simp only [i64_w])
         try rfl
        refine hK.out _ _ ⟨v220, v225, gb231, m19_, (by rw [ha.out]; exact putSel_upk 10 hb_ rfl rfl rfl), Q_HO_211001, Q_BK207, Q_BK210, fun h0_ => absurd ((hon 3 (by kernel_rfl)).symm.trans h0_) (by decide), Q_HK, Q_HB, fun _ h1_ => absurd ((hon 7 (by kernel_rfl)).symm.trans h1_) (by decide), fun _ h1_ => absurd ((hon 10 (by kernel_rfl)).symm.trans h1_) (by decide), fun _ h1_ => absurd ((hon 12 (by kernel_rfl)).symm.trans h1_) (by decide), Q_HO221, fun _ h1_ => absurd ((hon 15 (by kernel_rfl)).symm.trans h1_) (by decide), Q_HO226, fun _ h1_ => absurd ((hon 17 (by kernel_rfl)).symm.trans h1_) (by decide), Q_HI0_e17, Q_HO_211001_e19, Q_BK231, Q_GW231, Q_GE231, Q_NB0_231, Q_NB231_0, Q_NB207_231, Q_NB231_207, Q_NB210_231, Q_NB231_210, fun h0_ => absurd ((hoff 20 (by kernel_rfl)).symm.trans h0_) (by decide), Q_X19_⟩
       refine steps_cons ?_ ?_
       ·rintro b a w' ⟨v220, v225, gb231, m19_, ha, Q_HO_211001, Q_BK207, Q_BK210, Q_HI0, Q_HK, Q_HB, Q_HI0_e3, Q_HI0_e7, Q_HI0_e10, Q_HO221, Q_HI0_e12, Q_HO226, Q_HI0_e15, Q_HI0_e17, Q_HO_211001_e19, Q_BK231, Q_GW231, Q_GE231, Q_NB0_231, Q_NB231_0, Q_NB207_231, Q_NB231_207, Q_NB210_231, Q_NB231_210, Q_BK231_e20, Q_X19_⟩ hb_ hon hoff
        refine ⟨_, rfl, fun K hK => ?_⟩
        replace ha := Aside0.mk ha
        have HO_211001 := Aside0.mk (Q_HO_211001 hb_)
        have BK207 := Aside0.mk Q_BK207
        have BK210 := Aside0.mk Q_BK210
        have HK := Aside0.mk Q_HK
        have HB := Aside0.mk Q_HB
        refine box_step ?hg (N := 5) ?hd (cs := #[.int .i64 0, .int .i64 0, .int .i64 0, .int .i64 0, .int .i64 0]) (t := 45) ?hr ?_; (case hd => rfl); (case hg => rfl); (case hr => first | (go_simp; done) | (go_simp; rfl))
        intro gb231 hg w53 hbox hb
        have n0_ := Aside0.mk (Kd.R_below (Kd.R_elderB (by (with_reducible repeat (first | apply Kd.R_alloc | apply Kd.R_drewN | apply Kd.R_drew)); exact HO_211001.out) gb231 (Nat.le_of_eq hg.symm)) hb)
        have n1_ := Aside0.mk (blk_below (g := gb207) (o := .cells #[.int .i64 0, .slice none 0 0] 38 (0, 0)) (by (with_reducible repeat (first | refine blk_drewN ?_ _ | refine blk_drew ?_ | refine blk_alloc ?_ _)); exact BK207.out) hb)
        have n2_ := Aside0.mk (blk_below (g := gb210) (o := .cells #[.int .i64 (wrap64 (2 + t208)), u211001] 38 (0, 0)) (by (with_reducible repeat (first | refine blk_drewN ?_ _ | refine blk_drew ?_ | refine blk_alloc ?_ _)); exact BK210.out) hb)
        have n4_ := Aside0.mk (KeepBut.trans (by repeat (first | (with_reducible first | exact HK.out | apply KeepBut.set_ | apply keep_drewN | apply keep_drew | apply keep_alloc | refine keep_far ?_ GW207.out _ | refine keep_far ?_ GW210.out _) | exact HK.out)) (KeepBut.of_below hb g none) (.inl rfl))
        have n5_ := Aside0.mk (below_step (by repeat (first | (with_reducible first | exact HB.out | apply below_alloc | apply pw_below_drewN | apply below_drew1 | refine below_set ?_ GE207.out | refine below_set ?_ GE210.out) | exact HB.out)) hb)
        have n6_ := Aside0.mk (hbox)
        have n7_ := Aside0.mk ((by rw [hg]; exact (keep_size (w := w) (g := g) (row := none) (by repeat (first | (with_reducible first | exact HK.out | apply KeepBut.set_ | apply keep_drewN | apply keep_drew | apply keep_alloc | refine keep_far ?_ GW207.out _ | refine keep_far ?_ GW210.out _) | exact HK.out))) : w.heap.size ≤ gb231))
        have n8_ := Aside0.mk ((Nat.le_trans HW0.out (by rw [hg]; exact (keep_size (w := w) (g := g) (row := none) (by repeat (first | (with_reducible first | exact HK.out | apply KeepBut.set_ | apply keep_drewN | apply keep_drew | apply keep_alloc | refine keep_far ?_ GW207.out _ | refine keep_far ?_ GW210.out _) | exact HK.out))) : w.heap.size ≤ gb231) : w0.heap.size ≤ gb231))
        have n9_ := Aside0.mk ((by rw [hg]; exact Nat.ne_of_lt (blk_lt (g := gb207) (o := .cells #[.int .i64 0, .slice none 0 0] 38 (0, 0)) (by (with_reducible repeat (first | refine blk_drewN ?_ _ | refine blk_drew ?_ | refine blk_alloc ?_ _)); exact BK207.out)) : gb207 ≠ gb231))
        have n10_ := Aside0.mk ((by rw [hg]; exact Nat.ne_of_gt (blk_lt (g := gb207) (o := .cells #[.int .i64 0, .slice none 0 0] 38 (0, 0)) (by (with_reducible repeat (first | refine blk_drewN ?_ _ | refine blk_drew ?_ | refine blk_alloc ?_ _)); exact BK207.out)) : gb231 ≠ gb207))
        have n11_ := Aside0.mk ((by rw [hg]; exact Nat.ne_of_lt (blk_lt (g := gb210) (o := .cells #[.int .i64 (wrap64 (2 + t208)), u211001] 38 (0, 0)) (by (with_reducible repeat (first | refine blk_drewN ?_ _ | refine blk_drew ?_ | refine blk_alloc ?_ _)); exact BK210.out)) : gb210 ≠ gb231))
        have n12_ := Aside0.mk ((by rw [hg]; exact Nat.ne_of_gt (blk_lt (g := gb210) (o := .cells #[.int .i64 (wrap64 (2 + t208)), u211001] 38 (0, 0)) (by (with_reducible repeat (first | refine blk_drewN ?_ _ | refine blk_drew ?_ | refine blk_alloc ?_ _)); exact BK210.out)) : gb231 ≠ gb210))
        have n13_ := Aside0.mk ((by rw [hg]; exact Nat.ne_of_lt (Nat.lt_of_lt_of_le HLTg.out (by first | exact HK.out.1 | (have := HK.out.1; simp; omega))) : g ≠ gb231))
        have n14_ := Aside0.mk ((by rw [hg]; exact Nat.ne_of_gt (Nat.lt_of_lt_of_le HLTg.out (by first | exact HK.out.1 | (have := HK.out.1; simp; omega))) : gb231 ≠ g))
        have z_HI0 := fun (h0_ : b 3 = false) => (show IsS112 w0 w53 g s0_0 x1001_1 from by first | exact (IsS112.below (by repeat (first | (with_reducible first | exact (Q_HI0 h0_) | apply IsS112.alloc | apply IsS112.drewN | apply IsS112.drew | apply IsS112.set_1 | refine IsS112.far ?_ NB0_207.out _ | refine IsS112.far ?_ NB0_210.out _) | exact (Q_HI0 h0_))) hb))
        have z_HI0_e3 := fun (h0_ : b 3 = true) (h1_ : b 7 = false) => (show IsS112 w0 w53 g s0_0 t214 from by first | exact (IsS112.below (by repeat (first | (with_reducible first | exact (Q_HI0_e3 h0_ h1_) | apply IsS112.alloc | apply IsS112.drewN | apply IsS112.drew | apply IsS112.set_1 | refine IsS112.far ?_ NB0_207.out _ | refine IsS112.far ?_ NB0_210.out _) | exact (Q_HI0_e3 h0_ h1_))) hb))
        have z_HI0_e7 := fun (h0_ : b 7 = true) (h1_ : b 10 = false) => (show IsS112 w0 w53 g s0_0 t216 from by first | exact (IsS112.below (by repeat (first | (with_reducible first | exact (Q_HI0_e7 h0_ h1_) | apply IsS112.alloc | apply IsS112.drewN | apply IsS112.drew | apply IsS112.set_1 | refine IsS112.far ?_ NB0_207.out _ | refine IsS112.far ?_ NB0_210.out _) | exact (Q_HI0_e7 h0_ h1_))) hb))
        have z_HI0_e10 := fun (h0_ : b 10 = true) (h1_ : b 12 = false) => (show IsS112 w0 w53 g s0_0 t218 from by first | exact (IsS112.below (by repeat (first | (with_reducible first | exact (Q_HI0_e10 h0_ h1_) | apply IsS112.alloc | apply IsS112.drewN | apply IsS112.drew | apply IsS112.set_1 | refine IsS112.far ?_ NB0_207.out _ | refine IsS112.far ?_ NB0_210.out _) | exact (Q_HI0_e10 h0_ h1_))) hb))
        have z_HO221 := fun (h0_ : b 11 = true) => (show Kd.R (Kd.int .i64) 3 w53 w.heap.size (fun _ => True) v220 y219 from by first | exact (Kd.R_below (by (with_reducible repeat (first | apply Kd.R_alloc | apply Kd.R_drewN | apply Kd.R_drew)); exact (Q_HO221 h0_)) hb) | exact Kd.R_mono (Kd.R_below (by (with_reducible repeat (first | apply Kd.R_alloc | apply Kd.R_drewN | apply Kd.R_drew)); exact (Q_HO221 h0_)) hb) (fun _ h_ => by first | trivial | exact h_ | exact h_.1))
        have z_HI0_e12 := fun (h0_ : b 12 = true) (h1_ : b 15 = false) => (show IsS112 w0 w53 g s0_0 t223 from by first | exact (IsS112.below (by repeat (first | (with_reducible first | exact (Q_HI0_e12 h0_ h1_) | apply IsS112.alloc | apply IsS112.drewN | apply IsS112.drew | apply IsS112.set_1 | refine IsS112.far ?_ NB0_207.out _ | refine IsS112.far ?_ NB0_210.out _) | exact (Q_HI0_e12 h0_ h1_))) hb))
        have z_HO226 := fun (h0_ : b 14 = true) => (show Kd.R (Kd.int .i64) 3 w53 w.heap.size (fun _ => True) v225 y224 from by first | exact (Kd.R_below (by (with_reducible repeat (first | apply Kd.R_alloc | apply Kd.R_drewN | apply Kd.R_drew)); exact (Q_HO226 h0_)) hb) | exact Kd.R_mono (Kd.R_below (by (with_reducible repeat (first | apply Kd.R_alloc | apply Kd.R_drewN | apply Kd.R_drew)); exact (Q_HO226 h0_)) hb) (fun _ h_ => by first | trivial | exact h_ | exact h_.1))
        have z_HI0_e15 := fun (h0_ : b 15 = true) (h1_ : b 17 = false) => (show IsS112 w0 w53 g s0_0 t228 from by first | exact (IsS112.below (by repeat (first | (with_reducible first | exact (Q_HI0_e15 h0_ h1_) | apply IsS112.alloc | apply IsS112.drewN | apply IsS112.drew | apply IsS112.set_1 | refine IsS112.far ?_ NB0_207.out _ | refine IsS112.far ?_ NB0_210.out _) | exact (Q_HI0_e15 h0_ h1_))) hb))
        have z_HI0_e17 := fun (h0_ : b 17 = true) => (show IsS112 w0 w53 g s0_0 t230 from by first | exact (IsS112.below (by repeat (first | (with_reducible first | exact (Q_HI0_e17 h0_) | apply IsS112.alloc | apply IsS112.drewN | apply IsS112.drew | apply IsS112.set_1 | refine IsS112.far ?_ NB0_207.out _ | refine IsS112.far ?_ NB0_210.out _) | exact (Q_HI0_e17 h0_))) hb))
        clear HO_211001
        clear BK207
        clear BK210
        clear HK
        clear HB
        have HO_211001 := n0_
        have BK207 := n1_
        have BK210 := n2_
        have HK := n4_
        have HB := n5_
        have BK231 := n6_
        have GW231 := n7_
        have GE231 := n8_
        have NB207_231 := n9_
        have NB231_207 := n10_
        have NB210_231 := n11_
        have NB231_210 := n12_
        have NB0_231 := n13_
        have NB231_0 := n14_
        clear n0_ n1_ n2_ n4_ n5_ n6_ n7_ n8_ n9_ n10_ n11_ n12_ n13_ n14_
        clear hb hbox hg
        refine hK.out _ _ ⟨v220, v225, gb231, (.pointer (some ⟨gb231, 0, none⟩)), (by rw [ha.out]; exact putSel_upk 11 hb_ rfl rfl rfl), fun h0_ => absurd ((up_self b 19).symm.trans h0_) (by decide), (by (with_reducible repeat (first | refine blk_drewN ?_ _ | refine blk_drew ?_ | refine blk_alloc ?_ _)); exact BK207.out), (by (with_reducible repeat (first | refine blk_drewN ?_ _ | refine blk_drew ?_ | refine blk_alloc ?_ _)); exact BK210.out), z_HI0, (by repeat (first | (with_reducible first | exact HK.out | apply KeepBut.set_ | apply keep_drewN | apply keep_drew | apply keep_alloc | refine keep_far ?_ GW207.out _ | refine keep_far ?_ GW210.out _ | refine keep_far ?_ GW231.out _) | exact HK.out)), (by repeat (first | (with_reducible first | exact HB.out | apply below_alloc | apply pw_below_drewN | apply below_drew1 | refine below_set ?_ GE207.out | refine below_set ?_ GE210.out | refine below_set ?_ GE231.out) | exact HB.out)), z_HI0_e3, z_HI0_e7, z_HI0_e10, z_HO221, z_HI0_e12, z_HO226, z_HI0_e15, z_HI0_e17, fun _ => (by (with_reducible repeat (first | apply Kd.R_alloc | apply Kd.R_drewN | apply Kd.R_drew)); exact Kd.R_mono HO_211001.out (fun _ hk => hk.2)), fun _ _ => (by (with_reducible repeat (first | refine blk_drewN ?_ _ | refine blk_drew ?_ | refine blk_alloc ?_ _)); exact BK231.out), fun _ => GW231.out, fun _ => GE231.out, fun _ => NB0_231.out, fun _ => NB231_0.out, fun _ => NB207_231.out, fun _ => NB231_207.out, fun _ => NB210_231.out, fun _ => NB231_210.out, fun h0_ => absurd ((hoff 20 (by kernel_rfl)).symm.trans h0_) (by decide), fun _ => rfl⟩
       refine steps_cons ?_ ?_
       ·rintro b a w' ⟨v220, v225, gb231, m19_, ha, Q_HO_211001, Q_BK207, Q_BK210, Q_HI0, Q_HK, Q_HB, Q_HI0_e3, Q_HI0_e7, Q_HI0_e10, Q_HO221, Q_HI0_e12, Q_HO226, Q_HI0_e15, Q_HI0_e17, Q_HO_211001_e19, Q_BK231, Q_GW231, Q_GE231, Q_NB0_231, Q_NB231_0, Q_NB207_231, Q_NB231_207, Q_NB210_231, Q_NB231_210, Q_BK231_e20, Q_X19_⟩ hb_ hon hoff
        refine ⟨_, rfl, fun K hK => ?_⟩
        have e5 : a.tmps[5]? = some (m19_) := by rw [ha]; exact putSel_on (e := (19, 5, m19_)) 11 rfl rfl (hon 19 (by kernel_rfl)) rfl
        rw [Q_X19_ (hon 19 (by kernel_rfl))] at e5
        have e34 : a.tmps[34]? = some (.agg #[.int .i64 t213, .int .i64 t215, .int .i64 t222, .int .i64 t227, .int .i64 t229]) := by rw [ha]; exact putSel_on (e := (18, 34, .agg #[.int .i64 t213, .int .i64 t215, .int .i64 t222, .int .i64 t227, .int .i64 t229])) 10 rfl rfl (hon 18 (by kernel_rfl)) rfl
        replace ha := Aside0.mk ha
        have BK207 := Aside0.mk Q_BK207
        have BK210 := Aside0.mk Q_BK210
        have HK := Aside0.mk Q_HK
        have HB := Aside0.mk Q_HB
        have HO221 := Aside0.mk (Q_HO221 (hon 11 (by kernel_rfl)))
        have HO226 := Aside0.mk (Q_HO226 (hon 14 (by kernel_rfl)))
        have HI0 := Aside0.mk (Q_HI0_e17 (hon 17 (by kernel_rfl)))
        have HO_211001 := Aside0.mk (Q_HO_211001_e19 (hon 19 (by kernel_rfl)))
        have BK231 := Aside0.mk (Q_BK231 (hon 19 (by kernel_rfl)) hb_)
        have GW231 := Aside0.mk (Q_GW231 (hon 19 (by kernel_rfl)))
        have GE231 := Aside0.mk (Q_GE231 (hon 19 (by kernel_rfl)))
        have NB0_231 := Aside0.mk (Q_NB0_231 (hon 19 (by kernel_rfl)))
        have NB231_0 := Aside0.mk (Q_NB231_0 (hon 19 (by kernel_rfl)))
        have NB207_231 := Aside0.mk (Q_NB207_231 (hon 19 (by kernel_rfl)))
        have NB231_207 := Aside0.mk (Q_NB231_207 (hon 19 (by kernel_rfl)))
        have NB210_231 := Aside0.mk (Q_NB210_231 (hon 19 (by kernel_rfl)))
        have NB231_210 := Aside0.mk (Q_NB231_210 (hon 19 (by kernel_rfl)))
        have hs67 : w'.cell? ⟨gb231, 0, none⟩ = some (.int .i64 0) := (blk_cell BK231.out 0).trans rfl
        have hfs67 := blk_frozen BK231.out 0
        have hns67_0 := NB207_231.out
        have hns67_1 := NB210_231.out
        have hms67_0 := NB231_207.out
        have hms67_1 := NB231_210.out
        have hs68 : w'.cell? ⟨gb231, 1, none⟩ = some (.int .i64 0) := (blk_cell BK231.out 1).trans rfl
        have hfs68 := blk_frozen BK231.out 1
        have hns68_0 := NB207_231.out
        have hns68_1 := NB210_231.out
        have hms68_0 := NB231_207.out
        have hms68_1 := NB231_210.out
        have hs69 : w'.cell? ⟨gb231, 2, none⟩ = some (.int .i64 0) := (blk_cell BK231.out 2).trans rfl
        have hfs69 := blk_frozen BK231.out 2
        have hns69_0 := NB207_231.out
        have hns69_1 := NB210_231.out
        have hms69_0 := NB231_207.out
        have hms69_1 := NB231_210.out
        have hs70 : w'.cell? ⟨gb231, 3, none⟩ = some (.int .i64 0) := (blk_cell BK231.out 3).trans rfl
        have hfs70 := blk_frozen BK231.out 3
        have hns70_0 := NB207_231.out
        have hns70_1 := NB210_231.out
        have hms70_0 := NB231_207.out
        have hms70_1 := NB231_210.out
        have hs71 : w'.cell? ⟨gb231, 4, none⟩ = some (.int .i64 0) := (blk_cell BK231.out 4).trans rfl
        have hfs71 := blk_frozen BK231.out 4
        have hns71_0 := NB207_231.out
        have hns71_1 := NB210_231.out
        have hms71_0 := NB231_207.out
        have hms71_1 := NB231_210.out
        refine skip_ (w1 := ?_) (by rfl) rfl ?_ ?_
        rotate_left
        ·go_simp
         rfl
        refine hK.out _ _ ⟨v220, v225, gb231, m19_, (by rw [ha.out]; exact putSel_none (v := undef) rfl), fun h0_ => absurd ((hon 19 (by kernel_rfl)).symm.trans h0_) (by decide), (by (with_reducible repeat (first | refine blk_drewN ?_ _ | refine blk_drew ?_ | refine blk_alloc ?_ _)); refine blk_far ?_ NB207_231.out _; (with_reducible repeat (first | refine blk_drewN ?_ _ | refine blk_drew ?_ | refine blk_alloc ?_ _)); refine blk_far ?_ NB207_231.out _; (with_reducible repeat (first | refine blk_drewN ?_ _ | refine blk_drew ?_ | refine blk_alloc ?_ _)); refine blk_far ?_ NB207_231.out _; (with_reducible repeat (first | refine blk_drewN ?_ _ | refine blk_drew ?_ | refine blk_alloc ?_ _)); refine blk_far ?_ NB207_231.out _; (with_reducible repeat (first | refine blk_drewN ?_ _ | refine blk_drew ?_ | refine blk_alloc ?_ _)); refine blk_far ?_ NB207_231.out _; (with_reducible repeat (first | refine blk_drewN ?_ _ | refine blk_drew ?_ | refine blk_alloc ?_ _)); exact BK207.out), (by (with_reducible repeat (first | refine blk_drewN ?_ _ | refine blk_drew ?_ | refine blk_alloc ?_ _)); refine blk_far ?_ NB210_231.out _; (with_reducible repeat (first | refine blk_drewN ?_ _ | refine blk_drew ?_ | refine blk_alloc ?_ _)); refine blk_far ?_ NB210_231.out _; (with_reducible repeat (first | refine blk_drewN ?_ _ | refine blk_drew ?_ | refine blk_alloc ?_ _)); refine blk_far ?_ NB210_231.out _; (with_reducible repeat (first | refine blk_drewN ?_ _ | refine blk_drew ?_ | refine blk_alloc ?_ _)); refine blk_far ?_ NB210_231.out _; (with_reducible repeat (first | refine blk_drewN ?_ _ | refine blk_drew ?_ | refine blk_alloc ?_ _)); refine blk_far ?_ NB210_231.out _; (with_reducible repeat (first | refine blk_drewN ?_ _ | refine blk_drew ?_ | refine blk_alloc ?_ _)); exact BK210.out), fun h0_ => absurd ((hon 3 (by kernel_rfl)).symm.trans h0_) (by decide), (by repeat (first | (with_reducible first | exact HK.out | apply KeepBut.set_ | apply keep_drewN | apply keep_drew | apply keep_alloc | refine keep_far ?_ GW207.out _ | refine keep_far ?_ GW210.out _ | refine keep_far ?_ GW231.out _) | exact HK.out)), (by repeat (first | (with_reducible first | exact HB.out | apply below_alloc | apply pw_below_drewN | apply below_drew1 | refine below_set ?_ (IsS112.ge HI0.out) | refine below_set ?_ GE207.out | refine below_set ?_ GE210.out | refine below_set ?_ GE231.out) | exact HB.out)), fun _ h1_ => absurd ((hon 7 (by kernel_rfl)).symm.trans h1_) (by decide), fun _ h1_ => absurd ((hon 10 (by kernel_rfl)).symm.trans h1_) (by decide), fun _ h1_ => absurd ((hon 12 (by kernel_rfl)).symm.trans h1_) (by decide), fun _ => (by (with_reducible repeat (first | apply Kd.R_alloc | apply Kd.R_drewN | apply Kd.R_drew)); exact Kd.R_mono (Kd.R_far (p := ⟨gb231, 4, none⟩) (Kd.R_far (p := ⟨gb231, 3, none⟩) (Kd.R_far (p := ⟨gb231, 2, none⟩) (Kd.R_far (p := ⟨gb231, 1, none⟩) (Kd.R_far (p := ⟨gb231, 0, none⟩) (Kd.R_types HO221.out BK231.out (by decide)) (fun _ hk => hk.2) (.int .i64 t213)) (fun _ hk => hk.2) (.int .i64 t215)) (fun _ hk => hk.2) (.int .i64 t222)) (fun _ hk => hk.2) (.int .i64 t227)) (fun _ hk => hk.2) (.int .i64 t229)) (fun _ hk => hk.1)), fun _ h1_ => absurd ((hon 15 (by kernel_rfl)).symm.trans h1_) (by decide), fun _ => (by (with_reducible repeat (first | apply Kd.R_alloc | apply Kd.R_drewN | apply Kd.R_drew)); exact Kd.R_mono (Kd.R_far (p := ⟨gb231, 4, none⟩) (Kd.R_far (p := ⟨gb231, 3, none⟩) (Kd.R_far (p := ⟨gb231, 2, none⟩) (Kd.R_far (p := ⟨gb231, 1, none⟩) (Kd.R_far (p := ⟨gb231, 0, none⟩) (Kd.R_types HO226.out BK231.out (by decide)) (fun _ hk => hk.2) (.int .i64 t213)) (fun _ hk => hk.2) (.int .i64 t215)) (fun _ hk => hk.2) (.int .i64 t222)) (fun _ hk => hk.2) (.int .i64 t227)) (fun _ hk => hk.2) (.int .i64 t229)) (fun _ hk => hk.1)), fun _ h1_ => absurd ((hon 17 (by kernel_rfl)).symm.trans h1_) (by decide), fun _ => (by repeat (first | (with_reducible first | exact HI0.out | apply IsS112.alloc | apply IsS112.drewN | apply IsS112.drew | apply IsS112.set_1 | refine IsS112.far ?_ NB0_207.out _ | refine IsS112.far ?_ NB0_210.out _ | refine IsS112.far ?_ NB0_231.out _) | exact HI0.out)), fun _ => (by (with_reducible repeat (first | apply Kd.R_alloc | apply Kd.R_drewN | apply Kd.R_drew)); exact Kd.R_mono (Kd.R_far (p := ⟨gb231, 4, none⟩) (Kd.R_far (p := ⟨gb231, 3, none⟩) (Kd.R_far (p := ⟨gb231, 2, none⟩) (Kd.R_far (p := ⟨gb231, 1, none⟩) (Kd.R_far (p := ⟨gb231, 0, none⟩) (Kd.R_mono HO_211001.out (fun k_ hk => (⟨hk, hk⟩ : _ ∧ k_ ≠ gb231))) (fun _ hk => hk.2) (.int .i64 t213)) (fun _ hk => hk.2) (.int .i64 t215)) (fun _ hk => hk.2) (.int .i64 t222)) (fun _ hk => hk.2) (.int .i64 t227)) (fun _ hk => hk.2) (.int .i64 t229)) (fun _ hk => hk.1)), fun _ h1_ => absurd ((up_self b 20).symm.trans h1_) (by decide), fun _ => GW231.out, fun _ => GE231.out, fun _ => NB0_231.out, fun _ => NB231_0.out, fun _ => NB207_231.out, fun _ => NB231_207.out, fun _ => NB210_231.out, fun _ => NB231_210.out, fun _ => (by (with_reducible repeat (first | refine blk_drewN ?_ _ | refine blk_drew ?_ | refine blk_alloc ?_ _)); refine blk_put (cs := #[.int .i64 t213, .int .i64 t215, .int .i64 t222, .int .i64 t227, .int .i64 0]) ?_ 4 _ rfl; (with_reducible repeat (first | refine blk_drewN ?_ _ | refine blk_drew ?_ | refine blk_alloc ?_ _)); refine blk_put (cs := #[.int .i64 t213, .int .i64 t215, .int .i64 t222, .int .i64 0, .int .i64 0]) ?_ 3 _ rfl; (with_reducible repeat (first | refine blk_drewN ?_ _ | refine blk_drew ?_ | refine blk_alloc ?_ _)); refine blk_put (cs := #[.int .i64 t213, .int .i64 t215, .int .i64 0, .int .i64 0, .int .i64 0]) ?_ 2 _ rfl; (with_reducible repeat (first | refine blk_drewN ?_ _ | refine blk_drew ?_ | refine blk_alloc ?_ _)); refine blk_put (cs := #[.int .i64 t213, .int .i64 0, .int .i64 0, .int .i64 0, .int .i64 0]) ?_ 1 _ rfl; (with_reducible repeat (first | refine blk_drewN ?_ _ | refine blk_drew ?_ | refine blk_alloc ?_ _)); refine blk_put (cs := #[.int .i64 0, .int .i64 0, .int .i64 0, .int .i64 0, .int .i64 0]) ?_ 0 _ rfl; (with_reducible repeat (first | refine blk_drewN ?_ _ | refine blk_drew ?_ | refine blk_alloc ?_ _)); exact BK231.out), Q_X19_⟩
       exact steps_nil
      rintro b a w71 hall ⟨v220, v225, gb231, m19_, ha, Q_HO_211001, Q_BK207, Q_BK210, Q_HI0, Q_HK, Q_HB, Q_HI0_e3, Q_HI0_e7, Q_HI0_e10, Q_HO221, Q_HI0_e12, Q_HO226, Q_HI0_e15, Q_HI0_e17, Q_HO_211001_e19, Q_BK231, Q_GW231, Q_GE231, Q_NB0_231, Q_NB231_0, Q_NB207_231, Q_NB231_207, Q_NB210_231, Q_NB231_210, Q_BK231_e20, Q_X19_⟩
      clear BK207 BK210 HB HI0 HK HO_211001
      have hb2_ := hall 2 (by kernel_rfl)
      have hb3_ := hall 3 (by kernel_rfl)
      have hb6_ := hall 6 (by kernel_rfl)
      have hb7_ := hall 7 (by kernel_rfl)
      have hb10_ := hall 10 (by kernel_rfl)
      have hb11_ := hall 11 (by kernel_rfl)
      have hb12_ := hall 12 (by kernel_rfl)
      have hb14_ := hall 14 (by kernel_rfl)
      have hb15_ := hall 15 (by kernel_rfl)
      have hb17_ := hall 17 (by kernel_rfl)
      have hb18_ := hall 18 (by kernel_rfl)
      have hb19_ := hall 19 (by kernel_rfl)
      have hb20_ := hall 20 (by kernel_rfl)
      subst ha
      obtain rfl := Q_X19_ hb19_
      simp only [putSel, hb2_, hb3_, hb6_, hb7_, hb10_, hb11_, hb12_, hb14_, hb15_, hb17_, hb18_, hb19_, hb20_, if_true, Act.put, List.setIfInBounds_toArray, List.set_cons_zero, List.set_cons_succ]
      clear Q_HO_211001
      have BK207 := Aside0.mk Q_BK207
      clear Q_BK207
      have BK210 := Aside0.mk Q_BK210
      clear Q_BK210
      clear Q_HI0
      have HK := Aside0.mk Q_HK
      clear Q_HK
      have HB := Aside0.mk Q_HB
      clear Q_HB
      clear Q_HI0_e3
      clear Q_HI0_e7
      clear Q_HI0_e10
      have HO221 := Aside0.mk (Q_HO221 hb11_)
      clear Q_HO221
      clear Q_HI0_e12
      have HO226 := Aside0.mk (Q_HO226 hb14_)
      clear Q_HO226
      clear Q_HI0_e15
      have HI0 := Aside0.mk (Q_HI0_e17 hb17_)
      clear Q_HI0_e17
      have HO_211001 := Aside0.mk (Q_HO_211001_e19 hb19_)
      clear Q_HO_211001_e19
      clear Q_BK231
      have GW231 := Aside0.mk (Q_GW231 hb19_)
      clear Q_GW231
      have GE231 := Aside0.mk (Q_GE231 hb19_)
      clear Q_GE231
      have NB0_231 := Aside0.mk (Q_NB0_231 hb19_)
      clear Q_NB0_231
      have NB231_0 := Aside0.mk (Q_NB231_0 hb19_)
      clear Q_NB231_0
      have NB207_231 := Aside0.mk (Q_NB207_231 hb19_)
      clear Q_NB207_231
      have NB231_207 := Aside0.mk (Q_NB231_207 hb19_)
      clear Q_NB231_207
      have NB210_231 := Aside0.mk (Q_NB210_231 hb19_)
      clear Q_NB210_231
      have NB231_210 := Aside0.mk (Q_NB231_210 hb19_)
      clear Q_NB231_210
      have BK231 := Aside0.mk (Q_BK231_e20 hb20_)
      clear Q_BK231_e20
      clear hall hb2_ hb3_ hb6_ hb7_ hb10_ hb11_ hb12_ hb14_ hb15_ hb17_ hb18_ hb19_ hb20_
      have hnb72 := NB231_207.out
      have hnc72 := NB207_231.out
      have hnb73 := NB231_210.out
      have hnc73 := NB210_231.out
      have hnb74 := NB231_0.out
      have hnc74 := NB0_231.out
      have hcz75_0 : w71.cell? ⟨gb231, 0, none⟩ = some (.int .i64 t213) := (blk_cell BK231.out 0).trans rfl
      have hcz75_1 : w71.cell? ⟨gb231, 1, none⟩ = some (.int .i64 t215) := (blk_cell BK231.out 1).trans rfl
      have hcz75_2 : w71.cell? ⟨gb231, 2, none⟩ = some (.int .i64 t222) := (blk_cell BK231.out 2).trans rfl
      have hcz75_3 : w71.cell? ⟨gb231, 3, none⟩ = some (.int .i64 t227) := (blk_cell BK231.out 3).trans rfl
      have hcz75_4 : w71.cell? ⟨gb231, 4, none⟩ = some (.int .i64 t229) := (blk_cell BK231.out 4).trans rfl
      have hfz75_0 := blk_frozen BK231.out 0
      have hfz75_1 := blk_frozen BK231.out 1
      have hfz75_2 := blk_frozen BK231.out 2
      have hfz75_3 := blk_frozen BK231.out 3
      have hfz75_4 := blk_frozen BK231.out 4
      have hnb76 := NB210_207.out
      have hnc76 := NB207_210.out
      have hnb77 := NB210_0.out
      have hnc77 := NB0_210.out
      have hcz78_0 : w71.cell? ⟨gb210, 0, none⟩ = some (.int .i64 (wrap64 (2 + t208))) := (blk_cell BK210.out 0).trans rfl
      have hcz78_1 : w71.cell? ⟨gb210, 1, none⟩ = some (u211001) := (blk_cell BK210.out 1).trans rfl
      have hfz78_0 := blk_frozen BK210.out 0
      have hfz78_1 := blk_frozen BK210.out 1
      try go_wp2_with (first | ((with_reducible refine gate_builtin (b := .append) (xs := #[.tmp 48, .tmp 50]) rfl ?_); at_builtin; refine Kd.R_append k45 w.heap.size rfl (.tmp 48) (.tmp 50) 36 45 (.agg #[(.int .i64 0), (.int .i64 0), (.int .i64 0), (.int .i64 0), (.int .i64 0)]) 40 rfl Try.underlying36 info45 rfl (by decide) (by omega) u211001 x211001_1 (⟨t213, t215, t222, t227, t229⟩ : S45) [.int .i64 t213, .int .i64 t215, .int .i64 t222, .int .i64 t227, .int .i64 t229] (fun k_ => k_ ≠ gb231) (fun _ => False) rfl rfl ?aP (fun _ hk => hk.elim) ?aF ?aO (Below.refl _ _) ?aS ?aL ?_; (case aP => exact k45_mkM _ _ _ (⟨t213, t215, t222, t227, t229⟩ : S45)); (case aF => exact (fun k_ hk => Kd.freshB (g := gb231) (o := .cells #[.int .i64 t213, .int .i64 t215, .int .i64 t222, .int .i64 t227, .int .i64 t229] 45 (0, 0)) (by (with_reducible repeat (first | refine blk_drewN ?_ _ | refine blk_drew ?_ | refine blk_alloc ?_ _)); exact BK231.out) k_ hk)); (case aO => exact (by (with_reducible repeat (first | apply Kd.R_alloc | apply Kd.R_drewN | apply Kd.R_drew)); exact HO_211001.out)); (case aS => exact (keep_size (w := w) (g := g) (row := none) (by repeat (first | (with_reducible first | exact HK.out | apply KeepBut.set_ | apply keep_drewN | apply keep_drew | apply keep_alloc | refine keep_far ?_ GW207.out _ | refine keep_far ?_ GW210.out _ | refine keep_far ?_ GW231.out _) | exact HK.out)))); (case aL => have := LMc51.out; omega); intro v236 w79 ho hb hg hat; rw [← Ny235.out] at ho; have n0_ := Aside0.mk (blk_grown (g := gb207) (o := .cells #[.int .i64 0, .slice none 0 0] 38 (0, 0)) (by (with_reducible repeat (first | refine blk_drewN ?_ _ | refine blk_drew ?_ | refine blk_alloc ?_ _)); exact BK207.out) hg (Kd.R_ne HO_211001.out BK207.out (by decide))); have n1_ := Aside0.mk (blk_grown (g := gb210) (o := .cells #[.int .i64 (wrap64 (2 + t208)), u211001] 38 (0, 0)) (by (with_reducible repeat (first | refine blk_drewN ?_ _ | refine blk_drew ?_ | refine blk_alloc ?_ _)); exact BK210.out) hg (Kd.R_ne HO_211001.out BK210.out (by decide))); have n2_ := Aside0.mk (IsS112.grown2 HI0.out (by repeat (first | (with_reducible first | exact HI0.out | apply IsS112.alloc | apply IsS112.drewN | apply IsS112.drew | apply IsS112.set_1 | refine IsS112.far ?_ NB0_207.out _ | refine IsS112.far ?_ NB0_210.out _ | refine IsS112.far ?_ NB0_231.out _) | exact HI0.out)) hg (IsS112.own_ne HI0.out HO_211001.out (by decide))); have n3_ := Aside0.mk (Kd.R_over' (by (with_reducible repeat (first | apply Kd.R_alloc | apply Kd.R_drewN | apply Kd.R_drew)); exact HO221.out) (Kd.R_typed (by (with_reducible repeat (first | apply Kd.R_alloc | apply Kd.R_drewN | apply Kd.R_drew)); exact HO_211001.out)) (by decide) hg); have n4_ := Aside0.mk (Kd.R_over' (by (with_reducible repeat (first | apply Kd.R_alloc | apply Kd.R_drewN | apply Kd.R_drew)); exact HO226.out) (Kd.R_typed (by (with_reducible repeat (first | apply Kd.R_alloc | apply Kd.R_drewN | apply Kd.R_drew)); exact HO_211001.out)) (by decide) hg); have n5_ := Aside0.mk (blk_grown (g := gb231) (o := .cells #[.int .i64 t213, .int .i64 t215, .int .i64 t222, .int .i64 t227, .int .i64 t229] 45 (0, 0)) (by (with_reducible repeat (first | refine blk_drewN ?_ _ | refine blk_drew ?_ | refine blk_alloc ?_ _)); exact BK231.out) hg (Kd.R_away HO_211001.out (fun _ hk => hk))); have n6_ := Aside0.mk (below_weaken (by repeat (first | (with_reducible first | exact HB.out | apply below_alloc | apply pw_below_drewN | apply below_drew1 | refine below_set ?_ (IsS112.ge HI0.out) | refine below_set ?_ GE207.out | refine below_set ?_ GE210.out | refine below_set ?_ GE231.out) | exact HB.out)) HL.out hb); have n7_ := Aside0.mk (KeepBut.trans (by repeat (first | (with_reducible first | exact HK.out | apply KeepBut.set_ | apply keep_drewN | apply keep_drew | apply keep_alloc | refine keep_far ?_ GW207.out _ | refine keep_far ?_ GW210.out _ | refine keep_far ?_ GW231.out _) | exact HK.out)) (KeepBut.of_grown hg g) (Kd.R_base2 HO_211001.out)); have n8_ := Aside0.mk (ho); clear BK207; clear BK210; clear HI0; clear HO221; clear HO226; clear BK231; clear HB; clear HK; clear HO_211001; have BK207 := n0_; have BK210 := n1_; have HI0 := n2_; have HO221 := n3_; have HO226 := n4_; have BK231 := n5_; have HB := n6_; have HK := n7_; have HO237 := n8_; clear n0_ n1_ n2_ n3_ n4_ n5_ n6_ n7_ n8_; clear ho hb hg hat; obtain ⟨Ao80, co80, eo80⟩ := Kd.R_slice HO237.out; subst eo80; have hcz81_0 : w79.cell? ⟨gb210, 0, none⟩ = some (.int .i64 (wrap64 (2 + t208))) := (blk_cell BK210.out 0).trans rfl; have hcz81_1 : w79.cell? ⟨gb210, 1, none⟩ = some (u211001) := (blk_cell BK210.out 1).trans rfl; have hfz81_0 := blk_frozen BK210.out 0; have hfz81_1 := blk_frozen BK210.out 1))
      go_roundg k1
      case measure => have := HK1.out; omega
      case rel => exact ⟨(wrap64 (x4_1 - 1)), (t230), (y235), (.slice Ao80 y235.length co80), (by first | rfl | (simp; done) | (simp [*]; done)), H', ⟨by have := HK1.out; omega⟩, ⟨by (with_reducible repeat (first | apply Kd.R_alloc | apply Kd.R_drewN | apply Kd.R_drew)); exact Kd.R_mono (Kd.R_far (p := ⟨gb210, 1, none⟩) (Kd.R_types HO237.out BK210.out (by decide)) (fun _ hk => hk.2) (.slice Ao80 y235.length co80)) (fun _ hk => trivial)⟩, ⟨by (with_reducible repeat (first | refine blk_drewN ?_ _ | refine blk_drew ?_ | refine blk_alloc ?_ _)); refine blk_far ?_ NB207_210.out _; (with_reducible repeat (first | refine blk_drewN ?_ _ | refine blk_drew ?_ | refine blk_alloc ?_ _)); exact BK207.out⟩, ⟨by (with_reducible repeat (first | refine blk_drewN ?_ _ | refine blk_drew ?_ | refine blk_alloc ?_ _)); refine blk_put (cs := #[.int .i64 (wrap64 (2 + t208)), u211001]) ?_ 1 _ rfl; (with_reducible repeat (first | refine blk_drewN ?_ _ | refine blk_drew ?_ | refine blk_alloc ?_ _)); exact BK210.out⟩, ⟨by repeat (first | (with_reducible first | exact HI0.out | apply IsS112.alloc | apply IsS112.drewN | apply IsS112.drew | apply IsS112.set_1 | refine IsS112.far ?_ NB0_207.out _ | refine IsS112.far ?_ NB0_210.out _ | refine IsS112.far ?_ NB0_231.out _) | exact HI0.out)⟩, ⟨by repeat (first | (with_reducible first | exact HK.out | apply KeepBut.set_ | apply keep_drewN | apply keep_drew | apply keep_alloc | refine keep_far ?_ GW207.out _ | refine keep_far ?_ GW210.out _ | refine keep_far ?_ GW231.out _) | exact HK.out)⟩, ⟨by repeat (first | (with_reducible first | exact HB.out | apply below_alloc | apply pw_below_drewN | apply below_drew1 | refine below_set ?_ (IsS112.ge HI0.out) | refine below_set ?_ GE207.out | refine below_set ?_ GE210.out | refine below_set ?_ GE231.out) | exact HB.out)⟩⟩
     ·rw [if_neg c51] at H
      exact absurd H (by simp)
   ·rw [if_neg c11] at H
    have c11b0 : decide (0 < x4_1) = false := decide_eq_false c11
    clear c11
    simp only [Option.some.injEq, Prod.mk.injEq] at H
    obtain ⟨rfl, rfl, rfl⟩ := H
    have hnb82 := NB210_207.out
    have hnc82 := NB207_210.out
    have hnb83 := NB210_0.out
    have hnc83 := NB0_210.out
    have hcz84_0 : wr.cell? ⟨gb210, 0, none⟩ = some (.int .i64 (wrap64 (2 + t208))) := (blk_cell BK210.out 0).trans rfl
    have hcz84_1 : wr.cell? ⟨gb210, 1, none⟩ = some (u211001) := (blk_cell BK210.out 1).trans rfl
    have hfz84_0 := blk_frozen BK210.out 0
    have hfz84_1 := blk_frozen BK210.out 1
    have hnb85 := NB207_0.out
    have hnc85 := NB0_207.out
    have hcz86_0 : wr.cell? ⟨gb207, 0, none⟩ = some (.int .i64 0) := (blk_cell BK207.out 0).trans rfl
    have hcz86_1 : wr.cell? ⟨gb207, 1, none⟩ = some (.slice none 0 0) := (blk_cell BK207.out 1).trans rfl
    have hfz86_0 := blk_frozen BK207.out 0
    have hfz86_1 := blk_frozen BK207.out 1
    obtain ⟨Ao87, co87, eo87⟩ := Kd.R_slice HO_211001.out
    subst eo87
    go_wp2
    refine bodyPost_ret (results_cell_row rfl _ _ gb207 38 #[.int .i64 (wrap64 (2 + t208)), .slice Ao87 x211001_1.length co87] (0, 0) _ rfl (by (with_reducible repeat (first | refine blk_drewN ?_ _ | refine blk_drew ?_ | refine blk_alloc ?_ _)); refine blk_put (cs := #[.int .i64 (wrap64 (2 + t208)), .slice none 0 0]) ?_ 1 _ rfl; (with_reducible repeat (first | refine blk_drewN ?_ _ | refine blk_drew ?_ | refine blk_alloc ?_ _)); refine blk_put (cs := #[.int .i64 0, .slice none 0 0]) ?_ 0 _ rfl; (with_reducible repeat (first | refine blk_drewN ?_ _ | refine blk_drew ?_ | refine blk_alloc ?_ _)); exact BK207.out) Try.underlying38 rfl (by kernel_rfl)) rfl ?_
    exact ⟨_, by first | rfl | (simp [errW_none, errW_some] <;> rfl) | (simp [*, errW_none, errW_some] <;> rfl), by (with_reducible repeat (first | apply Kd.R_alloc | apply Kd.R_drewN | apply Kd.R_drew)); exact Kd.R_mono (Kd.R_far (p := ⟨gb207, 1, none⟩) (Kd.R_far (p := ⟨gb207, 0, none⟩) (Kd.R_types HO_211001.out BK207.out (by decide)) (fun _ hk => hk.2) (.int .i64 (wrap64 (2 + t208)))) (fun _ hk => hk.2) (.slice Ao87 x211001_1.length co87)) (fun _ hk => trivial), by repeat (first | (with_reducible first | exact HI0.out | apply IsS112.alloc | apply IsS112.drewN | apply IsS112.drew | apply IsS112.set_1 | refine IsS112.far ?_ NB0_207.out _ | refine IsS112.far ?_ NB0_210.out _) | exact HI0.out), by repeat (first | (with_reducible first | exact HB.out | apply below_alloc | apply pw_below_drewN | apply below_drew1 | refine below_set ?_ (IsS112.ge HI0.out) | refine below_set ?_ GE207.out | refine below_set ?_ GE210.out) | exact HB.out), by repeat (first | (with_reducible first | exact HK.out | apply KeepBut.set_ | apply keep_drewN | apply keep_drew | apply keep_alloc | refine keep_far ?_ GW207.out _ | refine keep_far ?_ GW210.out _) | exact HK.out)⟩
end Go.Proofs.Ytmabopomecdidaa.Pr
end
