/- For the statement FnBothOver of this seat: it is proved here, with no further conditions (part 6 of its texts: words, walks of the functions, the plain law, the row). -/
import Derived.Test.YtljdcinpjnijcaaKFnBothOver4
section
namespace Go.Proofs.Ytljdcinpjnijcaa.Pr
open Go.RowKit Go.Proofs.YtljdcinpjnijcaaW.PrintWords Go.Proofs.YtljdcinpjnijcaaW.PrintLast Go.Proofs.YtljdcinpjnijcaaW.PrintMore
attribute [local go_sem] max2_int min2_int max_two min_two max_three min_three max_four min_four
set_option linter.unusedVariables false
set_option linter.unusedSimpArgs false
def impl_Net_back.l0 : Nat → List (S34) → Int → Int → Int → List (S34) → Option (Int × (List (S34)))
 | 0, _, _, _, _, _ => none
 | k + 1, x14, x15, x16, x214000, x214001 => if x16 < x15 then (if 0 ≤ x16 then (if x16 < (x14.length : Int) then (if x214001.length < 3518437208883 then (impl_Net_back.l0 k x14 x15 (wrap64 (x16 + 1)) x214000 (x214001 ++ [(⟨(rd_T34 x14 x16).f1, (rd_T34 x14 x16).f0, (rd_T34 x14 x16).f2, (rd_T34 x14 x16).f3, (rd_T34 x14 x16).f4⟩ : S34)])) else (none)) else (none)) else (none)) else (some (x214000, x214001))
def impl_Net_back.f (k : Nat) (a0_0 : Int) (l0_1 : List (S34)) : Option (Int × (List (S34))) := if 0 ≤ (l0_1.length : Int) then (if ((l0_1.length : Int) : Int).toNat ≤ 7036874417766 then (impl_Net_back.l0 k l0_1 (l0_1.length : Int) 0 a0_0 (([] : List (S34)))) else (none)) else (none)
def impl_Net_back.T1 : Bool × List (List Nat × List Nat) := (true, [([], []), ([0], [0]), ([], []), ([2], [2]), ([3], [3]), ([4], [4]), ([1, 5], [1, 5]), ([], []), ([7, 6, 0, 1, 2, 3, 4, 5, 6, 7], [6, 7])])
def impl_Net_back.B1 : List Nat := [0, 1, 0, 4, 12, 28, 63, 0, 255]
theorem impl_Net_back.tab1 : rtab .any (opsOf Try.f92 1) = impl_Net_back.T1 := by kernel_rfl
theorem impl_Net_back.bits1 : waitsOk impl_Net_back.T1.2 impl_Net_back.B1 = true := by kernel_rfl
set_option maxHeartbeats 8000000 in
set_option maxRecDepth 100000 in
theorem impl_Net_back.calls (k : Nat) (a0_0 : Int) (A0_1 : Option Addr) (c0_1 : Nat) (l0_1 : List (S34)) (r1 : Int) (r2 : List (S34)) (w : World) (hr0_1 : Kd.C k34 w A0_1 l0_1.length l0_1) (hc0_1 : l0_1.length ≤ c0_1) (h : impl_Net_back.f k a0_0 l0_1 = some (r1, r2)) :
  Calls Try.prog 92 #[.agg #[.int .i64 a0_0, .slice A0_1 l0_1.length c0_1]] w fun e w' => ∃ v1_ : Value, e = .returned (.agg #[.int .i64 r1, v1_]) ∧ Kd.R k34 34 w' w.heap.size (fun _ => True) v1_ r2 ∧ Below w.heap.size w w' := by
 have hu25 := Try.underlying25
 have hu34 := Try.underlying34
 have HR0_1 := Aside0.mk hr0_1
 have HC0_1 := Aside0.mk hc0_1
 clear hr0_1 hc0_1
 have HB := Aside0.mk (Below.refl w.heap.size w)
 have H : (if 0 ≤ (l0_1.length : Int) then (if ((l0_1.length : Int) : Int).toNat ≤ 7036874417766 then (impl_Net_back.l0 k l0_1 (l0_1.length : Int) 0 a0_0 (([] : List (S34)))) else (none)) else (none)) = some (r1, r2) := h
 clear h
 by_cases c2 : 0 ≤ (l0_1.length : Int)
 ·rw [if_pos c2] at H
  have c2b0 := eq_true c2
  have c2b1 : decide (0 ≤ (l0_1.length : Int)) = true := decide_eq_true c2
  clear c2
  by_cases c3 : ((l0_1.length : Int) : Int).toNat ≤ 7036874417766
  ·rw [if_pos c3] at H
   have c3b0 := eq_true c3
   have c3b1 : decide (((l0_1.length : Int) : Int).toNat ≤ 7036874417766) = true := decide_eq_true c3
   clear c3
   obtain ⟨y210, hy210⟩ : ∃ y_ : List (S34), y_ = (([] : List (S34))) := ⟨_, rfl⟩
   replace H : (impl_Net_back.l0 k l0_1 (l0_1.length : Int) 0 a0_0 y210) = some (r1, r2) := by first | (rw [hy210]; with_reducible exact H) | (have H2_ := (Option.bind_some _ _).symm.trans H; rw [hy210]; with_reducible exact H2_) | (have H2_ := (Option.bind_some _ _).symm.trans H; with_reducible exact H2_) | with_reducible exact H | (rw [hy210]; exact H) | exact H
   have Ny210 := Aside0.mk hy210
   clear hy210
   have H' := Aside0.mk H
   clear H
   go_enter Try.func92, Try.ntmps92
   try go_wp2_with (first | ((with_reducible refine gate_dst (N := 1) rfl ?_); refine box_event ?hg (N := 1) ?hd (cs := #[.int .i64 a0_0, .slice A0_1 l0_1.length c0_1]) (t := 25) ?hr ?_; (case hd => rfl); (case hg => rfl); (case hr => first | (go_simp; done) | (go_simp; rfl)); intro gb208 hg w4 hbox hb; have n0_ := Aside0.mk (below_step (by repeat (first | (with_reducible first | exact HB.out | apply below_alloc | apply pw_below_drewN | apply below_drew1) | exact HB.out)) hb); have n1_ := Aside0.mk (hbox); have n2_ := Aside0.mk ((by rw [hg]; exact (below_size (by repeat (first | (with_reducible first | exact HB.out | apply below_alloc | apply pw_below_drewN | apply below_drew1) | exact HB.out))) : w.heap.size ≤ gb208)); have n3_ := Aside0.mk ((by rw [hg]; exact (below_size (by repeat (first | (with_reducible first | exact HB.out | apply below_alloc | apply pw_below_drewN | apply below_drew1) | exact HB.out))) : w.heap.size ≤ gb208)); clear HB; have HB := n0_; have BK208 := n1_; have GW208 := n2_; have GE208 := n3_; clear n0_ n1_ n2_ n3_; clear hb hbox hg) | ((with_reducible refine gate_dst (N := 2) rfl ?_); refine box_event ?hg (N := 2) ?hd (cs := #[.int .i64 0, .slice none 0 0]) (t := 25) ?hr ?_; (case hd => rfl); (case hg => rfl); (case hr => first | (go_simp; done) | (go_simp; rfl)); intro gb209 hg w5 hbox hb; have n0_ := Aside0.mk (blk_below (g := gb208) (o := .cells #[.int .i64 a0_0, .slice A0_1 l0_1.length c0_1] 25 (0, 0)) (by (with_reducible repeat (first | refine blk_drewN ?_ _ | refine blk_drew ?_ | refine blk_alloc ?_ _)); exact BK208.out) hb); have n1_ := Aside0.mk (below_step (by repeat (first | (with_reducible first | exact HB.out | apply below_alloc | apply pw_below_drewN | apply below_drew1 | refine below_set ?_ GE208.out) | exact HB.out)) hb); have n2_ := Aside0.mk (hbox); have n3_ := Aside0.mk ((by rw [hg]; exact (below_size (by repeat (first | (with_reducible first | exact HB.out | apply below_alloc | apply pw_below_drewN | apply below_drew1 | refine below_set ?_ GE208.out) | exact HB.out))) : w.heap.size ≤ gb209)); have n4_ := Aside0.mk ((by rw [hg]; exact (below_size (by repeat (first | (with_reducible first | exact HB.out | apply below_alloc | apply pw_below_drewN | apply below_drew1 | refine below_set ?_ GE208.out) | exact HB.out))) : w.heap.size ≤ gb209)); have n5_ := Aside0.mk ((by rw [hg]; exact Nat.ne_of_lt (blk_lt (g := gb208) (o := .cells #[.int .i64 a0_0, .slice A0_1 l0_1.length c0_1] 25 (0, 0)) (by (with_reducible repeat (first | refine blk_drewN ?_ _ | refine blk_drew ?_ | refine blk_alloc ?_ _)); exact BK208.out)) : gb208 ≠ gb209)); have n6_ := Aside0.mk ((by rw [hg]; exact Nat.ne_of_gt (blk_lt (g := gb208) (o := .cells #[.int .i64 a0_0, .slice A0_1 l0_1.length c0_1] 25 (0, 0)) (by (with_reducible repeat (first | refine blk_drewN ?_ _ | refine blk_drew ?_ | refine blk_alloc ?_ _)); exact BK208.out)) : gb209 ≠ gb208)); clear BK208; clear HB; have BK208 := n0_; have HB := n1_; have BK209 := n2_; have GW209 := n3_; have GE209 := n4_; have NB208_209 := n5_; have NB209_208 := n6_; clear n0_ n1_ n2_ n3_ n4_ n5_ n6_; clear hb hbox hg))
   have n0_ := Aside0.mk (blk_drew BK208.out)
   have n1_ := Aside0.mk (blk_drew BK209.out)
   have n2_ := Aside0.mk (below_drew1 HB.out)
   clear BK208
   clear BK209
   clear HB
   have BK208 := n0_
   have BK209 := n1_
   have HB := n2_
   clear n0_ n1_ n2_
   refine start_ (n := 9) (S := fun w' => True) (ds := []) #[false, false, false, false, false, false, false, false, false] (by kernel_rfl) rfl rfl trivial (fun hHeld => ?_); refine with_tabW impl_Net_back.tab1 impl_Net_back.bits1 (fun HT_ HW_ => ?_)
   generalize w5.drew = w6 at BK208 BK209 HB hHeld ⊢
   refine pure_ (i := 0) (N := some 6) (v := ?_) (a' := ?_) #[true, false, false, false, false, false, false, false, false] rfl rfl (any_of HT_.out (by kernel_rfl)) (fun _ _ _ h => h) (Or.inl ⟨by rfl, ?_⟩) ?_ ?_
   rotate_left
   ·intro w'
    go_simp
    with_reducible rfl
   rotate_left
   ·simp only [Act.put, List.setIfInBounds_toArray, List.set_cons_zero, List.set_cons_succ, i64_w, i32_w]
    rfl
   refine pure_ (i := 2) (N := some 8) (v := ?_) (a' := ?_) #[true, false, true, false, false, false, false, false, false] rfl rfl (any_of HT_.out (by kernel_rfl)) (fun _ _ _ h => h) (Or.inl ⟨by rfl, ?_⟩) ?_ ?_
   rotate_left
   ·intro w'
    go_simp
    with_reducible rfl
   rotate_left
   ·simp only [Act.put, List.setIfInBounds_toArray, List.set_cons_zero, List.set_cons_succ, i64_w, i32_w]
    rfl
   refine inv_at [1, 3, 4, 5, 6, 7, 8] (fun a0_ b a w' => ∃ (v211 : Value) (gb213 : Nat) (m6_ : Value) (m7_ : Value), a = putSel a0_ b [(1, 7, .int .i64 a0_0), (3, 9, .slice A0_1 l0_1.length c0_1), (4, 10, .int .i64 (l0_1.length : Int)), (5, 11, v211), (6, 12, m6_), (7, 3, m7_)] ∧ (w'.heap[gb208]? = some (.cells #[.int .i64 a0_0, .slice A0_1 l0_1.length c0_1] 25 (0, 0))) ∧ (w'.heap[gb209]? = some (.cells #[.int .i64 0, .slice none 0 0] 25 (0, 0))) ∧ (Below w.heap.size w w') ∧ (b 5 = true → Kd.R k34 34 w' w.heap.size (fun _ => True) v211 y210) ∧ (b 7 = true → b 8 = false → w'.heap[gb213]? = some (.cells #[.int .i64 0, .slice none 0 0] 25 (0, 0))) ∧ (b 7 = true → w.heap.size ≤ gb213) ∧ (b 7 = true → w.heap.size ≤ gb213) ∧ (b 7 = true → gb208 ≠ gb213) ∧ (b 7 = true → gb213 ≠ gb208) ∧ (b 7 = true → gb209 ≠ gb213) ∧ (b 7 = true → gb213 ≠ gb209) ∧ (b 8 = true → w'.heap[gb213]? = some (.cells #[.int .i64 a0_0, v211] 25 (0, 0))) ∧ (b 6 = true → (m6_ : Value) = .agg #[.int .i64 a0_0, v211]) ∧ (b 7 = true → (m7_ : Value) = .pointer (some ⟨gb213, 0, none⟩))) HT_.out HW_.out (by kernel_rfl) (by kernel_rfl) ?_ ?_ ?_
   ·exact ⟨.bool false, 0, .bool false, .bool false, by simp only [putSel, Bool.false_eq_true, if_false], BK208.out, BK209.out, HB.out, fun h_ => absurd h_ (by decide), fun h_ => absurd h_ (by decide), fun h_ => absurd h_ (by decide), fun h_ => absurd h_ (by decide), fun h_ => absurd h_ (by decide), fun h_ => absurd h_ (by decide), fun h_ => absurd h_ (by decide), fun h_ => absurd h_ (by decide), fun h_ => absurd h_ (by decide), fun h_ => absurd h_ (by decide), fun h_ => absurd h_ (by decide)⟩
   ·skip
    clear BK208 BK209 HB
    refine steps_cons ?_ ?_
    ·rintro b a w' ⟨v211, gb213, m6_, m7_, ha, Q_BK208, Q_BK209, Q_HB, Q_HO212, Q_BK213, Q_GW213, Q_GE213, Q_NB208_213, Q_NB213_208, Q_NB209_213, Q_NB213_209, Q_BK213_e8, Q_X6_, Q_X7_⟩ hb_ hon hoff
     refine ⟨_, rfl, fun K hK => ?_⟩
     have e6 : a.tmps[6]? = some (.pointer (some ⟨gb208, 0, none⟩)) := by rw [ha]; exact (putSel_off rfl).trans rfl
     replace ha := Aside0.mk ha
     have BK208 := Aside0.mk Q_BK208
     have BK209 := Aside0.mk Q_BK209
     have HB := Aside0.mk Q_HB
     have hc0_ : w'.cell? ⟨gb208, 0, none⟩ = some (.int .i64 a0_0) := (blk_cell BK208.out 0).trans rfl
     have hc1_ : w'.cell? ⟨gb208, 1, none⟩ = some (.slice A0_1 l0_1.length c0_1) := (blk_cell BK208.out 1).trans rfl
     refine value_ (w1 := w') (v := .int .i64 a0_0) (by rfl) rfl ?_ ?_
     ·go_simp
      (try simp only [i64_w])
      try rfl
     refine hK.out _ _ ⟨v211, gb213, m6_, m7_, (by rw [ha.out]; exact putSel_upk 0 hb_ rfl rfl rfl), Q_BK208, Q_BK209, Q_HB, Q_HO212, Q_BK213, Q_GW213, Q_GE213, Q_NB208_213, Q_NB213_208, Q_NB209_213, Q_NB213_209, fun h0_ => absurd ((hoff 8 (by kernel_rfl)).symm.trans h0_) (by decide), fun h0_ => absurd ((hoff 6 (by kernel_rfl)).symm.trans h0_) (by decide), Q_X7_⟩
    refine steps_cons ?_ ?_
    ·rintro b a w' ⟨v211, gb213, m6_, m7_, ha, Q_BK208, Q_BK209, Q_HB, Q_HO212, Q_BK213, Q_GW213, Q_GE213, Q_NB208_213, Q_NB213_208, Q_NB209_213, Q_NB213_209, Q_BK213_e8, Q_X6_, Q_X7_⟩ hb_ hon hoff
     refine ⟨_, rfl, fun K hK => ?_⟩
     have e8 : a.tmps[8]? = some (.pointer (some ⟨gb208, 1, none⟩)) := by rw [ha]; exact (putSel_off rfl).trans rfl
     replace ha := Aside0.mk ha
     have BK208 := Aside0.mk Q_BK208
     have BK209 := Aside0.mk Q_BK209
     have HB := Aside0.mk Q_HB
     have hc0_ : w'.cell? ⟨gb208, 0, none⟩ = some (.int .i64 a0_0) := (blk_cell BK208.out 0).trans rfl
     have hc1_ : w'.cell? ⟨gb208, 1, none⟩ = some (.slice A0_1 l0_1.length c0_1) := (blk_cell BK208.out 1).trans rfl
     refine value_ (w1 := w') (v := .slice A0_1 l0_1.length c0_1) (by rfl) rfl ?_ ?_
     ·go_simp
      (try simp only [i64_w])
      try rfl
     refine hK.out _ _ ⟨v211, gb213, m6_, m7_, (by rw [ha.out]; exact putSel_upk 1 hb_ rfl rfl rfl), Q_BK208, Q_BK209, Q_HB, fun h0_ => absurd ((hoff 5 (by kernel_rfl)).symm.trans h0_) (by decide), Q_BK213, Q_GW213, Q_GE213, Q_NB208_213, Q_NB213_208, Q_NB209_213, Q_NB213_209, fun h0_ => absurd ((hoff 8 (by kernel_rfl)).symm.trans h0_) (by decide), fun h0_ => absurd ((hoff 6 (by kernel_rfl)).symm.trans h0_) (by decide), Q_X7_⟩
    refine steps_cons ?_ ?_
    ·rintro b a w' ⟨v211, gb213, m6_, m7_, ha, Q_BK208, Q_BK209, Q_HB, Q_HO212, Q_BK213, Q_GW213, Q_GE213, Q_NB208_213, Q_NB213_208, Q_NB209_213, Q_NB213_209, Q_BK213_e8, Q_X6_, Q_X7_⟩ hb_ hon hoff
     refine ⟨_, rfl, fun K hK => ?_⟩
     have e9 : a.tmps[9]? = some (.slice A0_1 l0_1.length c0_1) := by rw [ha]; exact putSel_on (e := (3, 9, .slice A0_1 l0_1.length c0_1)) 1 rfl rfl (hon 3 (by kernel_rfl)) rfl
     replace ha := Aside0.mk ha
     have BK208 := Aside0.mk Q_BK208
     have BK209 := Aside0.mk Q_BK209
     have HB := Aside0.mk Q_HB
     refine value_ (w1 := w') (v := .int .i64 (l0_1.length : Int)) (by rfl) rfl ?_ ?_
     ·go_simp
      (try simp only [i64_w])
      try rfl
     refine hK.out _ _ ⟨v211, gb213, m6_, m7_, (by rw [ha.out]; exact putSel_upk 2 hb_ rfl rfl rfl), Q_BK208, Q_BK209, Q_HB, fun h0_ => absurd ((hoff 5 (by kernel_rfl)).symm.trans h0_) (by decide), Q_BK213, Q_GW213, Q_GE213, Q_NB208_213, Q_NB213_208, Q_NB209_213, Q_NB213_209, fun h0_ => absurd ((hoff 8 (by kernel_rfl)).symm.trans h0_) (by decide), fun h0_ => absurd ((hoff 6 (by kernel_rfl)).symm.trans h0_) (by decide), Q_X7_⟩
    refine steps_cons ?_ ?_
    ·rintro b a w' ⟨v211, gb213, m6_, m7_, ha, Q_BK208, Q_BK209, Q_HB, Q_HO212, Q_BK213, Q_GW213, Q_GE213, Q_NB208_213, Q_NB213_208, Q_NB209_213, Q_NB213_209, Q_BK213_e8, Q_X6_, Q_X7_⟩ hb_ hon hoff
     refine ⟨_, rfl, fun K hK => ?_⟩
     have e10 : a.tmps[10]? = some (.int .i64 (l0_1.length : Int)) := by rw [ha]; exact putSel_on (e := (4, 10, .int .i64 (l0_1.length : Int))) 2 rfl rfl (hon 4 (by kernel_rfl)) rfl
     replace ha := Aside0.mk ha
     have BK208 := Aside0.mk Q_BK208
     have BK209 := Aside0.mk Q_BK209
     have HB := Aside0.mk Q_HB
     refine Kd.R_make0_step k34 _ 34 (by rfl) (N := 11) rfl 23 _ _ rfl (l0_1.length : Int) (by first | rfl | (go_simp; done) | (go_simp; rfl)) (by first | rfl | (go_simp; done) | (go_simp; rfl)) Try.underlying23 (.agg #[(.int .i64 0), (.int .i64 0), (.int .i64 0), (.int .i64 0), (.int .i64 0)]) 40 info34 rfl (by decide) (by omega) z34 (ok := fun _ => True) (okp := fun _ => True) (k34_mkM _ _ _ z34 ) (fun _ hk => hk) trivial (of_decide_eq_true (by first | (with_reducible assumption) | assumption)) (Nat.le_trans (Nat.mul_le_mul_right _ (of_decide_eq_true (by first | (with_reducible assumption) | assumption) : (l0_1.length : Int).toNat ≤ 7036874417766)) (by omega)) (Below.refl _ _) (Nat.le_refl _) ?_
     intro v211 w7 ho8 hb hg_ hnew_
     clear hg_ hnew_
     (first | rw [← Ny210.out] at ho8 | (simp only [Int.reduceToNat] at ho8; rw [← Ny210.out] at ho8))
     have n0_ := Aside0.mk (Kd.R_lower ho8 (below_size (by repeat (first | (with_reducible first | exact HB.out | apply below_alloc | apply pw_below_drewN | apply below_drew1 | refine below_set ?_ GE208.out | refine below_set ?_ GE209.out) | exact HB.out))))
     have n1_ := Aside0.mk (blk_below (g := gb208) (o := .cells #[.int .i64 a0_0, .slice A0_1 l0_1.length c0_1] 25 (0, 0)) (by (with_reducible repeat (first | refine blk_drewN ?_ _ | refine blk_drew ?_ | refine blk_alloc ?_ _)); exact BK208.out) hb)
     have n2_ := Aside0.mk (blk_below (g := gb209) (o := .cells #[.int .i64 0, .slice none 0 0] 25 (0, 0)) (by (with_reducible repeat (first | refine blk_drewN ?_ _ | refine blk_drew ?_ | refine blk_alloc ?_ _)); exact BK209.out) hb)
     have n3_ := Aside0.mk (below_step (by repeat (first | (with_reducible first | exact HB.out | apply below_alloc | apply pw_below_drewN | apply below_drew1 | refine below_set ?_ GE208.out | refine below_set ?_ GE209.out) | exact HB.out)) hb)
     have z_BK213 := fun (h0_ : b 7 = true) (h1_ : b 8 = false) => (show w7.heap[gb213]? = some (.cells #[.int .i64 0, .slice none 0 0] 25 (0, 0)) from by first | exact (blk_below (g := gb213) (o := .cells #[.int .i64 0, .slice none 0 0] 25 (0, 0)) (by (with_reducible repeat (first | refine blk_drewN ?_ _ | refine blk_drew ?_ | refine blk_alloc ?_ _)); exact (Q_BK213 h0_ h1_)) hb))
     clear BK208
     clear BK209
     clear HB
     have HO212 := n0_
     have BK208 := n1_
     have BK209 := n2_
     have HB := n3_
     clear n0_ n1_ n2_ n3_
     clear hb ho8
     obtain ⟨Ao9, co9, eo9⟩ := Kd.R_slice HO212.out
     (first | subst eo9 | (injection eo9 with f1_ f2_ f3_; have f4_ := f1_.symm; have f5_ := f3_.symm; clear f1_ f2_ f3_; subst f4_; subst f5_))
     refine hK.out _ _ ⟨.slice Ao9 y210.length co9, gb213, m6_, m7_, (by rw [ha.out]; exact putSel_upk 3 hb_ rfl rfl rfl), (by (with_reducible repeat (first | refine blk_drewN ?_ _ | refine blk_drew ?_ | refine blk_alloc ?_ _)); exact BK208.out), (by (with_reducible repeat (first | refine blk_drewN ?_ _ | refine blk_drew ?_ | refine blk_alloc ?_ _)); exact BK209.out), (by repeat (first | (with_reducible first | exact HB.out | apply below_alloc | apply pw_below_drewN | apply below_drew1 | refine below_set ?_ GE208.out | refine below_set ?_ GE209.out) | exact HB.out)), fun _ => (by (with_reducible repeat (first | apply Kd.R_alloc | apply Kd.R_drewN | apply Kd.R_drew)); exact HO212.out), z_BK213, Q_GW213, Q_GE213, Q_NB208_213, Q_NB213_208, Q_NB209_213, Q_NB213_209, fun h0_ => absurd ((hoff 8 (by kernel_rfl)).symm.trans h0_) (by decide), fun h0_ => absurd ((hoff 6 (by kernel_rfl)).symm.trans h0_) (by decide), Q_X7_⟩
    refine steps_cons ?_ ?_
    ·rintro b a w' ⟨v211, gb213, m6_, m7_, ha, Q_BK208, Q_BK209, Q_HB, Q_HO212, Q_BK213, Q_GW213, Q_GE213, Q_NB208_213, Q_NB213_208, Q_NB209_213, Q_NB213_209, Q_BK213_e8, Q_X6_, Q_X7_⟩ hb_ hon hoff
     refine ⟨_, rfl, fun K hK => ?_⟩
     have e7 : a.tmps[7]? = some (.int .i64 a0_0) := by rw [ha]; exact putSel_on (e := (1, 7, .int .i64 a0_0)) 0 rfl rfl (hon 1 (by kernel_rfl)) rfl
     have e11 : a.tmps[11]? = some (v211) := by rw [ha]; exact putSel_on (e := (5, 11, v211)) 3 rfl rfl (hon 5 (by kernel_rfl)) rfl
     replace ha := Aside0.mk ha
     have BK208 := Aside0.mk Q_BK208
     have BK209 := Aside0.mk Q_BK209
     have HB := Aside0.mk Q_HB
     have HO212 := Aside0.mk (Q_HO212 (hon 5 (by kernel_rfl)))
     obtain ⟨Ao6_0, co6_0, eo_⟩ := Kd.R_slice HO212.out
     subst eo_
     refine value_ (w1 := w') (v := .agg #[.int .i64 a0_0, .slice Ao6_0 y210.length co6_0]) (by rfl) rfl ?_ ?_
     ·go_simp
      (try simp only [i64_w])
      try rfl
     refine hK.out _ _ ⟨.slice Ao6_0 y210.length co6_0, gb213, (.agg #[.int .i64 a0_0, .slice Ao6_0 y210.length co6_0]), m7_, (by rw [ha.out]; exact putSel_upk 4 hb_ rfl rfl rfl), Q_BK208, Q_BK209, Q_HB, Q_HO212, Q_BK213, Q_GW213, Q_GE213, Q_NB208_213, Q_NB213_208, Q_NB209_213, Q_NB213_209, fun h0_ => absurd ((hoff 8 (by kernel_rfl)).symm.trans h0_) (by decide), fun _ => rfl, Q_X7_⟩
    refine steps_cons ?_ ?_
    ·rintro b a w' ⟨v211, gb213, m6_, m7_, ha, Q_BK208, Q_BK209, Q_HB, Q_HO212, Q_BK213, Q_GW213, Q_GE213, Q_NB208_213, Q_NB213_208, Q_NB209_213, Q_NB213_209, Q_BK213_e8, Q_X6_, Q_X7_⟩ hb_ hon hoff
     refine ⟨_, rfl, fun K hK => ?_⟩
     replace ha := Aside0.mk ha
     have BK208 := Aside0.mk Q_BK208
     have BK209 := Aside0.mk Q_BK209
     have HB := Aside0.mk Q_HB
     refine box_step ?hg (N := 3) ?hd (cs := #[.int .i64 0, .slice none 0 0]) (t := 25) ?hr ?_; (case hd => rfl); (case hg => rfl); (case hr => first | (go_simp; done) | (go_simp; rfl))
     intro gb213 hg w7 hbox hb
     have n0_ := Aside0.mk (blk_below (g := gb208) (o := .cells #[.int .i64 a0_0, .slice A0_1 l0_1.length c0_1] 25 (0, 0)) (by (with_reducible repeat (first | refine blk_drewN ?_ _ | refine blk_drew ?_ | refine blk_alloc ?_ _)); exact BK208.out) hb)
     have n1_ := Aside0.mk (blk_below (g := gb209) (o := .cells #[.int .i64 0, .slice none 0 0] 25 (0, 0)) (by (with_reducible repeat (first | refine blk_drewN ?_ _ | refine blk_drew ?_ | refine blk_alloc ?_ _)); exact BK209.out) hb)
     have n2_ := Aside0.mk (below_step (by repeat (first | (with_reducible first | exact HB.out | apply below_alloc | apply pw_below_drewN | apply below_drew1 | refine below_set ?_ GE208.out | refine below_set ?_ GE209.out) | exact HB.out)) hb)
     have n3_ := Aside0.mk (hbox)
     have n4_ := Aside0.mk ((by rw [hg]; exact (below_size (by repeat (first | (with_reducible first | exact HB.out | apply below_alloc | apply pw_below_drewN | apply below_drew1 | refine below_set ?_ GE208.out | refine below_set ?_ GE209.out) | exact HB.out))) : w.heap.size ≤ gb213))
     have n5_ := Aside0.mk ((by rw [hg]; exact (below_size (by repeat (first | (with_reducible first | exact HB.out | apply below_alloc | apply pw_below_drewN | apply below_drew1 | refine below_set ?_ GE208.out | refine below_set ?_ GE209.out) | exact HB.out))) : w.heap.size ≤ gb213))
     have n6_ := Aside0.mk ((by rw [hg]; exact Nat.ne_of_lt (blk_lt (g := gb208) (o := .cells #[.int .i64 a0_0, .slice A0_1 l0_1.length c0_1] 25 (0, 0)) (by (with_reducible repeat (first | refine blk_drewN ?_ _ | refine blk_drew ?_ | refine blk_alloc ?_ _)); exact BK208.out)) : gb208 ≠ gb213))
     have n7_ := Aside0.mk ((by rw [hg]; exact Nat.ne_of_gt (blk_lt (g := gb208) (o := .cells #[.int .i64 a0_0, .slice A0_1 l0_1.length c0_1] 25 (0, 0)) (by (with_reducible repeat (first | refine blk_drewN ?_ _ | refine blk_drew ?_ | refine blk_alloc ?_ _)); exact BK208.out)) : gb213 ≠ gb208))
     have n8_ := Aside0.mk ((by rw [hg]; exact Nat.ne_of_lt (blk_lt (g := gb209) (o := .cells #[.int .i64 0, .slice none 0 0] 25 (0, 0)) (by (with_reducible repeat (first | refine blk_drewN ?_ _ | refine blk_drew ?_ | refine blk_alloc ?_ _)); exact BK209.out)) : gb209 ≠ gb213))
     have n9_ := Aside0.mk ((by rw [hg]; exact Nat.ne_of_gt (blk_lt (g := gb209) (o := .cells #[.int .i64 0, .slice none 0 0] 25 (0, 0)) (by (with_reducible repeat (first | refine blk_drewN ?_ _ | refine blk_drew ?_ | refine blk_alloc ?_ _)); exact BK209.out)) : gb213 ≠ gb209))
     have z_HO212 := fun (h0_ : b 5 = true) => (show Kd.R k34 34 w7 w.heap.size (fun _ => True) v211 y210 from by first | exact (Kd.R_below (by (with_reducible repeat (first | apply Kd.R_alloc | apply Kd.R_drewN | apply Kd.R_drew)); exact (Q_HO212 h0_)) hb) | exact Kd.R_mono (Kd.R_below (by (with_reducible repeat (first | apply Kd.R_alloc | apply Kd.R_drewN | apply Kd.R_drew)); exact (Q_HO212 h0_)) hb) (fun _ h_ => by first | trivial | exact h_ | exact h_.1))
     clear BK208
     clear BK209
     clear HB
     have BK208 := n0_
     have BK209 := n1_
     have HB := n2_
     have BK213 := n3_
     have GW213 := n4_
     have GE213 := n5_
     have NB208_213 := n6_
     have NB213_208 := n7_
     have NB209_213 := n8_
     have NB213_209 := n9_
     clear n0_ n1_ n2_ n3_ n4_ n5_ n6_ n7_ n8_ n9_
     clear hb hbox hg
     refine hK.out _ _ ⟨v211, gb213, m6_, (.pointer (some ⟨gb213, 0, none⟩)), (by rw [ha.out]; exact putSel_upk 5 hb_ rfl rfl rfl), (by (with_reducible repeat (first | refine blk_drewN ?_ _ | refine blk_drew ?_ | refine blk_alloc ?_ _)); exact BK208.out), (by (with_reducible repeat (first | refine blk_drewN ?_ _ | refine blk_drew ?_ | refine blk_alloc ?_ _)); exact BK209.out), (by repeat (first | (with_reducible first | exact HB.out | apply below_alloc | apply pw_below_drewN | apply below_drew1 | refine below_set ?_ GE208.out | refine below_set ?_ GE209.out | refine below_set ?_ GE213.out) | exact HB.out)), z_HO212, fun _ _ => (by (with_reducible repeat (first | refine blk_drewN ?_ _ | refine blk_drew ?_ | refine blk_alloc ?_ _)); exact BK213.out), fun _ => GW213.out, fun _ => GE213.out, fun _ => NB208_213.out, fun _ => NB213_208.out, fun _ => NB209_213.out, fun _ => NB213_209.out, fun h0_ => absurd ((hoff 8 (by kernel_rfl)).symm.trans h0_) (by decide), Q_X6_, fun _ => rfl⟩
    refine steps_cons ?_ ?_
    ·rintro b a w' ⟨v211, gb213, m6_, m7_, ha, Q_BK208, Q_BK209, Q_HB, Q_HO212, Q_BK213, Q_GW213, Q_GE213, Q_NB208_213, Q_NB213_208, Q_NB209_213, Q_NB213_209, Q_BK213_e8, Q_X6_, Q_X7_⟩ hb_ hon hoff
     refine ⟨_, rfl, fun K hK => ?_⟩
     have e3 : a.tmps[3]? = some (m7_) := by rw [ha]; exact putSel_on (e := (7, 3, m7_)) 5 rfl rfl (hon 7 (by kernel_rfl)) rfl
     rw [Q_X7_ (hon 7 (by kernel_rfl))] at e3
     have e12 : a.tmps[12]? = some (m6_) := by rw [ha]; exact putSel_on (e := (6, 12, m6_)) 4 rfl rfl (hon 6 (by kernel_rfl)) rfl
     rw [Q_X6_ (hon 6 (by kernel_rfl))] at e12
     replace ha := Aside0.mk ha
     have BK208 := Aside0.mk Q_BK208
     have BK209 := Aside0.mk Q_BK209
     have HB := Aside0.mk Q_HB
     have HO212 := Aside0.mk (Q_HO212 (hon 5 (by kernel_rfl)))
     have BK213 := Aside0.mk (Q_BK213 (hon 7 (by kernel_rfl)) hb_)
     have GW213 := Aside0.mk (Q_GW213 (hon 7 (by kernel_rfl)))
     have GE213 := Aside0.mk (Q_GE213 (hon 7 (by kernel_rfl)))
     have NB208_213 := Aside0.mk (Q_NB208_213 (hon 7 (by kernel_rfl)))
     have NB213_208 := Aside0.mk (Q_NB213_208 (hon 7 (by kernel_rfl)))
     have NB209_213 := Aside0.mk (Q_NB209_213 (hon 7 (by kernel_rfl)))
     have NB213_209 := Aside0.mk (Q_NB213_209 (hon 7 (by kernel_rfl)))
     obtain ⟨Ao12, co12, eo12⟩ := Kd.R_slice HO212.out
     (first | subst eo12 | (injection eo12 with f1_ f2_ f3_; have f4_ := f1_.symm; have f5_ := f3_.symm; clear f1_ f2_ f3_; subst f4_; subst f5_))
     have hs13 : w'.cell? ⟨gb213, 0, none⟩ = some (.int .i64 0) := (blk_cell BK213.out 0).trans rfl
     have hfs13 := blk_frozen BK213.out 0
     have hns13_0 := NB208_213.out
     have hns13_1 := NB209_213.out
     have hms13_0 := NB213_208.out
     have hms13_1 := NB213_209.out
     have hs14 : w'.cell? ⟨gb213, 1, none⟩ = some (.slice none 0 0) := (blk_cell BK213.out 1).trans rfl
     have hfs14 := blk_frozen BK213.out 1
     have hns14_0 := NB208_213.out
     have hns14_1 := NB209_213.out
     have hms14_0 := NB213_208.out
     have hms14_1 := NB213_209.out
     refine skip_ (w1 := ?_) (by rfl) rfl ?_ ?_
     rotate_left
     ·go_simp
      rfl
     refine hK.out _ _ ⟨.slice Ao12 y210.length co12, gb213, m6_, m7_, (by rw [ha.out]; exact putSel_none (v := undef) rfl), (by (with_reducible repeat (first | refine blk_drewN ?_ _ | refine blk_drew ?_ | refine blk_alloc ?_ _)); refine blk_far ?_ NB208_213.out _; (with_reducible repeat (first | refine blk_drewN ?_ _ | refine blk_drew ?_ | refine blk_alloc ?_ _)); refine blk_far ?_ NB208_213.out _; (with_reducible repeat (first | refine blk_drewN ?_ _ | refine blk_drew ?_ | refine blk_alloc ?_ _)); exact BK208.out), (by (with_reducible repeat (first | refine blk_drewN ?_ _ | refine blk_drew ?_ | refine blk_alloc ?_ _)); refine blk_far ?_ NB209_213.out _; (with_reducible repeat (first | refine blk_drewN ?_ _ | refine blk_drew ?_ | refine blk_alloc ?_ _)); refine blk_far ?_ NB209_213.out _; (with_reducible repeat (first | refine blk_drewN ?_ _ | refine blk_drew ?_ | refine blk_alloc ?_ _)); exact BK209.out), (by repeat (first | (with_reducible first | exact HB.out | apply below_alloc | apply pw_below_drewN | apply below_drew1 | refine below_set ?_ GE208.out | refine below_set ?_ GE209.out | refine below_set ?_ GE213.out) | exact HB.out)), fun _ => (by (with_reducible repeat (first | apply Kd.R_alloc | apply Kd.R_drewN | apply Kd.R_drew)); exact Kd.R_mono (Kd.R_far (p := ⟨gb213, 1, none⟩) (Kd.R_far (p := ⟨gb213, 0, none⟩) (Kd.R_types HO212.out BK213.out (by decide)) (fun _ hk => hk.2) (.int .i64 a0_0)) (fun _ hk => hk.2) (.slice Ao12 y210.length co12)) (fun _ hk => trivial)), fun _ h1_ => absurd ((up_self b 8).symm.trans h1_) (by decide), fun _ => GW213.out, fun _ => GE213.out, fun _ => NB208_213.out, fun _ => NB213_208.out, fun _ => NB209_213.out, fun _ => NB213_209.out, fun _ => (by (with_reducible repeat (first | refine blk_drewN ?_ _ | refine blk_drew ?_ | refine blk_alloc ?_ _)); refine blk_put (cs := #[.int .i64 a0_0, .slice none 0 0]) ?_ 1 _ rfl; (with_reducible repeat (first | refine blk_drewN ?_ _ | refine blk_drew ?_ | refine blk_alloc ?_ _)); refine blk_put (cs := #[.int .i64 0, .slice none 0 0]) ?_ 0 _ rfl; (with_reducible repeat (first | refine blk_drewN ?_ _ | refine blk_drew ?_ | refine blk_alloc ?_ _)); exact BK213.out), Q_X6_, Q_X7_⟩
    exact steps_nil
   rintro b a w13 hall ⟨v211, gb213, m6_, m7_, ha, Q_BK208, Q_BK209, Q_HB, Q_HO212, Q_BK213, Q_GW213, Q_GE213, Q_NB208_213, Q_NB213_208, Q_NB209_213, Q_NB213_209, Q_BK213_e8, Q_X6_, Q_X7_⟩
   clear BK208 BK209 HB
   have hb1_ := hall 1 (by kernel_rfl)
   have hb3_ := hall 3 (by kernel_rfl)
   have hb4_ := hall 4 (by kernel_rfl)
   have hb5_ := hall 5 (by kernel_rfl)
   have hb6_ := hall 6 (by kernel_rfl)
   have hb7_ := hall 7 (by kernel_rfl)
   have hb8_ := hall 8 (by kernel_rfl)
   subst ha
   obtain rfl := Q_X6_ hb6_
   obtain rfl := Q_X7_ hb7_
   simp only [putSel, hb1_, hb3_, hb4_, hb5_, hb6_, hb7_, hb8_, if_true, Act.put, List.setIfInBounds_toArray, List.set_cons_zero, List.set_cons_succ]
   have BK208 := Aside0.mk Q_BK208
   clear Q_BK208
   have BK209 := Aside0.mk Q_BK209
   clear Q_BK209
   have HB := Aside0.mk Q_HB
   clear Q_HB
   have HO212 := Aside0.mk (Q_HO212 hb5_)
   clear Q_HO212
   clear Q_BK213
   have GW213 := Aside0.mk (Q_GW213 hb7_)
   clear Q_GW213
   have GE213 := Aside0.mk (Q_GE213 hb7_)
   clear Q_GE213
   have NB208_213 := Aside0.mk (Q_NB208_213 hb7_)
   clear Q_NB208_213
   have NB213_208 := Aside0.mk (Q_NB213_208 hb7_)
   clear Q_NB213_208
   have NB209_213 := Aside0.mk (Q_NB209_213 hb7_)
   clear Q_NB209_213
   have NB213_209 := Aside0.mk (Q_NB213_209 hb7_)
   clear Q_NB213_209
   have BK213 := Aside0.mk (Q_BK213_e8 hb8_)
   clear Q_BK213_e8
   clear hall hb1_ hb3_ hb4_ hb5_ hb6_ hb7_ hb8_
   obtain ⟨Ao14, co14, eo14⟩ := Kd.R_slice HO212.out
   (first | subst eo14 | (injection eo14 with f1_ f2_ f3_; have f4_ := f1_.symm; have f5_ := f3_.symm; clear f1_ f2_ f3_; subst f4_; subst f5_))
   have hnb15 := NB208_209.out
   have hnc15 := NB209_208.out
   have hnb16 := NB208_213.out
   have hnc16 := NB213_208.out
   have hcz17_0 : w13.cell? ⟨gb208, 0, none⟩ = some (.int .i64 a0_0) := (blk_cell BK208.out 0).trans rfl
   have hcz17_1 : w13.cell? ⟨gb208, 1, none⟩ = some (.slice A0_1 l0_1.length c0_1) := (blk_cell BK208.out 1).trans rfl
   have hfz17_0 := blk_frozen BK208.out 0
   have hfz17_1 := blk_frozen BK208.out 1
   try go_wp2
   go_loopg [16] k (fun kq v16 w' => ∃ (x16_1 : Int) (x214001_1 : List (S34)) (u214001 : Value), v16 = .int .i64 x16_1 ∧ Aside0 (impl_Net_back.l0 kq l0_1 (l0_1.length : Int) x16_1 a0_0 x214001_1 = some (r1, r2)) ∧ Aside0 (kq ≤ k) ∧ Aside0 (Kd.R k34 34 w' w.heap.size (fun _ => True) u214001 x214001_1) ∧ Aside0 (w'.heap[gb208]? = some (.cells #[.int .i64 a0_0, (.slice A0_1 l0_1.length c0_1)] 25 (0, 0))) ∧ Aside0 (w'.heap[gb209]? = some (.cells #[.int .i64 0, (.slice none 0 0)] 25 (0, 0))) ∧ Aside0 (w'.heap[gb213]? = some (.cells #[.int .i64 a0_0, u214001] 25 (0, 0))) ∧ Aside0 (Below w.heap.size w w'))
   case atStart => exact ⟨(0), (y210), (.slice Ao14 y210.length co14), (by first | rfl | (simp; done) | (simp [*]; done)), H', ⟨Nat.le_refl _⟩, ⟨by (with_reducible repeat (first | apply Kd.R_alloc | apply Kd.R_drewN | apply Kd.R_drew)); exact HO212.out⟩, ⟨by (with_reducible repeat (first | refine blk_drewN ?_ _ | refine blk_drew ?_ | refine blk_alloc ?_ _)); exact BK208.out⟩, ⟨by (with_reducible repeat (first | refine blk_drewN ?_ _ | refine blk_drew ?_ | refine blk_alloc ?_ _)); exact BK209.out⟩, ⟨by (with_reducible repeat (first | refine blk_drewN ?_ _ | refine blk_drew ?_ | refine blk_alloc ?_ _)); exact BK213.out⟩, ⟨by repeat (first | (with_reducible first | exact HB.out | apply below_alloc | apply pw_below_drewN | apply below_drew1 | refine below_set ?_ GE208.out | refine below_set ?_ GE209.out | refine below_set ?_ GE213.out) | exact HB.out)⟩⟩
   case round =>
    clear H'
    try clear c1
    try clear c2
    try clear c2b0
    try clear c2b1
    try clear p2
    try clear c3
    try clear c3b0
    try clear c3b1
    try clear c9
    try clear c15
    try clear c16
    try clear hcz17_0
    try clear hcz17_1
    try clear hfz17_0
    try clear hfz17_1
    obtain ⟨x16_1, x214001_1, u214001, rfl, HA, HK1, HO_214001, BK208, BK209, BK213, HB⟩ := hrel
    cases gk with
    | zero => exact absurd HA.out (by simp [impl_Net_back.l0])
    | succ k1 =>
     have H := HA.out
     clear HA
     simp only [impl_Net_back.l0] at H
     by_cases c18 : x16_1 < (l0_1.length : Int)
     ·rw [if_pos c18] at H
      have c18b0 : decide (x16_1 < (l0_1.length : Int)) = true := decide_eq_true c18
      clear c18
      by_cases c19 : 0 ≤ x16_1
      ·rw [if_pos c19] at H
       have c19b0 : decide (0 ≤ x16_1) = true := decide_eq_true c19
       clear c19
       by_cases c20 : x16_1 < (l0_1.length : Int)
       ·rw [if_pos c20] at H
        have c20b0 : decide (x16_1 < (l0_1.length : Int)) = true := decide_eq_true c20
        clear c20
        by_cases c21 : x214001_1.length < 3518437208883
        ·rw [if_pos c21] at H
         have LMc21 := Aside0.mk c21
         clear c21
         obtain ⟨y216, hy216⟩ : ∃ y_ : List (S34), y_ = (x214001_1 ++ [(⟨(rd_T34 l0_1 x16_1).f1, (rd_T34 l0_1 x16_1).f0, (rd_T34 l0_1 x16_1).f2, (rd_T34 l0_1 x16_1).f3, (rd_T34 l0_1 x16_1).f4⟩ : S34)]) := ⟨_, rfl⟩
         replace H : (impl_Net_back.l0 k1 l0_1 (l0_1.length : Int) (wrap64 (x16_1 + 1)) a0_0 y216) = some (r1, r2) := by first | (rw [hy216]; with_reducible exact H) | (have H2_ := (Option.bind_some _ _).symm.trans H; rw [hy216]; with_reducible exact H2_) | (have H2_ := (Option.bind_some _ _).symm.trans H; with_reducible exact H2_) | with_reducible exact H | (rw [hy216]; exact H) | exact H
         have Ny216 := Aside0.mk hy216
         clear hy216
         have H' := Aside0.mk H
         clear H
         have p214 : 0 ≤ (x16_1 : Int) := of_decide_eq_true (by first | (with_reducible assumption) | assumption)
         have q214 : x16_1 < (l0_1.length : Int) := of_decide_eq_true (by first | (with_reducible assumption) | assumption)
         obtain ⟨ad214, e214, hx214_0, hx214_1, hx214_2, hx214_3, hx214_4⟩ := at_T34 HR0_1.out x16_1 p214 q214
         cases e214
         replace hx214_0 := (HB.out.cell (World.block_lt_of_cell? w _ hx214_0)).trans hx214_0
         replace hx214_1 := (HB.out.cell (World.block_lt_of_cell? w _ hx214_1)).trans hx214_1
         replace hx214_2 := (HB.out.cell (World.block_lt_of_cell? w _ hx214_2)).trans hx214_2
         replace hx214_3 := (HB.out.cell (World.block_lt_of_cell? w _ hx214_3)).trans hx214_3
         replace hx214_4 := (HB.out.cell (World.block_lt_of_cell? w _ hx214_4)).trans hx214_4
         replace p214 := eq_true p214
         replace q214 := eq_true q214
         go_wp2_with (first | ((with_reducible refine gate_dst (N := 5) rfl ?_); refine box_event ?hg (N := 5) ?hd (cs := #[.int .i64 0, .int .i64 0, .int .i64 0, .int .i64 0, .int .i64 0]) (t := 34) ?hr ?_; (case hd => rfl); (case hg => rfl); (case hr => first | (go_simp; done) | (go_simp; rfl)); intro gz hg w22 hbox hb; have n0_ := Aside0.mk (Kd.R_below (Kd.R_elderB HO_214001.out gz (Nat.le_of_eq hg.symm)) hb); have n1_ := Aside0.mk (blk_below BK208.out hb); have n2_ := Aside0.mk (blk_below BK209.out hb); have n3_ := Aside0.mk (blk_below BK213.out hb); have n4_ := Aside0.mk (below_step HB.out hb); have n5_ := Aside0.mk hbox; have n6_ := Aside0.mk (show w.heap.size ≤ gz by rw [hg]; exact below_size HB.out); have n7_ := Aside0.mk (show gb208 ≠ gz by rw [hg]; exact Nat.ne_of_lt (blk_lt BK208.out)); have n8_ := Aside0.mk (show gb209 ≠ gz by rw [hg]; exact Nat.ne_of_lt (blk_lt BK209.out)); have n9_ := Aside0.mk (show gb213 ≠ gz by rw [hg]; exact Nat.ne_of_lt (blk_lt BK213.out)); clear HO_214001 BK208 BK209 BK213 HB hb hbox hg) | ((with_reducible refine gate_store (t := 34) (p := 5) (v := .tmp 19) rfl ?_); refine put_event rfl rfl rfl n5_.out 0 #[.int .i64 (rd_T34 l0_1 x16_1).f0, .int .i64 (rd_T34 l0_1 x16_1).f1, .int .i64 (rd_T34 l0_1 x16_1).f2, .int .i64 (rd_T34 l0_1 x16_1).f3, .int .i64 (rd_T34 l0_1 x16_1).f4] (.agg #[.int .i64 (rd_T34 l0_1 x16_1).f0, .int .i64 (rd_T34 l0_1 x16_1).f1, .int .i64 (rd_T34 l0_1 x16_1).f2, .int .i64 (rd_T34 l0_1 x16_1).f3, .int .i64 (rd_T34 l0_1 x16_1).f4]) [.int .i64 (rd_T34 l0_1 x16_1).f0, .int .i64 (rd_T34 l0_1 x16_1).f1, .int .i64 (rd_T34 l0_1 x16_1).f2, .int .i64 (rd_T34 l0_1 x16_1).f3, .int .i64 (rd_T34 l0_1 x16_1).f4] (by first | rfl | (go_simp; done) | (go_simp; rfl)) (by first | rfl | (go_simp; done) | (go_simp; rfl)) rfl (by kernel_rfl) (by simp) (by simp [Value.oneCell']) rfl ?_; intro w23 hc hg; have p0_ := Aside0.mk (Kd.R_grown n0_.out hg (fun k hk e => hk.2 (Option.some.inj e))); have p1_ := Aside0.mk (blk_grown n1_.out hg (by simpa using n7_.out)); have p2_ := Aside0.mk (blk_grown n2_.out hg (by simpa using n8_.out)); have p3_ := Aside0.mk (blk_grown n3_.out hg (by simpa using n9_.out)); have p4_ := Aside0.mk (pw_below_grown n4_.out _ (below_size n4_.out) hg (fun k hk => by obtain rfl : gz = k := Option.some.inj hk; exact n6_.out)); clear n0_ n1_ n2_ n3_ n4_ n5_; have n0_ := p0_; have n1_ := p1_; have n2_ := p2_; have n3_ := p3_; have n4_ := p4_; have n5_ := Aside0.mk hc; clear p0_ p1_ p2_ p3_ p4_ hc hg; have hz0 : w23.cell? ⟨gz, 0, none⟩ = some (.int .i64 (rd_T34 l0_1 x16_1).f0) := (blk_cell n5_.out 0).trans rfl; have hz1 : w23.cell? ⟨gz, 1, none⟩ = some (.int .i64 (rd_T34 l0_1 x16_1).f1) := (blk_cell n5_.out 1).trans rfl) | ((with_reducible refine gate_store (t := 3) (p := 24) (v := .tmp 21) rfl ?_); clear hz0 hz1; refine put_event rfl rfl rfl n5_.out 0 #[.int .i64 (rd_T34 l0_1 x16_1).f1, .int .i64 (rd_T34 l0_1 x16_1).f1, .int .i64 (rd_T34 l0_1 x16_1).f2, .int .i64 (rd_T34 l0_1 x16_1).f3, .int .i64 (rd_T34 l0_1 x16_1).f4] (.int .i64 (rd_T34 l0_1 x16_1).f1) [.int .i64 (rd_T34 l0_1 x16_1).f1] (by first | rfl | (go_simp; done) | (go_simp; rfl)) (by first | rfl | (go_simp; done) | (go_simp; rfl)) rfl (by kernel_rfl) (by simp) (by simp [Value.oneCell']) rfl ?_; intro w24 hc hg; have p0_ := Aside0.mk (Kd.R_grown n0_.out hg (fun k hk e => hk.2 (Option.some.inj e))); have p1_ := Aside0.mk (blk_grown n1_.out hg (by simpa using n7_.out)); have p2_ := Aside0.mk (blk_grown n2_.out hg (by simpa using n8_.out)); have p3_ := Aside0.mk (blk_grown n3_.out hg (by simpa using n9_.out)); have p4_ := Aside0.mk (pw_below_grown n4_.out _ (below_size n4_.out) hg (fun k hk => by obtain rfl : gz = k := Option.some.inj hk; exact n6_.out)); clear n0_ n1_ n2_ n3_ n4_ n5_; have n0_ := p0_; have n1_ := p1_; have n2_ := p2_; have n3_ := p3_; have n4_ := p4_; have n5_ := Aside0.mk hc; clear p0_ p1_ p2_ p3_ p4_ hc hg) | ((with_reducible refine gate_store (t := 3) (p := 25) (v := .tmp 23) rfl ?_); refine put_event rfl rfl rfl n5_.out 1 #[.int .i64 (rd_T34 l0_1 x16_1).f1, .int .i64 (rd_T34 l0_1 x16_1).f0, .int .i64 (rd_T34 l0_1 x16_1).f2, .int .i64 (rd_T34 l0_1 x16_1).f3, .int .i64 (rd_T34 l0_1 x16_1).f4] (.int .i64 (rd_T34 l0_1 x16_1).f0) [.int .i64 (rd_T34 l0_1 x16_1).f0] (by first | rfl | (go_simp; done) | (go_simp; rfl)) (by first | rfl | (go_simp; done) | (go_simp; rfl)) rfl (by kernel_rfl) (by simp) (by simp [Value.oneCell']) rfl ?_; intro w25 hc hg; have p0_ := Aside0.mk (Kd.R_grown n0_.out hg (fun k hk e => hk.2 (Option.some.inj e))); have p1_ := Aside0.mk (blk_grown n1_.out hg (by simpa using n7_.out)); have p2_ := Aside0.mk (blk_grown n2_.out hg (by simpa using n8_.out)); have p3_ := Aside0.mk (blk_grown n3_.out hg (by simpa using n9_.out)); have p4_ := Aside0.mk (pw_below_grown n4_.out _ (below_size n4_.out) hg (fun k hk => by obtain rfl : gz = k := Option.some.inj hk; exact n6_.out)); clear n0_ n1_ n2_ n3_ n4_ n5_; have n0_ := p0_; have n1_ := p1_; have n2_ := p2_; have n3_ := p3_; have n4_ := p4_; have n5_ := Aside0.mk hc; clear p0_ p1_ p2_ p3_ p4_ hc hg; have hz0 : w25.cell? ⟨gz, 0, none⟩ = some (.int .i64 (rd_T34 l0_1 x16_1).f1) := (blk_cell n5_.out 0).trans rfl; have hz1 : w25.cell? ⟨gz, 1, none⟩ = some (.int .i64 (rd_T34 l0_1 x16_1).f0) := (blk_cell n5_.out 1).trans rfl; have hz2 : w25.cell? ⟨gz, 2, none⟩ = some (.int .i64 (rd_T34 l0_1 x16_1).f2) := (blk_cell n5_.out 2).trans rfl; have hz3 : w25.cell? ⟨gz, 3, none⟩ = some (.int .i64 (rd_T34 l0_1 x16_1).f3) := (blk_cell n5_.out 3).trans rfl; have hz4 : w25.cell? ⟨gz, 4, none⟩ = some (.int .i64 (rd_T34 l0_1 x16_1).f4) := (blk_cell n5_.out 4).trans rfl; have hy1 : w25.cell? ⟨gb213, 1, none⟩ = some u214001 := (blk_cell n3_.out 1).trans rfl) | ((with_reducible refine gate_builtin (b := .append) (xs := #[.tmp 27, .tmp 29]) rfl ?_); at_builtin; refine Kd.R_append k34 (w0 := w) w.heap.size rfl (.tmp 27) (.tmp 29) 23 34 (.agg #[(.int .i64 0), (.int .i64 0), (.int .i64 0), (.int .i64 0), (.int .i64 0)]) 40 rfl Try.underlying23 info34 rfl (by decide) (by omega) u214001 x214001_1 (⟨(rd_T34 l0_1 x16_1).f1, (rd_T34 l0_1 x16_1).f0, (rd_T34 l0_1 x16_1).f2, (rd_T34 l0_1 x16_1).f3, (rd_T34 l0_1 x16_1).f4⟩ : S34) [.int .i64 ((rd_T34 l0_1 x16_1).f1), .int .i64 ((rd_T34 l0_1 x16_1).f0), .int .i64 ((rd_T34 l0_1 x16_1).f2), .int .i64 ((rd_T34 l0_1 x16_1).f3), .int .i64 ((rd_T34 l0_1 x16_1).f4)] (fun _ => True) (fun _ => False) rfl (by first | (go_simp; done) | (go_simp; rfl)) ?aP (fun _ hk => hk.elim) (fun _ _ => trivial) ?aO ?aB ?aS ?aL ?_; (case aP => exact k34_mkM _ _ _ (⟨(rd_T34 l0_1 x16_1).f1, (rd_T34 l0_1 x16_1).f0, (rd_T34 l0_1 x16_1).f2, (rd_T34 l0_1 x16_1).f3, (rd_T34 l0_1 x16_1).f4⟩ : S34)); (case aB => exact n4_.out); (case aO => exact Kd.R_mono n0_.out (fun _ _ => trivial)); (case aS => exact below_size n4_.out); (case aL => have := LMc21.out; omega); intro v798 w30 ho hb hg hat; rw [← Ny216.out] at ho; have m1_ := Aside0.mk (blk_grown n1_.out hg (Kd.R_ne n0_.out n1_.out (by decide))); have m2_ := Aside0.mk (blk_grown n2_.out hg (Kd.R_ne n0_.out n2_.out (by decide))); have m3_ := Aside0.mk (blk_grown n3_.out hg (Kd.R_ne n0_.out n3_.out (by decide))); have m0_ := Aside0.mk (Kd.R_types ho m3_.out (by decide)); have m4_ := Aside0.mk hb; clear n0_ n1_ n2_ n3_ n4_ n5_ n6_ n7_ n8_ n9_ hz0 hz1 hz2 hz3 hz4 hy1 ho hb hg hat; obtain ⟨Ao31, co31, eo31⟩ := Kd.R_slice m0_.out; subst eo31) | ((with_reducible refine gate_store (t := 23) (p := 31) (v := .tmp 30) rfl ?_); refine put_event rfl rfl rfl m3_.out 1 #[.int .i64 a0_0, .slice Ao31 y216.length co31] (.slice Ao31 y216.length co31) [.slice Ao31 y216.length co31] (by first | rfl | (go_simp; done) | (go_simp; rfl)) (by first | rfl | (go_simp; done) | (go_simp; rfl)) rfl (by kernel_rfl) (by simp) (by simp [Value.oneCell']) rfl ?_; intro w31 hc hg; have k0_ := Aside0.mk (Kd.R_grown m0_.out hg (fun k hk e => hk.2 (Option.some.inj e))); have k1_ := Aside0.mk (blk_grown m1_.out hg (by simpa using NB208_213.out)); have k2_ := Aside0.mk (blk_grown m2_.out hg (by simpa using NB209_213.out)); have k3_ := Aside0.mk hc; have k4_ := Aside0.mk (pw_below_grown m4_.out _ (below_size m4_.out) hg (fun k hk => by obtain rfl : gb213 = k := Option.some.inj hk; exact GE213.out)); clear m0_ m1_ m2_ m3_ m4_ hc hg))
         go_roundg k1
         case measure => have := HK1.out; omega
         case rel => exact ⟨(wrap64 (x16_1 + 1)), (y216), (.slice Ao31 y216.length co31), (by first | rfl | (simp; done) | (simp [*]; done)), H', ⟨by have := HK1.out; omega⟩, ⟨Kd.R_mono k0_.out (fun _ _ => trivial)⟩, k1_, k2_, k3_, k4_⟩
        ·rw [if_neg c21] at H
         exact absurd H (by simp)
       ·rw [if_neg c20] at H
        exact absurd H (by simp)
      ·rw [if_neg c19] at H
       exact absurd H (by simp)
     ·rw [if_neg c18] at H
      have c18b0 : decide (x16_1 < (l0_1.length : Int)) = false := decide_eq_false c18
      clear c18
      simp only [Option.some.injEq, Prod.mk.injEq] at H
      obtain ⟨rfl, rfl⟩ := H
      have hnb33 := NB213_208.out
      have hnc33 := NB208_213.out
      have hnb34 := NB213_209.out
      have hnc34 := NB209_213.out
      have hcz35_0 : wr.cell? ⟨gb213, 0, none⟩ = some (.int .i64 a0_0) := (blk_cell BK213.out 0).trans rfl
      have hcz35_1 : wr.cell? ⟨gb213, 1, none⟩ = some (u214001) := (blk_cell BK213.out 1).trans rfl
      have hfz35_0 := blk_frozen BK213.out 0
      have hfz35_1 := blk_frozen BK213.out 1
      have hnb36 := NB209_208.out
      have hnc36 := NB208_209.out
      have hcz37_0 : wr.cell? ⟨gb209, 0, none⟩ = some (.int .i64 0) := (blk_cell BK209.out 0).trans rfl
      have hcz37_1 : wr.cell? ⟨gb209, 1, none⟩ = some (.slice none 0 0) := (blk_cell BK209.out 1).trans rfl
      have hfz37_0 := blk_frozen BK209.out 0
      have hfz37_1 := blk_frozen BK209.out 1
      obtain ⟨Ao38, co38, eo38⟩ := Kd.R_slice HO_214001.out
      subst eo38
      go_wp2
      refine bodyPost_ret (results_cell_row rfl _ _ gb209 25 #[.int .i64 a0_0, .slice Ao38 x214001_1.length co38] (0, 0) _ rfl (by (with_reducible repeat (first | refine blk_drewN ?_ _ | refine blk_drew ?_ | refine blk_alloc ?_ _)); refine blk_put (cs := #[.int .i64 a0_0, .slice none 0 0]) ?_ 1 _ rfl; (with_reducible repeat (first | refine blk_drewN ?_ _ | refine blk_drew ?_ | refine blk_alloc ?_ _)); refine blk_put (cs := #[.int .i64 0, .slice none 0 0]) ?_ 0 _ rfl; (with_reducible repeat (first | refine blk_drewN ?_ _ | refine blk_drew ?_ | refine blk_alloc ?_ _)); exact BK209.out) Try.underlying25 rfl (by kernel_rfl)) rfl ?_
      exact ⟨_, by first | rfl | (simp [errW_none, errW_some] <;> rfl) | (simp [*, errW_none, errW_some] <;> rfl), by (with_reducible repeat (first | apply Kd.R_alloc | apply Kd.R_drewN | apply Kd.R_drew)); exact Kd.R_mono (Kd.R_far (p := ⟨gb209, 1, none⟩) (Kd.R_far (p := ⟨gb209, 0, none⟩) (Kd.R_types HO_214001.out BK209.out (by decide)) (fun _ hk => hk.2) (.int .i64 a0_0)) (fun _ hk => hk.2) (.slice Ao38 x214001_1.length co38)) (fun _ hk => trivial), by repeat (first | (with_reducible first | exact HB.out | apply below_alloc | apply pw_below_drewN | apply below_drew1 | refine below_set ?_ GE208.out | refine below_set ?_ GE209.out | refine below_set ?_ GE213.out) | exact HB.out)⟩
  ·rw [if_neg c3] at H
   exact absurd H (by simp)
 ·rw [if_neg c2] at H
  exact absurd H (by simp)
end Go.Proofs.Ytljdcinpjnijcaa.Pr
end
section
namespace Go.Proofs.Ytljdcinpjnijcaa.Pr
open Go.RowKit Go.Proofs.YtljdcinpjnijcaaW.PrintWords Go.Proofs.YtljdcinpjnijcaaW.PrintLast Go.Proofs.YtljdcinpjnijcaaW.PrintMore
attribute [local go_sem] max2_int min2_int max_two min_two max_three min_three max_four min_four
set_option linter.unusedVariables false
set_option linter.unusedSimpArgs false
def bits_Mul64.f (a0 : Int) (a1 : Int) : Option (Int × Int) := some (IntKind.u64.wrap ((IntKind.u64.wrap ((IntKind.u64.wrap ((a0 / 4294967296) * (a1 / 4294967296))) + ((IntKind.u64.wrap ((IntKind.u64.wrap ((a0 / 4294967296) * (Go.bits .and .u64 a1 4294967295))) + ((IntKind.u64.wrap ((Go.bits .and .u64 a0 4294967295) * (Go.bits .and .u64 a1 4294967295))) / 4294967296))) / 4294967296))) + ((IntKind.u64.wrap ((Go.bits .and .u64 (IntKind.u64.wrap ((IntKind.u64.wrap ((a0 / 4294967296) * (Go.bits .and .u64 a1 4294967295))) + ((IntKind.u64.wrap ((Go.bits .and .u64 a0 4294967295) * (Go.bits .and .u64 a1 4294967295))) / 4294967296))) 4294967295) + (IntKind.u64.wrap ((Go.bits .and .u64 a0 4294967295) * (a1 / 4294967296))))) / 4294967296)), IntKind.u64.wrap (a0 * a1))
set_option maxHeartbeats 8000000 in
set_option maxRecDepth 100000 in
theorem bits_Mul64.calls (a0 : Int) (a1 : Int) (r1 : Int) (r2 : Int) (w : World) (h : bits_Mul64.f a0 a1 = some (r1, r2)) :
  Calls Try.prog 138 #[.int .u64 a0, .int .u64 a1] w fun e w' => e = .returned (.tuple #[.int .u64 r1, .int .u64 r2]) ∧ Drawn0 w w' := by
 have H : (some (IntKind.u64.wrap ((IntKind.u64.wrap ((IntKind.u64.wrap ((a0 / 4294967296) * (a1 / 4294967296))) + ((IntKind.u64.wrap ((IntKind.u64.wrap ((a0 / 4294967296) * (Go.bits .and .u64 a1 4294967295))) + ((IntKind.u64.wrap ((Go.bits .and .u64 a0 4294967295) * (Go.bits .and .u64 a1 4294967295))) / 4294967296))) / 4294967296))) + ((IntKind.u64.wrap ((Go.bits .and .u64 (IntKind.u64.wrap ((IntKind.u64.wrap ((a0 / 4294967296) * (Go.bits .and .u64 a1 4294967295))) + ((IntKind.u64.wrap ((Go.bits .and .u64 a0 4294967295) * (Go.bits .and .u64 a1 4294967295))) / 4294967296))) 4294967295) + (IntKind.u64.wrap ((Go.bits .and .u64 a0 4294967295) * (a1 / 4294967296))))) / 4294967296)), IntKind.u64.wrap (a0 * a1))) = some (r1, r2) := h
 clear h
 simp only [Option.some.injEq, Prod.mk.injEq] at H
 obtain ⟨rfl, rfl⟩ := H
 go_enter Try.func138, Try.ntmps138
 go_wp2
 go_ret2
 exact ⟨by first | rfl | (simp; done) | (simp [*]; done), by repeat (first | exact Drawn0.refl _ | apply Drawn0.step)⟩
end Go.Proofs.Ytljdcinpjnijcaa.Pr
end
section
namespace Go.Proofs.Ytljdcinpjnijcaa.Pr
open Go.RowKit Go.Proofs.YtljdcinpjnijcaaW.PrintWords Go.Proofs.YtljdcinpjnijcaaW.PrintLast Go.Proofs.YtljdcinpjnijcaaW.PrintMore
attribute [local go_sem] max2_int min2_int max_two min_two max_three min_three max_four min_four
set_option linter.unusedVariables false
set_option linter.unusedSimpArgs false
def bits_Mul.f (a0 : Int) (a1 : Int) : Option (Int × Int) := (bits_Mul64.f a0 a1).bind fun bt219 => (some (bt219.1, bt219.2))
set_option maxHeartbeats 8000000 in
set_option maxRecDepth 100000 in
theorem bits_Mul.calls (a0 : Int) (a1 : Int) (r1 : Int) (r2 : Int) (w : World) (h : bits_Mul.f a0 a1 = some (r1, r2)) :
  Calls Try.prog 132 #[.int .u64 a0, .int .u64 a1] w fun e w' => e = .returned (.tuple #[.int .u64 r1, .int .u64 r2]) ∧ Drawn0 w w' := by
 have H : ((bits_Mul64.f a0 a1).bind fun bt219 => (some (bt219.1, bt219.2))) = some (r1, r2) := h
 clear h
 replace H := Option.bind_eq_some_iff.mp H
 obtain ⟨⟨t219, t220⟩, A30, H⟩ := H
 replace H : (some (t219, t220)) = some (r1, r2) := H
 have A3 := Aside0.mk A30
 clear A30
 simp only [Option.some.injEq, Prod.mk.injEq] at H
 obtain ⟨rfl, rfl⟩ := H
 go_enter Try.func132, Try.ntmps132
 go_wp2_with (first | ((with_reducible refine gate_callee (f := 138) rfl ?_); refine goesL_ (some 25) rfl rfl Try.func138 (by kernel_rfl) rfl #[.int .u64 a0, .int .u64 a1] rfl (by (try simp only [List.map_toArray, List.map_cons, List.map_nil]); first | done | rfl | (simp only [List.length_drop, List.length_take]; rfl)) ?_; (with_reducible refine (bits_Mul64.calls a0 a1 t219 t220 _ A3.out).mono ?_); rintro e w' ⟨rfl, ⟨nd, rfl⟩⟩; refine ⟨_, rfl, ?_⟩))
 go_ret2
 exact ⟨by first | rfl | (simp; done) | (simp [*]; done), by repeat (first | exact Drawn0.refl _ | apply Drawn0.step)⟩
end Go.Proofs.Ytljdcinpjnijcaa.Pr
end
section
namespace Go.Proofs.Ytljdcinpjnijcaa.Pr
open Go.RowKit Go.Proofs.YtljdcinpjnijcaaW.PrintWords Go.Proofs.YtljdcinpjnijcaaW.PrintLast Go.Proofs.YtljdcinpjnijcaaW.PrintMore
attribute [local go_sem] max2_int min2_int max_two min_two max_three min_three max_four min_four
set_option linter.unusedVariables false
set_option linter.unusedSimpArgs false
def impl_measure.f (l0 : List S104) (a1 : Int) : Option (List S104) := if l0.length = 1 then if 0 ≤ a1 then if a1 ≤ 64 then some (List.replicate a1.toNat (l0.getD 0 z104)) else none else none else none
theorem mul1_126 : ∀ n : Fin 65, bits_Mul.f 1 ((n.val : Nat) : Int) = some (0, ((n.val : Nat) : Int)) := by decide +kernel
set_option maxHeartbeats 4000000 in
set_option maxRecDepth 100000 in
theorem rep126 (N : Nat) (hN : N ≤ 64) (x : S104) (A0 : Option Addr) (c0 : Nat) (w : World) (hr0 : Kd.C k104 w A0 1 [x]) (hc0 : 1 ≤ c0) :
  Calls Try.prog 126 #[.slice A0 1 c0, .int .i64 (N : Int)] w fun e w' => ∃ v0_, e = .returned v0_ ∧ Kd.R k104 104 w' w.heap.size (fun _ => True) v0_ (List.replicate N x) ∧ Below w.heap.size w w' := by
 obtain ⟨ad, c, hA, hcl, hK, hcc⟩ := Kd.C_get hr0 x 0 (by omega) (by omega)
 obtain rfl : c = [.int .i64 x.f0, .int .i64 x.f1] := k104_open hK
 subst hA
 replace hcc : ∀ j u, ([.int .i64 x.f0, .int .i64 x.f1] : List Value)[j]? = some u → w.cell? (ad.add j) = some u := fun j u h => by have := hcc j u h; simpa using this
 have hblk : ad.block < w.heap.size := by
  have := World.block_lt_of_cell? w _ (hcc 0 _ rfl)
  simpa [Addr.add] using this
 clear hr0 hcl
 try clear hK
 have HCC := Aside0.mk hcc
 have HBL := Aside0.mk hblk
 clear hcc hblk
 obtain ⟨i0, hi0, hz0, hsz, hby⟩ := info_parts (P := Try.prog) (e := 104) (z := (.agg #[.int .i64 0, .int .i64 0])) (size := 2) (bytes := 16) (by kernel_rfl)
 have hmk : ∀ W : World, (Instr.makeSlice 100 (.int .i64 (N : Int)) (.int .i64 (N : Int))).run Try.prog W = .ok (.slice (some ⟨W.heap.size, 0, none⟩) N N) (W.alloc (.cells (madeCells #[.int .i64 0, .int .i64 0] (N * 2)) 104)) := by
  intro W
  have := run_make (P := Try.prog) W 100 104 i0 (.agg #[.int .i64 0, .int .i64 0]) Try.underlying100 hi0 hz0 .i64 .i64 (N : Int) (N : Int) (by omega) (Int.le_refl _) (by rw [hby]; omega) (by omega)
  rw [hsz] at this
  exact this
 have hmul := fun (W : World) => bits_Mul.calls 1 (N : Int) 0 (N : Int) W (mul1_126 ⟨N, by omega⟩)
 have HMK := Aside0.mk hmk
 have HI := Aside0.mk hi0
 have HSZ := Aside0.mk hsz
 clear hmk hi0 hz0 hsz hby
 have hN1 : (N : Int) ≤ 64 := by omega
 have hN0 : (0 : Int) ≤ N := by omega
 have hN2 : ((N : Int) < 0) = False := eq_false (by omega)
 have hN3 : decide ((9223372036854775807 : Int) < (N : Int)) = false := decide_eq_false (by omega)
 obtain ⟨n0, hn0⟩ : ∃ n0, n0 = if N = 0 then 0 else 1 := ⟨_, rfl⟩
 obtain ⟨cs0, hcs0⟩ : ∃ cs0 : List Value, cs0 = if N = 0 then [] else [.int .i64 x.f0, .int .i64 x.f1] := ⟨_, rfl⟩
 have HN0 := Aside0.mk hn0
 have HCS := Aside0.mk hcs0
 clear hn0 hcs0
 have HN := Aside0.mk hN
 clear hN
 go_enter Try.func126, Try.ntmps126
 go_wp2_with (first | (go_at_call 132; (with_reducible refine (hmul _).mono ?_); rintro e w1 ⟨rfl, ⟨nd, rfl⟩⟩) | ((with_reducible refine gate_dst (N := 30) rfl ?_); refine make_event rfl (n := N) (cs := madeCells #[.int .i64 0, .int .i64 0] (N * 2)) (t := 104) (by have hmk := HMK.out; first | (go_simp; done) | (go_simp; rfl)) ?_; intro g hg w2 hblk hb; have B0 := Aside0.mk (below_step (pw_below_drewN (Below.refl _ _) nd) hb); have G0 := Aside0.mk (show w.heap.size ≤ g by rw [hg]; exact Nat.le_refl _); have K0 := Aside0.mk hblk; clear hg hblk hb) | ((with_reducible refine gate_builtin (b := .copy) (xs := #[.tmp 31, .tmp 32]) rfl ?_); refine copy_event rfl 2 (.tmp 31) (.tmp 32) 100 100 rfl 104 Try.underlying100 (by kernel_rfl) (some ⟨g, 0, none⟩) (some ad) N N 1 c0 rfl rfl g 0 _ _ K0.out cs0 n0 ?cpk ?cpn ?cpp ?cpf ?cpo (by decide) ?_; (case cpk => rw [HN0.out]; by_cases h0 : N = 0; (rw [if_pos h0, h0]; rfl); (rw [if_neg h0]; exact Nat.min_eq_left (by omega))); (case cpn => rw [HN0.out, HCS.out]; by_cases h0 : N = 0; (rw [if_pos h0, if_pos h0]; rfl); (rw [if_neg h0, if_neg h0]; rfl)); (case cpp => intro hp; refine ⟨rfl, ad, rfl, fun j v hj => ?_⟩; rw [HCS.out] at hj; by_cases hz : N = 0; (rw [if_pos hz] at hj; simp at hj); (rw [if_neg hz] at hj; exact pw_cell_below B0.out (HCC.out j v hj))); (case cpf => rw [size_madeCells, HCS.out]; by_cases h0 : N = 0; (rw [if_pos h0]; simp); (rw [if_neg h0]; simp; omega)); (case cpo => intro v hv; rw [HCS.out] at hv; by_cases h0 : N = 0; (rw [if_pos h0] at hv; simp at hv); (rw [if_neg h0] at hv; simp only [List.mem_cons, List.not_mem_nil, or_false] at hv; first | (subst hv; rfl) | (rcases hv with rfl | rfl <;> rfl))); intro w3 hc hg3; have K1 := Aside0.mk hc; have B1 := Aside0.mk (pw_below_grown B0.out _ (B0.out.size) hg3 (fun k hk => by obtain rfl : g = k := Option.some.inj hk; exact G0.out)); clear hc hg3 K0 B0))
 have K2 : Aside0 (∃ cur, w3.heap[g]? = some (.cells cur 104 (0, 0)) ∧ cur.size = N * 2 ∧ cur.toList.take (n0 * 2) = (madeCells #[.int .i64 x.f0, .int .i64 x.f1] (n0 * 2)).toList) := by
  obtain ⟨cur, h1, h2, h3⟩ := K1.out
  refine ⟨⟨cur, h1, by rw [h2, size_madeCells], ?_⟩⟩
  rw [h3, HCS.out, HN0.out]
  by_cases h0 : N = 0
  ·rw [if_pos h0]; simp [madeCells]
  ·rw [if_neg h0, if_neg h0]; simp [madeCells]; try rfl
 clear K1
 have HS : Aside0 (n0 ≤ N ∧ (0 < N → 1 ≤ n0)) := ⟨by rw [HN0.out]; split <;> omega⟩
 go_loopg [8] N (fun gg v8 wr => ∃ n : Nat, v8 = .int .i64 (n : Int) ∧ Aside0 (n ≤ N ∧ (0 < N → 1 ≤ n)) ∧ Aside0 (∃ cur, wr.heap[g]? = some (.cells cur 104 (0, 0)) ∧ cur.size = N * 2 ∧ cur.toList.take (n * 2) = (madeCells #[.int .i64 x.f0, .int .i64 x.f1] (n * 2)).toList) ∧ Aside0 (Below w.heap.size w wr) ∧ Aside0 (N - n ≤ gg))
 case atStart => exact ⟨n0, rfl, HS, K2, B1, ⟨by omega⟩⟩
 case round =>
  clear HS K2 B1
  obtain ⟨n, rfl, HS, K2, B1, HG⟩ := hrel
  by_cases hlt : n < N
  ·have c1 : decide ((n : Int) < (N : Int)) = true := decide_eq_true (by omega)
   have c2 : decide (n < N) = true := decide_eq_true hlt
   obtain ⟨cur, hb, hs, ht⟩ := K2.out
   obtain ⟨m, hm⟩ : ∃ m, Nat.min n (N - n) = m := ⟨_, rfl⟩
   have hm1 : m ≤ n ∧ m ≤ N - n := by rw [← hm]; exact ⟨Nat.min_le_left _ _, Nat.min_le_right _ _⟩
   have hm2 : 1 ≤ m := by
    have := HS.out.2 (by omega)
    rw [← hm]
    exact Nat.le_min.2 ⟨this, by omega⟩
   have hmn : m * 2 ≤ n * 2 := Nat.mul_le_mul_right _ hm1.1
   have h1 : cur.toList.take (m * 2) = (madeCells #[.int .i64 x.f0, .int .i64 x.f1] (m * 2)).toList := by
    rw [← made_take #[.int .i64 x.f0, .int .i64 x.f1] (m * 2) (n * 2) hmn, ← ht, List.take_take, Nat.min_eq_left hmn]
   have HSRC : Aside0 (∀ W : World, W.heap[g]? = some (.cells cur 104 (0, 0)) → ∀ j v, (madeCells #[.int .i64 x.f0, .int .i64 x.f1] (m * 2)).toList[j]? = some v → W.cell? ((⟨g, 0, none⟩ : Addr).add j) = some v) := ⟨by
    intro W hW j v hj
    rw [add_plain, blk_cell hW j, ← Array.getElem?_toList]
    rw [← h1, List.getElem?_take] at hj
    split at hj
    ·exact hj
    ·cases hj⟩
   have HLEN : Aside0 ((madeCells #[.int .i64 x.f0, .int .i64 x.f1] (m * 2)).toList.length = m * 2) := ⟨by rw [Array.length_toList, size_madeCells]⟩
   have HFIT : Aside0 (n * 2 + (madeCells #[.int .i64 x.f0, .int .i64 x.f1] (m * 2)).toList.length ≤ cur.size) := ⟨by rw [HLEN.out, hs]; omega⟩
   have HONE : Aside0 (∀ v ∈ (madeCells #[.int .i64 x.f0, .int .i64 x.f1] (m * 2)).toList, v.oneCell' = true) := ⟨by
    intro v hv
    have h := made_mem #[.int .i64 x.f0, .int .i64 x.f1] (m * 2) (by simp) v hv
    simp only [List.mem_cons, List.not_mem_nil, or_false] at h
    first | (subst h; rfl) | (rcases h with rfl | rfl <;> rfl)⟩
   have hcut1 : ∀ W : World, (Instr.slice 100 (.slice (some ⟨g, 0, none⟩) N N) (some (.int .i64 (n : Int))) none none).run Try.prog W = .ok (.slice (some ⟨g, n * 2, none⟩) (N - n) (N - n)) W := by
    intro W
    have h := cut_from (P := Try.prog) 100 104 .i64 Try.underlying100 HI.out 2 HSZ.out (some ⟨g, 0, none⟩) N N (n : Int) (by omega) (by omega) W
    simp only [Int.toNat_natCast, Option.map_some, add_plain] at h
    rw [if_neg (by omega)] at h
    exact h
   have hcut2 : ∀ W : World, (Instr.slice 100 (.slice (some ⟨g, 0, none⟩) N N) none (some (.int .i64 (n : Int))) none).run Try.prog W = .ok (.slice (some ⟨g, 0, none⟩) n N) W := by
    have h := cut_to (P := Try.prog) 100 104 .i64 Try.underlying100 HI.out (some ⟨g, 0, none⟩) N N (n : Int) (by omega) (by omega) (Nat.le_refl _)
    simpa only [Int.toNat_natCast] using h
   have hw : IntKind.i64.wrap ((n : Int) + (m : Int)) = (n : Int) + (m : Int) := by
    have := HN.out
    rw [i64_w, wrap64]; omega
   have HB := Aside0.mk hb
   have HM := Aside0.mk hm
   have HST := Aside0.mk (And.intro hs (And.intro ht (And.intro hm1 (And.intro hm2 hlt))))
   clear hb hs ht hm hm1 hm2 hmn h1 hlt
   go_wp2
   go_region_law (refine copy_step rfl 2 (.tmp 41) (.tmp 44) 100 100 ?cpo 104 Try.underlying100 (by kernel_rfl) (some ⟨g, n * 2, none⟩) (some ⟨g, 0, none⟩) (N - n) (N - n) n N ?cpd ?cps g (n * 2) cur 104 HB.out (madeCells #[.int .i64 x.f0, .int .i64 x.f1] (m * 2)).toList m HM.out HLEN.out (fun _ => ⟨rfl, _, rfl, HSRC.out _ HB.out⟩) HFIT.out HONE.out (by decide) ?_; (case cpo => rfl); (case cpd => go_simp); (case cps => go_simp); intro w4 hc hg4)
   have K3 : Aside0 (∃ cur', w4.heap[g]? = some (.cells cur' 104 (0, 0)) ∧ cur'.size = N * 2 ∧ cur'.toList.take ((n + m) * 2) = (madeCells #[.int .i64 x.f0, .int .i64 x.f1] ((n + m) * 2)).toList) := by
    obtain ⟨cur', e1, e2, e3⟩ := hc
    obtain ⟨s1, s2, s3, s4, s5⟩ := HST.out
    refine ⟨⟨cur', e1, by rw [e2, s1], ?_⟩⟩
    have hl : (cur.toList.take (n * 2)).length = n * 2 := by rw [s2, Array.length_toList, size_madeCells]
    have e4 : (n + m) * 2 = (cur.toList.take (n * 2) ++ (madeCells #[.int .i64 x.f0, .int .i64 x.f1] (m * 2)).toList).length := by rw [List.length_append, hl, HLEN.out, Nat.add_mul]
    have e5 : cur'.toList.take ((n + m) * 2) = cur.toList.take (n * 2) ++ (madeCells #[.int .i64 x.f0, .int .i64 x.f1] (m * 2)).toList := by
     rw [e3, e4, List.take_left]
    rw [e5, s2]
    exact made_append #[.int .i64 x.f0, .int .i64 x.f1] 2 n m (by simp)
   have B3 : Aside0 (Below w.heap.size w w4) := ⟨pw_below_grown B1.out.drew _ (B1.out.size) hg4 (fun k hk => by obtain rfl : g = k := Option.some.inj hk; exact G0.out)⟩
   have HS3 : Aside0 (n + m ≤ N ∧ (0 < N → 1 ≤ n + m) ∧ n + m ≤ n + m ∧ 1 ≤ m) := ⟨by
    obtain ⟨s1, s2, s3, s4, s5⟩ := HST.out
    exact ⟨by omega, fun _ => by omega, Nat.le_refl _, s4⟩⟩
   have HG3 : Aside0 (N - (n + m) ≤ N - (n + m)) := ⟨Nat.le_refl _⟩
   clear hc hg4
   go_wp2
   go_roundg (N - (n + m))
   case measure => have h1 := HG.out; have h2 := HS3.out; omega
   case rel => exact ⟨n + m, by first | (simp only [hw]; done) | (simp only [hw, Int.natCast_add]; done) | (rw [hw]; rfl), ⟨HS3.out.1, HS3.out.2.1⟩, K3, B3, HG3⟩
  ·have c1 : decide ((n : Int) < (N : Int)) = false := decide_eq_false (by omega)
   have c2 : decide (n < N) = false := decide_eq_false hlt
   have hnN : n = N := by have := HS.out.1; omega
   subst hnN
   have c3 : decide (n < n) = false := decide_eq_false (by omega)
   go_wp2
   go_ret
   obtain ⟨cur, hb, hs, ht⟩ := K2.out
   refine ⟨_, rfl, ⟨fun _ _ => trivial, (madeCells #[.int .i64 x.f0, .int .i64 x.f1] (n * 2)).toList, ⟨by rw [Array.length_toList, size_madeCells, List.length_replicate]; rfl, .inr ⟨g, n, cur, by first | (rw [List.length_replicate]; done) | (rw [List.length_replicate]; rfl), G0.out, hb, by rw [List.length_replicate]; exact Nat.le_refl _, by have := HN.out; simp only [maxLen]; omega, Nat.le_of_eq hs.symm, by rw [List.length_replicate]; exact ht⟩⟩, ?_⟩, B1.out⟩
   exact Kd.reps_made (R := k104.M _ _ _) (z0 := x) (z := (.agg #[.int .i64 x.f0, .int .i64 x.f1])) (size := 2) rfl (by decide) (k104_mkM _ _ _ x) n
theorem impl_measure.calls (A0 : Option Addr) (c0 : Nat) (l0 : List S104) (a1 : Int) (r : List S104) (w : World) (hr0 : Kd.C k104 w A0 l0.length l0) (hc0 : l0.length ≤ c0) (h : impl_measure.f l0 a1 = some r) :
  Calls Try.prog 126 #[.slice A0 l0.length c0, .int .i64 a1] w fun e w' => ∃ v0_, e = .returned v0_ ∧ Kd.R k104 104 w' w.heap.size (fun _ => True) v0_ r ∧ Below w.heap.size w w' := by
 unfold impl_measure.f at h
 by_cases h1 : l0.length = 1
 ·rw [if_pos h1] at h
  by_cases h2 : 0 ≤ a1
  ·rw [if_pos h2] at h
   by_cases h3 : a1 ≤ 64
   ·rw [if_pos h3] at h
    obtain rfl := Option.some.inj h
    obtain ⟨x, rfl⟩ := List.length_eq_one_iff.1 h1
    obtain ⟨N, rfl⟩ := Int.eq_ofNat_of_zero_le h2
    exact rep126 N (by omega) x A0 c0 w hr0 hc0
   ·rw [if_neg h3] at h; cases h
  ·rw [if_neg h2] at h; cases h
 ·rw [if_neg h1] at h; cases h
theorem rep_measure (x : S104) (n : Nat) (h : n ≤ 64) : impl_measure.f [x] (n : Int) = some (List.replicate n x) := by
 unfold impl_measure.f
 rw [if_pos (show ([x] : List _).length = 1 from rfl), if_pos (by omega), if_pos (by omega)]
 simp
end Go.Proofs.Ytljdcinpjnijcaa.Pr
end
section
namespace Go.Proofs.Ytljdcinpjnijcaa.Pr
open Go.RowKit Go.Proofs.YtljdcinpjnijcaaW.PrintWords Go.Proofs.YtljdcinpjnijcaaW.PrintLast Go.Proofs.YtljdcinpjnijcaaW.PrintMore
attribute [local go_sem] max2_int min2_int max_two min_two max_three min_three max_four min_four
set_option linter.unusedVariables false
set_option linter.unusedSimpArgs false
def impl_measure_less.f (a0_0 : Int) (a0_1 : Int) (a1_0 : Int) (a1_1 : Int) : Option (Bool) := if a0_0 < a1_0 then (some true) else (if a0_0 = a1_0 then (some (decide (a0_1 < a1_1))) else (some false))
set_option maxHeartbeats 8000000 in
set_option maxRecDepth 100000 in
theorem impl_measure_less.calls (a0_0 : Int) (a0_1 : Int) (a1_0 : Int) (a1_1 : Int) (r : Bool) (w : World) (h : impl_measure_less.f a0_0 a0_1 a1_0 a1_1 = some r) :
  Calls Try.prog 127 #[.agg #[.int .i64 a0_0, .int .i64 a0_1], .agg #[.int .i64 a1_0, .int .i64 a1_1]] w fun e w' => e = .returned (.bool r) ∧ Below w.heap.size w w' := by
 have hu104 := Try.underlying104
 have HB := Aside0.mk (Below.refl w.heap.size w)
 have H : (if a0_0 < a1_0 then (some true) else (if a0_0 = a1_0 then (some (decide (a0_1 < a1_1))) else (some false))) = some r := h
 clear h
 by_cases c3 : a0_0 < a1_0
 ·rw [if_pos c3] at H
  have c3b0 : decide (a0_0 < a1_0) = true := decide_eq_true c3
  clear c3
  obtain rfl := Option.some.inj H
  go_enter Try.func127, Try.ntmps127
  go_wp2_with (first | ((with_reducible refine gate_dst (N := 2) rfl ?_); refine box_event ?hg (N := 2) ?hd (cs := #[.int .i64 a0_0, .int .i64 a0_1]) (t := 104) ?hr ?_; (case hd => rfl); (case hg => rfl); (case hr => first | (go_simp; done) | (go_simp; rfl)); intro gb221 hg w4 hbox hb; have n0_ := Aside0.mk (below_step (by repeat (first | (with_reducible first | exact HB.out | apply below_alloc | apply pw_below_drewN | apply below_drew1) | exact HB.out)) hb); have n1_ := Aside0.mk (hbox); have n2_ := Aside0.mk ((by rw [hg]; exact (below_size (by repeat (first | (with_reducible first | exact HB.out | apply below_alloc | apply pw_below_drewN | apply below_drew1) | exact HB.out))) : w.heap.size ≤ gb221)); have n3_ := Aside0.mk ((by rw [hg]; exact (below_size (by repeat (first | (with_reducible first | exact HB.out | apply below_alloc | apply pw_below_drewN | apply below_drew1) | exact HB.out))) : w.heap.size ≤ gb221)); clear HB; have HB := n0_; have BK221 := n1_; have GW221 := n2_; have GE221 := n3_; clear n0_ n1_ n2_ n3_; clear hb hbox hg) | ((with_reducible refine gate_dst (N := 3) rfl ?_); refine box_event ?hg (N := 3) ?hd (cs := #[.int .i64 a1_0, .int .i64 a1_1]) (t := 104) ?hr ?_; (case hd => rfl); (case hg => rfl); (case hr => first | (go_simp; done) | (go_simp; rfl)); intro gb222 hg w5 hbox hb; have n0_ := Aside0.mk (blk_below (g := gb221) (o := .cells #[.int .i64 a0_0, .int .i64 a0_1] 104 (0, 0)) (by (with_reducible repeat (first | refine blk_drewN ?_ _ | refine blk_drew ?_ | refine blk_alloc ?_ _)); exact BK221.out) hb); have n1_ := Aside0.mk (below_step (by repeat (first | (with_reducible first | exact HB.out | apply below_alloc | apply pw_below_drewN | apply below_drew1 | refine below_set ?_ GE221.out) | exact HB.out)) hb); have n2_ := Aside0.mk (hbox); have n3_ := Aside0.mk ((by rw [hg]; exact (below_size (by repeat (first | (with_reducible first | exact HB.out | apply below_alloc | apply pw_below_drewN | apply below_drew1 | refine below_set ?_ GE221.out) | exact HB.out))) : w.heap.size ≤ gb222)); have n4_ := Aside0.mk ((by rw [hg]; exact (below_size (by repeat (first | (with_reducible first | exact HB.out | apply below_alloc | apply pw_below_drewN | apply below_drew1 | refine below_set ?_ GE221.out) | exact HB.out))) : w.heap.size ≤ gb222)); have n5_ := Aside0.mk ((by rw [hg]; exact Nat.ne_of_lt (blk_lt (g := gb221) (o := .cells #[.int .i64 a0_0, .int .i64 a0_1] 104 (0, 0)) (by (with_reducible repeat (first | refine blk_drewN ?_ _ | refine blk_drew ?_ | refine blk_alloc ?_ _)); exact BK221.out)) : gb221 ≠ gb222)); have n6_ := Aside0.mk ((by rw [hg]; exact Nat.ne_of_gt (blk_lt (g := gb221) (o := .cells #[.int .i64 a0_0, .int .i64 a0_1] 104 (0, 0)) (by (with_reducible repeat (first | refine blk_drewN ?_ _ | refine blk_drew ?_ | refine blk_alloc ?_ _)); exact BK221.out)) : gb222 ≠ gb221)); clear BK221; clear HB; have BK221 := n0_; have HB := n1_; have BK222 := n2_; have GW222 := n3_; have GE222 := n4_; have NB221_222 := n5_; have NB222_221 := n6_; clear n0_ n1_ n2_ n3_ n4_ n5_ n6_; clear hb hbox hg; have hnb6 := NB221_222.out; have hnc6 := NB222_221.out; have hcz7_0 : w5.cell? ⟨gb221, 0, none⟩ = some (.int .i64 a0_0) := (blk_cell BK221.out 0).trans rfl; have hcz7_1 : w5.cell? ⟨gb221, 1, none⟩ = some (.int .i64 a0_1) := (blk_cell BK221.out 1).trans rfl; have hfz7_0 := blk_frozen BK221.out 0; have hfz7_1 := blk_frozen BK221.out 1; have hcz8_0 : w5.cell? ⟨gb222, 0, none⟩ = some (.int .i64 a1_0) := (blk_cell BK222.out 0).trans rfl; have hcz8_1 : w5.cell? ⟨gb222, 1, none⟩ = some (.int .i64 a1_1) := (blk_cell BK222.out 1).trans rfl; have hfz8_0 := blk_frozen BK222.out 0; have hfz8_1 := blk_frozen BK222.out 1))
  go_ret
  exact ⟨by first | rfl | (simp [errW_none, errW_some] <;> rfl) | (simp [*, errW_none, errW_some] <;> rfl), by repeat (first | (with_reducible first | exact HB.out | apply below_alloc | apply pw_below_drewN | apply below_drew1 | refine below_set ?_ GE221.out | refine below_set ?_ GE222.out) | exact HB.out)⟩
 ·rw [if_neg c3] at H
  have c3b0 : decide (a0_0 < a1_0) = false := decide_eq_false c3
  clear c3
  by_cases c9 : a0_0 = a1_0
  ·rw [if_pos c9] at H
   have c9b0 : (a0_0 == a1_0) = true := beq_iff_eq.mpr c9
   have c9b1 : (a0_0 != a1_0) = false := bne_eq_false_iff_eq.mpr c9
   clear c9
   obtain rfl := Option.some.inj H
   go_enter Try.func127, Try.ntmps127
   go_wp2_with (first | ((with_reducible refine gate_dst (N := 2) rfl ?_); refine box_event ?hg (N := 2) ?hd (cs := #[.int .i64 a0_0, .int .i64 a0_1]) (t := 104) ?hr ?_; (case hd => rfl); (case hg => rfl); (case hr => first | (go_simp; done) | (go_simp; rfl)); intro gb221 hg w10 hbox hb; have n0_ := Aside0.mk (below_step (by repeat (first | (with_reducible first | exact HB.out | apply below_alloc | apply pw_below_drewN | apply below_drew1) | exact HB.out)) hb); have n1_ := Aside0.mk (hbox); have n2_ := Aside0.mk ((by rw [hg]; exact (below_size (by repeat (first | (with_reducible first | exact HB.out | apply below_alloc | apply pw_below_drewN | apply below_drew1) | exact HB.out))) : w.heap.size ≤ gb221)); have n3_ := Aside0.mk ((by rw [hg]; exact (below_size (by repeat (first | (with_reducible first | exact HB.out | apply below_alloc | apply pw_below_drewN | apply below_drew1) | exact HB.out))) : w.heap.size ≤ gb221)); clear HB; have HB := n0_; have BK221 := n1_; have GW221 := n2_; have GE221 := n3_; clear n0_ n1_ n2_ n3_; clear hb hbox hg) | ((with_reducible refine gate_dst (N := 3) rfl ?_); refine box_event ?hg (N := 3) ?hd (cs := #[.int .i64 a1_0, .int .i64 a1_1]) (t := 104) ?hr ?_; (case hd => rfl); (case hg => rfl); (case hr => first | (go_simp; done) | (go_simp; rfl)); intro gb222 hg w11 hbox hb; have n0_ := Aside0.mk (blk_below (g := gb221) (o := .cells #[.int .i64 a0_0, .int .i64 a0_1] 104 (0, 0)) (by (with_reducible repeat (first | refine blk_drewN ?_ _ | refine blk_drew ?_ | refine blk_alloc ?_ _)); exact BK221.out) hb); have n1_ := Aside0.mk (below_step (by repeat (first | (with_reducible first | exact HB.out | apply below_alloc | apply pw_below_drewN | apply below_drew1 | refine below_set ?_ GE221.out) | exact HB.out)) hb); have n2_ := Aside0.mk (hbox); have n3_ := Aside0.mk ((by rw [hg]; exact (below_size (by repeat (first | (with_reducible first | exact HB.out | apply below_alloc | apply pw_below_drewN | apply below_drew1 | refine below_set ?_ GE221.out) | exact HB.out))) : w.heap.size ≤ gb222)); have n4_ := Aside0.mk ((by rw [hg]; exact (below_size (by repeat (first | (with_reducible first | exact HB.out | apply below_alloc | apply pw_below_drewN | apply below_drew1 | refine below_set ?_ GE221.out) | exact HB.out))) : w.heap.size ≤ gb222)); have n5_ := Aside0.mk ((by rw [hg]; exact Nat.ne_of_lt (blk_lt (g := gb221) (o := .cells #[.int .i64 a0_0, .int .i64 a0_1] 104 (0, 0)) (by (with_reducible repeat (first | refine blk_drewN ?_ _ | refine blk_drew ?_ | refine blk_alloc ?_ _)); exact BK221.out)) : gb221 ≠ gb222)); have n6_ := Aside0.mk ((by rw [hg]; exact Nat.ne_of_gt (blk_lt (g := gb221) (o := .cells #[.int .i64 a0_0, .int .i64 a0_1] 104 (0, 0)) (by (with_reducible repeat (first | refine blk_drewN ?_ _ | refine blk_drew ?_ | refine blk_alloc ?_ _)); exact BK221.out)) : gb222 ≠ gb221)); clear BK221; clear HB; have BK221 := n0_; have HB := n1_; have BK222 := n2_; have GW222 := n3_; have GE222 := n4_; have NB221_222 := n5_; have NB222_221 := n6_; clear n0_ n1_ n2_ n3_ n4_ n5_ n6_; clear hb hbox hg; have hnb12 := NB221_222.out; have hnc12 := NB222_221.out; have hcz13_0 : w11.cell? ⟨gb221, 0, none⟩ = some (.int .i64 a0_0) := (blk_cell BK221.out 0).trans rfl; have hcz13_1 : w11.cell? ⟨gb221, 1, none⟩ = some (.int .i64 a0_1) := (blk_cell BK221.out 1).trans rfl; have hfz13_0 := blk_frozen BK221.out 0; have hfz13_1 := blk_frozen BK221.out 1; have hcz14_0 : w11.cell? ⟨gb222, 0, none⟩ = some (.int .i64 a1_0) := (blk_cell BK222.out 0).trans rfl; have hcz14_1 : w11.cell? ⟨gb222, 1, none⟩ = some (.int .i64 a1_1) := (blk_cell BK222.out 1).trans rfl; have hfz14_0 := blk_frozen BK222.out 0; have hfz14_1 := blk_frozen BK222.out 1))
   go_ret
   exact ⟨by first | rfl | (simp [errW_none, errW_some] <;> rfl) | (simp [*, errW_none, errW_some] <;> rfl), by repeat (first | (with_reducible first | exact HB.out | apply below_alloc | apply pw_below_drewN | apply below_drew1 | refine below_set ?_ GE221.out | refine below_set ?_ GE222.out) | exact HB.out)⟩
  ·rw [if_neg c9] at H
   have c9b0 : (a0_0 == a1_0) = false := beq_eq_false_iff_ne.mpr c9
   have c9b1 : (a0_0 != a1_0) = true := bne_iff_ne.mpr c9
   obtain rfl := Option.some.inj H
   go_enter Try.func127, Try.ntmps127
   go_wp2_with (first | ((with_reducible refine gate_dst (N := 2) rfl ?_); refine box_event ?hg (N := 2) ?hd (cs := #[.int .i64 a0_0, .int .i64 a0_1]) (t := 104) ?hr ?_; (case hd => rfl); (case hg => rfl); (case hr => first | (go_simp; done) | (go_simp; rfl)); intro gb221 hg w15 hbox hb; have n0_ := Aside0.mk (below_step (by repeat (first | (with_reducible first | exact HB.out | apply below_alloc | apply pw_below_drewN | apply below_drew1) | exact HB.out)) hb); have n1_ := Aside0.mk (hbox); have n2_ := Aside0.mk ((by rw [hg]; exact (below_size (by repeat (first | (with_reducible first | exact HB.out | apply below_alloc | apply pw_below_drewN | apply below_drew1) | exact HB.out))) : w.heap.size ≤ gb221)); have n3_ := Aside0.mk ((by rw [hg]; exact (below_size (by repeat (first | (with_reducible first | exact HB.out | apply below_alloc | apply pw_below_drewN | apply below_drew1) | exact HB.out))) : w.heap.size ≤ gb221)); clear HB; have HB := n0_; have BK221 := n1_; have GW221 := n2_; have GE221 := n3_; clear n0_ n1_ n2_ n3_; clear hb hbox hg) | ((with_reducible refine gate_dst (N := 3) rfl ?_); refine box_event ?hg (N := 3) ?hd (cs := #[.int .i64 a1_0, .int .i64 a1_1]) (t := 104) ?hr ?_; (case hd => rfl); (case hg => rfl); (case hr => first | (go_simp; done) | (go_simp; rfl)); intro gb222 hg w16 hbox hb; have n0_ := Aside0.mk (blk_below (g := gb221) (o := .cells #[.int .i64 a0_0, .int .i64 a0_1] 104 (0, 0)) (by (with_reducible repeat (first | refine blk_drewN ?_ _ | refine blk_drew ?_ | refine blk_alloc ?_ _)); exact BK221.out) hb); have n1_ := Aside0.mk (below_step (by repeat (first | (with_reducible first | exact HB.out | apply below_alloc | apply pw_below_drewN | apply below_drew1 | refine below_set ?_ GE221.out) | exact HB.out)) hb); have n2_ := Aside0.mk (hbox); have n3_ := Aside0.mk ((by rw [hg]; exact (below_size (by repeat (first | (with_reducible first | exact HB.out | apply below_alloc | apply pw_below_drewN | apply below_drew1 | refine below_set ?_ GE221.out) | exact HB.out))) : w.heap.size ≤ gb222)); have n4_ := Aside0.mk ((by rw [hg]; exact (below_size (by repeat (first | (with_reducible first | exact HB.out | apply below_alloc | apply pw_below_drewN | apply below_drew1 | refine below_set ?_ GE221.out) | exact HB.out))) : w.heap.size ≤ gb222)); have n5_ := Aside0.mk ((by rw [hg]; exact Nat.ne_of_lt (blk_lt (g := gb221) (o := .cells #[.int .i64 a0_0, .int .i64 a0_1] 104 (0, 0)) (by (with_reducible repeat (first | refine blk_drewN ?_ _ | refine blk_drew ?_ | refine blk_alloc ?_ _)); exact BK221.out)) : gb221 ≠ gb222)); have n6_ := Aside0.mk ((by rw [hg]; exact Nat.ne_of_gt (blk_lt (g := gb221) (o := .cells #[.int .i64 a0_0, .int .i64 a0_1] 104 (0, 0)) (by (with_reducible repeat (first | refine blk_drewN ?_ _ | refine blk_drew ?_ | refine blk_alloc ?_ _)); exact BK221.out)) : gb222 ≠ gb221)); clear BK221; clear HB; have BK221 := n0_; have HB := n1_; have BK222 := n2_; have GW222 := n3_; have GE222 := n4_; have NB221_222 := n5_; have NB222_221 := n6_; clear n0_ n1_ n2_ n3_ n4_ n5_ n6_; clear hb hbox hg; have hnb17 := NB221_222.out; have hnc17 := NB222_221.out; have hcz18_0 : w16.cell? ⟨gb221, 0, none⟩ = some (.int .i64 a0_0) := (blk_cell BK221.out 0).trans rfl; have hcz18_1 : w16.cell? ⟨gb221, 1, none⟩ = some (.int .i64 a0_1) := (blk_cell BK221.out 1).trans rfl; have hfz18_0 := blk_frozen BK221.out 0; have hfz18_1 := blk_frozen BK221.out 1; have hcz19_0 : w16.cell? ⟨gb222, 0, none⟩ = some (.int .i64 a1_0) := (blk_cell BK222.out 0).trans rfl; have hcz19_1 : w16.cell? ⟨gb222, 1, none⟩ = some (.int .i64 a1_1) := (blk_cell BK222.out 1).trans rfl; have hfz19_0 := blk_frozen BK222.out 0; have hfz19_1 := blk_frozen BK222.out 1))
   go_ret
   exact ⟨by first | rfl | (simp [errW_none, errW_some] <;> rfl) | (simp [*, errW_none, errW_some] <;> rfl), by repeat (first | (with_reducible first | exact HB.out | apply below_alloc | apply pw_below_drewN | apply below_drew1 | refine below_set ?_ GE221.out | refine below_set ?_ GE222.out) | exact HB.out)⟩
end Go.Proofs.Ytljdcinpjnijcaa.Pr
end
section
namespace Go.Proofs.Ytljdcinpjnijcaa.Pr
open Go.RowKit Go.Proofs.YtljdcinpjnijcaaW.PrintWords Go.Proofs.YtljdcinpjnijcaaW.PrintLast Go.Proofs.YtljdcinpjnijcaaW.PrintMore
attribute [local go_sem] max2_int min2_int max_two min_two max_three min_three max_four min_four
set_option linter.unusedVariables false
set_option linter.unusedSimpArgs false
mutual
def impl_Net_toward.l0 : Nat → List (S104) → Bool → Int → List (S34) → Option ((List (S104)))
 | 0, _, _, _, _ => none
 | k + 1, x5, x6, x224000, x224001 => if x6 = true then (impl_Net_toward.l1 k x5 false x224001 (x224001.length : Int) 0 x224000 x224001) else (some x5)
def impl_Net_toward.l1 : Nat → List (S104) → Bool → List (S34) → Int → Int → Int → List (S34) → Option ((List (S104)))
 | 0, _, _, _, _, _, _, _ => none
 | k + 1, x5, x6, x21, x22, x23, x224000, x224001 => if x23 < x22 then (if 0 ≤ x23 then (if x23 < (x21.length : Int) then (if 0 ≤ ((rd_T34 x21 x23).f1) then (if ((rd_T34 x21 x23).f1) < (x5.length : Int) then (if ((rd_T104 x5 ((rd_T34 x21 x23).f1)).f0) = 99999 then (impl_Net_toward.l1 k x5 x6 x21 x22 (wrap64 (x23 + 1)) x224000 x224001) else (if 0 ≤ ((rd_T34 x21 x23).f0) then (if ((rd_T34 x21 x23).f0) < (x5.length : Int) then ((impl_measure_less.f (wrap64 (((rd_T104 x5 ((rd_T34 x21 x23).f1)).f0) + ((rd_T34 x21 x23).f2))) (wrap64 (((rd_T104 x5 ((rd_T34 x21 x23).f1)).f1) + 1)) ((rd_T104 x5 ((rd_T34 x21 x23).f0)).f0) ((rd_T104 x5 ((rd_T34 x21 x23).f0)).f1)).bind fun t236 => (if t236 = true then (impl_Net_toward.l1 k (x5.set (((rd_T34 x21 x23).f0) : Int).toNat (⟨wrap64 (((rd_T104 x5 ((rd_T34 x21 x23).f1)).f0) + ((rd_T34 x21 x23).f2)), wrap64 (((rd_T104 x5 ((rd_T34 x21 x23).f1)).f1) + 1)⟩ : S104)) true x21 x22 (wrap64 (x23 + 1)) x224000 x224001) else (impl_Net_toward.l1 k x5 x6 x21 x22 (wrap64 (x23 + 1)) x224000 x224001))) else (none)) else (none))) else (none)) else (none)) else (none)) else (none)) else (impl_Net_toward.l0 k x5 x6 x224000 x224001)
end
def impl_Net_toward.f (k : Nat) (a0_0 : Int) (l0_1 : List (S34)) (a1 : Int) : Option ((List (S104))) := (impl_measure.f (([(⟨99999, 0⟩ : S104)] : List (S104))) a0_0).bind fun t227 => (if 0 ≤ a1 then (if a1 < (t227.length : Int) then (impl_Net_toward.l0 k (t227.set (a1 : Int).toNat (⟨0, 0⟩ : S104)) true a0_0 l0_1) else (none)) else (none))
set_option maxHeartbeats 8000000 in
set_option maxRecDepth 100000 in
theorem impl_Net_toward.calls (k : Nat) (a0_0 : Int) (A0_1 : Option Addr) (c0_1 : Nat) (l0_1 : List (S34)) (a1 : Int) (r : List (S104)) (w : World) (hr0_1 : Kd.C k34 w A0_1 l0_1.length l0_1) (hc0_1 : l0_1.length ≤ c0_1) (h : impl_Net_toward.f k a0_0 l0_1 a1 = some r) :
  Calls Try.prog 93 #[.agg #[.int .i64 a0_0, .slice A0_1 l0_1.length c0_1], .int .i64 a1] w fun e w' => ∃ v0_ : Value, e = .returned (v0_) ∧ Kd.R k104 104 w' w.heap.size (fun _ => True) v0_ r ∧ Below w.heap.size w w' := by
 have hu25 := Try.underlying25
 have hu104 := Try.underlying104
 have hu34 := Try.underlying34
 have HR0_1 := Aside0.mk hr0_1
 have HC0_1 := Aside0.mk hc0_1
 clear hr0_1 hc0_1
 have HB := Aside0.mk (Below.refl w.heap.size w)
 have H : ((impl_measure.f (([(⟨99999, 0⟩ : S104)] : List (S104))) a0_0).bind fun t227 => (if 0 ≤ a1 then (if a1 < (t227.length : Int) then (impl_Net_toward.l0 k (t227.set (a1 : Int).toNat (⟨0, 0⟩ : S104)) true a0_0 l0_1) else (none)) else (none))) = some r := h
 clear h
 obtain ⟨y224, hy224⟩ : ∃ y_ : List (S104), y_ = (([(⟨99999, 0⟩ : S104)] : List (S104))) := ⟨_, rfl⟩
 replace H : ((impl_measure.f y224 a0_0).bind fun t227 => (if 0 ≤ a1 then (if a1 < (t227.length : Int) then (impl_Net_toward.l0 k (t227.set (a1 : Int).toNat (⟨0, 0⟩ : S104)) true a0_0 l0_1) else (none)) else (none))) = some r := by first | (rw [hy224]; with_reducible exact H) | (have H2_ := (Option.bind_some _ _).symm.trans H; rw [hy224]; with_reducible exact H2_) | (have H2_ := (Option.bind_some _ _).symm.trans H; with_reducible exact H2_) | with_reducible exact H | (rw [hy224]; exact H) | exact H
 have Ny224 := Aside0.mk hy224
 clear hy224
 replace H := Option.bind_eq_some_iff.mp H
 obtain ⟨t227, A30, H⟩ := H
 replace H : (if 0 ≤ a1 then (if a1 < (t227.length : Int) then (impl_Net_toward.l0 k (t227.set (a1 : Int).toNat (⟨0, 0⟩ : S104)) true a0_0 l0_1) else (none)) else (none)) = some r := H
 have A3 := Aside0.mk A30
 clear A30
 by_cases c4 : 0 ≤ a1
 ·rw [if_pos c4] at H
  have c4b0 : decide (0 ≤ a1) = true := decide_eq_true c4
  clear c4
  by_cases c5 : a1 < (t227.length : Int)
  ·rw [if_pos c5] at H
   have c5b0 : decide (a1 < (t227.length : Int)) = true := decide_eq_true c5
   clear c5
   obtain ⟨y230, hy230⟩ : ∃ y_ : List (S104), y_ = (t227.set (a1 : Int).toNat (⟨0, 0⟩ : S104)) := ⟨_, rfl⟩
   replace H : (impl_Net_toward.l0 k y230 true a0_0 l0_1) = some r := by first | (rw [hy230]; with_reducible exact H) | (have H2_ := (Option.bind_some _ _).symm.trans H; rw [hy230]; with_reducible exact H2_) | (have H2_ := (Option.bind_some _ _).symm.trans H; with_reducible exact H2_) | with_reducible exact H | (rw [hy230]; exact H) | exact H
   have Ny230 := Aside0.mk hy230
   clear hy230
   have H' := Aside0.mk H
   clear H
   go_enter Try.func93, Try.ntmps93
   go_wp2_with (first | ((with_reducible refine gate_dst (N := 2) rfl ?_); refine box_event ?hg (N := 2) ?hd (cs := #[.int .i64 a0_0, .slice A0_1 l0_1.length c0_1]) (t := 25) ?hr ?_; (case hd => rfl); (case hg => rfl); (case hr => first | (go_simp; done) | (go_simp; rfl)); intro gb223 hg w7 hbox hb; have n0_ := Aside0.mk (below_step (by repeat (first | (with_reducible first | exact HB.out | apply below_alloc | apply pw_below_drewN | apply below_drew1) | exact HB.out)) hb); have n1_ := Aside0.mk (hbox); have n2_ := Aside0.mk ((by rw [hg]; exact (below_size (by repeat (first | (with_reducible first | exact HB.out | apply below_alloc | apply pw_below_drewN | apply below_drew1) | exact HB.out))) : w.heap.size ≤ gb223)); have n3_ := Aside0.mk ((by rw [hg]; exact (below_size (by repeat (first | (with_reducible first | exact HB.out | apply below_alloc | apply pw_below_drewN | apply below_drew1) | exact HB.out))) : w.heap.size ≤ gb223)); clear HB; have HB := n0_; have BK223 := n1_; have GW223 := n2_; have GE223 := n3_; clear n0_ n1_ n2_ n3_; clear hb hbox hg) | ((with_reducible refine gate_dst (N := 11) rfl ?_); refine Kd.R_lit k104 _ 104 ?hg (N := 11) ?hd (xs := ([(⟨99999, 0⟩ : S104)] : List (S104))) (inner := [.int .i64 99999, .int .i64 0]) (ok := fun _ => True) (okp := fun _ => True) ?hr ?hp (fun _ hk => hk) trivial (Below.refl _ _) (Nat.le_refl _) (by simp) ?_; (case hd => rfl); (case hg => rfl); (case hr => first | (go_simp; done) | (go_simp; rfl)); (case hp => exact (Reps.c2 (show Kd.M k104 _ _ _ (⟨99999, 0⟩ : S104) [.int .i64 99999, .int .i64 0] from (k104_mkM _ _ _ (⟨99999, 0⟩ : S104) )) (Reps.none _ _))); intro v225 w8 ho9 hb hg_ hnew_; clear hg_ hnew_; (first | rw [← Ny224.out] at ho9 | (simp only [Int.reduceToNat] at ho9; rw [← Ny224.out] at ho9)); have n0_ := Aside0.mk (Kd.R_lower ho9 (below_size (by repeat (first | (with_reducible first | exact HB.out | apply below_alloc | apply pw_below_drewN | apply below_drew1 | refine below_set ?_ GE223.out) | exact HB.out)))); have n1_ := Aside0.mk (blk_below (g := gb223) (o := .cells #[.int .i64 a0_0, .slice A0_1 l0_1.length c0_1] 25 (0, 0)) (by (with_reducible repeat (first | refine blk_drewN ?_ _ | refine blk_drew ?_ | refine blk_alloc ?_ _)); exact BK223.out) hb); have n2_ := Aside0.mk (below_step (by repeat (first | (with_reducible first | exact HB.out | apply below_alloc | apply pw_below_drewN | apply below_drew1 | refine below_set ?_ GE223.out) | exact HB.out)) hb); clear BK223; clear HB; have HO226 := n0_; have BK223 := n1_; have HB := n2_; clear n0_ n1_ n2_; clear hb ho9; have hcz10_0 : w8.cell? ⟨gb223, 0, none⟩ = some (.int .i64 a0_0) := (blk_cell BK223.out 0).trans rfl; have hcz10_1 : w8.cell? ⟨gb223, 1, none⟩ = some (.slice A0_1 l0_1.length c0_1) := (blk_cell BK223.out 1).trans rfl; have hfz10_0 := blk_frozen BK223.out 0; have hfz10_1 := blk_frozen BK223.out 1; obtain ⟨Ao11, co11, eo11⟩ := Kd.R_slice HO226.out; subst eo11) | ((with_reducible refine gate_callee (f := 126) rfl ?_); refine goesL_ (some 14) rfl rfl Try.func126 (by kernel_rfl) rfl #[.slice Ao11 y224.length co11, .int .i64 a0_0] rfl (by (try simp only [List.map_toArray, List.map_cons, List.map_nil]); first | done | rfl | (simp only [List.length_drop, List.length_take]; rfl)) ?_; (with_reducible refine (impl_measure.calls _ _ y224 a0_0 t227 _ ?side1 ?side2 A3.out).mono ?_); (case side1 => repeat (first | exact (Kd.R_reads' HO226.out).2.2 | (with_reducible refine Kd.C_alloc ?_ _) | (with_reducible refine Kd.C_drewN ?_ _) | (with_reducible refine Kd.C_drew ?_))); (case side2 => exact (Kd.R_reads' HO226.out).2.1); rintro e w12 ⟨v228, rfl, ho0, hb⟩; refine ⟨_, rfl, ?_⟩; have n0_ := Aside0.mk (Kd.R_elder' (by (with_reducible repeat (first | apply Kd.R_alloc | apply Kd.R_drewN | apply Kd.R_drew)); exact HO226.out) (Kd.R_base ho0) hb); have n1_ := Aside0.mk (Kd.R_lower (Kd.R_new' ho0 (Kd.R_lt (by (with_reducible repeat (first | apply Kd.R_alloc | apply Kd.R_drewN | apply Kd.R_drew)); exact HO226.out))) (below_size (by repeat (first | (with_reducible first | exact HB.out | apply below_alloc | apply pw_below_drewN | apply below_drew1 | refine below_set ?_ GE223.out) | exact HB.out)))); have n2_ := Aside0.mk (blk_below (g := gb223) (o := .cells #[.int .i64 a0_0, .slice A0_1 l0_1.length c0_1] 25 (0, 0)) (by (with_reducible repeat (first | refine blk_drewN ?_ _ | refine blk_drew ?_ | refine blk_alloc ?_ _)); exact BK223.out) hb); have n3_ := Aside0.mk (below_step (by repeat (first | (with_reducible first | exact HB.out | apply below_alloc | apply pw_below_drewN | apply below_drew1 | refine below_set ?_ GE223.out) | exact HB.out)) hb); clear HO226; clear BK223; clear HB; have HO226 := n0_; have HO229 := n1_; have BK223 := n2_; have HB := n3_; clear n0_ n1_ n2_ n3_; (try clear hb); (try clear hb2); (try clear hk); (try clear hi); (try clear ho0); have p6 : 0 ≤ (a1 : Int) := of_decide_eq_true (by first | (with_reducible assumption) | assumption); have q6 : (a1 : Int) < ((t227.length : Int) : Int) := of_decide_eq_true (by first | (with_reducible assumption) | assumption); obtain ⟨go6, co6, eo6, gb6, gl6, cl6, HG6⟩ := Kd.R_form HO229.out (by omega); (first | cases eo6 | (injection eo6 with ea_ en_ ec_; (first | subst ea_ | (injection ea_ with ea_; subst ea_)); subst ec_; clear en_)); have GB6 := Aside0.mk gb6; have GG6 := Aside0.mk HG6; clear gb6 gl6 HG6; obtain ⟨ce6, hcl6, hM6, hcc6, hfr6⟩ := Kd.R_elem HO229.out z104 (a1 : Int) p6 q6; obtain rfl := k104_openM hM6; have hx6_0 : w12.cell? ⟨go6, (a1 : Int).toNat * 2, none⟩ = some (.int .i64 ((rd_T104 t227 a1).f0)) := hcc6 0 _ rfl; have hx6_1 : w12.cell? ⟨go6, (a1 : Int).toNat * 2 + 1, none⟩ = some (.int .i64 ((rd_T104 t227 a1).f1)) := hcc6 1 _ rfl; have hf6_0 : w12.frozen? ⟨go6, (a1 : Int).toNat * 2, none⟩ = false := hfr6 0; have hf6_1 : w12.frozen? ⟨go6, (a1 : Int).toNat * 2 + 1, none⟩ = false := hfr6 1; clear hcl6 hcc6 hfr6; (try clear hM6); replace p6 := eq_true p6; replace q6 := eq_true q6; have n_ := Aside0.mk (Kd.R_mono (ok' := (fun k_ => some k_ ≠ (.slice Ao11 y224.length co11 : Value).ownBlock)) HO229.out (fun k_ hk => hk.2)); clear HO229; have HO229 := n_; clear n_; have HX13 := Aside0.mk (show Kd.R k104 104 w12 w.heap.size (fun k_ => some k_ ≠ (.slice Ao11 y224.length co11 : Value).ownBlock) (.slice (some ⟨go6, 0, none⟩) t227.length co6) t227 from (by (with_reducible repeat (first | apply Kd.R_alloc | apply Kd.R_drewN | apply Kd.R_drew)); exact HO229.out)); obtain ⟨ce13, hcl13, hM13, hcc13, hfr13⟩ := Kd.R_elem HX13.out z104 (a1 : Int) (of_decide_eq_true (by first | (with_reducible assumption) | assumption)) (by have h_ : (a1 : Int) < ((t227.length : Int) : Int) := of_decide_eq_true (by first | (with_reducible assumption) | assumption); first | exact h_ | (have e_ := (Kd.R_reads' HO229.out).1; omega) | simpa using h_); obtain rfl := k104_openM hM13; have HP13 := Kd.R_seg HX13.out (a1 : Int) (of_decide_eq_true (by first | (with_reducible assumption) | assumption)) (by have h_ : (a1 : Int) < ((t227.length : Int) : Int) := of_decide_eq_true (by first | (with_reducible assumption) | assumption); first | exact h_ | (have e_ := (Kd.R_reads' HO229.out).1; omega) | simpa using h_) (seg := [.int .i64 0, .int .i64 0]) (j := 0) hcl13 hcc13 (show 2 ≤ 2 from by decide) (x' := (⟨0, 0⟩ : S104)) (k104_mkM _ _ _ (⟨0, 0⟩ : S104) ) (fun _ hk => hk); have hx13_0 := hcc13 0 _ rfl; (try simp only [show (k104).sz = 2 from rfl, Nat.mul_one, Nat.add_zero] at hx13_0); have hf13_0 := hfr13 0; (try simp only [show (k104).sz = 2 from rfl, Nat.mul_one, Nat.add_zero] at hf13_0); have hx13_1 := hcc13 1 _ rfl; (try simp only [show (k104).sz = 2 from rfl, Nat.mul_one, Nat.add_zero] at hx13_1); have hf13_1 := hfr13 1; (try simp only [show (k104).sz = 2 from rfl, Nat.mul_one, Nat.add_zero] at hf13_1); clear hcl13 hcc13 hfr13; (try clear hM13)) | ((with_reducible refine gate_store (t := 104) (p := 18) rfl ?_); refine store_event (t := 104) (p := 18) (v := ?vo_w14) (w1 := ((w12.setCell ⟨go6, (a1 : Int).toNat * 2, none⟩ (.int .i64 0)).setCell ⟨go6, (a1 : Int).toNat * 2 + 1, none⟩ (.int .i64 0))) ?hg ?ho ?hn ?hr ?_; (case ho => rfl); (case hg => rfl); (case hn => rfl); (case hr => first | (go_simp; done) | (go_simp; rfl)); intro w14 hw; have hg : w12.grownBy w14 (some go6) := (by rw [hw]; exact HP13.2); have hp_ : Kd.R k104 104 w14 w.heap.size (fun k_ => some k_ ≠ (.slice Ao11 y224.length co11 : Value).ownBlock) (.slice (some ⟨go6, 0, none⟩) t227.length co6) y230 := (by rw [hw, Ny230.out]; exact HP13.1); clear HP13; have n0_ := Aside0.mk (blk_grown (g := gb223) (o := .cells #[.int .i64 a0_0, .slice A0_1 l0_1.length c0_1] 25 (0, 0)) (by (with_reducible repeat (first | refine blk_drewN ?_ _ | refine blk_drew ?_ | refine blk_alloc ?_ _)); exact BK223.out) hg (Kd.R_ne HO229.out BK223.out (by decide))); have n1_ := Aside0.mk (Kd.R_after (v := (.slice (some ⟨go6, 0, none⟩) t227.length co6)) (v1 := (.slice (some ⟨go6, 0, none⟩) t227.length co6)) (ok := (fun _ => True)) (by (with_reducible repeat (first | apply Kd.R_alloc | apply Kd.R_drewN | apply Kd.R_drew)); exact HO226.out) hg (.inl rfl)); have n2_ := Aside0.mk (hp_); have n3_ := Aside0.mk ((by rw [hw]; exact below_set (below_set (HB.out) GB6.out) GB6.out : Below w.heap.size w w14)); clear BK223; clear HO226; clear HO229; clear HB; have BK223 := n0_; have HO226 := n1_; have HO229 := n2_; have HB := n3_; clear n0_ n1_ n2_ n3_; clear hg hw hp_))
   go_loopg [6] k (fun kq v6 w' => ∃ (x5_1 : List (S104)) (x6_1 : Bool), v6 = .bool x6_1 ∧ Aside0 (impl_Net_toward.l0 kq x5_1 x6_1 a0_0 l0_1 = some r) ∧ Aside0 (kq ≤ k) ∧ Aside0 (Kd.R k104 104 w' w.heap.size (fun _ => True) (.slice (some ⟨go6, 0, none⟩) t227.length co6) x5_1) ∧ Aside0 (w'.heap[gb223]? = some (.cells #[.int .i64 a0_0, (.slice A0_1 l0_1.length c0_1)] 25 (0, 0))) ∧ Aside0 (Below w.heap.size w w'))
   case atStart => exact ⟨(y230), (true), (by first | rfl | (simp; done) | (simp [*]; done)), H', ⟨Nat.le_refl _⟩, ⟨by (with_reducible repeat (first | apply Kd.R_alloc | apply Kd.R_drewN | apply Kd.R_drew)); exact Kd.R_mono HO229.out (fun _ hk => trivial)⟩, ⟨by (with_reducible repeat (first | refine blk_drewN ?_ _ | refine blk_drew ?_ | refine blk_alloc ?_ _)); exact BK223.out⟩, ⟨by repeat (first | (with_reducible first | exact HB.out | apply below_alloc | apply pw_below_drewN | apply below_drew1 | refine below_set ?_ GE223.out) | exact HB.out)⟩⟩
   case round =>
    clear H'
    try clear c1
    try clear hx1
    try clear c2
    try clear p2
    try clear c4
    try clear c4b0
    try clear c5
    try clear c5b0
    try clear c6
    try clear p6
    try clear q6
    try clear hx6
    try clear hf6
    try clear c9
    try clear c12
    try clear c13
    try clear hx13
    try clear hf13
    try clear hcz10_0
    try clear hcz10_1
    try clear hfz10_0
    try clear hfz10_1
    try clear hx13_0
    try clear hx13_1
    try clear hx6_0
    try clear hx6_1
    try clear p6
    try clear q6
    obtain ⟨x5_1, x6_1, rfl, HA, HK1, HO_5, BK223, HB⟩ := hrel
    have hl5_1 := (Kd.R_reads' HO_5.out).1
    rw [hl5_1] at HO_5
    (try simp only [hl5_1])
    (try simp only [hl5_1] at BK223)
    cases gk with
    | zero => exact absurd HA.out (by simp [impl_Net_toward.l0])
    | succ k1 =>
     have H := HA.out
     clear HA
     simp only [impl_Net_toward.l0] at H
     by_cases c15 : x6_1 = true
     ·subst c15
      have H1 : (impl_Net_toward.l1 k1 x5_1 false l0_1 (l0_1.length : Int) 0 a0_0 l0_1) = some r := by rw [if_pos rfl] at H; exact H
      clear H
      have H := H1
      clear H1
      have H' := Aside0.mk H
      clear H
      have hcz16_0 : wr.cell? ⟨gb223, 0, none⟩ = some (.int .i64 a0_0) := (blk_cell BK223.out 0).trans rfl
      have hcz16_1 : wr.cell? ⟨gb223, 1, none⟩ = some (.slice A0_1 l0_1.length c0_1) := (blk_cell BK223.out 1).trans rfl
      have hfz16_0 := blk_frozen BK223.out 0
      have hfz16_1 := blk_frozen BK223.out 1
      go_wp2
      go_loopg [6, 23] k1 (fun kq v6 v23 w' => ∃ (x5_2 : List (S104)) (x6_2 : Bool) (x23_2 : Int), v6 = .bool x6_2 ∧ v23 = .int .i64 x23_2 ∧ Aside0 (impl_Net_toward.l1 kq x5_2 x6_2 l0_1 (l0_1.length : Int) x23_2 a0_0 l0_1 = some r) ∧ Aside0 (kq ≤ k1) ∧ Aside0 (Kd.R k104 104 w' w.heap.size (fun _ => True) (.slice (some ⟨go6, 0, none⟩) x5_1.length co6) x5_2) ∧ Aside0 (w'.heap[gb223]? = some (.cells #[.int .i64 a0_0, (.slice A0_1 l0_1.length c0_1)] 25 (0, 0))) ∧ Aside0 (Below w.heap.size w w'))
      case atStart => exact ⟨(x5_1), (false), (0), (by first | rfl | (simp; done) | (simp [*]; done)), (by first | rfl | (simp; done) | (simp [*]; done)), H', ⟨Nat.le_refl _⟩, ⟨by (try simp only [hl5_1]); (with_reducible repeat (first | apply Kd.R_alloc | apply Kd.R_drewN | apply Kd.R_drew)); exact HO_5.out⟩, ⟨by (try simp only [hl5_1]); (with_reducible repeat (first | refine blk_drewN ?_ _ | refine blk_drew ?_ | refine blk_alloc ?_ _)); exact BK223.out⟩, ⟨by repeat (first | (with_reducible first | exact HB.out | apply below_alloc | apply pw_below_drewN | apply below_drew1 | refine below_set ?_ GE223.out) | exact HB.out)⟩⟩
      case round =>
       clear H'
       try clear c1
       try clear hx1
       try clear c2
       try clear p2
       try clear c4
       try clear c4b0
       try clear c5
       try clear c5b0
       try clear c6
       try clear p6
       try clear q6
       try clear hx6
       try clear hf6
       try clear c9
       try clear c12
       try clear c13
       try clear hx13
       try clear hf13
       try clear c15
       try clear hcz10_0
       try clear hcz10_1
       try clear hcz16_0
       try clear hcz16_1
       try clear hfz10_0
       try clear hfz10_1
       try clear hfz16_0
       try clear hfz16_1
       try clear hx13_0
       try clear hx13_1
       try clear hx6_0
       try clear hx6_1
       try clear p2
       try clear p6
       try clear q6
       obtain ⟨x5_2, x6_2, x23_2, rfl, rfl, HA, HK2, HO_5, BK223, HB⟩ := hrel
       have hl5_2 := (Kd.R_reads' HO_5.out).1
       rw [hl5_2] at HO_5
       (try simp only [hl5_2])
       (try simp only [hl5_2] at BK223)
       cases gk with
       | zero => exact absurd HA.out (by simp [impl_Net_toward.l1])
       | succ k2 =>
        have H := HA.out
        clear HA
        simp only [impl_Net_toward.l1] at H
        by_cases c17 : x23_2 < (l0_1.length : Int)
        ·rw [if_pos c17] at H
         have c17b0 : decide (x23_2 < (l0_1.length : Int)) = true := decide_eq_true c17
         clear c17
         by_cases c18 : 0 ≤ x23_2
         ·rw [if_pos c18] at H
          have c18b0 : decide (0 ≤ x23_2) = true := decide_eq_true c18
          clear c18
          by_cases c19 : x23_2 < (l0_1.length : Int)
          ·rw [if_pos c19] at H
           have c19b0 : decide (x23_2 < (l0_1.length : Int)) = true := decide_eq_true c19
           clear c19
           by_cases c20 : 0 ≤ ((rd_T34 l0_1 x23_2).f1)
           ·rw [if_pos c20] at H
            have c20b0 : decide (0 ≤ ((rd_T34 l0_1 x23_2).f1)) = true := decide_eq_true c20
            clear c20
            by_cases c21 : ((rd_T34 l0_1 x23_2).f1) < (x5_2.length : Int)
            ·rw [if_pos c21] at H
             have c21b0 : decide (((rd_T34 l0_1 x23_2).f1) < (x5_2.length : Int)) = true := decide_eq_true c21
             clear c21
             by_cases c22 : ((rd_T104 x5_2 ((rd_T34 l0_1 x23_2).f1)).f0) = 99999
             ·rw [if_pos c22] at H
              have c22b0 : (((rd_T104 x5_2 ((rd_T34 l0_1 x23_2).f1)).f0) == 99999) = true := beq_iff_eq.mpr c22
              have c22b1 : (((rd_T104 x5_2 ((rd_T34 l0_1 x23_2).f1)).f0) != 99999) = false := bne_eq_false_iff_eq.mpr c22
              clear c22
              have H' := Aside0.mk H
              clear H
              have p231 : 0 ≤ (x23_2 : Int) := of_decide_eq_true (by first | (with_reducible assumption) | assumption)
              have q231 : x23_2 < (l0_1.length : Int) := of_decide_eq_true (by first | (with_reducible assumption) | assumption)
              obtain ⟨ad231, e231, hx231_0, hx231_1, hx231_2, hx231_3, hx231_4⟩ := at_T34 HR0_1.out x23_2 p231 q231
              cases e231
              replace hx231_0 := (HB.out.cell (World.block_lt_of_cell? w _ hx231_0)).trans hx231_0
              replace hx231_1 := (HB.out.cell (World.block_lt_of_cell? w _ hx231_1)).trans hx231_1
              replace hx231_2 := (HB.out.cell (World.block_lt_of_cell? w _ hx231_2)).trans hx231_2
              replace hx231_3 := (HB.out.cell (World.block_lt_of_cell? w _ hx231_3)).trans hx231_3
              replace hx231_4 := (HB.out.cell (World.block_lt_of_cell? w _ hx231_4)).trans hx231_4
              replace p231 := eq_true p231
              replace q231 := eq_true q231
              go_wp2_with (first | ((with_reducible refine gate_dst (N := 8) rfl ?_); refine box_event ?hg (N := 8) ?hd (cs := #[.int .i64 0, .int .i64 0, .int .i64 0, .int .i64 0, .int .i64 0]) (t := 34) ?hr ?_; (case hd => rfl); (case hg => rfl); (case hr => first | (go_simp; done) | (go_simp; rfl)); intro gb232 hg w23 hbox hb; have n0_ := Aside0.mk (Kd.R_below (by (with_reducible repeat (first | apply Kd.R_alloc | apply Kd.R_drewN | apply Kd.R_drew)); exact HO_5.out) hb); have n1_ := Aside0.mk (blk_below (g := gb223) (o := .cells #[.int .i64 a0_0, .slice (some ad231) l0_1.length c0_1] 25 (0, 0)) (by (with_reducible repeat (first | refine blk_drewN ?_ _ | refine blk_drew ?_ | refine blk_alloc ?_ _)); exact BK223.out) hb); have n2_ := Aside0.mk (below_step (by repeat (first | (with_reducible first | exact HB.out | apply below_alloc | apply pw_below_drewN | apply below_drew1 | refine below_set ?_ GE223.out) | exact HB.out)) hb); have n3_ := Aside0.mk (hbox); have n4_ := Aside0.mk ((by rw [hg]; exact (below_size (by repeat (first | (with_reducible first | exact HB.out | apply below_alloc | apply pw_below_drewN | apply below_drew1 | refine below_set ?_ GE223.out) | exact HB.out))) : w.heap.size ≤ gb232)); have n5_ := Aside0.mk ((by rw [hg]; exact (below_size (by repeat (first | (with_reducible first | exact HB.out | apply below_alloc | apply pw_below_drewN | apply below_drew1 | refine below_set ?_ GE223.out) | exact HB.out))) : w.heap.size ≤ gb232)); have n6_ := Aside0.mk ((by rw [hg]; exact Nat.ne_of_lt (blk_lt (g := gb223) (o := .cells #[.int .i64 a0_0, .slice (some ad231) l0_1.length c0_1] 25 (0, 0)) (by (with_reducible repeat (first | refine blk_drewN ?_ _ | refine blk_drew ?_ | refine blk_alloc ?_ _)); exact BK223.out)) : gb223 ≠ gb232)); have n7_ := Aside0.mk ((by rw [hg]; exact Nat.ne_of_gt (blk_lt (g := gb223) (o := .cells #[.int .i64 a0_0, .slice (some ad231) l0_1.length c0_1] 25 (0, 0)) (by (with_reducible repeat (first | refine blk_drewN ?_ _ | refine blk_drew ?_ | refine blk_alloc ?_ _)); exact BK223.out)) : gb232 ≠ gb223)); clear HO_5; clear BK223; clear HB; have HO_5 := n0_; have BK223 := n1_; have HB := n2_; have BK232 := n3_; have GW232 := n4_; have GE232 := n5_; have NB223_232 := n6_; have NB232_223 := n7_; clear n0_ n1_ n2_ n3_ n4_ n5_ n6_ n7_; clear hb hbox hg; have hnb24 := NB232_223.out; have hnc24 := NB223_232.out; have hcz25_0 : w23.cell? ⟨gb232, 0, none⟩ = some (.int .i64 0) := (blk_cell BK232.out 0).trans rfl; have hcz25_1 : w23.cell? ⟨gb232, 1, none⟩ = some (.int .i64 0) := (blk_cell BK232.out 1).trans rfl; have hcz25_2 : w23.cell? ⟨gb232, 2, none⟩ = some (.int .i64 0) := (blk_cell BK232.out 2).trans rfl; have hcz25_3 : w23.cell? ⟨gb232, 3, none⟩ = some (.int .i64 0) := (blk_cell BK232.out 3).trans rfl; have hcz25_4 : w23.cell? ⟨gb232, 4, none⟩ = some (.int .i64 0) := (blk_cell BK232.out 4).trans rfl; have hfz25_0 := blk_frozen BK232.out 0; have hfz25_1 := blk_frozen BK232.out 1; have hfz25_2 := blk_frozen BK232.out 2; have hfz25_3 := blk_frozen BK232.out 3; have hfz25_4 := blk_frozen BK232.out 4; have p233 : 0 ≤ (((rd_T34 l0_1 x23_2).f1) : Int) := of_decide_eq_true (by first | (with_reducible assumption) | assumption); have q233 : ((rd_T34 l0_1 x23_2).f1) < (x5_2.length : Int) := of_decide_eq_true (by first | (with_reducible assumption) | assumption); obtain ⟨ad233, e233, hx233_0, hx233_1⟩ := at_T104 (Kd.R_reads' HO_5.out).2.2 ((rd_T34 l0_1 x23_2).f1) p233 q233; obtain rfl : (⟨go6, 0, none⟩ : Addr) = ad233 := (by injection e233); (first | simp only [add_plain] at hx233_0 | simp only [add_at] at hx233_0 | simp only [Addr.add, Nat.zero_add] at hx233_0 | skip); (first | simp only [add_plain] at hx233_1 | simp only [add_at] at hx233_1 | simp only [Addr.add, Nat.zero_add] at hx233_1 | skip); have hn233_0 : (⟨go6, 0, none⟩ : Addr).block ≠ gb232 := Kd.own_blk (Kd.R_ne HO_5.out BK232.out (by decide)); have hn233_1 : (⟨go6, 0, none⟩ : Addr).block ≠ gb232 := Kd.own_blk (Kd.R_ne HO_5.out BK232.out (by decide)); have hn233_2 : (⟨go6, 0, none⟩ : Addr).block ≠ gb232 := Kd.own_blk (Kd.R_ne HO_5.out BK232.out (by decide)); have hn233_3 : (⟨go6, 0, none⟩ : Addr).block ≠ gb232 := Kd.own_blk (Kd.R_ne HO_5.out BK232.out (by decide)); have hn233_4 : (⟨go6, 0, none⟩ : Addr).block ≠ gb232 := Kd.own_blk (Kd.R_ne HO_5.out BK232.out (by decide)); replace hx233_0 := (cell_far (p := ⟨gb232, 0, none⟩) (by first | (rw [add_block]; exact hn233_0) | (show (Addr.add _ _).block ≠ _; rw [add_block]; exact hn233_0) | exact hn233_0) (.int .i64 ((rd_T34 l0_1 x23_2).f0))).trans hx233_0; replace hx233_1 := (cell_far (p := ⟨gb232, 0, none⟩) (by first | (rw [add_block]; exact hn233_0) | (show (Addr.add _ _).block ≠ _; rw [add_block]; exact hn233_0) | exact hn233_0) (.int .i64 ((rd_T34 l0_1 x23_2).f0))).trans hx233_1; replace hx233_0 := (cell_far (p := ⟨gb232, 1, none⟩) (by first | (rw [add_block]; exact hn233_1) | (show (Addr.add _ _).block ≠ _; rw [add_block]; exact hn233_1) | exact hn233_1) (.int .i64 ((rd_T34 l0_1 x23_2).f1))).trans hx233_0; replace hx233_1 := (cell_far (p := ⟨gb232, 1, none⟩) (by first | (rw [add_block]; exact hn233_1) | (show (Addr.add _ _).block ≠ _; rw [add_block]; exact hn233_1) | exact hn233_1) (.int .i64 ((rd_T34 l0_1 x23_2).f1))).trans hx233_1; replace hx233_0 := (cell_far (p := ⟨gb232, 2, none⟩) (by first | (rw [add_block]; exact hn233_2) | (show (Addr.add _ _).block ≠ _; rw [add_block]; exact hn233_2) | exact hn233_2) (.int .i64 ((rd_T34 l0_1 x23_2).f2))).trans hx233_0; replace hx233_1 := (cell_far (p := ⟨gb232, 2, none⟩) (by first | (rw [add_block]; exact hn233_2) | (show (Addr.add _ _).block ≠ _; rw [add_block]; exact hn233_2) | exact hn233_2) (.int .i64 ((rd_T34 l0_1 x23_2).f2))).trans hx233_1; replace hx233_0 := (cell_far (p := ⟨gb232, 3, none⟩) (by first | (rw [add_block]; exact hn233_3) | (show (Addr.add _ _).block ≠ _; rw [add_block]; exact hn233_3) | exact hn233_3) (.int .i64 ((rd_T34 l0_1 x23_2).f3))).trans hx233_0; replace hx233_1 := (cell_far (p := ⟨gb232, 3, none⟩) (by first | (rw [add_block]; exact hn233_3) | (show (Addr.add _ _).block ≠ _; rw [add_block]; exact hn233_3) | exact hn233_3) (.int .i64 ((rd_T34 l0_1 x23_2).f3))).trans hx233_1; replace hx233_0 := (cell_far (p := ⟨gb232, 4, none⟩) (by first | (rw [add_block]; exact hn233_4) | (show (Addr.add _ _).block ≠ _; rw [add_block]; exact hn233_4) | exact hn233_4) (.int .i64 ((rd_T34 l0_1 x23_2).f4))).trans hx233_0; replace hx233_1 := (cell_far (p := ⟨gb232, 4, none⟩) (by first | (rw [add_block]; exact hn233_4) | (show (Addr.add _ _).block ≠ _; rw [add_block]; exact hn233_4) | exact hn233_4) (.int .i64 ((rd_T34 l0_1 x23_2).f4))).trans hx233_1; clear hn233_0; clear hn233_1; clear hn233_2; clear hn233_3; clear hn233_4; replace p233 := eq_true p233; replace q233 := eq_true q233) | ((with_reducible refine gate_dst (N := 9) rfl ?_); refine box_event ?hg (N := 9) ?hd (cs := #[.int .i64 0, .int .i64 0]) (t := 104) ?hr ?_; (case hd => rfl); (case hg => rfl); (case hr => first | (go_simp; done) | (go_simp; rfl)); intro gb234 hg w26 hbox hb; have n0_ := Aside0.mk (Kd.R_below (Kd.R_elderB (by (with_reducible repeat (first | apply Kd.R_alloc | apply Kd.R_drewN | apply Kd.R_drew)); exact (Kd.R_mono (Kd.R_far (p := ⟨gb232, 4, none⟩) (Kd.R_far (p := ⟨gb232, 3, none⟩) (Kd.R_far (p := ⟨gb232, 2, none⟩) (Kd.R_far (p := ⟨gb232, 1, none⟩) (Kd.R_far (p := ⟨gb232, 0, none⟩) (Kd.R_types HO_5.out BK232.out (by decide)) (fun _ hk => hk.2) (.int .i64 ((rd_T34 l0_1 x23_2).f0))) (fun _ hk => hk.2) (.int .i64 ((rd_T34 l0_1 x23_2).f1))) (fun _ hk => hk.2) (.int .i64 ((rd_T34 l0_1 x23_2).f2))) (fun _ hk => hk.2) (.int .i64 ((rd_T34 l0_1 x23_2).f3))) (fun _ hk => hk.2) (.int .i64 ((rd_T34 l0_1 x23_2).f4))) (fun _ h_ => h_.1))) gb234 (Nat.le_of_eq hg.symm)) hb); have n1_ := Aside0.mk (blk_below (g := gb223) (o := .cells #[.int .i64 a0_0, .slice (some ad231) l0_1.length c0_1] 25 (0, 0)) (by (with_reducible repeat (first | refine blk_drewN ?_ _ | refine blk_drew ?_ | refine blk_alloc ?_ _)); refine blk_far ?_ NB223_232.out _; (with_reducible repeat (first | refine blk_drewN ?_ _ | refine blk_drew ?_ | refine blk_alloc ?_ _)); refine blk_far ?_ NB223_232.out _; (with_reducible repeat (first | refine blk_drewN ?_ _ | refine blk_drew ?_ | refine blk_alloc ?_ _)); refine blk_far ?_ NB223_232.out _; (with_reducible repeat (first | refine blk_drewN ?_ _ | refine blk_drew ?_ | refine blk_alloc ?_ _)); refine blk_far ?_ NB223_232.out _; (with_reducible repeat (first | refine blk_drewN ?_ _ | refine blk_drew ?_ | refine blk_alloc ?_ _)); refine blk_far ?_ NB223_232.out _; (with_reducible repeat (first | refine blk_drewN ?_ _ | refine blk_drew ?_ | refine blk_alloc ?_ _)); exact BK223.out) hb); have n2_ := Aside0.mk (blk_below (g := gb232) (o := .cells #[.int .i64 ((rd_T34 l0_1 x23_2).f0), .int .i64 ((rd_T34 l0_1 x23_2).f1), .int .i64 ((rd_T34 l0_1 x23_2).f2), .int .i64 ((rd_T34 l0_1 x23_2).f3), .int .i64 ((rd_T34 l0_1 x23_2).f4)] 34 (0, 0)) (by (with_reducible repeat (first | refine blk_drewN ?_ _ | refine blk_drew ?_ | refine blk_alloc ?_ _)); refine blk_put (cs := #[.int .i64 ((rd_T34 l0_1 x23_2).f0), .int .i64 ((rd_T34 l0_1 x23_2).f1), .int .i64 ((rd_T34 l0_1 x23_2).f2), .int .i64 ((rd_T34 l0_1 x23_2).f3), .int .i64 0]) ?_ 4 _ rfl; (with_reducible repeat (first | refine blk_drewN ?_ _ | refine blk_drew ?_ | refine blk_alloc ?_ _)); refine blk_put (cs := #[.int .i64 ((rd_T34 l0_1 x23_2).f0), .int .i64 ((rd_T34 l0_1 x23_2).f1), .int .i64 ((rd_T34 l0_1 x23_2).f2), .int .i64 0, .int .i64 0]) ?_ 3 _ rfl; (with_reducible repeat (first | refine blk_drewN ?_ _ | refine blk_drew ?_ | refine blk_alloc ?_ _)); refine blk_put (cs := #[.int .i64 ((rd_T34 l0_1 x23_2).f0), .int .i64 ((rd_T34 l0_1 x23_2).f1), .int .i64 0, .int .i64 0, .int .i64 0]) ?_ 2 _ rfl; (with_reducible repeat (first | refine blk_drewN ?_ _ | refine blk_drew ?_ | refine blk_alloc ?_ _)); refine blk_put (cs := #[.int .i64 ((rd_T34 l0_1 x23_2).f0), .int .i64 0, .int .i64 0, .int .i64 0, .int .i64 0]) ?_ 1 _ rfl; (with_reducible repeat (first | refine blk_drewN ?_ _ | refine blk_drew ?_ | refine blk_alloc ?_ _)); refine blk_put (cs := #[.int .i64 0, .int .i64 0, .int .i64 0, .int .i64 0, .int .i64 0]) ?_ 0 _ rfl; (with_reducible repeat (first | refine blk_drewN ?_ _ | refine blk_drew ?_ | refine blk_alloc ?_ _)); exact BK232.out) hb); have n3_ := Aside0.mk (below_step (by repeat (first | (with_reducible first | exact HB.out | apply below_alloc | apply pw_below_drewN | apply below_drew1 | refine below_set ?_ GE223.out | refine below_set ?_ GE232.out) | exact HB.out)) hb); have n4_ := Aside0.mk (hbox); have n5_ := Aside0.mk ((by rw [hg]; exact (below_size (by repeat (first | (with_reducible first | exact HB.out | apply below_alloc | apply pw_below_drewN | apply below_drew1 | refine below_set ?_ GE223.out | refine below_set ?_ GE232.out) | exact HB.out))) : w.heap.size ≤ gb234)); have n6_ := Aside0.mk ((by rw [hg]; exact (below_size (by repeat (first | (with_reducible first | exact HB.out | apply below_alloc | apply pw_below_drewN | apply below_drew1 | refine below_set ?_ GE223.out | refine below_set ?_ GE232.out) | exact HB.out))) : w.heap.size ≤ gb234)); have n7_ := Aside0.mk ((by rw [hg]; exact Nat.ne_of_lt (blk_lt (g := gb223) (o := .cells #[.int .i64 a0_0, .slice (some ad231) l0_1.length c0_1] 25 (0, 0)) (by (with_reducible repeat (first | refine blk_drewN ?_ _ | refine blk_drew ?_ | refine blk_alloc ?_ _)); refine blk_far ?_ NB223_232.out _; (with_reducible repeat (first | refine blk_drewN ?_ _ | refine blk_drew ?_ | refine blk_alloc ?_ _)); refine blk_far ?_ NB223_232.out _; (with_reducible repeat (first | refine blk_drewN ?_ _ | refine blk_drew ?_ | refine blk_alloc ?_ _)); refine blk_far ?_ NB223_232.out _; (with_reducible repeat (first | refine blk_drewN ?_ _ | refine blk_drew ?_ | refine blk_alloc ?_ _)); refine blk_far ?_ NB223_232.out _; (with_reducible repeat (first | refine blk_drewN ?_ _ | refine blk_drew ?_ | refine blk_alloc ?_ _)); refine blk_far ?_ NB223_232.out _; (with_reducible repeat (first | refine blk_drewN ?_ _ | refine blk_drew ?_ | refine blk_alloc ?_ _)); exact BK223.out)) : gb223 ≠ gb234)); have n8_ := Aside0.mk ((by rw [hg]; exact Nat.ne_of_gt (blk_lt (g := gb223) (o := .cells #[.int .i64 a0_0, .slice (some ad231) l0_1.length c0_1] 25 (0, 0)) (by (with_reducible repeat (first | refine blk_drewN ?_ _ | refine blk_drew ?_ | refine blk_alloc ?_ _)); refine blk_far ?_ NB223_232.out _; (with_reducible repeat (first | refine blk_drewN ?_ _ | refine blk_drew ?_ | refine blk_alloc ?_ _)); refine blk_far ?_ NB223_232.out _; (with_reducible repeat (first | refine blk_drewN ?_ _ | refine blk_drew ?_ | refine blk_alloc ?_ _)); refine blk_far ?_ NB223_232.out _; (with_reducible repeat (first | refine blk_drewN ?_ _ | refine blk_drew ?_ | refine blk_alloc ?_ _)); refine blk_far ?_ NB223_232.out _; (with_reducible repeat (first | refine blk_drewN ?_ _ | refine blk_drew ?_ | refine blk_alloc ?_ _)); refine blk_far ?_ NB223_232.out _; (with_reducible repeat (first | refine blk_drewN ?_ _ | refine blk_drew ?_ | refine blk_alloc ?_ _)); exact BK223.out)) : gb234 ≠ gb223)); have n9_ := Aside0.mk ((by rw [hg]; exact Nat.ne_of_lt (blk_lt (g := gb232) (o := .cells #[.int .i64 ((rd_T34 l0_1 x23_2).f0), .int .i64 ((rd_T34 l0_1 x23_2).f1), .int .i64 ((rd_T34 l0_1 x23_2).f2), .int .i64 ((rd_T34 l0_1 x23_2).f3), .int .i64 ((rd_T34 l0_1 x23_2).f4)] 34 (0, 0)) (by (with_reducible repeat (first | refine blk_drewN ?_ _ | refine blk_drew ?_ | refine blk_alloc ?_ _)); refine blk_put (cs := #[.int .i64 ((rd_T34 l0_1 x23_2).f0), .int .i64 ((rd_T34 l0_1 x23_2).f1), .int .i64 ((rd_T34 l0_1 x23_2).f2), .int .i64 ((rd_T34 l0_1 x23_2).f3), .int .i64 0]) ?_ 4 _ rfl; (with_reducible repeat (first | refine blk_drewN ?_ _ | refine blk_drew ?_ | refine blk_alloc ?_ _)); refine blk_put (cs := #[.int .i64 ((rd_T34 l0_1 x23_2).f0), .int .i64 ((rd_T34 l0_1 x23_2).f1), .int .i64 ((rd_T34 l0_1 x23_2).f2), .int .i64 0, .int .i64 0]) ?_ 3 _ rfl; (with_reducible repeat (first | refine blk_drewN ?_ _ | refine blk_drew ?_ | refine blk_alloc ?_ _)); refine blk_put (cs := #[.int .i64 ((rd_T34 l0_1 x23_2).f0), .int .i64 ((rd_T34 l0_1 x23_2).f1), .int .i64 0, .int .i64 0, .int .i64 0]) ?_ 2 _ rfl; (with_reducible repeat (first | refine blk_drewN ?_ _ | refine blk_drew ?_ | refine blk_alloc ?_ _)); refine blk_put (cs := #[.int .i64 ((rd_T34 l0_1 x23_2).f0), .int .i64 0, .int .i64 0, .int .i64 0, .int .i64 0]) ?_ 1 _ rfl; (with_reducible repeat (first | refine blk_drewN ?_ _ | refine blk_drew ?_ | refine blk_alloc ?_ _)); refine blk_put (cs := #[.int .i64 0, .int .i64 0, .int .i64 0, .int .i64 0, .int .i64 0]) ?_ 0 _ rfl; (with_reducible repeat (first | refine blk_drewN ?_ _ | refine blk_drew ?_ | refine blk_alloc ?_ _)); exact BK232.out)) : gb232 ≠ gb234)); have n10_ := Aside0.mk ((by rw [hg]; exact Nat.ne_of_gt (blk_lt (g := gb232) (o := .cells #[.int .i64 ((rd_T34 l0_1 x23_2).f0), .int .i64 ((rd_T34 l0_1 x23_2).f1), .int .i64 ((rd_T34 l0_1 x23_2).f2), .int .i64 ((rd_T34 l0_1 x23_2).f3), .int .i64 ((rd_T34 l0_1 x23_2).f4)] 34 (0, 0)) (by (with_reducible repeat (first | refine blk_drewN ?_ _ | refine blk_drew ?_ | refine blk_alloc ?_ _)); refine blk_put (cs := #[.int .i64 ((rd_T34 l0_1 x23_2).f0), .int .i64 ((rd_T34 l0_1 x23_2).f1), .int .i64 ((rd_T34 l0_1 x23_2).f2), .int .i64 ((rd_T34 l0_1 x23_2).f3), .int .i64 0]) ?_ 4 _ rfl; (with_reducible repeat (first | refine blk_drewN ?_ _ | refine blk_drew ?_ | refine blk_alloc ?_ _)); refine blk_put (cs := #[.int .i64 ((rd_T34 l0_1 x23_2).f0), .int .i64 ((rd_T34 l0_1 x23_2).f1), .int .i64 ((rd_T34 l0_1 x23_2).f2), .int .i64 0, .int .i64 0]) ?_ 3 _ rfl; (with_reducible repeat (first | refine blk_drewN ?_ _ | refine blk_drew ?_ | refine blk_alloc ?_ _)); refine blk_put (cs := #[.int .i64 ((rd_T34 l0_1 x23_2).f0), .int .i64 ((rd_T34 l0_1 x23_2).f1), .int .i64 0, .int .i64 0, .int .i64 0]) ?_ 2 _ rfl; (with_reducible repeat (first | refine blk_drewN ?_ _ | refine blk_drew ?_ | refine blk_alloc ?_ _)); refine blk_put (cs := #[.int .i64 ((rd_T34 l0_1 x23_2).f0), .int .i64 0, .int .i64 0, .int .i64 0, .int .i64 0]) ?_ 1 _ rfl; (with_reducible repeat (first | refine blk_drewN ?_ _ | refine blk_drew ?_ | refine blk_alloc ?_ _)); refine blk_put (cs := #[.int .i64 0, .int .i64 0, .int .i64 0, .int .i64 0, .int .i64 0]) ?_ 0 _ rfl; (with_reducible repeat (first | refine blk_drewN ?_ _ | refine blk_drew ?_ | refine blk_alloc ?_ _)); exact BK232.out)) : gb234 ≠ gb232)); clear HO_5; clear BK223; clear BK232; clear HB; have HO_5 := n0_; have BK223 := n1_; have BK232 := n2_; have HB := n3_; have BK234 := n4_; have GW234 := n5_; have GE234 := n6_; have NB223_234 := n7_; have NB234_223 := n8_; have NB232_234 := n9_; have NB234_232 := n10_; clear n0_ n1_ n2_ n3_ n4_ n5_ n6_ n7_ n8_ n9_ n10_; clear hb hbox hg; have hnb27 := NB234_223.out; have hnc27 := NB223_234.out; have hnb28 := NB234_232.out; have hnc28 := NB232_234.out; have hcz29_0 : w26.cell? ⟨gb234, 0, none⟩ = some (.int .i64 0) := (blk_cell BK234.out 0).trans rfl; have hcz29_1 : w26.cell? ⟨gb234, 1, none⟩ = some (.int .i64 0) := (blk_cell BK234.out 1).trans rfl; have hfz29_0 := blk_frozen BK234.out 0; have hfz29_1 := blk_frozen BK234.out 1))
              (try simp only [← hl5_2])
              go_roundg k2
              case measure => have := HK1.out; have := HK2.out; omega
              case rel => exact ⟨(x5_2), (x6_2), (wrap64 (x23_2 + 1)), (by first | rfl | (simp; done) | (simp [*]; done)), (by first | rfl | (simp; done) | (simp [*]; done)), H', ⟨by have := HK1.out; have := HK2.out; omega⟩, ⟨by (try simp only [hl5_1]); (try simp only [hl5_2]); (with_reducible repeat (first | apply Kd.R_alloc | apply Kd.R_drewN | apply Kd.R_drew)); exact Kd.R_mono (Kd.R_far (p := ⟨gb234, 1, none⟩) (Kd.R_far (p := ⟨gb234, 0, none⟩) (Kd.R_mono HO_5.out (fun k_ hk => (⟨hk, hk.2⟩ : _ ∧ k_ ≠ gb234))) (fun _ hk => hk.2) (.int .i64 ((rd_T104 x5_2 ((rd_T34 l0_1 x23_2).f1)).f0))) (fun _ hk => hk.2) (.int .i64 ((rd_T104 x5_2 ((rd_T34 l0_1 x23_2).f1)).f1))) (fun _ hk => trivial)⟩, ⟨by (try simp only [hl5_1]); (try simp only [hl5_2]); (with_reducible repeat (first | refine blk_drewN ?_ _ | refine blk_drew ?_ | refine blk_alloc ?_ _)); refine blk_far ?_ NB223_234.out _; (with_reducible repeat (first | refine blk_drewN ?_ _ | refine blk_drew ?_ | refine blk_alloc ?_ _)); refine blk_far ?_ NB223_234.out _; (with_reducible repeat (first | refine blk_drewN ?_ _ | refine blk_drew ?_ | refine blk_alloc ?_ _)); exact BK223.out⟩, ⟨by repeat (first | (with_reducible first | exact HB.out | apply below_alloc | apply pw_below_drewN | apply below_drew1 | refine below_set ?_ GE223.out | refine below_set ?_ GE232.out | refine below_set ?_ GE234.out) | exact HB.out)⟩⟩
             ·rw [if_neg c22] at H
              have c22b0 : (((rd_T104 x5_2 ((rd_T34 l0_1 x23_2).f1)).f0) == 99999) = false := beq_eq_false_iff_ne.mpr c22
              have c22b1 : (((rd_T104 x5_2 ((rd_T34 l0_1 x23_2).f1)).f0) != 99999) = true := bne_iff_ne.mpr c22
              by_cases c30 : 0 ≤ ((rd_T34 l0_1 x23_2).f0)
              ·rw [if_pos c30] at H
               have c30b0 : decide (0 ≤ ((rd_T34 l0_1 x23_2).f0)) = true := decide_eq_true c30
               clear c30
               by_cases c31 : ((rd_T34 l0_1 x23_2).f0) < (x5_2.length : Int)
               ·rw [if_pos c31] at H
                have c31b0 : decide (((rd_T34 l0_1 x23_2).f0) < (x5_2.length : Int)) = true := decide_eq_true c31
                clear c31
                replace H := Option.bind_eq_some_iff.mp H
                obtain ⟨t236, A320, H⟩ := H
                replace H : (if t236 = true then (impl_Net_toward.l1 k2 (x5_2.set (((rd_T34 l0_1 x23_2).f0) : Int).toNat (⟨wrap64 (((rd_T104 x5_2 ((rd_T34 l0_1 x23_2).f1)).f0) + ((rd_T34 l0_1 x23_2).f2)), wrap64 (((rd_T104 x5_2 ((rd_T34 l0_1 x23_2).f1)).f1) + 1)⟩ : S104)) true l0_1 (l0_1.length : Int) (wrap64 (x23_2 + 1)) a0_0 l0_1) else (impl_Net_toward.l1 k2 x5_2 x6_2 l0_1 (l0_1.length : Int) (wrap64 (x23_2 + 1)) a0_0 l0_1)) = some r := H
                have A32 := Aside0.mk A320
                clear A320
                by_cases c33 : t236 = true
                ·subst c33
                 have H1 : (impl_Net_toward.l1 k2 (x5_2.set (((rd_T34 l0_1 x23_2).f0) : Int).toNat (⟨wrap64 (((rd_T104 x5_2 ((rd_T34 l0_1 x23_2).f1)).f0) + ((rd_T34 l0_1 x23_2).f2)), wrap64 (((rd_T104 x5_2 ((rd_T34 l0_1 x23_2).f1)).f1) + 1)⟩ : S104)) true l0_1 (l0_1.length : Int) (wrap64 (x23_2 + 1)) a0_0 l0_1) = some r := by rw [if_pos rfl] at H; exact H
                 clear H
                 have H := H1
                 clear H1
                 obtain ⟨y237, hy237⟩ : ∃ y_ : List (S104), y_ = (x5_2.set (((rd_T34 l0_1 x23_2).f0) : Int).toNat (⟨wrap64 (((rd_T104 x5_2 ((rd_T34 l0_1 x23_2).f1)).f0) + ((rd_T34 l0_1 x23_2).f2)), wrap64 (((rd_T104 x5_2 ((rd_T34 l0_1 x23_2).f1)).f1) + 1)⟩ : S104)) := ⟨_, rfl⟩
                 replace H : (impl_Net_toward.l1 k2 y237 true l0_1 (l0_1.length : Int) (wrap64 (x23_2 + 1)) a0_0 l0_1) = some r := by first | (rw [hy237]; with_reducible exact H) | (have H2_ := (Option.bind_some _ _).symm.trans H; rw [hy237]; with_reducible exact H2_) | (have H2_ := (Option.bind_some _ _).symm.trans H; with_reducible exact H2_) | with_reducible exact H | (rw [hy237]; exact H) | exact H
                 have Ny237 := Aside0.mk hy237
                 clear hy237
                 have H' := Aside0.mk H
                 clear H
                 have p231 : 0 ≤ (x23_2 : Int) := of_decide_eq_true (by first | (with_reducible assumption) | assumption)
                 have q231 : x23_2 < (l0_1.length : Int) := of_decide_eq_true (by first | (with_reducible assumption) | assumption)
                 obtain ⟨ad231, e231, hx231_0, hx231_1, hx231_2, hx231_3, hx231_4⟩ := at_T34 HR0_1.out x23_2 p231 q231
                 cases e231
                 replace hx231_0 := (HB.out.cell (World.block_lt_of_cell? w _ hx231_0)).trans hx231_0
                 replace hx231_1 := (HB.out.cell (World.block_lt_of_cell? w _ hx231_1)).trans hx231_1
                 replace hx231_2 := (HB.out.cell (World.block_lt_of_cell? w _ hx231_2)).trans hx231_2
                 replace hx231_3 := (HB.out.cell (World.block_lt_of_cell? w _ hx231_3)).trans hx231_3
                 replace hx231_4 := (HB.out.cell (World.block_lt_of_cell? w _ hx231_4)).trans hx231_4
                 replace p231 := eq_true p231
                 replace q231 := eq_true q231
                 try go_wp2_with (first | ((with_reducible refine gate_dst (N := 8) rfl ?_); refine box_event ?hg (N := 8) ?hd (cs := #[.int .i64 0, .int .i64 0, .int .i64 0, .int .i64 0, .int .i64 0]) (t := 34) ?hr ?_; (case hd => rfl); (case hg => rfl); (case hr => first | (go_simp; done) | (go_simp; rfl)); intro gb232 hg w35 hbox hb; have n0_ := Aside0.mk (Kd.R_below (by (with_reducible repeat (first | apply Kd.R_alloc | apply Kd.R_drewN | apply Kd.R_drew)); exact HO_5.out) hb); have n1_ := Aside0.mk (blk_below (g := gb223) (o := .cells #[.int .i64 a0_0, .slice (some ad231) l0_1.length c0_1] 25 (0, 0)) (by (with_reducible repeat (first | refine blk_drewN ?_ _ | refine blk_drew ?_ | refine blk_alloc ?_ _)); exact BK223.out) hb); have n2_ := Aside0.mk (below_step (by repeat (first | (with_reducible first | exact HB.out | apply below_alloc | apply pw_below_drewN | apply below_drew1 | refine below_set ?_ GE223.out) | exact HB.out)) hb); have n3_ := Aside0.mk (hbox); have n4_ := Aside0.mk ((by rw [hg]; exact (below_size (by repeat (first | (with_reducible first | exact HB.out | apply below_alloc | apply pw_below_drewN | apply below_drew1 | refine below_set ?_ GE223.out) | exact HB.out))) : w.heap.size ≤ gb232)); have n5_ := Aside0.mk ((by rw [hg]; exact (below_size (by repeat (first | (with_reducible first | exact HB.out | apply below_alloc | apply pw_below_drewN | apply below_drew1 | refine below_set ?_ GE223.out) | exact HB.out))) : w.heap.size ≤ gb232)); have n6_ := Aside0.mk ((by rw [hg]; exact Nat.ne_of_lt (blk_lt (g := gb223) (o := .cells #[.int .i64 a0_0, .slice (some ad231) l0_1.length c0_1] 25 (0, 0)) (by (with_reducible repeat (first | refine blk_drewN ?_ _ | refine blk_drew ?_ | refine blk_alloc ?_ _)); exact BK223.out)) : gb223 ≠ gb232)); have n7_ := Aside0.mk ((by rw [hg]; exact Nat.ne_of_gt (blk_lt (g := gb223) (o := .cells #[.int .i64 a0_0, .slice (some ad231) l0_1.length c0_1] 25 (0, 0)) (by (with_reducible repeat (first | refine blk_drewN ?_ _ | refine blk_drew ?_ | refine blk_alloc ?_ _)); exact BK223.out)) : gb232 ≠ gb223)); clear HO_5; clear BK223; clear HB; have HO_5 := n0_; have BK223 := n1_; have HB := n2_; have BK232 := n3_; have GW232 := n4_; have GE232 := n5_; have NB223_232 := n6_; have NB232_223 := n7_; clear n0_ n1_ n2_ n3_ n4_ n5_ n6_ n7_; clear hb hbox hg; have hnb36 := NB232_223.out; have hnc36 := NB223_232.out; have hcz37_0 : w35.cell? ⟨gb232, 0, none⟩ = some (.int .i64 0) := (blk_cell BK232.out 0).trans rfl; have hcz37_1 : w35.cell? ⟨gb232, 1, none⟩ = some (.int .i64 0) := (blk_cell BK232.out 1).trans rfl; have hcz37_2 : w35.cell? ⟨gb232, 2, none⟩ = some (.int .i64 0) := (blk_cell BK232.out 2).trans rfl; have hcz37_3 : w35.cell? ⟨gb232, 3, none⟩ = some (.int .i64 0) := (blk_cell BK232.out 3).trans rfl; have hcz37_4 : w35.cell? ⟨gb232, 4, none⟩ = some (.int .i64 0) := (blk_cell BK232.out 4).trans rfl; have hfz37_0 := blk_frozen BK232.out 0; have hfz37_1 := blk_frozen BK232.out 1; have hfz37_2 := blk_frozen BK232.out 2; have hfz37_3 := blk_frozen BK232.out 3; have hfz37_4 := blk_frozen BK232.out 4; have p233 : 0 ≤ (((rd_T34 l0_1 x23_2).f1) : Int) := of_decide_eq_true (by first | (with_reducible assumption) | assumption); have q233 : ((rd_T34 l0_1 x23_2).f1) < (x5_2.length : Int) := of_decide_eq_true (by first | (with_reducible assumption) | assumption); obtain ⟨ad233, e233, hx233_0, hx233_1⟩ := at_T104 (Kd.R_reads' HO_5.out).2.2 ((rd_T34 l0_1 x23_2).f1) p233 q233; obtain rfl : (⟨go6, 0, none⟩ : Addr) = ad233 := (by injection e233); (first | simp only [add_plain] at hx233_0 | simp only [add_at] at hx233_0 | simp only [Addr.add, Nat.zero_add] at hx233_0 | skip); (first | simp only [add_plain] at hx233_1 | simp only [add_at] at hx233_1 | simp only [Addr.add, Nat.zero_add] at hx233_1 | skip); have hn233_0 : (⟨go6, 0, none⟩ : Addr).block ≠ gb232 := Kd.own_blk (Kd.R_ne HO_5.out BK232.out (by decide)); have hn233_1 : (⟨go6, 0, none⟩ : Addr).block ≠ gb232 := Kd.own_blk (Kd.R_ne HO_5.out BK232.out (by decide)); have hn233_2 : (⟨go6, 0, none⟩ : Addr).block ≠ gb232 := Kd.own_blk (Kd.R_ne HO_5.out BK232.out (by decide)); have hn233_3 : (⟨go6, 0, none⟩ : Addr).block ≠ gb232 := Kd.own_blk (Kd.R_ne HO_5.out BK232.out (by decide)); have hn233_4 : (⟨go6, 0, none⟩ : Addr).block ≠ gb232 := Kd.own_blk (Kd.R_ne HO_5.out BK232.out (by decide)); replace hx233_0 := (cell_far (p := ⟨gb232, 0, none⟩) (by first | (rw [add_block]; exact hn233_0) | (show (Addr.add _ _).block ≠ _; rw [add_block]; exact hn233_0) | exact hn233_0) (.int .i64 ((rd_T34 l0_1 x23_2).f0))).trans hx233_0; replace hx233_1 := (cell_far (p := ⟨gb232, 0, none⟩) (by first | (rw [add_block]; exact hn233_0) | (show (Addr.add _ _).block ≠ _; rw [add_block]; exact hn233_0) | exact hn233_0) (.int .i64 ((rd_T34 l0_1 x23_2).f0))).trans hx233_1; replace hx233_0 := (cell_far (p := ⟨gb232, 1, none⟩) (by first | (rw [add_block]; exact hn233_1) | (show (Addr.add _ _).block ≠ _; rw [add_block]; exact hn233_1) | exact hn233_1) (.int .i64 ((rd_T34 l0_1 x23_2).f1))).trans hx233_0; replace hx233_1 := (cell_far (p := ⟨gb232, 1, none⟩) (by first | (rw [add_block]; exact hn233_1) | (show (Addr.add _ _).block ≠ _; rw [add_block]; exact hn233_1) | exact hn233_1) (.int .i64 ((rd_T34 l0_1 x23_2).f1))).trans hx233_1; replace hx233_0 := (cell_far (p := ⟨gb232, 2, none⟩) (by first | (rw [add_block]; exact hn233_2) | (show (Addr.add _ _).block ≠ _; rw [add_block]; exact hn233_2) | exact hn233_2) (.int .i64 ((rd_T34 l0_1 x23_2).f2))).trans hx233_0; replace hx233_1 := (cell_far (p := ⟨gb232, 2, none⟩) (by first | (rw [add_block]; exact hn233_2) | (show (Addr.add _ _).block ≠ _; rw [add_block]; exact hn233_2) | exact hn233_2) (.int .i64 ((rd_T34 l0_1 x23_2).f2))).trans hx233_1; replace hx233_0 := (cell_far (p := ⟨gb232, 3, none⟩) (by first | (rw [add_block]; exact hn233_3) | (show (Addr.add _ _).block ≠ _; rw [add_block]; exact hn233_3) | exact hn233_3) (.int .i64 ((rd_T34 l0_1 x23_2).f3))).trans hx233_0; replace hx233_1 := (cell_far (p := ⟨gb232, 3, none⟩) (by first | (rw [add_block]; exact hn233_3) | (show (Addr.add _ _).block ≠ _; rw [add_block]; exact hn233_3) | exact hn233_3) (.int .i64 ((rd_T34 l0_1 x23_2).f3))).trans hx233_1; replace hx233_0 := (cell_far (p := ⟨gb232, 4, none⟩) (by first | (rw [add_block]; exact hn233_4) | (show (Addr.add _ _).block ≠ _; rw [add_block]; exact hn233_4) | exact hn233_4) (.int .i64 ((rd_T34 l0_1 x23_2).f4))).trans hx233_0; replace hx233_1 := (cell_far (p := ⟨gb232, 4, none⟩) (by first | (rw [add_block]; exact hn233_4) | (show (Addr.add _ _).block ≠ _; rw [add_block]; exact hn233_4) | exact hn233_4) (.int .i64 ((rd_T34 l0_1 x23_2).f4))).trans hx233_1; clear hn233_0; clear hn233_1; clear hn233_2; clear hn233_3; clear hn233_4; replace p233 := eq_true p233; replace q233 := eq_true q233) | ((with_reducible refine gate_dst (N := 9) rfl ?_); refine box_event ?hg (N := 9) ?hd (cs := #[.int .i64 0, .int .i64 0]) (t := 104) ?hr ?_; (case hd => rfl); (case hg => rfl); (case hr => first | (go_simp; done) | (go_simp; rfl)); intro gb234 hg w38 hbox hb; have n0_ := Aside0.mk (Kd.R_below (Kd.R_elderB (by (with_reducible repeat (first | apply Kd.R_alloc | apply Kd.R_drewN | apply Kd.R_drew)); exact (Kd.R_mono (Kd.R_far (p := ⟨gb232, 4, none⟩) (Kd.R_far (p := ⟨gb232, 3, none⟩) (Kd.R_far (p := ⟨gb232, 2, none⟩) (Kd.R_far (p := ⟨gb232, 1, none⟩) (Kd.R_far (p := ⟨gb232, 0, none⟩) (Kd.R_types HO_5.out BK232.out (by decide)) (fun _ hk => hk.2) (.int .i64 ((rd_T34 l0_1 x23_2).f0))) (fun _ hk => hk.2) (.int .i64 ((rd_T34 l0_1 x23_2).f1))) (fun _ hk => hk.2) (.int .i64 ((rd_T34 l0_1 x23_2).f2))) (fun _ hk => hk.2) (.int .i64 ((rd_T34 l0_1 x23_2).f3))) (fun _ hk => hk.2) (.int .i64 ((rd_T34 l0_1 x23_2).f4))) (fun _ h_ => h_.1))) gb234 (Nat.le_of_eq hg.symm)) hb); have n1_ := Aside0.mk (blk_below (g := gb223) (o := .cells #[.int .i64 a0_0, .slice (some ad231) l0_1.length c0_1] 25 (0, 0)) (by (with_reducible repeat (first | refine blk_drewN ?_ _ | refine blk_drew ?_ | refine blk_alloc ?_ _)); refine blk_far ?_ NB223_232.out _; (with_reducible repeat (first | refine blk_drewN ?_ _ | refine blk_drew ?_ | refine blk_alloc ?_ _)); refine blk_far ?_ NB223_232.out _; (with_reducible repeat (first | refine blk_drewN ?_ _ | refine blk_drew ?_ | refine blk_alloc ?_ _)); refine blk_far ?_ NB223_232.out _; (with_reducible repeat (first | refine blk_drewN ?_ _ | refine blk_drew ?_ | refine blk_alloc ?_ _)); refine blk_far ?_ NB223_232.out _; (with_reducible repeat (first | refine blk_drewN ?_ _ | refine blk_drew ?_ | refine blk_alloc ?_ _)); refine blk_far ?_ NB223_232.out _; (with_reducible repeat (first | refine blk_drewN ?_ _ | refine blk_drew ?_ | refine blk_alloc ?_ _)); exact BK223.out) hb); have n2_ := Aside0.mk (blk_below (g := gb232) (o := .cells #[.int .i64 ((rd_T34 l0_1 x23_2).f0), .int .i64 ((rd_T34 l0_1 x23_2).f1), .int .i64 ((rd_T34 l0_1 x23_2).f2), .int .i64 ((rd_T34 l0_1 x23_2).f3), .int .i64 ((rd_T34 l0_1 x23_2).f4)] 34 (0, 0)) (by (with_reducible repeat (first | refine blk_drewN ?_ _ | refine blk_drew ?_ | refine blk_alloc ?_ _)); refine blk_put (cs := #[.int .i64 ((rd_T34 l0_1 x23_2).f0), .int .i64 ((rd_T34 l0_1 x23_2).f1), .int .i64 ((rd_T34 l0_1 x23_2).f2), .int .i64 ((rd_T34 l0_1 x23_2).f3), .int .i64 0]) ?_ 4 _ rfl; (with_reducible repeat (first | refine blk_drewN ?_ _ | refine blk_drew ?_ | refine blk_alloc ?_ _)); refine blk_put (cs := #[.int .i64 ((rd_T34 l0_1 x23_2).f0), .int .i64 ((rd_T34 l0_1 x23_2).f1), .int .i64 ((rd_T34 l0_1 x23_2).f2), .int .i64 0, .int .i64 0]) ?_ 3 _ rfl; (with_reducible repeat (first | refine blk_drewN ?_ _ | refine blk_drew ?_ | refine blk_alloc ?_ _)); refine blk_put (cs := #[.int .i64 ((rd_T34 l0_1 x23_2).f0), .int .i64 ((rd_T34 l0_1 x23_2).f1), .int .i64 0, .int .i64 0, .int .i64 0]) ?_ 2 _ rfl; (with_reducible repeat (first | refine blk_drewN ?_ _ | refine blk_drew ?_ | refine blk_alloc ?_ _)); refine blk_put (cs := #[.int .i64 ((rd_T34 l0_1 x23_2).f0), .int .i64 0, .int .i64 0, .int .i64 0, .int .i64 0]) ?_ 1 _ rfl; (with_reducible repeat (first | refine blk_drewN ?_ _ | refine blk_drew ?_ | refine blk_alloc ?_ _)); refine blk_put (cs := #[.int .i64 0, .int .i64 0, .int .i64 0, .int .i64 0, .int .i64 0]) ?_ 0 _ rfl; (with_reducible repeat (first | refine blk_drewN ?_ _ | refine blk_drew ?_ | refine blk_alloc ?_ _)); exact BK232.out) hb); have n3_ := Aside0.mk (below_step (by repeat (first | (with_reducible first | exact HB.out | apply below_alloc | apply pw_below_drewN | apply below_drew1 | refine below_set ?_ GE223.out | refine below_set ?_ GE232.out) | exact HB.out)) hb); have n4_ := Aside0.mk (hbox); have n5_ := Aside0.mk ((by rw [hg]; exact (below_size (by repeat (first | (with_reducible first | exact HB.out | apply below_alloc | apply pw_below_drewN | apply below_drew1 | refine below_set ?_ GE223.out | refine below_set ?_ GE232.out) | exact HB.out))) : w.heap.size ≤ gb234)); have n6_ := Aside0.mk ((by rw [hg]; exact (below_size (by repeat (first | (with_reducible first | exact HB.out | apply below_alloc | apply pw_below_drewN | apply below_drew1 | refine below_set ?_ GE223.out | refine below_set ?_ GE232.out) | exact HB.out))) : w.heap.size ≤ gb234)); have n7_ := Aside0.mk ((by rw [hg]; exact Nat.ne_of_lt (blk_lt (g := gb223) (o := .cells #[.int .i64 a0_0, .slice (some ad231) l0_1.length c0_1] 25 (0, 0)) (by (with_reducible repeat (first | refine blk_drewN ?_ _ | refine blk_drew ?_ | refine blk_alloc ?_ _)); refine blk_far ?_ NB223_232.out _; (with_reducible repeat (first | refine blk_drewN ?_ _ | refine blk_drew ?_ | refine blk_alloc ?_ _)); refine blk_far ?_ NB223_232.out _; (with_reducible repeat (first | refine blk_drewN ?_ _ | refine blk_drew ?_ | refine blk_alloc ?_ _)); refine blk_far ?_ NB223_232.out _; (with_reducible repeat (first | refine blk_drewN ?_ _ | refine blk_drew ?_ | refine blk_alloc ?_ _)); refine blk_far ?_ NB223_232.out _; (with_reducible repeat (first | refine blk_drewN ?_ _ | refine blk_drew ?_ | refine blk_alloc ?_ _)); refine blk_far ?_ NB223_232.out _; (with_reducible repeat (first | refine blk_drewN ?_ _ | refine blk_drew ?_ | refine blk_alloc ?_ _)); exact BK223.out)) : gb223 ≠ gb234)); have n8_ := Aside0.mk ((by rw [hg]; exact Nat.ne_of_gt (blk_lt (g := gb223) (o := .cells #[.int .i64 a0_0, .slice (some ad231) l0_1.length c0_1] 25 (0, 0)) (by (with_reducible repeat (first | refine blk_drewN ?_ _ | refine blk_drew ?_ | refine blk_alloc ?_ _)); refine blk_far ?_ NB223_232.out _; (with_reducible repeat (first | refine blk_drewN ?_ _ | refine blk_drew ?_ | refine blk_alloc ?_ _)); refine blk_far ?_ NB223_232.out _; (with_reducible repeat (first | refine blk_drewN ?_ _ | refine blk_drew ?_ | refine blk_alloc ?_ _)); refine blk_far ?_ NB223_232.out _; (with_reducible repeat (first | refine blk_drewN ?_ _ | refine blk_drew ?_ | refine blk_alloc ?_ _)); refine blk_far ?_ NB223_232.out _; (with_reducible repeat (first | refine blk_drewN ?_ _ | refine blk_drew ?_ | refine blk_alloc ?_ _)); refine blk_far ?_ NB223_232.out _; (with_reducible repeat (first | refine blk_drewN ?_ _ | refine blk_drew ?_ | refine blk_alloc ?_ _)); exact BK223.out)) : gb234 ≠ gb223)); have n9_ := Aside0.mk ((by rw [hg]; exact Nat.ne_of_lt (blk_lt (g := gb232) (o := .cells #[.int .i64 ((rd_T34 l0_1 x23_2).f0), .int .i64 ((rd_T34 l0_1 x23_2).f1), .int .i64 ((rd_T34 l0_1 x23_2).f2), .int .i64 ((rd_T34 l0_1 x23_2).f3), .int .i64 ((rd_T34 l0_1 x23_2).f4)] 34 (0, 0)) (by (with_reducible repeat (first | refine blk_drewN ?_ _ | refine blk_drew ?_ | refine blk_alloc ?_ _)); refine blk_put (cs := #[.int .i64 ((rd_T34 l0_1 x23_2).f0), .int .i64 ((rd_T34 l0_1 x23_2).f1), .int .i64 ((rd_T34 l0_1 x23_2).f2), .int .i64 ((rd_T34 l0_1 x23_2).f3), .int .i64 0]) ?_ 4 _ rfl; (with_reducible repeat (first | refine blk_drewN ?_ _ | refine blk_drew ?_ | refine blk_alloc ?_ _)); refine blk_put (cs := #[.int .i64 ((rd_T34 l0_1 x23_2).f0), .int .i64 ((rd_T34 l0_1 x23_2).f1), .int .i64 ((rd_T34 l0_1 x23_2).f2), .int .i64 0, .int .i64 0]) ?_ 3 _ rfl; (with_reducible repeat (first | refine blk_drewN ?_ _ | refine blk_drew ?_ | refine blk_alloc ?_ _)); refine blk_put (cs := #[.int .i64 ((rd_T34 l0_1 x23_2).f0), .int .i64 ((rd_T34 l0_1 x23_2).f1), .int .i64 0, .int .i64 0, .int .i64 0]) ?_ 2 _ rfl; (with_reducible repeat (first | refine blk_drewN ?_ _ | refine blk_drew ?_ | refine blk_alloc ?_ _)); refine blk_put (cs := #[.int .i64 ((rd_T34 l0_1 x23_2).f0), .int .i64 0, .int .i64 0, .int .i64 0, .int .i64 0]) ?_ 1 _ rfl; (with_reducible repeat (first | refine blk_drewN ?_ _ | refine blk_drew ?_ | refine blk_alloc ?_ _)); refine blk_put (cs := #[.int .i64 0, .int .i64 0, .int .i64 0, .int .i64 0, .int .i64 0]) ?_ 0 _ rfl; (with_reducible repeat (first | refine blk_drewN ?_ _ | refine blk_drew ?_ | refine blk_alloc ?_ _)); exact BK232.out)) : gb232 ≠ gb234)); have n10_ := Aside0.mk ((by rw [hg]; exact Nat.ne_of_gt (blk_lt (g := gb232) (o := .cells #[.int .i64 ((rd_T34 l0_1 x23_2).f0), .int .i64 ((rd_T34 l0_1 x23_2).f1), .int .i64 ((rd_T34 l0_1 x23_2).f2), .int .i64 ((rd_T34 l0_1 x23_2).f3), .int .i64 ((rd_T34 l0_1 x23_2).f4)] 34 (0, 0)) (by (with_reducible repeat (first | refine blk_drewN ?_ _ | refine blk_drew ?_ | refine blk_alloc ?_ _)); refine blk_put (cs := #[.int .i64 ((rd_T34 l0_1 x23_2).f0), .int .i64 ((rd_T34 l0_1 x23_2).f1), .int .i64 ((rd_T34 l0_1 x23_2).f2), .int .i64 ((rd_T34 l0_1 x23_2).f3), .int .i64 0]) ?_ 4 _ rfl; (with_reducible repeat (first | refine blk_drewN ?_ _ | refine blk_drew ?_ | refine blk_alloc ?_ _)); refine blk_put (cs := #[.int .i64 ((rd_T34 l0_1 x23_2).f0), .int .i64 ((rd_T34 l0_1 x23_2).f1), .int .i64 ((rd_T34 l0_1 x23_2).f2), .int .i64 0, .int .i64 0]) ?_ 3 _ rfl; (with_reducible repeat (first | refine blk_drewN ?_ _ | refine blk_drew ?_ | refine blk_alloc ?_ _)); refine blk_put (cs := #[.int .i64 ((rd_T34 l0_1 x23_2).f0), .int .i64 ((rd_T34 l0_1 x23_2).f1), .int .i64 0, .int .i64 0, .int .i64 0]) ?_ 2 _ rfl; (with_reducible repeat (first | refine blk_drewN ?_ _ | refine blk_drew ?_ | refine blk_alloc ?_ _)); refine blk_put (cs := #[.int .i64 ((rd_T34 l0_1 x23_2).f0), .int .i64 0, .int .i64 0, .int .i64 0, .int .i64 0]) ?_ 1 _ rfl; (with_reducible repeat (first | refine blk_drewN ?_ _ | refine blk_drew ?_ | refine blk_alloc ?_ _)); refine blk_put (cs := #[.int .i64 0, .int .i64 0, .int .i64 0, .int .i64 0, .int .i64 0]) ?_ 0 _ rfl; (with_reducible repeat (first | refine blk_drewN ?_ _ | refine blk_drew ?_ | refine blk_alloc ?_ _)); exact BK232.out)) : gb234 ≠ gb232)); clear HO_5; clear BK223; clear BK232; clear HB; have HO_5 := n0_; have BK223 := n1_; have BK232 := n2_; have HB := n3_; have BK234 := n4_; have GW234 := n5_; have GE234 := n6_; have NB223_234 := n7_; have NB234_223 := n8_; have NB232_234 := n9_; have NB234_232 := n10_; clear n0_ n1_ n2_ n3_ n4_ n5_ n6_ n7_ n8_ n9_ n10_; clear hb hbox hg; have hnb39 := NB234_223.out; have hnc39 := NB223_234.out; have hnb40 := NB234_232.out; have hnc40 := NB232_234.out; have hcz41_0 : w38.cell? ⟨gb234, 0, none⟩ = some (.int .i64 0) := (blk_cell BK234.out 0).trans rfl; have hcz41_1 : w38.cell? ⟨gb234, 1, none⟩ = some (.int .i64 0) := (blk_cell BK234.out 1).trans rfl; have hfz41_0 := blk_frozen BK234.out 0; have hfz41_1 := blk_frozen BK234.out 1; have hcz42_0 : w38.cell? ⟨gb232, 0, none⟩ = some (.int .i64 ((rd_T34 l0_1 x23_2).f0)) := (blk_cell BK232.out 0).trans rfl; have hcz42_1 : w38.cell? ⟨gb232, 1, none⟩ = some (.int .i64 ((rd_T34 l0_1 x23_2).f1)) := (blk_cell BK232.out 1).trans rfl; have hcz42_2 : w38.cell? ⟨gb232, 2, none⟩ = some (.int .i64 ((rd_T34 l0_1 x23_2).f2)) := (blk_cell BK232.out 2).trans rfl; have hcz42_3 : w38.cell? ⟨gb232, 3, none⟩ = some (.int .i64 ((rd_T34 l0_1 x23_2).f3)) := (blk_cell BK232.out 3).trans rfl; have hcz42_4 : w38.cell? ⟨gb232, 4, none⟩ = some (.int .i64 ((rd_T34 l0_1 x23_2).f4)) := (blk_cell BK232.out 4).trans rfl; have hfz42_0 := blk_frozen BK232.out 0; have hfz42_1 := blk_frozen BK232.out 1; have hfz42_2 := blk_frozen BK232.out 2; have hfz42_3 := blk_frozen BK232.out 3; have hfz42_4 := blk_frozen BK232.out 4))
                 have n0_ : Aside0 (Kd.R k104 104 ((((w38.setCell ⟨gb234, 0, none⟩ (.int .i64 ((rd_T104 x5_2 ((rd_T34 l0_1 x23_2).f1)).f0))).setCell ⟨gb234, 1, none⟩ (.int .i64 ((rd_T104 x5_2 ((rd_T34 l0_1 x23_2).f1)).f1))).setCell ⟨gb234, 0, none⟩ (.int .i64 (wrap64 (((rd_T104 x5_2 ((rd_T34 l0_1 x23_2).f1)).f0) + ((rd_T34 l0_1 x23_2).f2))))).setCell ⟨gb234, 1, none⟩ (.int .i64 (wrap64 (((rd_T104 x5_2 ((rd_T34 l0_1 x23_2).f1)).f1) + 1)))) w.heap.size (fun k_ => k_ ≠ gb234) (.slice (some ⟨go6, 0, none⟩) x5_2.length co6) x5_2) := ⟨by (with_reducible repeat (first | apply Kd.R_alloc | apply Kd.R_drewN | apply Kd.R_drew)); exact Kd.R_mono (Kd.R_far (p := ⟨gb234, 1, none⟩) (Kd.R_far (p := ⟨gb234, 0, none⟩) (Kd.R_far (p := ⟨gb234, 1, none⟩) (Kd.R_far (p := ⟨gb234, 0, none⟩) (Kd.R_mono HO_5.out (fun k_ hk => (⟨hk, hk.2⟩ : _ ∧ k_ ≠ gb234))) (fun _ hk => hk.2) (.int .i64 ((rd_T104 x5_2 ((rd_T34 l0_1 x23_2).f1)).f0))) (fun _ hk => hk.2) (.int .i64 ((rd_T104 x5_2 ((rd_T34 l0_1 x23_2).f1)).f1))) (fun _ hk => hk.2) (.int .i64 (wrap64 (((rd_T104 x5_2 ((rd_T34 l0_1 x23_2).f1)).f0) + ((rd_T34 l0_1 x23_2).f2))))) (fun _ hk => hk.2) (.int .i64 (wrap64 (((rd_T104 x5_2 ((rd_T34 l0_1 x23_2).f1)).f1) + 1)))) (fun _ hk => hk.1.2)⟩
                 have n1_ : Aside0 (((((w38.setCell ⟨gb234, 0, none⟩ (.int .i64 ((rd_T104 x5_2 ((rd_T34 l0_1 x23_2).f1)).f0))).setCell ⟨gb234, 1, none⟩ (.int .i64 ((rd_T104 x5_2 ((rd_T34 l0_1 x23_2).f1)).f1))).setCell ⟨gb234, 0, none⟩ (.int .i64 (wrap64 (((rd_T104 x5_2 ((rd_T34 l0_1 x23_2).f1)).f0) + ((rd_T34 l0_1 x23_2).f2))))).setCell ⟨gb234, 1, none⟩ (.int .i64 (wrap64 (((rd_T104 x5_2 ((rd_T34 l0_1 x23_2).f1)).f1) + 1)))).heap[gb223]? = some (.cells #[.int .i64 a0_0, .slice (some ad231) l0_1.length c0_1] 25 (0, 0))) := ⟨by (with_reducible repeat (first | refine blk_drewN ?_ _ | refine blk_drew ?_ | refine blk_alloc ?_ _)); refine blk_far ?_ NB223_234.out _; (with_reducible repeat (first | refine blk_drewN ?_ _ | refine blk_drew ?_ | refine blk_alloc ?_ _)); refine blk_far ?_ NB223_234.out _; (with_reducible repeat (first | refine blk_drewN ?_ _ | refine blk_drew ?_ | refine blk_alloc ?_ _)); refine blk_far ?_ NB223_234.out _; (with_reducible repeat (first | refine blk_drewN ?_ _ | refine blk_drew ?_ | refine blk_alloc ?_ _)); refine blk_far ?_ NB223_234.out _; (with_reducible repeat (first | refine blk_drewN ?_ _ | refine blk_drew ?_ | refine blk_alloc ?_ _)); exact BK223.out⟩
                 have n2_ : Aside0 (((((w38.setCell ⟨gb234, 0, none⟩ (.int .i64 ((rd_T104 x5_2 ((rd_T34 l0_1 x23_2).f1)).f0))).setCell ⟨gb234, 1, none⟩ (.int .i64 ((rd_T104 x5_2 ((rd_T34 l0_1 x23_2).f1)).f1))).setCell ⟨gb234, 0, none⟩ (.int .i64 (wrap64 (((rd_T104 x5_2 ((rd_T34 l0_1 x23_2).f1)).f0) + ((rd_T34 l0_1 x23_2).f2))))).setCell ⟨gb234, 1, none⟩ (.int .i64 (wrap64 (((rd_T104 x5_2 ((rd_T34 l0_1 x23_2).f1)).f1) + 1)))).heap[gb232]? = some (.cells #[.int .i64 ((rd_T34 l0_1 x23_2).f0), .int .i64 ((rd_T34 l0_1 x23_2).f1), .int .i64 ((rd_T34 l0_1 x23_2).f2), .int .i64 ((rd_T34 l0_1 x23_2).f3), .int .i64 ((rd_T34 l0_1 x23_2).f4)] 34 (0, 0))) := ⟨by (with_reducible repeat (first | refine blk_drewN ?_ _ | refine blk_drew ?_ | refine blk_alloc ?_ _)); refine blk_far ?_ NB232_234.out _; (with_reducible repeat (first | refine blk_drewN ?_ _ | refine blk_drew ?_ | refine blk_alloc ?_ _)); refine blk_far ?_ NB232_234.out _; (with_reducible repeat (first | refine blk_drewN ?_ _ | refine blk_drew ?_ | refine blk_alloc ?_ _)); refine blk_far ?_ NB232_234.out _; (with_reducible repeat (first | refine blk_drewN ?_ _ | refine blk_drew ?_ | refine blk_alloc ?_ _)); refine blk_far ?_ NB232_234.out _; (with_reducible repeat (first | refine blk_drewN ?_ _ | refine blk_drew ?_ | refine blk_alloc ?_ _)); exact BK232.out⟩
                 have n3_ : Aside0 (((((w38.setCell ⟨gb234, 0, none⟩ (.int .i64 ((rd_T104 x5_2 ((rd_T34 l0_1 x23_2).f1)).f0))).setCell ⟨gb234, 1, none⟩ (.int .i64 ((rd_T104 x5_2 ((rd_T34 l0_1 x23_2).f1)).f1))).setCell ⟨gb234, 0, none⟩ (.int .i64 (wrap64 (((rd_T104 x5_2 ((rd_T34 l0_1 x23_2).f1)).f0) + ((rd_T34 l0_1 x23_2).f2))))).setCell ⟨gb234, 1, none⟩ (.int .i64 (wrap64 (((rd_T104 x5_2 ((rd_T34 l0_1 x23_2).f1)).f1) + 1)))).heap[gb234]? = some (.cells #[.int .i64 (wrap64 (((rd_T104 x5_2 ((rd_T34 l0_1 x23_2).f1)).f0) + ((rd_T34 l0_1 x23_2).f2))), .int .i64 (wrap64 (((rd_T104 x5_2 ((rd_T34 l0_1 x23_2).f1)).f1) + 1))] 104 (0, 0))) := ⟨by (with_reducible repeat (first | refine blk_drewN ?_ _ | refine blk_drew ?_ | refine blk_alloc ?_ _)); refine blk_put (cs := #[.int .i64 (wrap64 (((rd_T104 x5_2 ((rd_T34 l0_1 x23_2).f1)).f0) + ((rd_T34 l0_1 x23_2).f2))), .int .i64 ((rd_T104 x5_2 ((rd_T34 l0_1 x23_2).f1)).f1)]) ?_ 1 _ rfl; (with_reducible repeat (first | refine blk_drewN ?_ _ | refine blk_drew ?_ | refine blk_alloc ?_ _)); refine blk_put (cs := #[.int .i64 ((rd_T104 x5_2 ((rd_T34 l0_1 x23_2).f1)).f0), .int .i64 ((rd_T104 x5_2 ((rd_T34 l0_1 x23_2).f1)).f1)]) ?_ 0 _ rfl; (with_reducible repeat (first | refine blk_drewN ?_ _ | refine blk_drew ?_ | refine blk_alloc ?_ _)); refine blk_put (cs := #[.int .i64 ((rd_T104 x5_2 ((rd_T34 l0_1 x23_2).f1)).f0), .int .i64 0]) ?_ 1 _ rfl; (with_reducible repeat (first | refine blk_drewN ?_ _ | refine blk_drew ?_ | refine blk_alloc ?_ _)); refine blk_put (cs := #[.int .i64 0, .int .i64 0]) ?_ 0 _ rfl; (with_reducible repeat (first | refine blk_drewN ?_ _ | refine blk_drew ?_ | refine blk_alloc ?_ _)); exact BK234.out⟩
                 have n4_ : Aside0 (Below w.heap.size w ((((w38.setCell ⟨gb234, 0, none⟩ (.int .i64 ((rd_T104 x5_2 ((rd_T34 l0_1 x23_2).f1)).f0))).setCell ⟨gb234, 1, none⟩ (.int .i64 ((rd_T104 x5_2 ((rd_T34 l0_1 x23_2).f1)).f1))).setCell ⟨gb234, 0, none⟩ (.int .i64 (wrap64 (((rd_T104 x5_2 ((rd_T34 l0_1 x23_2).f1)).f0) + ((rd_T34 l0_1 x23_2).f2))))).setCell ⟨gb234, 1, none⟩ (.int .i64 (wrap64 (((rd_T104 x5_2 ((rd_T34 l0_1 x23_2).f1)).f1) + 1))))) := ⟨by repeat (first | (with_reducible first | exact HB.out | apply below_alloc | apply pw_below_drewN | apply below_drew1 | refine below_set ?_ GE223.out | refine below_set ?_ GE232.out | refine below_set ?_ GE234.out) | exact HB.out)⟩
                 (try clear HO_5)
                 (try clear BK223)
                 (try clear BK232)
                 (try clear BK234)
                 (try clear HB)
                 generalize ((((w38.setCell ⟨gb234, 0, none⟩ (.int .i64 ((rd_T104 x5_2 ((rd_T34 l0_1 x23_2).f1)).f0))).setCell ⟨gb234, 1, none⟩ (.int .i64 ((rd_T104 x5_2 ((rd_T34 l0_1 x23_2).f1)).f1))).setCell ⟨gb234, 0, none⟩ (.int .i64 (wrap64 (((rd_T104 x5_2 ((rd_T34 l0_1 x23_2).f1)).f0) + ((rd_T34 l0_1 x23_2).f2))))).setCell ⟨gb234, 1, none⟩ (.int .i64 (wrap64 (((rd_T104 x5_2 ((rd_T34 l0_1 x23_2).f1)).f1) + 1)))) = w43 at n0_ n1_ n2_ n3_ n4_ ⊢
                 have HO_5 := n0_
                 have BK223 := n1_
                 have BK232 := n2_
                 have BK234 := n3_
                 have HB := n4_
                 clear n0_ n1_ n2_ n3_ n4_
                 have n0_ := Aside0.mk (Kd.R_drew HO_5.out)
                 have n1_ := Aside0.mk (blk_drew BK223.out)
                 have n2_ := Aside0.mk (blk_drew BK232.out)
                 have n3_ := Aside0.mk (blk_drew BK234.out)
                 have n4_ := Aside0.mk (below_drew1 HB.out)
                 clear HO_5
                 clear BK223
                 clear BK232
                 clear BK234
                 clear HB
                 have HO_5 := n0_
                 have BK223 := n1_
                 have BK232 := n2_
                 have BK234 := n3_
                 have HB := n4_
                 clear n0_ n1_ n2_ n3_ n4_
                 have p235 : 0 ≤ (((rd_T34 l0_1 x23_2).f0) : Int) := of_decide_eq_true (by first | (with_reducible assumption) | assumption)
                 have q235 : ((rd_T34 l0_1 x23_2).f0) < (x5_2.length : Int) := of_decide_eq_true (by first | (with_reducible assumption) | assumption)
                 obtain ⟨ad235, e235, hx235_0, hx235_1⟩ := at_T104 (Kd.R_reads' HO_5.out).2.2 ((rd_T34 l0_1 x23_2).f0) p235 q235
                 obtain rfl : (⟨go6, 0, none⟩ : Addr) = ad235 := (by injection e235)
                 (first | simp only [add_plain] at hx235_0 | simp only [add_at] at hx235_0 | simp only [Addr.add, Nat.zero_add] at hx235_0 | skip)
                 (first | simp only [add_plain] at hx235_1 | simp only [add_at] at hx235_1 | simp only [Addr.add, Nat.zero_add] at hx235_1 | skip)
                 replace p235 := eq_true p235
                 replace q235 := eq_true q235
                 refine start_ (n := 7) (S := fun w' => w'.cell? ⟨gb234, 0, none⟩ = some (.int .i64 (wrap64 (((rd_T104 x5_2 ((rd_T34 l0_1 x23_2).f1)).f0) + ((rd_T34 l0_1 x23_2).f2)))) ∧ w'.cell? ⟨gb234, 1, none⟩ = some (.int .i64 (wrap64 (((rd_T104 x5_2 ((rd_T34 l0_1 x23_2).f1)).f1) + 1))) ∧ w'.cell? ⟨gb232, 0, none⟩ = some (.int .i64 ((rd_T34 l0_1 x23_2).f0)) ∧ w'.cell? ⟨gb232, 1, none⟩ = some (.int .i64 ((rd_T34 l0_1 x23_2).f1)) ∧ w'.cell? ⟨gb232, 2, none⟩ = some (.int .i64 ((rd_T34 l0_1 x23_2).f2)) ∧ w'.cell? ⟨gb232, 3, none⟩ = some (.int .i64 ((rd_T34 l0_1 x23_2).f3)) ∧ w'.cell? ⟨gb232, 4, none⟩ = some (.int .i64 ((rd_T34 l0_1 x23_2).f4)) ∧ w'.cell? ⟨go6, (((rd_T34 l0_1 x23_2).f0)).toNat * 2, none⟩ = some (.int .i64 ((rd_T104 x5_2 ((rd_T34 l0_1 x23_2).f0)).f0)) ∧ w'.cell? ⟨go6, (((rd_T34 l0_1 x23_2).f0)).toNat * 2 + 1, none⟩ = some (.int .i64 ((rd_T104 x5_2 ((rd_T34 l0_1 x23_2).f0)).f1))) (ds := []) #[false, false, false, false, false, false, false] (by kernel_rfl) rfl rfl ⟨(blk_cell BK234.out 0).trans rfl, (blk_cell BK234.out 1).trans rfl, (blk_cell BK232.out 0).trans rfl, (blk_cell BK232.out 1).trans rfl, (blk_cell BK232.out 2).trans rfl, (blk_cell BK232.out 3).trans rfl, (blk_cell BK232.out 4).trans rfl, hx235_0, hx235_1⟩ (fun hHeld => ?_)
                 generalize w43.drew = w44 at HO_5 BK223 BK232 BK234 HB hx235_0 hx235_1 hHeld ⊢
                 refine pure_ (i := 1) (N := some 45) (v := ?_) (a' := ?_) #[false, true, false, false, false, false, false] rfl rfl (by kernel_rfl) (fun _ _ _ h => h) (Or.inl ⟨by rfl, ?_⟩) ?_ ?_
                 rotate_left
                 ·intro w'
                  go_simp
                  with_reducible rfl
                 rotate_left
                 ·simp only [Act.put, List.setIfInBounds_toArray, List.set_cons_zero, List.set_cons_succ, i64_w, i32_w]
                  rfl
                 refine pure_ (i := 2) (N := some 46) (v := ?_) (a' := ?_) #[false, true, true, false, false, false, false] rfl rfl (by kernel_rfl) (fun _ _ _ h => h) (Or.inl ⟨by rfl, ?_⟩) ?_ ?_
                 rotate_left
                 ·intro w'
                  go_simp
                  with_reducible rfl
                 rotate_left
                 ·simp only [Act.put, List.setIfInBounds_toArray, List.set_cons_zero, List.set_cons_succ, i64_w, i32_w]
                  rfl
                 refine take_ (i := 0) (N := some 44) (v := ?_) (a' := ?_) #[true, true, true, false, false, false, false] rfl rfl (by kernel_rfl) (fun _ _ _ h => h) (Or.inl ⟨by rfl, ?_⟩) hHeld ?_ ?_
                 rotate_left
                 ·rintro w' ⟨s0, s1, s2, s3, s4, s5, s6, s7, s8⟩
                  go_simp
                  with_reducible rfl
                 rotate_left
                 ·simp only [Act.put, List.setIfInBounds_toArray, List.set_cons_zero, List.set_cons_succ, i64_w, i32_w]
                  rfl
                 refine take_ (i := 3) (N := some 47) (v := ?_) (a' := ?_) #[true, true, true, true, false, false, false] rfl rfl (by kernel_rfl) (fun _ _ _ h => h) (Or.inl ⟨by rfl, ?_⟩) hHeld ?_ ?_
                 rotate_left
                 ·rintro w' ⟨s0, s1, s2, s3, s4, s5, s6, s7, s8⟩
                  go_simp
                  with_reducible rfl
                 rotate_left
                 ·simp only [Act.put, List.setIfInBounds_toArray, List.set_cons_zero, List.set_cons_succ, i64_w, i32_w]
                  rfl
                 refine pure_ (i := 4) (N := some 48) (v := ?_) (a' := ?_) #[true, true, true, true, true, false, false] rfl rfl (by kernel_rfl) (fun _ _ _ h => h) (Or.inl ⟨by rfl, ?_⟩) ?_ ?_
                 rotate_left
                 ·intro w'
                  go_simp
                  with_reducible rfl
                 rotate_left
                 ·simp only [Act.put, List.setIfInBounds_toArray, List.set_cons_zero, List.set_cons_succ, i64_w, i32_w]
                  rfl
                 refine take_ (i := 5) (N := some 49) (v := ?_) (a' := ?_) #[true, true, true, true, true, true, false] rfl rfl (by kernel_rfl) (fun _ _ _ h => h) (Or.inl ⟨by rfl, ?_⟩) hHeld ?_ ?_
                 rotate_left
                 ·rintro w' ⟨s0, s1, s2, s3, s4, s5, s6, s7, s8⟩
                  go_simp
                  with_reducible rfl
                 rotate_left
                 ·simp only [Act.put, List.setIfInBounds_toArray, List.set_cons_zero, List.set_cons_succ, i64_w, i32_w]
                  rfl
                 refine one_ (i := 6) (N := some 50) #[true, true, true, true, true, true, true] rfl rfl (by kernel_rfl) (by decide) (fun K hK => ?_)
                 refine goes_ Try.func127 (by kernel_rfl) rfl #[.agg #[.int .i64 (wrap64 (((rd_T104 x5_2 ((rd_T34 l0_1 x23_2).f1)).f0) + ((rd_T34 l0_1 x23_2).f2))), .int .i64 (wrap64 (((rd_T104 x5_2 ((rd_T34 l0_1 x23_2).f1)).f1) + 1))], .agg #[.int .i64 ((rd_T104 x5_2 ((rd_T34 l0_1 x23_2).f0)).f0), .int .i64 ((rd_T104 x5_2 ((rd_T34 l0_1 x23_2).f0)).f1)]] (by rfl) rfl rfl (by (try simp only [List.map_toArray, List.map_cons, List.map_nil]); first | done | rfl | (simp only [List.length_drop, List.length_take]; rfl)) ?_
                 with_reducible refine (impl_measure_less.calls (wrap64 (((rd_T104 x5_2 ((rd_T34 l0_1 x23_2).f1)).f0) + ((rd_T34 l0_1 x23_2).f2))) (wrap64 (((rd_T104 x5_2 ((rd_T34 l0_1 x23_2).f1)).f1) + 1)) ((rd_T104 x5_2 ((rd_T34 l0_1 x23_2).f0)).f0) ((rd_T104 x5_2 ((rd_T34 l0_1 x23_2).f0)).f1) true _ A32.out).mono ?_
                 rintro e w45 ⟨rfl, hb⟩
                 have HS7_ := (hb.cell (World.block_lt_of_cell? _ _ (hHeld.2.2.2.2.2.2.2.1))).trans (hHeld.2.2.2.2.2.2.2.1)
                 have HS8_ := (hb.cell (World.block_lt_of_cell? _ _ (hHeld.2.2.2.2.2.2.2.2))).trans (hHeld.2.2.2.2.2.2.2.2)
                 refine ⟨_, rfl, ?_⟩
                 have n0_ := Aside0.mk (Kd.R_below (by (with_reducible repeat (first | apply Kd.R_alloc | apply Kd.R_drewN | apply Kd.R_drew)); exact HO_5.out) hb)
                 have n1_ := Aside0.mk (blk_below (g := gb223) (o := .cells #[.int .i64 a0_0, .slice (some ad231) l0_1.length c0_1] 25 (0, 0)) (by (with_reducible repeat (first | refine blk_drewN ?_ _ | refine blk_drew ?_ | refine blk_alloc ?_ _)); exact BK223.out) hb)
                 have n2_ := Aside0.mk (blk_below (g := gb232) (o := .cells #[.int .i64 ((rd_T34 l0_1 x23_2).f0), .int .i64 ((rd_T34 l0_1 x23_2).f1), .int .i64 ((rd_T34 l0_1 x23_2).f2), .int .i64 ((rd_T34 l0_1 x23_2).f3), .int .i64 ((rd_T34 l0_1 x23_2).f4)] 34 (0, 0)) (by (with_reducible repeat (first | refine blk_drewN ?_ _ | refine blk_drew ?_ | refine blk_alloc ?_ _)); exact BK232.out) hb)
                 have n3_ := Aside0.mk (blk_below (g := gb234) (o := .cells #[.int .i64 (wrap64 (((rd_T104 x5_2 ((rd_T34 l0_1 x23_2).f1)).f0) + ((rd_T34 l0_1 x23_2).f2))), .int .i64 (wrap64 (((rd_T104 x5_2 ((rd_T34 l0_1 x23_2).f1)).f1) + 1))] 104 (0, 0)) (by (with_reducible repeat (first | refine blk_drewN ?_ _ | refine blk_drew ?_ | refine blk_alloc ?_ _)); exact BK234.out) hb)
                 have n4_ := Aside0.mk (below_step (by repeat (first | (with_reducible first | exact HB.out | apply below_alloc | apply pw_below_drewN | apply below_drew1 | refine below_set ?_ GE223.out | refine below_set ?_ GE232.out | refine below_set ?_ GE234.out) | exact HB.out)) hb)
                 clear HO_5
                 clear BK223
                 clear BK232
                 clear BK234
                 clear HB
                 have HO_5 := n0_
                 have BK223 := n1_
                 have BK232 := n2_
                 have BK234 := n3_
                 have HB := n4_
                 clear n0_ n1_ n2_ n3_ n4_
                 (try clear hb)
                 (try clear hb2)
                 (try clear hk)
                 (try clear hi)
                 refine hK.out _ _ ⟨(blk_cell BK234.out 0).trans rfl, (blk_cell BK234.out 1).trans rfl, (blk_cell BK232.out 0).trans rfl, (blk_cell BK232.out 1).trans rfl, (blk_cell BK232.out 2).trans rfl, (blk_cell BK232.out 3).trans rfl, (blk_cell BK232.out 4).trans rfl, HS7_, HS8_⟩ (fun hHeld => ?_)
                 clear hK K
                 refine norm_ (a' := ?_) ?_ ?_
                 rotate_left
                 ·show Act.put _ (some 50) _ = _
                  simp only [Act.put, List.setIfInBounds_toArray, List.set_cons_zero, List.set_cons_succ, i64_w, i32_w]
                  rfl
                 refine done_ (by kernel_rfl) ?_
                 have hcz46_0 : w45.cell? ⟨gb232, 0, none⟩ = some (.int .i64 ((rd_T34 l0_1 x23_2).f0)) := (blk_cell BK232.out 0).trans rfl
                 have hcz46_1 : w45.cell? ⟨gb232, 1, none⟩ = some (.int .i64 ((rd_T34 l0_1 x23_2).f1)) := (blk_cell BK232.out 1).trans rfl
                 have hcz46_2 : w45.cell? ⟨gb232, 2, none⟩ = some (.int .i64 ((rd_T34 l0_1 x23_2).f2)) := (blk_cell BK232.out 2).trans rfl
                 have hcz46_3 : w45.cell? ⟨gb232, 3, none⟩ = some (.int .i64 ((rd_T34 l0_1 x23_2).f3)) := (blk_cell BK232.out 3).trans rfl
                 have hcz46_4 : w45.cell? ⟨gb232, 4, none⟩ = some (.int .i64 ((rd_T34 l0_1 x23_2).f4)) := (blk_cell BK232.out 4).trans rfl
                 have hfz46_0 := blk_frozen BK232.out 0
                 have hfz46_1 := blk_frozen BK232.out 1
                 have hfz46_2 := blk_frozen BK232.out 2
                 have hfz46_3 := blk_frozen BK232.out 3
                 have hfz46_4 := blk_frozen BK232.out 4
                 have hcz47_0 : w45.cell? ⟨gb234, 0, none⟩ = some (.int .i64 (wrap64 (((rd_T104 x5_2 ((rd_T34 l0_1 x23_2).f1)).f0) + ((rd_T34 l0_1 x23_2).f2)))) := (blk_cell BK234.out 0).trans rfl
                 have hcz47_1 : w45.cell? ⟨gb234, 1, none⟩ = some (.int .i64 (wrap64 (((rd_T104 x5_2 ((rd_T34 l0_1 x23_2).f1)).f1) + 1))) := (blk_cell BK234.out 1).trans rfl
                 have hfz47_0 := blk_frozen BK234.out 0
                 have hfz47_1 := blk_frozen BK234.out 1
                 have p34 : 0 ≤ (((rd_T34 l0_1 x23_2).f0) : Int) := of_decide_eq_true (by first | (with_reducible assumption) | assumption)
                 have q34 : (((rd_T34 l0_1 x23_2).f0) : Int) < ((x5_2.length : Int) : Int) := of_decide_eq_true (by first | (with_reducible assumption) | assumption)
                 obtain ⟨ce34, hcl34, hM34, hcc34, hfr34⟩ := Kd.R_elem HO_5.out z104 (((rd_T34 l0_1 x23_2).f0) : Int) p34 q34
                 obtain rfl := k104_openM hM34
                 have hx34_0 : w45.cell? ⟨go6, (((rd_T34 l0_1 x23_2).f0) : Int).toNat * 2, none⟩ = some (.int .i64 ((rd_T104 x5_2 ((rd_T34 l0_1 x23_2).f0)).f0)) := hcc34 0 _ rfl
                 have hx34_1 : w45.cell? ⟨go6, (((rd_T34 l0_1 x23_2).f0) : Int).toNat * 2 + 1, none⟩ = some (.int .i64 ((rd_T104 x5_2 ((rd_T34 l0_1 x23_2).f0)).f1)) := hcc34 1 _ rfl
                 have hf34_0 : w45.frozen? ⟨go6, (((rd_T34 l0_1 x23_2).f0) : Int).toNat * 2, none⟩ = false := hfr34 0
                 have hf34_1 : w45.frozen? ⟨go6, (((rd_T34 l0_1 x23_2).f0) : Int).toNat * 2 + 1, none⟩ = false := hfr34 1
                 clear hcl34 hcc34 hfr34; (try clear hM34)
                 replace p34 := eq_true p34
                 replace q34 := eq_true q34
                 have HX48 := Aside0.mk (show Kd.R k104 104 w45 w.heap.size (fun k_ => k_ ≠ gb234) (.slice (some ⟨go6, 0, none⟩) x5_2.length co6) x5_2 from (by (with_reducible repeat (first | apply Kd.R_alloc | apply Kd.R_drewN | apply Kd.R_drew)); exact HO_5.out))
                 obtain ⟨ce48, hcl48, hM48, hcc48, hfr48⟩ := Kd.R_elem HX48.out z104 (((rd_T34 l0_1 x23_2).f0) : Int) (of_decide_eq_true (by first | (with_reducible assumption) | assumption)) (by have h_ : (((rd_T34 l0_1 x23_2).f0) : Int) < ((x5_2.length : Int) : Int) := of_decide_eq_true (by first | (with_reducible assumption) | assumption); first | exact h_ | (have e_ := (Kd.R_reads' HO_5.out).1; omega) | simpa using h_)
                 obtain rfl := k104_openM hM48
                 have HP48 := Kd.R_seg HX48.out (((rd_T34 l0_1 x23_2).f0) : Int) (of_decide_eq_true (by first | (with_reducible assumption) | assumption)) (by have h_ : (((rd_T34 l0_1 x23_2).f0) : Int) < ((x5_2.length : Int) : Int) := of_decide_eq_true (by first | (with_reducible assumption) | assumption); first | exact h_ | (have e_ := (Kd.R_reads' HO_5.out).1; omega) | simpa using h_) (seg := [.int .i64 (wrap64 (((rd_T104 x5_2 ((rd_T34 l0_1 x23_2).f1)).f0) + ((rd_T34 l0_1 x23_2).f2))), .int .i64 (wrap64 (((rd_T104 x5_2 ((rd_T34 l0_1 x23_2).f1)).f1) + 1))]) (j := 0) hcl48 hcc48 (show 2 ≤ 2 from by decide) (x' := (⟨wrap64 (((rd_T104 x5_2 ((rd_T34 l0_1 x23_2).f1)).f0) + ((rd_T34 l0_1 x23_2).f2)), wrap64 (((rd_T104 x5_2 ((rd_T34 l0_1 x23_2).f1)).f1) + 1)⟩ : S104)) (k104_mkM _ _ _ (⟨wrap64 (((rd_T104 x5_2 ((rd_T34 l0_1 x23_2).f1)).f0) + ((rd_T34 l0_1 x23_2).f2)), wrap64 (((rd_T104 x5_2 ((rd_T34 l0_1 x23_2).f1)).f1) + 1)⟩ : S104) ) (fun _ hk => hk)
                 have hx48_0 := hcc48 0 _ rfl
                 (try simp only [show (k104).sz = 2 from rfl, Nat.mul_one, Nat.add_zero] at hx48_0)
                 have hf48_0 := hfr48 0
                 (try simp only [show (k104).sz = 2 from rfl, Nat.mul_one, Nat.add_zero] at hf48_0)
                 have hx48_1 := hcc48 1 _ rfl
                 (try simp only [show (k104).sz = 2 from rfl, Nat.mul_one, Nat.add_zero] at hx48_1)
                 have hf48_1 := hfr48 1
                 (try simp only [show (k104).sz = 2 from rfl, Nat.mul_one, Nat.add_zero] at hf48_1)
                 clear hcl48 hcc48 hfr48; (try clear hM48)
                 try go_wp2_with (first | ((with_reducible refine gate_store (t := 104) (p := 55) rfl ?_); refine store_event (t := 104) (p := 55) (v := ?vo_w49) (w1 := ((w45.setCell ⟨go6, (((rd_T34 l0_1 x23_2).f0) : Int).toNat * 2, none⟩ (.int .i64 (wrap64 (((rd_T104 x5_2 ((rd_T34 l0_1 x23_2).f1)).f0) + ((rd_T34 l0_1 x23_2).f2))))).setCell ⟨go6, (((rd_T34 l0_1 x23_2).f0) : Int).toNat * 2 + 1, none⟩ (.int .i64 (wrap64 (((rd_T104 x5_2 ((rd_T34 l0_1 x23_2).f1)).f1) + 1))))) ?hg ?ho ?hn ?hr ?_; (case ho => rfl); (case hg => rfl); (case hn => rfl); (case hr => first | (go_simp; done) | (go_simp; rfl)); intro w49 hw; have hg : w45.grownBy w49 (some go6) := (by rw [hw]; exact HP48.2); have hp_ : Kd.R k104 104 w49 w.heap.size (fun k_ => k_ ≠ gb234) (.slice (some ⟨go6, 0, none⟩) x5_2.length co6) y237 := (by rw [hw, Ny237.out]; exact HP48.1); clear HP48; have n0_ := Aside0.mk (hp_); have n1_ := Aside0.mk (blk_grown (g := gb223) (o := .cells #[.int .i64 a0_0, .slice (some ad231) l0_1.length c0_1] 25 (0, 0)) (by (with_reducible repeat (first | refine blk_drewN ?_ _ | refine blk_drew ?_ | refine blk_alloc ?_ _)); exact BK223.out) hg (Kd.R_ne HO_5.out BK223.out (by decide))); have n2_ := Aside0.mk (blk_grown (g := gb232) (o := .cells #[.int .i64 ((rd_T34 l0_1 x23_2).f0), .int .i64 ((rd_T34 l0_1 x23_2).f1), .int .i64 ((rd_T34 l0_1 x23_2).f2), .int .i64 ((rd_T34 l0_1 x23_2).f3), .int .i64 ((rd_T34 l0_1 x23_2).f4)] 34 (0, 0)) (by (with_reducible repeat (first | refine blk_drewN ?_ _ | refine blk_drew ?_ | refine blk_alloc ?_ _)); exact BK232.out) hg (Kd.R_ne HO_5.out BK232.out (by decide))); have n3_ := Aside0.mk (blk_grown (g := gb234) (o := .cells #[.int .i64 (wrap64 (((rd_T104 x5_2 ((rd_T34 l0_1 x23_2).f1)).f0) + ((rd_T34 l0_1 x23_2).f2))), .int .i64 (wrap64 (((rd_T104 x5_2 ((rd_T34 l0_1 x23_2).f1)).f1) + 1))] 104 (0, 0)) (by (with_reducible repeat (first | refine blk_drewN ?_ _ | refine blk_drew ?_ | refine blk_alloc ?_ _)); exact BK234.out) hg (Kd.R_away HO_5.out (fun _ hk => hk))); have n4_ := Aside0.mk ((by rw [hw]; exact below_set (below_set (HB.out) GB6.out) GB6.out : Below w.heap.size w w49)); clear HO_5; clear BK223; clear BK232; clear BK234; clear HB; have HO_5 := n0_; have BK223 := n1_; have BK232 := n2_; have BK234 := n3_; have HB := n4_; clear n0_ n1_ n2_ n3_ n4_; clear hg hw hp_))
                 (try simp only [← hl5_2])
                 go_roundg k2
                 case measure => have := HK1.out; have := HK2.out; omega
                 case rel => exact ⟨(y237), (true), (wrap64 (x23_2 + 1)), (by first | rfl | (simp; done) | (simp [*]; done)), (by first | rfl | (simp; done) | (simp [*]; done)), H', ⟨by have := HK1.out; have := HK2.out; omega⟩, ⟨by (try simp only [hl5_1]); (try simp only [hl5_2]); (with_reducible repeat (first | apply Kd.R_alloc | apply Kd.R_drewN | apply Kd.R_drew)); exact Kd.R_mono HO_5.out (fun _ hk => trivial)⟩, ⟨by (try simp only [hl5_1]); (try simp only [hl5_2]); (with_reducible repeat (first | refine blk_drewN ?_ _ | refine blk_drew ?_ | refine blk_alloc ?_ _)); exact BK223.out⟩, ⟨by repeat (first | (with_reducible first | exact HB.out | apply below_alloc | apply pw_below_drewN | apply below_drew1 | refine below_set ?_ GE223.out | refine below_set ?_ GE232.out | refine below_set ?_ GE234.out) | exact HB.out)⟩⟩
                ·replace c33 := Bool.eq_false_iff.mpr c33
                 subst c33
                 have H1 : (impl_Net_toward.l1 k2 x5_2 x6_2 l0_1 (l0_1.length : Int) (wrap64 (x23_2 + 1)) a0_0 l0_1) = some r := by rw [if_neg (show ¬ (false = true) by decide)] at H; exact H
                 clear H
                 have H := H1
                 clear H1
                 have H' := Aside0.mk H
                 clear H
                 have p231 : 0 ≤ (x23_2 : Int) := of_decide_eq_true (by first | (with_reducible assumption) | assumption)
                 have q231 : x23_2 < (l0_1.length : Int) := of_decide_eq_true (by first | (with_reducible assumption) | assumption)
                 obtain ⟨ad231, e231, hx231_0, hx231_1, hx231_2, hx231_3, hx231_4⟩ := at_T34 HR0_1.out x23_2 p231 q231
                 cases e231
                 replace hx231_0 := (HB.out.cell (World.block_lt_of_cell? w _ hx231_0)).trans hx231_0
                 replace hx231_1 := (HB.out.cell (World.block_lt_of_cell? w _ hx231_1)).trans hx231_1
                 replace hx231_2 := (HB.out.cell (World.block_lt_of_cell? w _ hx231_2)).trans hx231_2
                 replace hx231_3 := (HB.out.cell (World.block_lt_of_cell? w _ hx231_3)).trans hx231_3
                 replace hx231_4 := (HB.out.cell (World.block_lt_of_cell? w _ hx231_4)).trans hx231_4
                 replace p231 := eq_true p231
                 replace q231 := eq_true q231
                 try go_wp2_with (first | ((with_reducible refine gate_dst (N := 8) rfl ?_); refine box_event ?hg (N := 8) ?hd (cs := #[.int .i64 0, .int .i64 0, .int .i64 0, .int .i64 0, .int .i64 0]) (t := 34) ?hr ?_; (case hd => rfl); (case hg => rfl); (case hr => first | (go_simp; done) | (go_simp; rfl)); intro gb232 hg w50 hbox hb; have n0_ := Aside0.mk (Kd.R_below (by (with_reducible repeat (first | apply Kd.R_alloc | apply Kd.R_drewN | apply Kd.R_drew)); exact HO_5.out) hb); have n1_ := Aside0.mk (blk_below (g := gb223) (o := .cells #[.int .i64 a0_0, .slice (some ad231) l0_1.length c0_1] 25 (0, 0)) (by (with_reducible repeat (first | refine blk_drewN ?_ _ | refine blk_drew ?_ | refine blk_alloc ?_ _)); exact BK223.out) hb); have n2_ := Aside0.mk (below_step (by repeat (first | (with_reducible first | exact HB.out | apply below_alloc | apply pw_below_drewN | apply below_drew1 | refine below_set ?_ GE223.out) | exact HB.out)) hb); have n3_ := Aside0.mk (hbox); have n4_ := Aside0.mk ((by rw [hg]; exact (below_size (by repeat (first | (with_reducible first | exact HB.out | apply below_alloc | apply pw_below_drewN | apply below_drew1 | refine below_set ?_ GE223.out) | exact HB.out))) : w.heap.size ≤ gb232)); have n5_ := Aside0.mk ((by rw [hg]; exact (below_size (by repeat (first | (with_reducible first | exact HB.out | apply below_alloc | apply pw_below_drewN | apply below_drew1 | refine below_set ?_ GE223.out) | exact HB.out))) : w.heap.size ≤ gb232)); have n6_ := Aside0.mk ((by rw [hg]; exact Nat.ne_of_lt (blk_lt (g := gb223) (o := .cells #[.int .i64 a0_0, .slice (some ad231) l0_1.length c0_1] 25 (0, 0)) (by (with_reducible repeat (first | refine blk_drewN ?_ _ | refine blk_drew ?_ | refine blk_alloc ?_ _)); exact BK223.out)) : gb223 ≠ gb232)); have n7_ := Aside0.mk ((by rw [hg]; exact Nat.ne_of_gt (blk_lt (g := gb223) (o := .cells #[.int .i64 a0_0, .slice (some ad231) l0_1.length c0_1] 25 (0, 0)) (by (with_reducible repeat (first | refine blk_drewN ?_ _ | refine blk_drew ?_ | refine blk_alloc ?_ _)); exact BK223.out)) : gb232 ≠ gb223)); clear HO_5; clear BK223; clear HB; have HO_5 := n0_; have BK223 := n1_; have HB := n2_; have BK232 := n3_; have GW232 := n4_; have GE232 := n5_; have NB223_232 := n6_; have NB232_223 := n7_; clear n0_ n1_ n2_ n3_ n4_ n5_ n6_ n7_; clear hb hbox hg; have hnb51 := NB232_223.out; have hnc51 := NB223_232.out; have hcz52_0 : w50.cell? ⟨gb232, 0, none⟩ = some (.int .i64 0) := (blk_cell BK232.out 0).trans rfl; have hcz52_1 : w50.cell? ⟨gb232, 1, none⟩ = some (.int .i64 0) := (blk_cell BK232.out 1).trans rfl; have hcz52_2 : w50.cell? ⟨gb232, 2, none⟩ = some (.int .i64 0) := (blk_cell BK232.out 2).trans rfl; have hcz52_3 : w50.cell? ⟨gb232, 3, none⟩ = some (.int .i64 0) := (blk_cell BK232.out 3).trans rfl; have hcz52_4 : w50.cell? ⟨gb232, 4, none⟩ = some (.int .i64 0) := (blk_cell BK232.out 4).trans rfl; have hfz52_0 := blk_frozen BK232.out 0; have hfz52_1 := blk_frozen BK232.out 1; have hfz52_2 := blk_frozen BK232.out 2; have hfz52_3 := blk_frozen BK232.out 3; have hfz52_4 := blk_frozen BK232.out 4; have p233 : 0 ≤ (((rd_T34 l0_1 x23_2).f1) : Int) := of_decide_eq_true (by first | (with_reducible assumption) | assumption); have q233 : ((rd_T34 l0_1 x23_2).f1) < (x5_2.length : Int) := of_decide_eq_true (by first | (with_reducible assumption) | assumption); obtain ⟨ad233, e233, hx233_0, hx233_1⟩ := at_T104 (Kd.R_reads' HO_5.out).2.2 ((rd_T34 l0_1 x23_2).f1) p233 q233; obtain rfl : (⟨go6, 0, none⟩ : Addr) = ad233 := (by injection e233); (first | simp only [add_plain] at hx233_0 | simp only [add_at] at hx233_0 | simp only [Addr.add, Nat.zero_add] at hx233_0 | skip); (first | simp only [add_plain] at hx233_1 | simp only [add_at] at hx233_1 | simp only [Addr.add, Nat.zero_add] at hx233_1 | skip); have hn233_0 : (⟨go6, 0, none⟩ : Addr).block ≠ gb232 := Kd.own_blk (Kd.R_ne HO_5.out BK232.out (by decide)); have hn233_1 : (⟨go6, 0, none⟩ : Addr).block ≠ gb232 := Kd.own_blk (Kd.R_ne HO_5.out BK232.out (by decide)); have hn233_2 : (⟨go6, 0, none⟩ : Addr).block ≠ gb232 := Kd.own_blk (Kd.R_ne HO_5.out BK232.out (by decide)); have hn233_3 : (⟨go6, 0, none⟩ : Addr).block ≠ gb232 := Kd.own_blk (Kd.R_ne HO_5.out BK232.out (by decide)); have hn233_4 : (⟨go6, 0, none⟩ : Addr).block ≠ gb232 := Kd.own_blk (Kd.R_ne HO_5.out BK232.out (by decide)); replace hx233_0 := (cell_far (p := ⟨gb232, 0, none⟩) (by first | (rw [add_block]; exact hn233_0) | (show (Addr.add _ _).block ≠ _; rw [add_block]; exact hn233_0) | exact hn233_0) (.int .i64 ((rd_T34 l0_1 x23_2).f0))).trans hx233_0; replace hx233_1 := (cell_far (p := ⟨gb232, 0, none⟩) (by first | (rw [add_block]; exact hn233_0) | (show (Addr.add _ _).block ≠ _; rw [add_block]; exact hn233_0) | exact hn233_0) (.int .i64 ((rd_T34 l0_1 x23_2).f0))).trans hx233_1; replace hx233_0 := (cell_far (p := ⟨gb232, 1, none⟩) (by first | (rw [add_block]; exact hn233_1) | (show (Addr.add _ _).block ≠ _; rw [add_block]; exact hn233_1) | exact hn233_1) (.int .i64 ((rd_T34 l0_1 x23_2).f1))).trans hx233_0; replace hx233_1 := (cell_far (p := ⟨gb232, 1, none⟩) (by first | (rw [add_block]; exact hn233_1) | (show (Addr.add _ _).block ≠ _; rw [add_block]; exact hn233_1) | exact hn233_1) (.int .i64 ((rd_T34 l0_1 x23_2).f1))).trans hx233_1; replace hx233_0 := (cell_far (p := ⟨gb232, 2, none⟩) (by first | (rw [add_block]; exact hn233_2) | (show (Addr.add _ _).block ≠ _; rw [add_block]; exact hn233_2) | exact hn233_2) (.int .i64 ((rd_T34 l0_1 x23_2).f2))).trans hx233_0; replace hx233_1 := (cell_far (p := ⟨gb232, 2, none⟩) (by first | (rw [add_block]; exact hn233_2) | (show (Addr.add _ _).block ≠ _; rw [add_block]; exact hn233_2) | exact hn233_2) (.int .i64 ((rd_T34 l0_1 x23_2).f2))).trans hx233_1; replace hx233_0 := (cell_far (p := ⟨gb232, 3, none⟩) (by first | (rw [add_block]; exact hn233_3) | (show (Addr.add _ _).block ≠ _; rw [add_block]; exact hn233_3) | exact hn233_3) (.int .i64 ((rd_T34 l0_1 x23_2).f3))).trans hx233_0; replace hx233_1 := (cell_far (p := ⟨gb232, 3, none⟩) (by first | (rw [add_block]; exact hn233_3) | (show (Addr.add _ _).block ≠ _; rw [add_block]; exact hn233_3) | exact hn233_3) (.int .i64 ((rd_T34 l0_1 x23_2).f3))).trans hx233_1; replace hx233_0 := (cell_far (p := ⟨gb232, 4, none⟩) (by first | (rw [add_block]; exact hn233_4) | (show (Addr.add _ _).block ≠ _; rw [add_block]; exact hn233_4) | exact hn233_4) (.int .i64 ((rd_T34 l0_1 x23_2).f4))).trans hx233_0; replace hx233_1 := (cell_far (p := ⟨gb232, 4, none⟩) (by first | (rw [add_block]; exact hn233_4) | (show (Addr.add _ _).block ≠ _; rw [add_block]; exact hn233_4) | exact hn233_4) (.int .i64 ((rd_T34 l0_1 x23_2).f4))).trans hx233_1; clear hn233_0; clear hn233_1; clear hn233_2; clear hn233_3; clear hn233_4; replace p233 := eq_true p233; replace q233 := eq_true q233) | ((with_reducible refine gate_dst (N := 9) rfl ?_); refine box_event ?hg (N := 9) ?hd (cs := #[.int .i64 0, .int .i64 0]) (t := 104) ?hr ?_; (case hd => rfl); (case hg => rfl); (case hr => first | (go_simp; done) | (go_simp; rfl)); intro gb234 hg w53 hbox hb; have n0_ := Aside0.mk (Kd.R_below (Kd.R_elderB (by (with_reducible repeat (first | apply Kd.R_alloc | apply Kd.R_drewN | apply Kd.R_drew)); exact (Kd.R_mono (Kd.R_far (p := ⟨gb232, 4, none⟩) (Kd.R_far (p := ⟨gb232, 3, none⟩) (Kd.R_far (p := ⟨gb232, 2, none⟩) (Kd.R_far (p := ⟨gb232, 1, none⟩) (Kd.R_far (p := ⟨gb232, 0, none⟩) (Kd.R_types HO_5.out BK232.out (by decide)) (fun _ hk => hk.2) (.int .i64 ((rd_T34 l0_1 x23_2).f0))) (fun _ hk => hk.2) (.int .i64 ((rd_T34 l0_1 x23_2).f1))) (fun _ hk => hk.2) (.int .i64 ((rd_T34 l0_1 x23_2).f2))) (fun _ hk => hk.2) (.int .i64 ((rd_T34 l0_1 x23_2).f3))) (fun _ hk => hk.2) (.int .i64 ((rd_T34 l0_1 x23_2).f4))) (fun _ h_ => h_.1))) gb234 (Nat.le_of_eq hg.symm)) hb); have n1_ := Aside0.mk (blk_below (g := gb223) (o := .cells #[.int .i64 a0_0, .slice (some ad231) l0_1.length c0_1] 25 (0, 0)) (by (with_reducible repeat (first | refine blk_drewN ?_ _ | refine blk_drew ?_ | refine blk_alloc ?_ _)); refine blk_far ?_ NB223_232.out _; (with_reducible repeat (first | refine blk_drewN ?_ _ | refine blk_drew ?_ | refine blk_alloc ?_ _)); refine blk_far ?_ NB223_232.out _; (with_reducible repeat (first | refine blk_drewN ?_ _ | refine blk_drew ?_ | refine blk_alloc ?_ _)); refine blk_far ?_ NB223_232.out _; (with_reducible repeat (first | refine blk_drewN ?_ _ | refine blk_drew ?_ | refine blk_alloc ?_ _)); refine blk_far ?_ NB223_232.out _; (with_reducible repeat (first | refine blk_drewN ?_ _ | refine blk_drew ?_ | refine blk_alloc ?_ _)); refine blk_far ?_ NB223_232.out _; (with_reducible repeat (first | refine blk_drewN ?_ _ | refine blk_drew ?_ | refine blk_alloc ?_ _)); exact BK223.out) hb); have n2_ := Aside0.mk (blk_below (g := gb232) (o := .cells #[.int .i64 ((rd_T34 l0_1 x23_2).f0), .int .i64 ((rd_T34 l0_1 x23_2).f1), .int .i64 ((rd_T34 l0_1 x23_2).f2), .int .i64 ((rd_T34 l0_1 x23_2).f3), .int .i64 ((rd_T34 l0_1 x23_2).f4)] 34 (0, 0)) (by (with_reducible repeat (first | refine blk_drewN ?_ _ | refine blk_drew ?_ | refine blk_alloc ?_ _)); refine blk_put (cs := #[.int .i64 ((rd_T34 l0_1 x23_2).f0), .int .i64 ((rd_T34 l0_1 x23_2).f1), .int .i64 ((rd_T34 l0_1 x23_2).f2), .int .i64 ((rd_T34 l0_1 x23_2).f3), .int .i64 0]) ?_ 4 _ rfl; (with_reducible repeat (first | refine blk_drewN ?_ _ | refine blk_drew ?_ | refine blk_alloc ?_ _)); refine blk_put (cs := #[.int .i64 ((rd_T34 l0_1 x23_2).f0), .int .i64 ((rd_T34 l0_1 x23_2).f1), .int .i64 ((rd_T34 l0_1 x23_2).f2), .int .i64 0, .int .i64 0]) ?_ 3 _ rfl; (with_reducible repeat (first | refine blk_drewN ?_ _ | refine blk_drew ?_ | refine blk_alloc ?_ _)); refine blk_put (cs := #[.int .i64 ((rd_T34 l0_1 x23_2).f0), .int .i64 ((rd_T34 l0_1 x23_2).f1), .int .i64 0, .int .i64 0, .int .i64 0]) ?_ 2 _ rfl; (with_reducible repeat (first | refine blk_drewN ?_ _ | refine blk_drew ?_ | refine blk_alloc ?_ _)); refine blk_put (cs := #[.int .i64 ((rd_T34 l0_1 x23_2).f0), .int .i64 0, .int .i64 0, .int .i64 0, .int .i64 0]) ?_ 1 _ rfl; (with_reducible repeat (first | refine blk_drewN ?_ _ | refine blk_drew ?_ | refine blk_alloc ?_ _)); refine blk_put (cs := #[.int .i64 0, .int .i64 0, .int .i64 0, .int .i64 0, .int .i64 0]) ?_ 0 _ rfl; (with_reducible repeat (first | refine blk_drewN ?_ _ | refine blk_drew ?_ | refine blk_alloc ?_ _)); exact BK232.out) hb); have n3_ := Aside0.mk (below_step (by repeat (first | (with_reducible first | exact HB.out | apply below_alloc | apply pw_below_drewN | apply below_drew1 | refine below_set ?_ GE223.out | refine below_set ?_ GE232.out) | exact HB.out)) hb); have n4_ := Aside0.mk (hbox); have n5_ := Aside0.mk ((by rw [hg]; exact (below_size (by repeat (first | (with_reducible first | exact HB.out | apply below_alloc | apply pw_below_drewN | apply below_drew1 | refine below_set ?_ GE223.out | refine below_set ?_ GE232.out) | exact HB.out))) : w.heap.size ≤ gb234)); have n6_ := Aside0.mk ((by rw [hg]; exact (below_size (by repeat (first | (with_reducible first | exact HB.out | apply below_alloc | apply pw_below_drewN | apply below_drew1 | refine below_set ?_ GE223.out | refine below_set ?_ GE232.out) | exact HB.out))) : w.heap.size ≤ gb234)); have n7_ := Aside0.mk ((by rw [hg]; exact Nat.ne_of_lt (blk_lt (g := gb223) (o := .cells #[.int .i64 a0_0, .slice (some ad231) l0_1.length c0_1] 25 (0, 0)) (by (with_reducible repeat (first | refine blk_drewN ?_ _ | refine blk_drew ?_ | refine blk_alloc ?_ _)); refine blk_far ?_ NB223_232.out _; (with_reducible repeat (first | refine blk_drewN ?_ _ | refine blk_drew ?_ | refine blk_alloc ?_ _)); refine blk_far ?_ NB223_232.out _; (with_reducible repeat (first | refine blk_drewN ?_ _ | refine blk_drew ?_ | refine blk_alloc ?_ _)); refine blk_far ?_ NB223_232.out _; (with_reducible repeat (first | refine blk_drewN ?_ _ | refine blk_drew ?_ | refine blk_alloc ?_ _)); refine blk_far ?_ NB223_232.out _; (with_reducible repeat (first | refine blk_drewN ?_ _ | refine blk_drew ?_ | refine blk_alloc ?_ _)); refine blk_far ?_ NB223_232.out _; (with_reducible repeat (first | refine blk_drewN ?_ _ | refine blk_drew ?_ | refine blk_alloc ?_ _)); exact BK223.out)) : gb223 ≠ gb234)); have n8_ := Aside0.mk ((by rw [hg]; exact Nat.ne_of_gt (blk_lt (g := gb223) (o := .cells #[.int .i64 a0_0, .slice (some ad231) l0_1.length c0_1] 25 (0, 0)) (by (with_reducible repeat (first | refine blk_drewN ?_ _ | refine blk_drew ?_ | refine blk_alloc ?_ _)); refine blk_far ?_ NB223_232.out _; (with_reducible repeat (first | refine blk_drewN ?_ _ | refine blk_drew ?_ | refine blk_alloc ?_ _)); refine blk_far ?_ NB223_232.out _; (with_reducible repeat (first | refine blk_drewN ?_ _ | refine blk_drew ?_ | refine blk_alloc ?_ _)); refine blk_far ?_ NB223_232.out _; (with_reducible repeat (first | refine blk_drewN ?_ _ | refine blk_drew ?_ | refine blk_alloc ?_ _)); refine blk_far ?_ NB223_232.out _; (with_reducible repeat (first | refine blk_drewN ?_ _ | refine blk_drew ?_ | refine blk_alloc ?_ _)); refine blk_far ?_ NB223_232.out _; (with_reducible repeat (first | refine blk_drewN ?_ _ | refine blk_drew ?_ | refine blk_alloc ?_ _)); exact BK223.out)) : gb234 ≠ gb223)); have n9_ := Aside0.mk ((by rw [hg]; exact Nat.ne_of_lt (blk_lt (g := gb232) (o := .cells #[.int .i64 ((rd_T34 l0_1 x23_2).f0), .int .i64 ((rd_T34 l0_1 x23_2).f1), .int .i64 ((rd_T34 l0_1 x23_2).f2), .int .i64 ((rd_T34 l0_1 x23_2).f3), .int .i64 ((rd_T34 l0_1 x23_2).f4)] 34 (0, 0)) (by (with_reducible repeat (first | refine blk_drewN ?_ _ | refine blk_drew ?_ | refine blk_alloc ?_ _)); refine blk_put (cs := #[.int .i64 ((rd_T34 l0_1 x23_2).f0), .int .i64 ((rd_T34 l0_1 x23_2).f1), .int .i64 ((rd_T34 l0_1 x23_2).f2), .int .i64 ((rd_T34 l0_1 x23_2).f3), .int .i64 0]) ?_ 4 _ rfl; (with_reducible repeat (first | refine blk_drewN ?_ _ | refine blk_drew ?_ | refine blk_alloc ?_ _)); refine blk_put (cs := #[.int .i64 ((rd_T34 l0_1 x23_2).f0), .int .i64 ((rd_T34 l0_1 x23_2).f1), .int .i64 ((rd_T34 l0_1 x23_2).f2), .int .i64 0, .int .i64 0]) ?_ 3 _ rfl; (with_reducible repeat (first | refine blk_drewN ?_ _ | refine blk_drew ?_ | refine blk_alloc ?_ _)); refine blk_put (cs := #[.int .i64 ((rd_T34 l0_1 x23_2).f0), .int .i64 ((rd_T34 l0_1 x23_2).f1), .int .i64 0, .int .i64 0, .int .i64 0]) ?_ 2 _ rfl; (with_reducible repeat (first | refine blk_drewN ?_ _ | refine blk_drew ?_ | refine blk_alloc ?_ _)); refine blk_put (cs := #[.int .i64 ((rd_T34 l0_1 x23_2).f0), .int .i64 0, .int .i64 0, .int .i64 0, .int .i64 0]) ?_ 1 _ rfl; (with_reducible repeat (first | refine blk_drewN ?_ _ | refine blk_drew ?_ | refine blk_alloc ?_ _)); refine blk_put (cs := #[.int .i64 0, .int .i64 0, .int .i64 0, .int .i64 0, .int .i64 0]) ?_ 0 _ rfl; (with_reducible repeat (first | refine blk_drewN ?_ _ | refine blk_drew ?_ | refine blk_alloc ?_ _)); exact BK232.out)) : gb232 ≠ gb234)); have n10_ := Aside0.mk ((by rw [hg]; exact Nat.ne_of_gt (blk_lt (g := gb232) (o := .cells #[.int .i64 ((rd_T34 l0_1 x23_2).f0), .int .i64 ((rd_T34 l0_1 x23_2).f1), .int .i64 ((rd_T34 l0_1 x23_2).f2), .int .i64 ((rd_T34 l0_1 x23_2).f3), .int .i64 ((rd_T34 l0_1 x23_2).f4)] 34 (0, 0)) (by (with_reducible repeat (first | refine blk_drewN ?_ _ | refine blk_drew ?_ | refine blk_alloc ?_ _)); refine blk_put (cs := #[.int .i64 ((rd_T34 l0_1 x23_2).f0), .int .i64 ((rd_T34 l0_1 x23_2).f1), .int .i64 ((rd_T34 l0_1 x23_2).f2), .int .i64 ((rd_T34 l0_1 x23_2).f3), .int .i64 0]) ?_ 4 _ rfl; (with_reducible repeat (first | refine blk_drewN ?_ _ | refine blk_drew ?_ | refine blk_alloc ?_ _)); refine blk_put (cs := #[.int .i64 ((rd_T34 l0_1 x23_2).f0), .int .i64 ((rd_T34 l0_1 x23_2).f1), .int .i64 ((rd_T34 l0_1 x23_2).f2), .int .i64 0, .int .i64 0]) ?_ 3 _ rfl; (with_reducible repeat (first | refine blk_drewN ?_ _ | refine blk_drew ?_ | refine blk_alloc ?_ _)); refine blk_put (cs := #[.int .i64 ((rd_T34 l0_1 x23_2).f0), .int .i64 ((rd_T34 l0_1 x23_2).f1), .int .i64 0, .int .i64 0, .int .i64 0]) ?_ 2 _ rfl; (with_reducible repeat (first | refine blk_drewN ?_ _ | refine blk_drew ?_ | refine blk_alloc ?_ _)); refine blk_put (cs := #[.int .i64 ((rd_T34 l0_1 x23_2).f0), .int .i64 0, .int .i64 0, .int .i64 0, .int .i64 0]) ?_ 1 _ rfl; (with_reducible repeat (first | refine blk_drewN ?_ _ | refine blk_drew ?_ | refine blk_alloc ?_ _)); refine blk_put (cs := #[.int .i64 0, .int .i64 0, .int .i64 0, .int .i64 0, .int .i64 0]) ?_ 0 _ rfl; (with_reducible repeat (first | refine blk_drewN ?_ _ | refine blk_drew ?_ | refine blk_alloc ?_ _)); exact BK232.out)) : gb234 ≠ gb232)); clear HO_5; clear BK223; clear BK232; clear HB; have HO_5 := n0_; have BK223 := n1_; have BK232 := n2_; have HB := n3_; have BK234 := n4_; have GW234 := n5_; have GE234 := n6_; have NB223_234 := n7_; have NB234_223 := n8_; have NB232_234 := n9_; have NB234_232 := n10_; clear n0_ n1_ n2_ n3_ n4_ n5_ n6_ n7_ n8_ n9_ n10_; clear hb hbox hg; have hnb54 := NB234_223.out; have hnc54 := NB223_234.out; have hnb55 := NB234_232.out; have hnc55 := NB232_234.out; have hcz56_0 : w53.cell? ⟨gb234, 0, none⟩ = some (.int .i64 0) := (blk_cell BK234.out 0).trans rfl; have hcz56_1 : w53.cell? ⟨gb234, 1, none⟩ = some (.int .i64 0) := (blk_cell BK234.out 1).trans rfl; have hfz56_0 := blk_frozen BK234.out 0; have hfz56_1 := blk_frozen BK234.out 1; have hcz57_0 : w53.cell? ⟨gb232, 0, none⟩ = some (.int .i64 ((rd_T34 l0_1 x23_2).f0)) := (blk_cell BK232.out 0).trans rfl; have hcz57_1 : w53.cell? ⟨gb232, 1, none⟩ = some (.int .i64 ((rd_T34 l0_1 x23_2).f1)) := (blk_cell BK232.out 1).trans rfl; have hcz57_2 : w53.cell? ⟨gb232, 2, none⟩ = some (.int .i64 ((rd_T34 l0_1 x23_2).f2)) := (blk_cell BK232.out 2).trans rfl; have hcz57_3 : w53.cell? ⟨gb232, 3, none⟩ = some (.int .i64 ((rd_T34 l0_1 x23_2).f3)) := (blk_cell BK232.out 3).trans rfl; have hcz57_4 : w53.cell? ⟨gb232, 4, none⟩ = some (.int .i64 ((rd_T34 l0_1 x23_2).f4)) := (blk_cell BK232.out 4).trans rfl; have hfz57_0 := blk_frozen BK232.out 0; have hfz57_1 := blk_frozen BK232.out 1; have hfz57_2 := blk_frozen BK232.out 2; have hfz57_3 := blk_frozen BK232.out 3; have hfz57_4 := blk_frozen BK232.out 4))
                 have n0_ : Aside0 (Kd.R k104 104 ((((w53.setCell ⟨gb234, 0, none⟩ (.int .i64 ((rd_T104 x5_2 ((rd_T34 l0_1 x23_2).f1)).f0))).setCell ⟨gb234, 1, none⟩ (.int .i64 ((rd_T104 x5_2 ((rd_T34 l0_1 x23_2).f1)).f1))).setCell ⟨gb234, 0, none⟩ (.int .i64 (wrap64 (((rd_T104 x5_2 ((rd_T34 l0_1 x23_2).f1)).f0) + ((rd_T34 l0_1 x23_2).f2))))).setCell ⟨gb234, 1, none⟩ (.int .i64 (wrap64 (((rd_T104 x5_2 ((rd_T34 l0_1 x23_2).f1)).f1) + 1)))) w.heap.size (fun k_ => k_ ≠ gb234) (.slice (some ⟨go6, 0, none⟩) x5_2.length co6) x5_2) := ⟨by (with_reducible repeat (first | apply Kd.R_alloc | apply Kd.R_drewN | apply Kd.R_drew)); exact Kd.R_mono (Kd.R_far (p := ⟨gb234, 1, none⟩) (Kd.R_far (p := ⟨gb234, 0, none⟩) (Kd.R_far (p := ⟨gb234, 1, none⟩) (Kd.R_far (p := ⟨gb234, 0, none⟩) (Kd.R_mono HO_5.out (fun k_ hk => (⟨hk, hk.2⟩ : _ ∧ k_ ≠ gb234))) (fun _ hk => hk.2) (.int .i64 ((rd_T104 x5_2 ((rd_T34 l0_1 x23_2).f1)).f0))) (fun _ hk => hk.2) (.int .i64 ((rd_T104 x5_2 ((rd_T34 l0_1 x23_2).f1)).f1))) (fun _ hk => hk.2) (.int .i64 (wrap64 (((rd_T104 x5_2 ((rd_T34 l0_1 x23_2).f1)).f0) + ((rd_T34 l0_1 x23_2).f2))))) (fun _ hk => hk.2) (.int .i64 (wrap64 (((rd_T104 x5_2 ((rd_T34 l0_1 x23_2).f1)).f1) + 1)))) (fun _ hk => hk.1.2)⟩
                 have n1_ : Aside0 (((((w53.setCell ⟨gb234, 0, none⟩ (.int .i64 ((rd_T104 x5_2 ((rd_T34 l0_1 x23_2).f1)).f0))).setCell ⟨gb234, 1, none⟩ (.int .i64 ((rd_T104 x5_2 ((rd_T34 l0_1 x23_2).f1)).f1))).setCell ⟨gb234, 0, none⟩ (.int .i64 (wrap64 (((rd_T104 x5_2 ((rd_T34 l0_1 x23_2).f1)).f0) + ((rd_T34 l0_1 x23_2).f2))))).setCell ⟨gb234, 1, none⟩ (.int .i64 (wrap64 (((rd_T104 x5_2 ((rd_T34 l0_1 x23_2).f1)).f1) + 1)))).heap[gb223]? = some (.cells #[.int .i64 a0_0, .slice (some ad231) l0_1.length c0_1] 25 (0, 0))) := ⟨by (with_reducible repeat (first | refine blk_drewN ?_ _ | refine blk_drew ?_ | refine blk_alloc ?_ _)); refine blk_far ?_ NB223_234.out _; (with_reducible repeat (first | refine blk_drewN ?_ _ | refine blk_drew ?_ | refine blk_alloc ?_ _)); refine blk_far ?_ NB223_234.out _; (with_reducible repeat (first | refine blk_drewN ?_ _ | refine blk_drew ?_ | refine blk_alloc ?_ _)); refine blk_far ?_ NB223_234.out _; (with_reducible repeat (first | refine blk_drewN ?_ _ | refine blk_drew ?_ | refine blk_alloc ?_ _)); refine blk_far ?_ NB223_234.out _; (with_reducible repeat (first | refine blk_drewN ?_ _ | refine blk_drew ?_ | refine blk_alloc ?_ _)); exact BK223.out⟩
                 have n2_ : Aside0 (((((w53.setCell ⟨gb234, 0, none⟩ (.int .i64 ((rd_T104 x5_2 ((rd_T34 l0_1 x23_2).f1)).f0))).setCell ⟨gb234, 1, none⟩ (.int .i64 ((rd_T104 x5_2 ((rd_T34 l0_1 x23_2).f1)).f1))).setCell ⟨gb234, 0, none⟩ (.int .i64 (wrap64 (((rd_T104 x5_2 ((rd_T34 l0_1 x23_2).f1)).f0) + ((rd_T34 l0_1 x23_2).f2))))).setCell ⟨gb234, 1, none⟩ (.int .i64 (wrap64 (((rd_T104 x5_2 ((rd_T34 l0_1 x23_2).f1)).f1) + 1)))).heap[gb232]? = some (.cells #[.int .i64 ((rd_T34 l0_1 x23_2).f0), .int .i64 ((rd_T34 l0_1 x23_2).f1), .int .i64 ((rd_T34 l0_1 x23_2).f2), .int .i64 ((rd_T34 l0_1 x23_2).f3), .int .i64 ((rd_T34 l0_1 x23_2).f4)] 34 (0, 0))) := ⟨by (with_reducible repeat (first | refine blk_drewN ?_ _ | refine blk_drew ?_ | refine blk_alloc ?_ _)); refine blk_far ?_ NB232_234.out _; (with_reducible repeat (first | refine blk_drewN ?_ _ | refine blk_drew ?_ | refine blk_alloc ?_ _)); refine blk_far ?_ NB232_234.out _; (with_reducible repeat (first | refine blk_drewN ?_ _ | refine blk_drew ?_ | refine blk_alloc ?_ _)); refine blk_far ?_ NB232_234.out _; (with_reducible repeat (first | refine blk_drewN ?_ _ | refine blk_drew ?_ | refine blk_alloc ?_ _)); refine blk_far ?_ NB232_234.out _; (with_reducible repeat (first | refine blk_drewN ?_ _ | refine blk_drew ?_ | refine blk_alloc ?_ _)); exact BK232.out⟩
                 have n3_ : Aside0 (((((w53.setCell ⟨gb234, 0, none⟩ (.int .i64 ((rd_T104 x5_2 ((rd_T34 l0_1 x23_2).f1)).f0))).setCell ⟨gb234, 1, none⟩ (.int .i64 ((rd_T104 x5_2 ((rd_T34 l0_1 x23_2).f1)).f1))).setCell ⟨gb234, 0, none⟩ (.int .i64 (wrap64 (((rd_T104 x5_2 ((rd_T34 l0_1 x23_2).f1)).f0) + ((rd_T34 l0_1 x23_2).f2))))).setCell ⟨gb234, 1, none⟩ (.int .i64 (wrap64 (((rd_T104 x5_2 ((rd_T34 l0_1 x23_2).f1)).f1) + 1)))).heap[gb234]? = some (.cells #[.int .i64 (wrap64 (((rd_T104 x5_2 ((rd_T34 l0_1 x23_2).f1)).f0) + ((rd_T34 l0_1 x23_2).f2))), .int .i64 (wrap64 (((rd_T104 x5_2 ((rd_T34 l0_1 x23_2).f1)).f1) + 1))] 104 (0, 0))) := ⟨by (with_reducible repeat (first | refine blk_drewN ?_ _ | refine blk_drew ?_ | refine blk_alloc ?_ _)); refine blk_put (cs := #[.int .i64 (wrap64 (((rd_T104 x5_2 ((rd_T34 l0_1 x23_2).f1)).f0) + ((rd_T34 l0_1 x23_2).f2))), .int .i64 ((rd_T104 x5_2 ((rd_T34 l0_1 x23_2).f1)).f1)]) ?_ 1 _ rfl; (with_reducible repeat (first | refine blk_drewN ?_ _ | refine blk_drew ?_ | refine blk_alloc ?_ _)); refine blk_put (cs := #[.int .i64 ((rd_T104 x5_2 ((rd_T34 l0_1 x23_2).f1)).f0), .int .i64 ((rd_T104 x5_2 ((rd_T34 l0_1 x23_2).f1)).f1)]) ?_ 0 _ rfl; (with_reducible repeat (first | refine blk_drewN ?_ _ | refine blk_drew ?_ | refine blk_alloc ?_ _)); refine blk_put (cs := #[.int .i64 ((rd_T104 x5_2 ((rd_T34 l0_1 x23_2).f1)).f0), .int .i64 0]) ?_ 1 _ rfl; (with_reducible repeat (first | refine blk_drewN ?_ _ | refine blk_drew ?_ | refine blk_alloc ?_ _)); refine blk_put (cs := #[.int .i64 0, .int .i64 0]) ?_ 0 _ rfl; (with_reducible repeat (first | refine blk_drewN ?_ _ | refine blk_drew ?_ | refine blk_alloc ?_ _)); exact BK234.out⟩
                 have n4_ : Aside0 (Below w.heap.size w ((((w53.setCell ⟨gb234, 0, none⟩ (.int .i64 ((rd_T104 x5_2 ((rd_T34 l0_1 x23_2).f1)).f0))).setCell ⟨gb234, 1, none⟩ (.int .i64 ((rd_T104 x5_2 ((rd_T34 l0_1 x23_2).f1)).f1))).setCell ⟨gb234, 0, none⟩ (.int .i64 (wrap64 (((rd_T104 x5_2 ((rd_T34 l0_1 x23_2).f1)).f0) + ((rd_T34 l0_1 x23_2).f2))))).setCell ⟨gb234, 1, none⟩ (.int .i64 (wrap64 (((rd_T104 x5_2 ((rd_T34 l0_1 x23_2).f1)).f1) + 1))))) := ⟨by repeat (first | (with_reducible first | exact HB.out | apply below_alloc | apply pw_below_drewN | apply below_drew1 | refine below_set ?_ GE223.out | refine below_set ?_ GE232.out | refine below_set ?_ GE234.out) | exact HB.out)⟩
                 (try clear HO_5)
                 (try clear BK223)
                 (try clear BK232)
                 (try clear BK234)
                 (try clear HB)
                 generalize ((((w53.setCell ⟨gb234, 0, none⟩ (.int .i64 ((rd_T104 x5_2 ((rd_T34 l0_1 x23_2).f1)).f0))).setCell ⟨gb234, 1, none⟩ (.int .i64 ((rd_T104 x5_2 ((rd_T34 l0_1 x23_2).f1)).f1))).setCell ⟨gb234, 0, none⟩ (.int .i64 (wrap64 (((rd_T104 x5_2 ((rd_T34 l0_1 x23_2).f1)).f0) + ((rd_T34 l0_1 x23_2).f2))))).setCell ⟨gb234, 1, none⟩ (.int .i64 (wrap64 (((rd_T104 x5_2 ((rd_T34 l0_1 x23_2).f1)).f1) + 1)))) = w58 at n0_ n1_ n2_ n3_ n4_ ⊢
                 have HO_5 := n0_
                 have BK223 := n1_
                 have BK232 := n2_
                 have BK234 := n3_
                 have HB := n4_
                 clear n0_ n1_ n2_ n3_ n4_
                 have n0_ := Aside0.mk (Kd.R_drew HO_5.out)
                 have n1_ := Aside0.mk (blk_drew BK223.out)
                 have n2_ := Aside0.mk (blk_drew BK232.out)
                 have n3_ := Aside0.mk (blk_drew BK234.out)
                 have n4_ := Aside0.mk (below_drew1 HB.out)
                 clear HO_5
                 clear BK223
                 clear BK232
                 clear BK234
                 clear HB
                 have HO_5 := n0_
                 have BK223 := n1_
                 have BK232 := n2_
                 have BK234 := n3_
                 have HB := n4_
                 clear n0_ n1_ n2_ n3_ n4_
                 have p235 : 0 ≤ (((rd_T34 l0_1 x23_2).f0) : Int) := of_decide_eq_true (by first | (with_reducible assumption) | assumption)
                 have q235 : ((rd_T34 l0_1 x23_2).f0) < (x5_2.length : Int) := of_decide_eq_true (by first | (with_reducible assumption) | assumption)
                 obtain ⟨ad235, e235, hx235_0, hx235_1⟩ := at_T104 (Kd.R_reads' HO_5.out).2.2 ((rd_T34 l0_1 x23_2).f0) p235 q235
                 obtain rfl : (⟨go6, 0, none⟩ : Addr) = ad235 := (by injection e235)
                 (first | simp only [add_plain] at hx235_0 | simp only [add_at] at hx235_0 | simp only [Addr.add, Nat.zero_add] at hx235_0 | skip)
                 (first | simp only [add_plain] at hx235_1 | simp only [add_at] at hx235_1 | simp only [Addr.add, Nat.zero_add] at hx235_1 | skip)
                 replace p235 := eq_true p235
                 replace q235 := eq_true q235
                 refine start_ (n := 7) (S := fun w' => w'.cell? ⟨gb234, 0, none⟩ = some (.int .i64 (wrap64 (((rd_T104 x5_2 ((rd_T34 l0_1 x23_2).f1)).f0) + ((rd_T34 l0_1 x23_2).f2)))) ∧ w'.cell? ⟨gb234, 1, none⟩ = some (.int .i64 (wrap64 (((rd_T104 x5_2 ((rd_T34 l0_1 x23_2).f1)).f1) + 1))) ∧ w'.cell? ⟨gb232, 0, none⟩ = some (.int .i64 ((rd_T34 l0_1 x23_2).f0)) ∧ w'.cell? ⟨gb232, 1, none⟩ = some (.int .i64 ((rd_T34 l0_1 x23_2).f1)) ∧ w'.cell? ⟨gb232, 2, none⟩ = some (.int .i64 ((rd_T34 l0_1 x23_2).f2)) ∧ w'.cell? ⟨gb232, 3, none⟩ = some (.int .i64 ((rd_T34 l0_1 x23_2).f3)) ∧ w'.cell? ⟨gb232, 4, none⟩ = some (.int .i64 ((rd_T34 l0_1 x23_2).f4)) ∧ w'.cell? ⟨go6, (((rd_T34 l0_1 x23_2).f0)).toNat * 2, none⟩ = some (.int .i64 ((rd_T104 x5_2 ((rd_T34 l0_1 x23_2).f0)).f0)) ∧ w'.cell? ⟨go6, (((rd_T34 l0_1 x23_2).f0)).toNat * 2 + 1, none⟩ = some (.int .i64 ((rd_T104 x5_2 ((rd_T34 l0_1 x23_2).f0)).f1))) (ds := []) #[false, false, false, false, false, false, false] (by kernel_rfl) rfl rfl ⟨(blk_cell BK234.out 0).trans rfl, (blk_cell BK234.out 1).trans rfl, (blk_cell BK232.out 0).trans rfl, (blk_cell BK232.out 1).trans rfl, (blk_cell BK232.out 2).trans rfl, (blk_cell BK232.out 3).trans rfl, (blk_cell BK232.out 4).trans rfl, hx235_0, hx235_1⟩ (fun hHeld => ?_)
                 generalize w58.drew = w59 at HO_5 BK223 BK232 BK234 HB hx235_0 hx235_1 hHeld ⊢
                 refine pure_ (i := 1) (N := some 45) (v := ?_) (a' := ?_) #[false, true, false, false, false, false, false] rfl rfl (by kernel_rfl) (fun _ _ _ h => h) (Or.inl ⟨by rfl, ?_⟩) ?_ ?_
                 rotate_left
                 ·intro w'
                  go_simp
                  with_reducible rfl
                 rotate_left
                 ·simp only [Act.put, List.setIfInBounds_toArray, List.set_cons_zero, List.set_cons_succ, i64_w, i32_w]
                  rfl
                 refine pure_ (i := 2) (N := some 46) (v := ?_) (a' := ?_) #[false, true, true, false, false, false, false] rfl rfl (by kernel_rfl) (fun _ _ _ h => h) (Or.inl ⟨by rfl, ?_⟩) ?_ ?_
                 rotate_left
                 ·intro w'
                  go_simp
                  with_reducible rfl
                 rotate_left
                 ·simp only [Act.put, List.setIfInBounds_toArray, List.set_cons_zero, List.set_cons_succ, i64_w, i32_w]
                  rfl
                 refine take_ (i := 0) (N := some 44) (v := ?_) (a' := ?_) #[true, true, true, false, false, false, false] rfl rfl (by kernel_rfl) (fun _ _ _ h => h) (Or.inl ⟨by rfl, ?_⟩) hHeld ?_ ?_
                 rotate_left
                 ·rintro w' ⟨s0, s1, s2, s3, s4, s5, s6, s7, s8⟩
                  go_simp
                  with_reducible rfl
                 rotate_left
                 ·simp only [Act.put, List.setIfInBounds_toArray, List.set_cons_zero, List.set_cons_succ, i64_w, i32_w]
                  rfl
                 refine take_ (i := 3) (N := some 47) (v := ?_) (a' := ?_) #[true, true, true, true, false, false, false] rfl rfl (by kernel_rfl) (fun _ _ _ h => h) (Or.inl ⟨by rfl, ?_⟩) hHeld ?_ ?_
                 rotate_left
                 ·rintro w' ⟨s0, s1, s2, s3, s4, s5, s6, s7, s8⟩
                  go_simp
                  with_reducible rfl
                 rotate_left
                 ·simp only [Act.put, List.setIfInBounds_toArray, List.set_cons_zero, List.set_cons_succ, i64_w, i32_w]
                  rfl
                 refine pure_ (i := 4) (N := some 48) (v := ?_) (a' := ?_) #[true, true, true, true, true, false, false] rfl rfl (by kernel_rfl) (fun _ _ _ h => h) (Or.inl ⟨by rfl, ?_⟩) ?_ ?_
                 rotate_left
                 ·intro w'
                  go_simp
                  with_reducible rfl
                 rotate_left
                 ·simp only [Act.put, List.setIfInBounds_toArray, List.set_cons_zero, List.set_cons_succ, i64_w, i32_w]
                  rfl
                 refine take_ (i := 5) (N := some 49) (v := ?_) (a' := ?_) #[true, true, true, true, true, true, false] rfl rfl (by kernel_rfl) (fun _ _ _ h => h) (Or.inl ⟨by rfl, ?_⟩) hHeld ?_ ?_
                 rotate_left
                 ·rintro w' ⟨s0, s1, s2, s3, s4, s5, s6, s7, s8⟩
                  go_simp
                  with_reducible rfl
                 rotate_left
                 ·simp only [Act.put, List.setIfInBounds_toArray, List.set_cons_zero, List.set_cons_succ, i64_w, i32_w]
                  rfl
                 refine one_ (i := 6) (N := some 50) #[true, true, true, true, true, true, true] rfl rfl (by kernel_rfl) (by decide) (fun K hK => ?_)
                 refine goes_ Try.func127 (by kernel_rfl) rfl #[.agg #[.int .i64 (wrap64 (((rd_T104 x5_2 ((rd_T34 l0_1 x23_2).f1)).f0) + ((rd_T34 l0_1 x23_2).f2))), .int .i64 (wrap64 (((rd_T104 x5_2 ((rd_T34 l0_1 x23_2).f1)).f1) + 1))], .agg #[.int .i64 ((rd_T104 x5_2 ((rd_T34 l0_1 x23_2).f0)).f0), .int .i64 ((rd_T104 x5_2 ((rd_T34 l0_1 x23_2).f0)).f1)]] (by rfl) rfl rfl (by (try simp only [List.map_toArray, List.map_cons, List.map_nil]); first | done | rfl | (simp only [List.length_drop, List.length_take]; rfl)) ?_
                 with_reducible refine (impl_measure_less.calls (wrap64 (((rd_T104 x5_2 ((rd_T34 l0_1 x23_2).f1)).f0) + ((rd_T34 l0_1 x23_2).f2))) (wrap64 (((rd_T104 x5_2 ((rd_T34 l0_1 x23_2).f1)).f1) + 1)) ((rd_T104 x5_2 ((rd_T34 l0_1 x23_2).f0)).f0) ((rd_T104 x5_2 ((rd_T34 l0_1 x23_2).f0)).f1) false _ A32.out).mono ?_
                 rintro e w60 ⟨rfl, hb⟩
                 have HS7_ := (hb.cell (World.block_lt_of_cell? _ _ (hHeld.2.2.2.2.2.2.2.1))).trans (hHeld.2.2.2.2.2.2.2.1)
                 have HS8_ := (hb.cell (World.block_lt_of_cell? _ _ (hHeld.2.2.2.2.2.2.2.2))).trans (hHeld.2.2.2.2.2.2.2.2)
                 refine ⟨_, rfl, ?_⟩
                 have n0_ := Aside0.mk (Kd.R_below (by (with_reducible repeat (first | apply Kd.R_alloc | apply Kd.R_drewN | apply Kd.R_drew)); exact HO_5.out) hb)
                 have n1_ := Aside0.mk (blk_below (g := gb223) (o := .cells #[.int .i64 a0_0, .slice (some ad231) l0_1.length c0_1] 25 (0, 0)) (by (with_reducible repeat (first | refine blk_drewN ?_ _ | refine blk_drew ?_ | refine blk_alloc ?_ _)); exact BK223.out) hb)
                 have n2_ := Aside0.mk (blk_below (g := gb232) (o := .cells #[.int .i64 ((rd_T34 l0_1 x23_2).f0), .int .i64 ((rd_T34 l0_1 x23_2).f1), .int .i64 ((rd_T34 l0_1 x23_2).f2), .int .i64 ((rd_T34 l0_1 x23_2).f3), .int .i64 ((rd_T34 l0_1 x23_2).f4)] 34 (0, 0)) (by (with_reducible repeat (first | refine blk_drewN ?_ _ | refine blk_drew ?_ | refine blk_alloc ?_ _)); exact BK232.out) hb)
                 have n3_ := Aside0.mk (blk_below (g := gb234) (o := .cells #[.int .i64 (wrap64 (((rd_T104 x5_2 ((rd_T34 l0_1 x23_2).f1)).f0) + ((rd_T34 l0_1 x23_2).f2))), .int .i64 (wrap64 (((rd_T104 x5_2 ((rd_T34 l0_1 x23_2).f1)).f1) + 1))] 104 (0, 0)) (by (with_reducible repeat (first | refine blk_drewN ?_ _ | refine blk_drew ?_ | refine blk_alloc ?_ _)); exact BK234.out) hb)
                 have n4_ := Aside0.mk (below_step (by repeat (first | (with_reducible first | exact HB.out | apply below_alloc | apply pw_below_drewN | apply below_drew1 | refine below_set ?_ GE223.out | refine below_set ?_ GE232.out | refine below_set ?_ GE234.out) | exact HB.out)) hb)
                 clear HO_5
                 clear BK223
                 clear BK232
                 clear BK234
                 clear HB
                 have HO_5 := n0_
                 have BK223 := n1_
                 have BK232 := n2_
                 have BK234 := n3_
                 have HB := n4_
                 clear n0_ n1_ n2_ n3_ n4_
                 (try clear hb)
                 (try clear hb2)
                 (try clear hk)
                 (try clear hi)
                 refine hK.out _ _ ⟨(blk_cell BK234.out 0).trans rfl, (blk_cell BK234.out 1).trans rfl, (blk_cell BK232.out 0).trans rfl, (blk_cell BK232.out 1).trans rfl, (blk_cell BK232.out 2).trans rfl, (blk_cell BK232.out 3).trans rfl, (blk_cell BK232.out 4).trans rfl, HS7_, HS8_⟩ (fun hHeld => ?_)
                 clear hK K
                 refine norm_ (a' := ?_) ?_ ?_
                 rotate_left
                 ·show Act.put _ (some 50) _ = _
                  simp only [Act.put, List.setIfInBounds_toArray, List.set_cons_zero, List.set_cons_succ, i64_w, i32_w]
                  rfl
                 refine done_ (by kernel_rfl) ?_
                 try go_wp2
                 (try simp only [← hl5_2])
                 go_roundg k2
                 case measure => have := HK1.out; have := HK2.out; omega
                 case rel => exact ⟨(x5_2), (x6_2), (wrap64 (x23_2 + 1)), (by first | rfl | (simp; done) | (simp [*]; done)), (by first | rfl | (simp; done) | (simp [*]; done)), H', ⟨by have := HK1.out; have := HK2.out; omega⟩, ⟨by (try simp only [hl5_1]); (try simp only [hl5_2]); (with_reducible repeat (first | apply Kd.R_alloc | apply Kd.R_drewN | apply Kd.R_drew)); exact Kd.R_mono HO_5.out (fun _ hk => trivial)⟩, ⟨by (try simp only [hl5_1]); (try simp only [hl5_2]); (with_reducible repeat (first | refine blk_drewN ?_ _ | refine blk_drew ?_ | refine blk_alloc ?_ _)); exact BK223.out⟩, ⟨by repeat (first | (with_reducible first | exact HB.out | apply below_alloc | apply pw_below_drewN | apply below_drew1 | refine below_set ?_ GE223.out | refine below_set ?_ GE232.out | refine below_set ?_ GE234.out) | exact HB.out)⟩⟩
               ·rw [if_neg c31] at H
                exact absurd H (by simp)
              ·rw [if_neg c30] at H
               exact absurd H (by simp)
            ·rw [if_neg c21] at H
             exact absurd H (by simp)
           ·rw [if_neg c20] at H
            exact absurd H (by simp)
          ·rw [if_neg c19] at H
           exact absurd H (by simp)
         ·rw [if_neg c18] at H
          exact absurd H (by simp)
        ·rw [if_neg c17] at H
         have c17b0 : decide (x23_2 < (l0_1.length : Int)) = false := decide_eq_false c17
         clear c17
         have H' := Aside0.mk H
         clear H
         go_wp2
         (try simp only [← hl5_1, ← hl5_2])
         go_roundg k2
         case measure => have := HK1.out; have := HK2.out; omega
         case rel => exact ⟨(x5_2), (x6_2), (by first | rfl | (simp; done) | (simp [*]; done)), H', ⟨by have := HK1.out; have := HK2.out; omega⟩, ⟨by (try simp only [hl5_1]); (try simp only [hl5_2]); (with_reducible repeat (first | apply Kd.R_alloc | apply Kd.R_drewN | apply Kd.R_drew)); exact HO_5.out⟩, ⟨by (try simp only [hl5_1]); (try simp only [hl5_2]); (with_reducible repeat (first | refine blk_drewN ?_ _ | refine blk_drew ?_ | refine blk_alloc ?_ _)); exact BK223.out⟩, ⟨by repeat (first | (with_reducible first | exact HB.out | apply below_alloc | apply pw_below_drewN | apply below_drew1 | refine below_set ?_ GE223.out) | exact HB.out)⟩⟩
     ·replace c15 := Bool.eq_false_iff.mpr c15
      subst c15
      have H1 : (some x5_1) = some r := by rw [if_neg (show ¬ (false = true) by decide)] at H; exact H
      clear H
      have H := H1
      clear H1
      obtain rfl := Option.some.inj H
      go_wp2
      go_ret
      exact ⟨_, by first | rfl | (simp [errW_none, errW_some] <;> rfl) | (simp [*, errW_none, errW_some] <;> rfl), by (with_reducible repeat (first | apply Kd.R_alloc | apply Kd.R_drewN | apply Kd.R_drew)); exact HO_5.out, by repeat (first | (with_reducible first | exact HB.out | apply below_alloc | apply pw_below_drewN | apply below_drew1 | refine below_set ?_ GE223.out) | exact HB.out)⟩
  ·rw [if_neg c5] at H
   exact absurd H (by simp)
 ·rw [if_neg c4] at H
  exact absurd H (by simp)
end Go.Proofs.Ytljdcinpjnijcaa.Pr
end
section
namespace Go.Proofs.Ytljdcinpjnijcaa.Pr
open Go.RowKit Go.Proofs.YtljdcinpjnijcaaW.PrintWords Go.Proofs.YtljdcinpjnijcaaW.PrintLast Go.Proofs.YtljdcinpjnijcaaW.PrintMore
attribute [local go_sem] max2_int min2_int max_two min_two max_three min_three max_four min_four
set_option linter.unusedVariables false
set_option linter.unusedSimpArgs false
def impl_Net_from.f (k : Nat) (a0_0 : Int) (l0_1 : List (S34)) (a1 : Int) : Option (List Int) := (impl_Net_back.f k a0_0 l0_1).bind fun bt239 => ((impl_Net_toward.f k bt239.1 bt239.2 a1).bind fun t243 => ((impl_costs.f k t243).bind fun t246 => (some t246)))
set_option maxHeartbeats 8000000 in
set_option maxRecDepth 100000 in
theorem impl_Net_from.calls (k : Nat) (a0_0 : Int) (A0_1 : Option Addr) (c0_1 : Nat) (l0_1 : List (S34)) (a1 : Int) (r : List Int) (w : World) (hr0_1 : Kd.C k34 w A0_1 l0_1.length l0_1) (hc0_1 : l0_1.length ≤ c0_1) (h : impl_Net_from.f k a0_0 l0_1 a1 = some r) :
  Calls Try.prog 52 #[.agg #[.int .i64 a0_0, .slice A0_1 l0_1.length c0_1], .int .i64 a1] w fun e w' => ∃ v0_ : Value, e = .returned (v0_) ∧ Kd.R (Kd.int .i64) 3 w' w.heap.size (fun _ => True) v0_ r ∧ Below w.heap.size w w' := by
 have hu25 := Try.underlying25
 have HR0_1 := Aside0.mk hr0_1
 have HC0_1 := Aside0.mk hc0_1
 clear hr0_1 hc0_1
 have HB := Aside0.mk (Below.refl w.heap.size w)
 have H : ((impl_Net_back.f k a0_0 l0_1).bind fun bt239 => ((impl_Net_toward.f k bt239.1 bt239.2 a1).bind fun t243 => ((impl_costs.f k t243).bind fun t246 => (some t246)))) = some r := h
 clear h
 replace H := Option.bind_eq_some_iff.mp H
 obtain ⟨⟨t239, t240⟩, A30, H⟩ := H
 replace H : ((impl_Net_toward.f k t239 t240 a1).bind fun t243 => ((impl_costs.f k t243).bind fun t246 => (some t246))) = some r := H
 have A3 := Aside0.mk A30
 clear A30
 replace H := Option.bind_eq_some_iff.mp H
 obtain ⟨t243, A40, H⟩ := H
 replace H : ((impl_costs.f k t243).bind fun t246 => (some t246)) = some r := H
 have A4 := Aside0.mk A40
 clear A40
 replace H := Option.bind_eq_some_iff.mp H
 obtain ⟨t246, A50, H⟩ := H
 replace H : (some t246) = some r := H
 have A5 := Aside0.mk A50
 clear A50
 obtain rfl := Option.some.inj H
 go_enter Try.func52, Try.ntmps52
 go_wp2_with (first | ((with_reducible refine gate_dst (N := 2) rfl ?_); refine box_event ?hg (N := 2) ?hd (cs := #[.int .i64 a0_0, .slice A0_1 l0_1.length c0_1]) (t := 25) ?hr ?_; (case hd => rfl); (case hg => rfl); (case hr => first | (go_simp; done) | (go_simp; rfl)); intro gb238 hg w6 hbox hb; have n0_ := Aside0.mk (below_step (by repeat (first | (with_reducible first | exact HB.out | apply below_alloc | apply pw_below_drewN | apply below_drew1) | exact HB.out)) hb); have n1_ := Aside0.mk (hbox); have n2_ := Aside0.mk ((by rw [hg]; exact (below_size (by repeat (first | (with_reducible first | exact HB.out | apply below_alloc | apply pw_below_drewN | apply below_drew1) | exact HB.out))) : w.heap.size ≤ gb238)); have n3_ := Aside0.mk ((by rw [hg]; exact (below_size (by repeat (first | (with_reducible first | exact HB.out | apply below_alloc | apply pw_below_drewN | apply below_drew1) | exact HB.out))) : w.heap.size ≤ gb238)); clear HB; have HB := n0_; have BK238 := n1_; have GW238 := n2_; have GE238 := n3_; clear n0_ n1_ n2_ n3_; clear hb hbox hg; have hcz7_0 : w6.cell? ⟨gb238, 0, none⟩ = some (.int .i64 a0_0) := (blk_cell BK238.out 0).trans rfl; have hcz7_1 : w6.cell? ⟨gb238, 1, none⟩ = some (.slice A0_1 l0_1.length c0_1) := (blk_cell BK238.out 1).trans rfl; have hfz7_0 := blk_frozen BK238.out 0; have hfz7_1 := blk_frozen BK238.out 1) | ((with_reducible refine gate_callee (f := 92) rfl ?_); refine goesL_ (some 6) rfl rfl Try.func92 (by kernel_rfl) rfl #[.agg #[.int .i64 a0_0, .slice A0_1 l0_1.length c0_1]] rfl (by (try simp only [List.map_toArray, List.map_cons, List.map_nil]); first | done | rfl | (simp only [List.length_drop, List.length_take]; rfl)) ?_; (with_reducible refine (impl_Net_back.calls k a0_0 _ _ l0_1 t239 t240 _ ?side1 ?side2 A3.out).mono ?_); (case side1 => repeat (first | exact (Kd.C_below HR0_1.out HB.out) | (with_reducible refine Kd.C_alloc ?_ _) | (with_reducible refine Kd.C_drewN ?_ _) | (with_reducible refine Kd.C_drew ?_))); (case side2 => exact HC0_1.out); rintro e w8 ⟨v241, rfl, ho0, hb⟩; refine ⟨_, rfl, ?_⟩; have n0_ := Aside0.mk (Kd.R_lower ho0 (below_size (by repeat (first | (with_reducible first | exact HB.out | apply below_alloc | apply pw_below_drewN | apply below_drew1 | refine below_set ?_ GE238.out) | exact HB.out)))); have n1_ := Aside0.mk (blk_below (g := gb238) (o := .cells #[.int .i64 a0_0, .slice A0_1 l0_1.length c0_1] 25 (0, 0)) (by (with_reducible repeat (first | refine blk_drewN ?_ _ | refine blk_drew ?_ | refine blk_alloc ?_ _)); exact BK238.out) hb); have n2_ := Aside0.mk (below_step (by repeat (first | (with_reducible first | exact HB.out | apply below_alloc | apply pw_below_drewN | apply below_drew1 | refine below_set ?_ GE238.out) | exact HB.out)) hb); clear BK238; clear HB; have HO242 := n0_; have BK238 := n1_; have HB := n2_; clear n0_ n1_ n2_; (try clear hb); (try clear hb2); (try clear hk); (try clear hi); (try clear ho0); obtain ⟨Ao9, co9, eo9⟩ := Kd.R_slice HO242.out; subst eo9) | ((with_reducible refine gate_callee (f := 93) rfl ?_); refine goesL_ (some 8) rfl rfl Try.func93 (by kernel_rfl) rfl #[.agg #[.int .i64 t239, .slice Ao9 t240.length co9], .int .i64 a1] rfl (by (try simp only [List.map_toArray, List.map_cons, List.map_nil]); first | done | rfl | (simp only [List.length_drop, List.length_take]; rfl)) ?_; (with_reducible refine (impl_Net_toward.calls k t239 _ _ t240 a1 t243 _ ?side1 ?side2 A4.out).mono ?_); (case side1 => repeat (first | exact (Kd.R_reads' HO242.out).2.2 | (with_reducible refine Kd.C_alloc ?_ _) | (with_reducible refine Kd.C_drewN ?_ _) | (with_reducible refine Kd.C_drew ?_))); (case side2 => exact (Kd.R_reads' HO242.out).2.1); rintro e w10 ⟨v244, rfl, ho0, hb⟩; refine ⟨_, rfl, ?_⟩; have n0_ := Aside0.mk (Kd.R_below (by (with_reducible repeat (first | apply Kd.R_alloc | apply Kd.R_drewN | apply Kd.R_drew)); exact HO242.out) hb); have n1_ := Aside0.mk (Kd.R_lower ho0 (below_size (by repeat (first | (with_reducible first | exact HB.out | apply below_alloc | apply pw_below_drewN | apply below_drew1 | refine below_set ?_ GE238.out) | exact HB.out)))); have n2_ := Aside0.mk (blk_below (g := gb238) (o := .cells #[.int .i64 a0_0, .slice A0_1 l0_1.length c0_1] 25 (0, 0)) (by (with_reducible repeat (first | refine blk_drewN ?_ _ | refine blk_drew ?_ | refine blk_alloc ?_ _)); exact BK238.out) hb); have n3_ := Aside0.mk (below_step (by repeat (first | (with_reducible first | exact HB.out | apply below_alloc | apply pw_below_drewN | apply below_drew1 | refine below_set ?_ GE238.out) | exact HB.out)) hb); clear HO242; clear BK238; clear HB; have HO242 := n0_; have HO245 := n1_; have BK238 := n2_; have HB := n3_; clear n0_ n1_ n2_ n3_; (try clear hb); (try clear hb2); (try clear hk); (try clear hi); (try clear ho0); obtain ⟨Ao11, co11, eo11⟩ := Kd.R_slice HO245.out; subst eo11) | ((with_reducible refine gate_callee (f := 91) rfl ?_); refine goesL_ (some 9) rfl rfl Try.func91 (by kernel_rfl) rfl #[.slice Ao11 t243.length co11] rfl (by (try simp only [List.map_toArray, List.map_cons, List.map_nil]); first | done | rfl | (simp only [List.length_drop, List.length_take]; rfl)) ?_; (with_reducible refine (impl_costs.calls k _ _ t243 t246 _ ?side1 ?side2 A5.out).mono ?_); (case side1 => repeat (first | exact (Kd.R_reads' HO245.out).2.2 | (with_reducible refine Kd.C_alloc ?_ _) | (with_reducible refine Kd.C_drewN ?_ _) | (with_reducible refine Kd.C_drew ?_))); (case side2 => exact (Kd.R_reads' HO245.out).2.1); rintro e w12 ⟨v247, rfl, ho0, hb⟩; refine ⟨_, rfl, ?_⟩; have n0_ := Aside0.mk (Kd.R_below (by (with_reducible repeat (first | apply Kd.R_alloc | apply Kd.R_drewN | apply Kd.R_drew)); exact HO242.out) hb); have n1_ := Aside0.mk (Kd.R_below (by (with_reducible repeat (first | apply Kd.R_alloc | apply Kd.R_drewN | apply Kd.R_drew)); exact HO245.out) hb); have n2_ := Aside0.mk (Kd.R_lower ho0 (below_size (by repeat (first | (with_reducible first | exact HB.out | apply below_alloc | apply pw_below_drewN | apply below_drew1 | refine below_set ?_ GE238.out) | exact HB.out)))); have n3_ := Aside0.mk (blk_below (g := gb238) (o := .cells #[.int .i64 a0_0, .slice A0_1 l0_1.length c0_1] 25 (0, 0)) (by (with_reducible repeat (first | refine blk_drewN ?_ _ | refine blk_drew ?_ | refine blk_alloc ?_ _)); exact BK238.out) hb); have n4_ := Aside0.mk (below_step (by repeat (first | (with_reducible first | exact HB.out | apply below_alloc | apply pw_below_drewN | apply below_drew1 | refine below_set ?_ GE238.out) | exact HB.out)) hb); clear HO242; clear HO245; clear BK238; clear HB; have HO242 := n0_; have HO245 := n1_; have HO248 := n2_; have BK238 := n3_; have HB := n4_; clear n0_ n1_ n2_ n3_ n4_; (try clear hb); (try clear hb2); (try clear hk); (try clear hi); (try clear ho0)))
 go_ret
 exact ⟨_, by first | rfl | (simp [errW_none, errW_some] <;> rfl) | (simp [*, errW_none, errW_some] <;> rfl), by (with_reducible repeat (first | apply Kd.R_alloc | apply Kd.R_drewN | apply Kd.R_drew)); exact HO248.out, by repeat (first | (with_reducible first | exact HB.out | apply below_alloc | apply pw_below_drewN | apply below_drew1 | refine below_set ?_ GE238.out) | exact HB.out)⟩
end Go.Proofs.Ytljdcinpjnijcaa.Pr
end
