/- For the statement FnRingOrder of this seat: it is proved here, with no further conditions (part 8 of its texts: words, walks of the functions, the plain law, the row). -/
import Derived.Test.YtmabopomecdidaaRows
import Derived.WalkKit
import Derived.ProofKit
import Derived.OpenShut
import Derived.ShutString
import Derived.ChangeOld
import Derived.Below
import Derived.SizedLaws
import Derived.WideShapes
import Derived.Test.YtmabopomecdidaaKFnRingOrder6
section
namespace Go.Proofs.Ytmabopomecdidaa.Pr
open Go.RowKit Go.Proofs.YtmabopomecdidaaW.PrintWords Go.Proofs.YtmabopomecdidaaW.PrintLast Go.Proofs.YtmabopomecdidaaW.PrintMore
attribute [local go_sem] max2_int min2_int max_two min_two max_three min_three max_four min_four
set_option linter.unusedVariables false
set_option linter.unusedSimpArgs false
def laws_eqArcS.l0 : Nat → List (S45) → List (S45) → Int → Option (Bool)
 | 0, _, _, _ => none
 | k + 1, x0, x1, x5 => if x5 < (x0.length : Int) then (if 0 ≤ x5 then (if x5 < (x1.length : Int) then ((laws_eqArc.f ((rd_T45 x0 x5).f0) ((rd_T45 x0 x5).f1) ((rd_T45 x0 x5).f2) ((rd_T45 x0 x5).f3) ((rd_T45 x0 x5).f4) ((rd_T45 x1 x5).f0) ((rd_T45 x1 x5).f1) ((rd_T45 x1 x5).f2) ((rd_T45 x1 x5).f3) ((rd_T45 x1 x5).f4)).bind fun t584 => (if t584 = true then (laws_eqArcS.l0 k x0 x1 (wrap64 (x5 + 1))) else (some false))) else (none)) else (none)) else (some true)
def laws_eqArcS.f (k : Nat) (l0 : List (S45)) (l1 : List (S45)) : Option (Bool) := if (l0.length : Int) = (l1.length : Int) then (laws_eqArcS.l0 k l0 l1 0) else (some false)
theorem laws_eqArcS.mono_l : ∀ k, (∀ y0 y1 y2, LeO (laws_eqArcS.l0 k y0 y1 y2) (laws_eqArcS.l0 (k + 1) y0 y1 y2))
 | 0 => fun _ _ _ r h => by simp [laws_eqArcS.l0] at h
 | k + 1 => by
  have ih0 := laws_eqArcS.mono_l k
  ·intro y0 y1 y2
   unfold laws_eqArcS.l0
   repeat' first
   | (with_reducible exact ih0 _ _ _)
   | (with_reducible exact LeO.refl _)
   | (with_reducible exact LeO.none _)
   | (with_reducible refine LeO.ite ?_ ?_)
   | (with_reducible refine LeO.bind ?_ (fun _ => ?_))
   | exact ih0 _ _ _
   | exact LeO.none _
   | refine LeO.ite ?_ ?_
   | refine LeO.bind ?_ (fun _ => ?_)
theorem laws_eqArcS.mono : ∀ a0 a1 k, LeO (laws_eqArcS.f k a0 a1) (laws_eqArcS.f (k + 1) a0 a1) := by
 intro a0 a1 k
 have ih0 := laws_eqArcS.mono_l k
 unfold laws_eqArcS.f
 repeat' first
   | (with_reducible exact ih0 _ _ _)
   | (with_reducible exact LeO.refl _)
   | (with_reducible exact LeO.none _)
   | (with_reducible refine LeO.ite ?_ ?_)
   | (with_reducible refine LeO.bind ?_ (fun _ => ?_))
   | exact ih0 _ _ _
   | exact LeO.none _
   | refine LeO.ite ?_ ?_
   | refine LeO.bind ?_ (fun _ => ?_)
def laws_eqArcS.T6 : Bool × List (List Nat × List Nat) := (true, [([], []), ([], []), ([0, 1], [0, 1]), ([2], [2]), ([], []), ([], []), ([4, 5], [4, 5]), ([6], [6]), ([3, 7], [3, 7]), ([8], [8])])
def laws_eqArcS.B6 : List Nat := [0, 0, 3, 7, 0, 0, 48, 112, 255, 511]
theorem laws_eqArcS.tab6 : rtab .any (opsOf Try.f86 6) = laws_eqArcS.T6 := by kernel_rfl
theorem laws_eqArcS.bits6 : waitsOk laws_eqArcS.T6.2 laws_eqArcS.B6 = true := by kernel_rfl
set_option maxHeartbeats 8000000 in
set_option maxRecDepth 100000 in
theorem laws_eqArcS.calls (k : Nat) (A0 : Option Addr) (c0 : Nat) (l0 : List (S45)) (A1 : Option Addr) (c1 : Nat) (l1 : List (S45)) (r : Bool) (w : World) (hr0 : Kd.C k45 w A0 l0.length l0) (hc0 : l0.length ≤ c0) (hr1 : Kd.C k45 w A1 l1.length l1) (hc1 : l1.length ≤ c1) (h : laws_eqArcS.f k l0 l1 = some r) :
  Calls Try.prog 86 #[.slice A0 l0.length c0, .slice A1 l1.length c1] w fun e w' => e = .returned (.bool r) ∧ Below w.heap.size w w' := by
 have hu45 := Try.underlying45
 have HR0 := Aside0.mk hr0
 have HC0 := Aside0.mk hc0
 clear hr0 hc0
 have HR1 := Aside0.mk hr1
 have HC1 := Aside0.mk hc1
 clear hr1 hc1
 have HB := Aside0.mk (Below.refl w.heap.size w)
 have H : (if (l0.length : Int) = (l1.length : Int) then (laws_eqArcS.l0 k l0 l1 0) else (some false)) = some r := h
 clear h
 by_cases c3 : (l0.length : Int) = (l1.length : Int)
 ·rw [if_pos c3] at H
  have c3b0 : ((l0.length : Int) == (l1.length : Int)) = true := beq_iff_eq.mpr c3
  have c3b1 : ((l0.length : Int) != (l1.length : Int)) = false := bne_eq_false_iff_eq.mpr c3
  have c3b2 : (l0.length == l1.length) = true := by first | simpa using c3 | (simp at c3 ⊢; omega)
  clear c3
  have H' := Aside0.mk H
  clear H
  go_enter Try.func86, Try.ntmps86
  go_wp2
  go_loopg [5] k (fun kq v5 w' => ∃ (x5_1 : Int), v5 = .int .i64 x5_1 ∧ Aside0 (laws_eqArcS.l0 kq l0 l1 x5_1 = some r) ∧ Aside0 (kq ≤ k) ∧ Aside0 (Below w.heap.size w w'))
  case atStart => exact ⟨(0), (by first | rfl | (simp; done) | (simp [*]; done)), H', ⟨Nat.le_refl _⟩, ⟨by repeat (first | (with_reducible first | exact HB.out | apply below_alloc | apply pw_below_drewN | apply below_drew1) | exact HB.out)⟩⟩
  case round =>
   clear H'
   try clear c1
   try clear p2
   try clear c3
   try clear c3b0
   try clear c3b1
   try clear c3b2
   obtain ⟨x5_1, rfl, HA, HK1, HB⟩ := hrel
   cases gk with
   | zero => exact absurd HA.out (by simp [laws_eqArcS.l0])
   | succ k1 =>
    have H := HA.out
    clear HA
    simp only [laws_eqArcS.l0] at H
    by_cases c4 : x5_1 < (l0.length : Int)
    ·rw [if_pos c4] at H
     have c4b0 : decide (x5_1 < (l0.length : Int)) = true := decide_eq_true c4
     clear c4
     by_cases c5 : 0 ≤ x5_1
     ·rw [if_pos c5] at H
      have c5b0 : decide (0 ≤ x5_1) = true := decide_eq_true c5
      clear c5
      by_cases c6 : x5_1 < (l1.length : Int)
      ·rw [if_pos c6] at H
       have c6b0 : decide (x5_1 < (l1.length : Int)) = true := decide_eq_true c6
       clear c6
       replace H := Option.bind_eq_some_iff.mp H
       obtain ⟨t584, A70, H⟩ := H
       replace H : (if t584 = true then (laws_eqArcS.l0 k1 l0 l1 (wrap64 (x5_1 + 1))) else (some false)) = some r := H
       have A7 := Aside0.mk A70
       clear A70
       by_cases c8 : t584 = true
       ·subst c8
        have H1 : (laws_eqArcS.l0 k1 l0 l1 (wrap64 (x5_1 + 1))) = some r := by rw [if_pos rfl] at H; exact H
        clear H
        have H := H1
        clear H1
        have H' := Aside0.mk H
        clear H
        try go_wp2
        have n0_ := Aside0.mk (below_drew1 HB.out)
        clear HB
        have HB := n0_
        clear n0_
        have p582 : 0 ≤ (x5_1 : Int) := of_decide_eq_true (by first | (with_reducible assumption) | assumption)
        have q582 : x5_1 < (l0.length : Int) := of_decide_eq_true (by first | (with_reducible assumption) | assumption)
        obtain ⟨ad582, e582, hx582_0, hx582_1, hx582_2, hx582_3, hx582_4⟩ := at_T45 HR0.out x5_1 p582 q582
        have hw582_4 := hx582_4
        have hw582_3 := hx582_3
        have hw582_2 := hx582_2
        have hw582_1 := hx582_1
        have hw582_0 := hx582_0
        cases e582
        replace hx582_0 := (HB.out.cell (World.block_lt_of_cell? w _ hx582_0)).trans hx582_0
        replace hx582_1 := (HB.out.cell (World.block_lt_of_cell? w _ hx582_1)).trans hx582_1
        replace hx582_2 := (HB.out.cell (World.block_lt_of_cell? w _ hx582_2)).trans hx582_2
        replace hx582_3 := (HB.out.cell (World.block_lt_of_cell? w _ hx582_3)).trans hx582_3
        replace hx582_4 := (HB.out.cell (World.block_lt_of_cell? w _ hx582_4)).trans hx582_4
        replace p582 := eq_true p582
        replace q582 := eq_true q582
        have p583 : 0 ≤ (x5_1 : Int) := of_decide_eq_true (by first | (with_reducible assumption) | assumption)
        have q583 : x5_1 < (l1.length : Int) := of_decide_eq_true (by first | (with_reducible assumption) | assumption)
        obtain ⟨ad583, e583, hx583_0, hx583_1, hx583_2, hx583_3, hx583_4⟩ := at_T45 HR1.out x5_1 p583 q583
        have hw583_4 := hx583_4
        have hw583_3 := hx583_3
        have hw583_2 := hx583_2
        have hw583_1 := hx583_1
        have hw583_0 := hx583_0
        cases e583
        replace hx583_0 := (HB.out.cell (World.block_lt_of_cell? w _ hx583_0)).trans hx583_0
        replace hx583_1 := (HB.out.cell (World.block_lt_of_cell? w _ hx583_1)).trans hx583_1
        replace hx583_2 := (HB.out.cell (World.block_lt_of_cell? w _ hx583_2)).trans hx583_2
        replace hx583_3 := (HB.out.cell (World.block_lt_of_cell? w _ hx583_3)).trans hx583_3
        replace hx583_4 := (HB.out.cell (World.block_lt_of_cell? w _ hx583_4)).trans hx583_4
        replace p583 := eq_true p583
        replace q583 := eq_true q583
        refine start_ (n := 10) (S := fun w' => w'.cell? (ad582.add ((x5_1).toNat * 5)) = some (.int .i64 ((rd_T45 l0 x5_1).f0)) ∧ w'.cell? ⟨(ad582.add ((x5_1).toNat * 5)).block, (ad582.add ((x5_1).toNat * 5)).off + 1, none⟩ = some (.int .i64 ((rd_T45 l0 x5_1).f1)) ∧ w'.cell? ⟨(ad582.add ((x5_1).toNat * 5)).block, (ad582.add ((x5_1).toNat * 5)).off + 2, none⟩ = some (.int .i64 ((rd_T45 l0 x5_1).f2)) ∧ w'.cell? ⟨(ad582.add ((x5_1).toNat * 5)).block, (ad582.add ((x5_1).toNat * 5)).off + 3, none⟩ = some (.int .i64 ((rd_T45 l0 x5_1).f3)) ∧ w'.cell? ⟨(ad582.add ((x5_1).toNat * 5)).block, (ad582.add ((x5_1).toNat * 5)).off + 4, none⟩ = some (.int .i64 ((rd_T45 l0 x5_1).f4)) ∧ w'.cell? (ad583.add ((x5_1).toNat * 5)) = some (.int .i64 ((rd_T45 l1 x5_1).f0)) ∧ w'.cell? ⟨(ad583.add ((x5_1).toNat * 5)).block, (ad583.add ((x5_1).toNat * 5)).off + 1, none⟩ = some (.int .i64 ((rd_T45 l1 x5_1).f1)) ∧ w'.cell? ⟨(ad583.add ((x5_1).toNat * 5)).block, (ad583.add ((x5_1).toNat * 5)).off + 2, none⟩ = some (.int .i64 ((rd_T45 l1 x5_1).f2)) ∧ w'.cell? ⟨(ad583.add ((x5_1).toNat * 5)).block, (ad583.add ((x5_1).toNat * 5)).off + 3, none⟩ = some (.int .i64 ((rd_T45 l1 x5_1).f3)) ∧ w'.cell? ⟨(ad583.add ((x5_1).toNat * 5)).block, (ad583.add ((x5_1).toNat * 5)).off + 4, none⟩ = some (.int .i64 ((rd_T45 l1 x5_1).f4))) (ds := []) #[false, false, false, false, false, false, false, false, false, false] (by kernel_rfl) rfl rfl ⟨((HB.out.cell (World.block_lt_of_cell? w _ hw582_0)).trans hw582_0), ((HB.out.cell (World.block_lt_of_cell? w _ hw582_1)).trans hw582_1), ((HB.out.cell (World.block_lt_of_cell? w _ hw582_2)).trans hw582_2), ((HB.out.cell (World.block_lt_of_cell? w _ hw582_3)).trans hw582_3), ((HB.out.cell (World.block_lt_of_cell? w _ hw582_4)).trans hw582_4), ((HB.out.cell (World.block_lt_of_cell? w _ hw583_0)).trans hw583_0), ((HB.out.cell (World.block_lt_of_cell? w _ hw583_1)).trans hw583_1), ((HB.out.cell (World.block_lt_of_cell? w _ hw583_2)).trans hw583_2), ((HB.out.cell (World.block_lt_of_cell? w _ hw583_3)).trans hw583_3), ((HB.out.cell (World.block_lt_of_cell? w _ hw583_4)).trans hw583_4)⟩ (fun hHeld => ?_); refine with_tabW laws_eqArcS.tab6 laws_eqArcS.bits6 (fun HT_ HW_ => ?_)
        generalize wr.drew = w9 at HB hx582_0 hx582_1 hx582_2 hx582_3 hx582_4 hx583_0 hx583_1 hx583_2 hx583_3 hx583_4 hHeld ⊢
        refine pure_ (i := 0) (N := some 17) (v := ?_) (a' := ?_) #[true, false, false, false, false, false, false, false, false, false] rfl rfl (any_of HT_.out (by kernel_rfl)) (fun _ _ _ h => h) (Or.inl ⟨by rfl, ?_⟩) ?_ ?_
        rotate_left
        ·intro w'
         go_simp
         with_reducible rfl
        rotate_left
        ·simp only [Act.put, List.setIfInBounds_toArray, List.set_cons_zero, List.set_cons_succ, i64_w, i32_w]
         rfl
        refine pure_ (i := 1) (N := some 18) (v := ?_) (a' := ?_) #[true, true, false, false, false, false, false, false, false, false] rfl rfl (any_of HT_.out (by kernel_rfl)) (fun _ _ _ h => h) (Or.inl ⟨by rfl, ?_⟩) ?_ ?_
        rotate_left
        ·intro w'
         go_simp
         with_reducible rfl
        rotate_left
        ·simp only [Act.put, List.setIfInBounds_toArray, List.set_cons_zero, List.set_cons_succ, i64_w, i32_w]
         rfl
        refine pure_ (i := 2) (N := some 19) (v := ?_) (a' := ?_) #[true, true, true, false, false, false, false, false, false, false] rfl rfl (any_of HT_.out (by kernel_rfl)) (fun _ _ _ h => h) (Or.inl ⟨by rfl, ?_⟩) ?_ ?_
        rotate_left
        ·intro w'
         go_simp
         with_reducible rfl
        rotate_left
        ·simp only [Act.put, List.setIfInBounds_toArray, List.set_cons_zero, List.set_cons_succ, i64_w, i32_w]
         rfl
        refine pure_ (i := 4) (N := some 21) (v := ?_) (a' := ?_) #[true, true, true, false, true, false, false, false, false, false] rfl rfl (any_of HT_.out (by kernel_rfl)) (fun _ _ _ h => h) (Or.inl ⟨by rfl, ?_⟩) ?_ ?_
        rotate_left
        ·intro w'
         go_simp
         with_reducible rfl
        rotate_left
        ·simp only [Act.put, List.setIfInBounds_toArray, List.set_cons_zero, List.set_cons_succ, i64_w, i32_w]
         rfl
        refine pure_ (i := 5) (N := some 22) (v := ?_) (a' := ?_) #[true, true, true, false, true, true, false, false, false, false] rfl rfl (any_of HT_.out (by kernel_rfl)) (fun _ _ _ h => h) (Or.inl ⟨by rfl, ?_⟩) ?_ ?_
        rotate_left
        ·intro w'
         go_simp
         with_reducible rfl
        rotate_left
        ·simp only [Act.put, List.setIfInBounds_toArray, List.set_cons_zero, List.set_cons_succ, i64_w, i32_w]
         rfl
        refine pure_ (i := 6) (N := some 23) (v := ?_) (a' := ?_) #[true, true, true, false, true, true, true, false, false, false] rfl rfl (any_of HT_.out (by kernel_rfl)) (fun _ _ _ h => h) (Or.inl ⟨by rfl, ?_⟩) ?_ ?_
        rotate_left
        ·intro w'
         go_simp
         with_reducible rfl
        rotate_left
        ·simp only [Act.put, List.setIfInBounds_toArray, List.set_cons_zero, List.set_cons_succ, i64_w, i32_w]
         rfl
        refine take_ (i := 3) (N := some 20) (v := ?_) (a' := ?_) #[true, true, true, true, true, true, true, false, false, false] rfl rfl (take_ofW HT_.out HW_.out (by kernel_rfl)) (fun _ _ _ h => h) (Or.inl ⟨by rfl, ?_⟩) hHeld ?_ ?_
        rotate_left
        ·rintro w' ⟨s0, s1, s2, s3, s4, s5, s6, s7, s8, s9⟩
         go_simp
         with_reducible rfl
        rotate_left
        ·simp only [Act.put, List.setIfInBounds_toArray, List.set_cons_zero, List.set_cons_succ, i64_w, i32_w]
         rfl
        refine take_ (i := 7) (N := some 24) (v := ?_) (a' := ?_) #[true, true, true, true, true, true, true, true, false, false] rfl rfl (take_ofW HT_.out HW_.out (by kernel_rfl)) (fun _ _ _ h => h) (Or.inl ⟨by rfl, ?_⟩) hHeld ?_ ?_
        rotate_left
        ·rintro w' ⟨s0, s1, s2, s3, s4, s5, s6, s7, s8, s9⟩
         go_simp
         with_reducible rfl
        rotate_left
        ·simp only [Act.put, List.setIfInBounds_toArray, List.set_cons_zero, List.set_cons_succ, i64_w, i32_w]
         rfl
        refine one_ (i := 8) (N := some 25) #[true, true, true, true, true, true, true, true, true, false] rfl rfl (one_of HT_.out (by kernel_rfl)) (by decide) (fun K hK => ?_)
        refine goes_ Try.func119 (by kernel_rfl) rfl #[.agg #[.int .i64 ((rd_T45 l0 x5_1).f0), .int .i64 ((rd_T45 l0 x5_1).f1), .int .i64 ((rd_T45 l0 x5_1).f2), .int .i64 ((rd_T45 l0 x5_1).f3), .int .i64 ((rd_T45 l0 x5_1).f4)], .agg #[.int .i64 ((rd_T45 l1 x5_1).f0), .int .i64 ((rd_T45 l1 x5_1).f1), .int .i64 ((rd_T45 l1 x5_1).f2), .int .i64 ((rd_T45 l1 x5_1).f3), .int .i64 ((rd_T45 l1 x5_1).f4)]] (by rfl) rfl rfl (by (try simp only [List.map_toArray, List.map_cons, List.map_nil]); first | done | rfl | (simp only [List.length_drop, List.length_take]; rfl)) ?_
        with_reducible refine (laws_eqArc.calls ((rd_T45 l0 x5_1).f0) ((rd_T45 l0 x5_1).f1) ((rd_T45 l0 x5_1).f2) ((rd_T45 l0 x5_1).f3) ((rd_T45 l0 x5_1).f4) ((rd_T45 l1 x5_1).f0) ((rd_T45 l1 x5_1).f1) ((rd_T45 l1 x5_1).f2) ((rd_T45 l1 x5_1).f3) ((rd_T45 l1 x5_1).f4) true _ A7.out).mono ?_
        rintro e w10 ⟨rfl, hb⟩
        refine ⟨_, rfl, ?_⟩
        have n0_ := Aside0.mk (below_step (by repeat (first | (with_reducible first | exact HB.out | apply below_alloc | apply pw_below_drewN | apply below_drew1) | exact HB.out)) hb)
        clear HB
        have HB := n0_
        clear n0_
        (try clear hb)
        (try clear hb2)
        (try clear hk)
        (try clear hi)
        refine hK.out _ _ ⟨((HB.out.cell (World.block_lt_of_cell? w _ hw582_0)).trans hw582_0), ((HB.out.cell (World.block_lt_of_cell? w _ hw582_1)).trans hw582_1), ((HB.out.cell (World.block_lt_of_cell? w _ hw582_2)).trans hw582_2), ((HB.out.cell (World.block_lt_of_cell? w _ hw582_3)).trans hw582_3), ((HB.out.cell (World.block_lt_of_cell? w _ hw582_4)).trans hw582_4), ((HB.out.cell (World.block_lt_of_cell? w _ hw583_0)).trans hw583_0), ((HB.out.cell (World.block_lt_of_cell? w _ hw583_1)).trans hw583_1), ((HB.out.cell (World.block_lt_of_cell? w _ hw583_2)).trans hw583_2), ((HB.out.cell (World.block_lt_of_cell? w _ hw583_3)).trans hw583_3), ((HB.out.cell (World.block_lt_of_cell? w _ hw583_4)).trans hw583_4)⟩ (fun hHeld => ?_)
        clear hK K
        refine norm_ (a' := ?_) ?_ ?_
        rotate_left
        ·show Act.put _ (some 25) _ = _
         simp only [Act.put, List.setIfInBounds_toArray, List.set_cons_zero, List.set_cons_succ, i64_w, i32_w]
         rfl
        refine pure_ (i := 9) (N := some 26) (v := ?_) (a' := ?_) #[true, true, true, true, true, true, true, true, true, true] rfl rfl (any_of HT_.out (by kernel_rfl)) (fun _ _ _ h => h) (Or.inl ⟨by rfl, ?_⟩) ?_ ?_
        rotate_left
        ·intro w'
         go_simp
         with_reducible rfl
        rotate_left
        ·simp only [Act.put, List.setIfInBounds_toArray, List.set_cons_zero, List.set_cons_succ, i64_w, i32_w]
         rfl
        refine done_ (done_of HT_.out (by kernel_rfl)) ?_
        try go_wp2
        go_roundg k1
        case measure => have := HK1.out; omega
        case rel => exact ⟨(wrap64 (x5_1 + 1)), (by first | rfl | (simp; done) | (simp [*]; done)), H', ⟨by have := HK1.out; omega⟩, ⟨by repeat (first | (with_reducible first | exact HB.out | apply below_alloc | apply pw_below_drewN | apply below_drew1) | exact HB.out)⟩⟩
       ·replace c8 := Bool.eq_false_iff.mpr c8
        subst c8
        have H1 : (some false) = some r := by rw [if_neg (show ¬ (false = true) by decide)] at H; exact H
        clear H
        have H := H1
        clear H1
        obtain rfl := Option.some.inj H
        try go_wp2
        have n0_ := Aside0.mk (below_drew1 HB.out)
        clear HB
        have HB := n0_
        clear n0_
        have p582 : 0 ≤ (x5_1 : Int) := of_decide_eq_true (by first | (with_reducible assumption) | assumption)
        have q582 : x5_1 < (l0.length : Int) := of_decide_eq_true (by first | (with_reducible assumption) | assumption)
        obtain ⟨ad582, e582, hx582_0, hx582_1, hx582_2, hx582_3, hx582_4⟩ := at_T45 HR0.out x5_1 p582 q582
        have hw582_4 := hx582_4
        have hw582_3 := hx582_3
        have hw582_2 := hx582_2
        have hw582_1 := hx582_1
        have hw582_0 := hx582_0
        cases e582
        replace hx582_0 := (HB.out.cell (World.block_lt_of_cell? w _ hx582_0)).trans hx582_0
        replace hx582_1 := (HB.out.cell (World.block_lt_of_cell? w _ hx582_1)).trans hx582_1
        replace hx582_2 := (HB.out.cell (World.block_lt_of_cell? w _ hx582_2)).trans hx582_2
        replace hx582_3 := (HB.out.cell (World.block_lt_of_cell? w _ hx582_3)).trans hx582_3
        replace hx582_4 := (HB.out.cell (World.block_lt_of_cell? w _ hx582_4)).trans hx582_4
        replace p582 := eq_true p582
        replace q582 := eq_true q582
        have p583 : 0 ≤ (x5_1 : Int) := of_decide_eq_true (by first | (with_reducible assumption) | assumption)
        have q583 : x5_1 < (l1.length : Int) := of_decide_eq_true (by first | (with_reducible assumption) | assumption)
        obtain ⟨ad583, e583, hx583_0, hx583_1, hx583_2, hx583_3, hx583_4⟩ := at_T45 HR1.out x5_1 p583 q583
        have hw583_4 := hx583_4
        have hw583_3 := hx583_3
        have hw583_2 := hx583_2
        have hw583_1 := hx583_1
        have hw583_0 := hx583_0
        cases e583
        replace hx583_0 := (HB.out.cell (World.block_lt_of_cell? w _ hx583_0)).trans hx583_0
        replace hx583_1 := (HB.out.cell (World.block_lt_of_cell? w _ hx583_1)).trans hx583_1
        replace hx583_2 := (HB.out.cell (World.block_lt_of_cell? w _ hx583_2)).trans hx583_2
        replace hx583_3 := (HB.out.cell (World.block_lt_of_cell? w _ hx583_3)).trans hx583_3
        replace hx583_4 := (HB.out.cell (World.block_lt_of_cell? w _ hx583_4)).trans hx583_4
        replace p583 := eq_true p583
        replace q583 := eq_true q583
        refine start_ (n := 10) (S := fun w' => w'.cell? (ad582.add ((x5_1).toNat * 5)) = some (.int .i64 ((rd_T45 l0 x5_1).f0)) ∧ w'.cell? ⟨(ad582.add ((x5_1).toNat * 5)).block, (ad582.add ((x5_1).toNat * 5)).off + 1, none⟩ = some (.int .i64 ((rd_T45 l0 x5_1).f1)) ∧ w'.cell? ⟨(ad582.add ((x5_1).toNat * 5)).block, (ad582.add ((x5_1).toNat * 5)).off + 2, none⟩ = some (.int .i64 ((rd_T45 l0 x5_1).f2)) ∧ w'.cell? ⟨(ad582.add ((x5_1).toNat * 5)).block, (ad582.add ((x5_1).toNat * 5)).off + 3, none⟩ = some (.int .i64 ((rd_T45 l0 x5_1).f3)) ∧ w'.cell? ⟨(ad582.add ((x5_1).toNat * 5)).block, (ad582.add ((x5_1).toNat * 5)).off + 4, none⟩ = some (.int .i64 ((rd_T45 l0 x5_1).f4)) ∧ w'.cell? (ad583.add ((x5_1).toNat * 5)) = some (.int .i64 ((rd_T45 l1 x5_1).f0)) ∧ w'.cell? ⟨(ad583.add ((x5_1).toNat * 5)).block, (ad583.add ((x5_1).toNat * 5)).off + 1, none⟩ = some (.int .i64 ((rd_T45 l1 x5_1).f1)) ∧ w'.cell? ⟨(ad583.add ((x5_1).toNat * 5)).block, (ad583.add ((x5_1).toNat * 5)).off + 2, none⟩ = some (.int .i64 ((rd_T45 l1 x5_1).f2)) ∧ w'.cell? ⟨(ad583.add ((x5_1).toNat * 5)).block, (ad583.add ((x5_1).toNat * 5)).off + 3, none⟩ = some (.int .i64 ((rd_T45 l1 x5_1).f3)) ∧ w'.cell? ⟨(ad583.add ((x5_1).toNat * 5)).block, (ad583.add ((x5_1).toNat * 5)).off + 4, none⟩ = some (.int .i64 ((rd_T45 l1 x5_1).f4))) (ds := []) #[false, false, false, false, false, false, false, false, false, false] (by kernel_rfl) rfl rfl ⟨((HB.out.cell (World.block_lt_of_cell? w _ hw582_0)).trans hw582_0), ((HB.out.cell (World.block_lt_of_cell? w _ hw582_1)).trans hw582_1), ((HB.out.cell (World.block_lt_of_cell? w _ hw582_2)).trans hw582_2), ((HB.out.cell (World.block_lt_of_cell? w _ hw582_3)).trans hw582_3), ((HB.out.cell (World.block_lt_of_cell? w _ hw582_4)).trans hw582_4), ((HB.out.cell (World.block_lt_of_cell? w _ hw583_0)).trans hw583_0), ((HB.out.cell (World.block_lt_of_cell? w _ hw583_1)).trans hw583_1), ((HB.out.cell (World.block_lt_of_cell? w _ hw583_2)).trans hw583_2), ((HB.out.cell (World.block_lt_of_cell? w _ hw583_3)).trans hw583_3), ((HB.out.cell (World.block_lt_of_cell? w _ hw583_4)).trans hw583_4)⟩ (fun hHeld => ?_); refine with_tabW laws_eqArcS.tab6 laws_eqArcS.bits6 (fun HT_ HW_ => ?_)
        generalize wr.drew = w11 at HB hx582_0 hx582_1 hx582_2 hx582_3 hx582_4 hx583_0 hx583_1 hx583_2 hx583_3 hx583_4 hHeld ⊢
        refine pure_ (i := 0) (N := some 17) (v := ?_) (a' := ?_) #[true, false, false, false, false, false, false, false, false, false] rfl rfl (any_of HT_.out (by kernel_rfl)) (fun _ _ _ h => h) (Or.inl ⟨by rfl, ?_⟩) ?_ ?_
        rotate_left
        ·intro w'
         go_simp
         with_reducible rfl
        rotate_left
        ·simp only [Act.put, List.setIfInBounds_toArray, List.set_cons_zero, List.set_cons_succ, i64_w, i32_w]
         rfl
        refine pure_ (i := 1) (N := some 18) (v := ?_) (a' := ?_) #[true, true, false, false, false, false, false, false, false, false] rfl rfl (any_of HT_.out (by kernel_rfl)) (fun _ _ _ h => h) (Or.inl ⟨by rfl, ?_⟩) ?_ ?_
        rotate_left
        ·intro w'
         go_simp
         with_reducible rfl
        rotate_left
        ·simp only [Act.put, List.setIfInBounds_toArray, List.set_cons_zero, List.set_cons_succ, i64_w, i32_w]
         rfl
        refine pure_ (i := 2) (N := some 19) (v := ?_) (a' := ?_) #[true, true, true, false, false, false, false, false, false, false] rfl rfl (any_of HT_.out (by kernel_rfl)) (fun _ _ _ h => h) (Or.inl ⟨by rfl, ?_⟩) ?_ ?_
        rotate_left
        ·intro w'
         go_simp
         with_reducible rfl
        rotate_left
        ·simp only [Act.put, List.setIfInBounds_toArray, List.set_cons_zero, List.set_cons_succ, i64_w, i32_w]
         rfl
        refine pure_ (i := 4) (N := some 21) (v := ?_) (a' := ?_) #[true, true, true, false, true, false, false, false, false, false] rfl rfl (any_of HT_.out (by kernel_rfl)) (fun _ _ _ h => h) (Or.inl ⟨by rfl, ?_⟩) ?_ ?_
        rotate_left
        ·intro w'
         go_simp
         with_reducible rfl
        rotate_left
        ·simp only [Act.put, List.setIfInBounds_toArray, List.set_cons_zero, List.set_cons_succ, i64_w, i32_w]
         rfl
        refine pure_ (i := 5) (N := some 22) (v := ?_) (a' := ?_) #[true, true, true, false, true, true, false, false, false, false] rfl rfl (any_of HT_.out (by kernel_rfl)) (fun _ _ _ h => h) (Or.inl ⟨by rfl, ?_⟩) ?_ ?_
        rotate_left
        ·intro w'
         go_simp
         with_reducible rfl
        rotate_left
        ·simp only [Act.put, List.setIfInBounds_toArray, List.set_cons_zero, List.set_cons_succ, i64_w, i32_w]
         rfl
        refine pure_ (i := 6) (N := some 23) (v := ?_) (a' := ?_) #[true, true, true, false, true, true, true, false, false, false] rfl rfl (any_of HT_.out (by kernel_rfl)) (fun _ _ _ h => h) (Or.inl ⟨by rfl, ?_⟩) ?_ ?_
        rotate_left
        ·intro w'
         go_simp
         with_reducible rfl
        rotate_left
        ·simp only [Act.put, List.setIfInBounds_toArray, List.set_cons_zero, List.set_cons_succ, i64_w, i32_w]
         rfl
        refine take_ (i := 3) (N := some 20) (v := ?_) (a' := ?_) #[true, true, true, true, true, true, true, false, false, false] rfl rfl (take_ofW HT_.out HW_.out (by kernel_rfl)) (fun _ _ _ h => h) (Or.inl ⟨by rfl, ?_⟩) hHeld ?_ ?_
        rotate_left
        ·rintro w' ⟨s0, s1, s2, s3, s4, s5, s6, s7, s8, s9⟩
         go_simp
         with_reducible rfl
        rotate_left
        ·simp only [Act.put, List.setIfInBounds_toArray, List.set_cons_zero, List.set_cons_succ, i64_w, i32_w]
         rfl
        refine take_ (i := 7) (N := some 24) (v := ?_) (a' := ?_) #[true, true, true, true, true, true, true, true, false, false] rfl rfl (take_ofW HT_.out HW_.out (by kernel_rfl)) (fun _ _ _ h => h) (Or.inl ⟨by rfl, ?_⟩) hHeld ?_ ?_
        rotate_left
        ·rintro w' ⟨s0, s1, s2, s3, s4, s5, s6, s7, s8, s9⟩
         go_simp
         with_reducible rfl
        rotate_left
        ·simp only [Act.put, List.setIfInBounds_toArray, List.set_cons_zero, List.set_cons_succ, i64_w, i32_w]
         rfl
        refine one_ (i := 8) (N := some 25) #[true, true, true, true, true, true, true, true, true, false] rfl rfl (one_of HT_.out (by kernel_rfl)) (by decide) (fun K hK => ?_)
        refine goes_ Try.func119 (by kernel_rfl) rfl #[.agg #[.int .i64 ((rd_T45 l0 x5_1).f0), .int .i64 ((rd_T45 l0 x5_1).f1), .int .i64 ((rd_T45 l0 x5_1).f2), .int .i64 ((rd_T45 l0 x5_1).f3), .int .i64 ((rd_T45 l0 x5_1).f4)], .agg #[.int .i64 ((rd_T45 l1 x5_1).f0), .int .i64 ((rd_T45 l1 x5_1).f1), .int .i64 ((rd_T45 l1 x5_1).f2), .int .i64 ((rd_T45 l1 x5_1).f3), .int .i64 ((rd_T45 l1 x5_1).f4)]] (by rfl) rfl rfl (by (try simp only [List.map_toArray, List.map_cons, List.map_nil]); first | done | rfl | (simp only [List.length_drop, List.length_take]; rfl)) ?_
        with_reducible refine (laws_eqArc.calls ((rd_T45 l0 x5_1).f0) ((rd_T45 l0 x5_1).f1) ((rd_T45 l0 x5_1).f2) ((rd_T45 l0 x5_1).f3) ((rd_T45 l0 x5_1).f4) ((rd_T45 l1 x5_1).f0) ((rd_T45 l1 x5_1).f1) ((rd_T45 l1 x5_1).f2) ((rd_T45 l1 x5_1).f3) ((rd_T45 l1 x5_1).f4) false _ A7.out).mono ?_
        rintro e w12 ⟨rfl, hb⟩
        refine ⟨_, rfl, ?_⟩
        have n0_ := Aside0.mk (below_step (by repeat (first | (with_reducible first | exact HB.out | apply below_alloc | apply pw_below_drewN | apply below_drew1) | exact HB.out)) hb)
        clear HB
        have HB := n0_
        clear n0_
        (try clear hb)
        (try clear hb2)
        (try clear hk)
        (try clear hi)
        refine hK.out _ _ ⟨((HB.out.cell (World.block_lt_of_cell? w _ hw582_0)).trans hw582_0), ((HB.out.cell (World.block_lt_of_cell? w _ hw582_1)).trans hw582_1), ((HB.out.cell (World.block_lt_of_cell? w _ hw582_2)).trans hw582_2), ((HB.out.cell (World.block_lt_of_cell? w _ hw582_3)).trans hw582_3), ((HB.out.cell (World.block_lt_of_cell? w _ hw582_4)).trans hw582_4), ((HB.out.cell (World.block_lt_of_cell? w _ hw583_0)).trans hw583_0), ((HB.out.cell (World.block_lt_of_cell? w _ hw583_1)).trans hw583_1), ((HB.out.cell (World.block_lt_of_cell? w _ hw583_2)).trans hw583_2), ((HB.out.cell (World.block_lt_of_cell? w _ hw583_3)).trans hw583_3), ((HB.out.cell (World.block_lt_of_cell? w _ hw583_4)).trans hw583_4)⟩ (fun hHeld => ?_)
        clear hK K
        refine norm_ (a' := ?_) ?_ ?_
        rotate_left
        ·show Act.put _ (some 25) _ = _
         simp only [Act.put, List.setIfInBounds_toArray, List.set_cons_zero, List.set_cons_succ, i64_w, i32_w]
         rfl
        refine pure_ (i := 9) (N := some 26) (v := ?_) (a' := ?_) #[true, true, true, true, true, true, true, true, true, true] rfl rfl (any_of HT_.out (by kernel_rfl)) (fun _ _ _ h => h) (Or.inl ⟨by rfl, ?_⟩) ?_ ?_
        rotate_left
        ·intro w'
         go_simp
         with_reducible rfl
        rotate_left
        ·simp only [Act.put, List.setIfInBounds_toArray, List.set_cons_zero, List.set_cons_succ, i64_w, i32_w]
         rfl
        refine done_ (done_of HT_.out (by kernel_rfl)) ?_
        try go_wp2
        go_ret
        exact ⟨by first | rfl | (simp [errW_none, errW_some] <;> rfl) | (simp [*, errW_none, errW_some] <;> rfl), by repeat (first | (with_reducible first | exact HB.out | apply below_alloc | apply pw_below_drewN | apply below_drew1) | exact HB.out)⟩
      ·rw [if_neg c6] at H
       exact absurd H (by simp)
     ·rw [if_neg c5] at H
      exact absurd H (by simp)
    ·rw [if_neg c4] at H
     have c4b0 : decide (x5_1 < (l0.length : Int)) = false := decide_eq_false c4
     clear c4
     obtain rfl := Option.some.inj H
     go_wp2
     go_ret
     exact ⟨by first | rfl | (simp [errW_none, errW_some] <;> rfl) | (simp [*, errW_none, errW_some] <;> rfl), by repeat (first | (with_reducible first | exact HB.out | apply below_alloc | apply pw_below_drewN | apply below_drew1) | exact HB.out)⟩
 ·rw [if_neg c3] at H
  have c3b0 : ((l0.length : Int) == (l1.length : Int)) = false := beq_eq_false_iff_ne.mpr c3
  have c3b1 : ((l0.length : Int) != (l1.length : Int)) = true := bne_iff_ne.mpr c3
  have c3b2 : (l0.length == l1.length) = false := by first | simpa using c3 | (simp at c3 ⊢; omega)
  obtain rfl := Option.some.inj H
  go_enter Try.func86, Try.ntmps86
  go_wp2
  go_ret
  exact ⟨by first | rfl | (simp [errW_none, errW_some] <;> rfl) | (simp [*, errW_none, errW_some] <;> rfl), by repeat (first | (with_reducible first | exact HB.out | apply below_alloc | apply pw_below_drewN | apply below_drew1) | exact HB.out)⟩
end Go.Proofs.Ytmabopomecdidaa.Pr
end
section
namespace Go.Proofs.Ytmabopomecdidaa.Pr
open Go.RowKit Go.Proofs.YtmabopomecdidaaW.PrintWords Go.Proofs.YtmabopomecdidaaW.PrintLast Go.Proofs.YtmabopomecdidaaW.PrintMore
attribute [local go_sem] max2_int min2_int max_two min_two max_three min_three max_four min_four
set_option linter.unusedVariables false
set_option linter.unusedSimpArgs false
def laws_eqNet.f (k : Nat) (a0_0 : Int) (l0_1 : List (S45)) (a1_0 : Int) (l1_1 : List (S45)) : Option (Bool) := if a0_0 = a1_0 then ((laws_eqArcS.f k l0_1 l1_1).bind fun t587 => (if t587 = true then (some true) else (some false))) else (some false)
theorem laws_eqNet.mono : ∀ a0 a1 a2 a3 k, LeO (laws_eqNet.f k a0 a1 a2 a3) (laws_eqNet.f (k + 1) a0 a1 a2 a3) := by
 intro a0 a1 a2 a3 k
 unfold laws_eqNet.f
 repeat' first
   | (with_reducible exact laws_eqArcS.mono _ _ _)
   | (with_reducible exact LeO.refl _)
   | (with_reducible exact LeO.none _)
   | (with_reducible refine LeO.ite ?_ ?_)
   | (with_reducible refine LeO.bind ?_ (fun _ => ?_))
   | exact laws_eqArcS.mono _ _ _
   | exact LeO.none _
   | refine LeO.ite ?_ ?_
   | refine LeO.bind ?_ (fun _ => ?_)
set_option maxHeartbeats 8000000 in
set_option maxRecDepth 100000 in
theorem laws_eqNet.calls (k : Nat) (a0_0 : Int) (A0_1 : Option Addr) (c0_1 : Nat) (l0_1 : List (S45)) (a1_0 : Int) (A1_1 : Option Addr) (c1_1 : Nat) (l1_1 : List (S45)) (r : Bool) (w : World) (hr0_1 : Kd.C k45 w A0_1 l0_1.length l0_1) (hc0_1 : l0_1.length ≤ c0_1) (hr1_1 : Kd.C k45 w A1_1 l1_1.length l1_1) (hc1_1 : l1_1.length ≤ c1_1) (h : laws_eqNet.f k a0_0 l0_1 a1_0 l1_1 = some r) :
  Calls Try.prog 39 #[.agg #[.int .i64 a0_0, .slice A0_1 l0_1.length c0_1], .agg #[.int .i64 a1_0, .slice A1_1 l1_1.length c1_1]] w fun e w' => e = .returned (.bool r) ∧ Below w.heap.size w w' := by
 have hu38 := Try.underlying38
 have HR0_1 := Aside0.mk hr0_1
 have HC0_1 := Aside0.mk hc0_1
 clear hr0_1 hc0_1
 have HR1_1 := Aside0.mk hr1_1
 have HC1_1 := Aside0.mk hc1_1
 clear hr1_1 hc1_1
 have HB := Aside0.mk (Below.refl w.heap.size w)
 have H : (if a0_0 = a1_0 then ((laws_eqArcS.f k l0_1 l1_1).bind fun t587 => (if t587 = true then (some true) else (some false))) else (some false)) = some r := h
 clear h
 by_cases c3 : a0_0 = a1_0
 ·rw [if_pos c3] at H
  have c3b0 : (a0_0 == a1_0) = true := beq_iff_eq.mpr c3
  have c3b1 : (a0_0 != a1_0) = false := bne_eq_false_iff_eq.mpr c3
  clear c3
  replace H := Option.bind_eq_some_iff.mp H
  obtain ⟨t587, A40, H⟩ := H
  replace H : (if t587 = true then (some true) else (some false)) = some r := H
  have A4 := Aside0.mk A40
  clear A40
  by_cases c5 : t587 = true
  ·subst c5
   have H1 : (some true) = some r := by rw [if_pos rfl] at H; exact H
   clear H
   have H := H1
   clear H1
   obtain rfl := Option.some.inj H
   go_enter Try.func39, Try.ntmps39
   go_wp2_with (first | ((with_reducible refine gate_dst (N := 2) rfl ?_); refine box_event ?hg (N := 2) ?hd (cs := #[.int .i64 a0_0, .slice A0_1 l0_1.length c0_1]) (t := 38) ?hr ?_; (case hd => rfl); (case hg => rfl); (case hr => first | (go_simp; done) | (go_simp; rfl)); intro gb585 hg w6 hbox hb; have n0_ := Aside0.mk (below_step (by repeat (first | (with_reducible first | exact HB.out | apply below_alloc | apply pw_below_drewN | apply below_drew1) | exact HB.out)) hb); have n1_ := Aside0.mk (hbox); have n2_ := Aside0.mk ((by rw [hg]; exact (below_size (by repeat (first | (with_reducible first | exact HB.out | apply below_alloc | apply pw_below_drewN | apply below_drew1) | exact HB.out))) : w.heap.size ≤ gb585)); have n3_ := Aside0.mk ((by rw [hg]; exact (below_size (by repeat (first | (with_reducible first | exact HB.out | apply below_alloc | apply pw_below_drewN | apply below_drew1) | exact HB.out))) : w.heap.size ≤ gb585)); clear HB; have HB := n0_; have BK585 := n1_; have GW585 := n2_; have GE585 := n3_; clear n0_ n1_ n2_ n3_; clear hb hbox hg) | ((with_reducible refine gate_dst (N := 3) rfl ?_); refine box_event ?hg (N := 3) ?hd (cs := #[.int .i64 a1_0, .slice A1_1 l1_1.length c1_1]) (t := 38) ?hr ?_; (case hd => rfl); (case hg => rfl); (case hr => first | (go_simp; done) | (go_simp; rfl)); intro gb586 hg w7 hbox hb; have n0_ := Aside0.mk (blk_below (g := gb585) (o := .cells #[.int .i64 a0_0, .slice A0_1 l0_1.length c0_1] 38 (0, 0)) (by (with_reducible repeat (first | refine blk_drewN ?_ _ | refine blk_drew ?_ | refine blk_alloc ?_ _)); exact BK585.out) hb); have n1_ := Aside0.mk (below_step (by repeat (first | (with_reducible first | exact HB.out | apply below_alloc | apply pw_below_drewN | apply below_drew1 | refine below_set ?_ GE585.out) | exact HB.out)) hb); have n2_ := Aside0.mk (hbox); have n3_ := Aside0.mk ((by rw [hg]; exact (below_size (by repeat (first | (with_reducible first | exact HB.out | apply below_alloc | apply pw_below_drewN | apply below_drew1 | refine below_set ?_ GE585.out) | exact HB.out))) : w.heap.size ≤ gb586)); have n4_ := Aside0.mk ((by rw [hg]; exact (below_size (by repeat (first | (with_reducible first | exact HB.out | apply below_alloc | apply pw_below_drewN | apply below_drew1 | refine below_set ?_ GE585.out) | exact HB.out))) : w.heap.size ≤ gb586)); have n5_ := Aside0.mk ((by rw [hg]; exact Nat.ne_of_lt (blk_lt (g := gb585) (o := .cells #[.int .i64 a0_0, .slice A0_1 l0_1.length c0_1] 38 (0, 0)) (by (with_reducible repeat (first | refine blk_drewN ?_ _ | refine blk_drew ?_ | refine blk_alloc ?_ _)); exact BK585.out)) : gb585 ≠ gb586)); have n6_ := Aside0.mk ((by rw [hg]; exact Nat.ne_of_gt (blk_lt (g := gb585) (o := .cells #[.int .i64 a0_0, .slice A0_1 l0_1.length c0_1] 38 (0, 0)) (by (with_reducible repeat (first | refine blk_drewN ?_ _ | refine blk_drew ?_ | refine blk_alloc ?_ _)); exact BK585.out)) : gb586 ≠ gb585)); clear BK585; clear HB; have BK585 := n0_; have HB := n1_; have BK586 := n2_; have GW586 := n3_; have GE586 := n4_; have NB585_586 := n5_; have NB586_585 := n6_; clear n0_ n1_ n2_ n3_ n4_ n5_ n6_; clear hb hbox hg; have hnb8 := NB585_586.out; have hnc8 := NB586_585.out; have hcz9_0 : w7.cell? ⟨gb585, 0, none⟩ = some (.int .i64 a0_0) := (blk_cell BK585.out 0).trans rfl; have hcz9_1 : w7.cell? ⟨gb585, 1, none⟩ = some (.slice A0_1 l0_1.length c0_1) := (blk_cell BK585.out 1).trans rfl; have hfz9_0 := blk_frozen BK585.out 0; have hfz9_1 := blk_frozen BK585.out 1; have hcz10_0 : w7.cell? ⟨gb586, 0, none⟩ = some (.int .i64 a1_0) := (blk_cell BK586.out 0).trans rfl; have hcz10_1 : w7.cell? ⟨gb586, 1, none⟩ = some (.slice A1_1 l1_1.length c1_1) := (blk_cell BK586.out 1).trans rfl; have hfz10_0 := blk_frozen BK586.out 0; have hfz10_1 := blk_frozen BK586.out 1) | ((with_reducible refine gate_callee (f := 86) rfl ?_); refine goesL_ (some 14) rfl rfl Try.func86 (by kernel_rfl) rfl #[.slice A0_1 l0_1.length c0_1, .slice A1_1 l1_1.length c1_1] rfl (by (try simp only [List.map_toArray, List.map_cons, List.map_nil]); first | done | rfl | (simp only [List.length_drop, List.length_take]; rfl)) ?_; (with_reducible refine (laws_eqArcS.calls k _ _ l0_1 _ _ l1_1 true _ ?side1 ?side2 ?side3 ?side4 A4.out).mono ?_); (case side1 => repeat (first | exact (Kd.C_below HR0_1.out HB.out) | (with_reducible refine Kd.C_alloc ?_ _) | (with_reducible refine Kd.C_drewN ?_ _) | (with_reducible refine Kd.C_drew ?_))); (case side2 => exact HC0_1.out); (case side3 => repeat (first | exact (Kd.C_below HR1_1.out HB.out) | (with_reducible refine Kd.C_alloc ?_ _) | (with_reducible refine Kd.C_drewN ?_ _) | (with_reducible refine Kd.C_drew ?_))); (case side4 => exact HC1_1.out); rintro e w11 ⟨rfl, hb⟩; refine ⟨_, rfl, ?_⟩; have n0_ := Aside0.mk (blk_below (g := gb585) (o := .cells #[.int .i64 a0_0, .slice A0_1 l0_1.length c0_1] 38 (0, 0)) (by (with_reducible repeat (first | refine blk_drewN ?_ _ | refine blk_drew ?_ | refine blk_alloc ?_ _)); exact BK585.out) hb); have n1_ := Aside0.mk (blk_below (g := gb586) (o := .cells #[.int .i64 a1_0, .slice A1_1 l1_1.length c1_1] 38 (0, 0)) (by (with_reducible repeat (first | refine blk_drewN ?_ _ | refine blk_drew ?_ | refine blk_alloc ?_ _)); exact BK586.out) hb); have n2_ := Aside0.mk (below_step (by repeat (first | (with_reducible first | exact HB.out | apply below_alloc | apply pw_below_drewN | apply below_drew1 | refine below_set ?_ GE585.out | refine below_set ?_ GE586.out) | exact HB.out)) hb); clear BK585; clear BK586; clear HB; have BK585 := n0_; have BK586 := n1_; have HB := n2_; clear n0_ n1_ n2_; (try clear hb); (try clear hb2); (try clear hk); (try clear hi)))
   go_ret
   exact ⟨by first | rfl | (simp [errW_none, errW_some] <;> rfl) | (simp [*, errW_none, errW_some] <;> rfl), by repeat (first | (with_reducible first | exact HB.out | apply below_alloc | apply pw_below_drewN | apply below_drew1 | refine below_set ?_ GE585.out | refine below_set ?_ GE586.out) | exact HB.out)⟩
  ·replace c5 := Bool.eq_false_iff.mpr c5
   subst c5
   have H1 : (some false) = some r := by rw [if_neg (show ¬ (false = true) by decide)] at H; exact H
   clear H
   have H := H1
   clear H1
   obtain rfl := Option.some.inj H
   go_enter Try.func39, Try.ntmps39
   go_wp2_with (first | ((with_reducible refine gate_dst (N := 2) rfl ?_); refine box_event ?hg (N := 2) ?hd (cs := #[.int .i64 a0_0, .slice A0_1 l0_1.length c0_1]) (t := 38) ?hr ?_; (case hd => rfl); (case hg => rfl); (case hr => first | (go_simp; done) | (go_simp; rfl)); intro gb585 hg w12 hbox hb; have n0_ := Aside0.mk (below_step (by repeat (first | (with_reducible first | exact HB.out | apply below_alloc | apply pw_below_drewN | apply below_drew1) | exact HB.out)) hb); have n1_ := Aside0.mk (hbox); have n2_ := Aside0.mk ((by rw [hg]; exact (below_size (by repeat (first | (with_reducible first | exact HB.out | apply below_alloc | apply pw_below_drewN | apply below_drew1) | exact HB.out))) : w.heap.size ≤ gb585)); have n3_ := Aside0.mk ((by rw [hg]; exact (below_size (by repeat (first | (with_reducible first | exact HB.out | apply below_alloc | apply pw_below_drewN | apply below_drew1) | exact HB.out))) : w.heap.size ≤ gb585)); clear HB; have HB := n0_; have BK585 := n1_; have GW585 := n2_; have GE585 := n3_; clear n0_ n1_ n2_ n3_; clear hb hbox hg) | ((with_reducible refine gate_dst (N := 3) rfl ?_); refine box_event ?hg (N := 3) ?hd (cs := #[.int .i64 a1_0, .slice A1_1 l1_1.length c1_1]) (t := 38) ?hr ?_; (case hd => rfl); (case hg => rfl); (case hr => first | (go_simp; done) | (go_simp; rfl)); intro gb586 hg w13 hbox hb; have n0_ := Aside0.mk (blk_below (g := gb585) (o := .cells #[.int .i64 a0_0, .slice A0_1 l0_1.length c0_1] 38 (0, 0)) (by (with_reducible repeat (first | refine blk_drewN ?_ _ | refine blk_drew ?_ | refine blk_alloc ?_ _)); exact BK585.out) hb); have n1_ := Aside0.mk (below_step (by repeat (first | (with_reducible first | exact HB.out | apply below_alloc | apply pw_below_drewN | apply below_drew1 | refine below_set ?_ GE585.out) | exact HB.out)) hb); have n2_ := Aside0.mk (hbox); have n3_ := Aside0.mk ((by rw [hg]; exact (below_size (by repeat (first | (with_reducible first | exact HB.out | apply below_alloc | apply pw_below_drewN | apply below_drew1 | refine below_set ?_ GE585.out) | exact HB.out))) : w.heap.size ≤ gb586)); have n4_ := Aside0.mk ((by rw [hg]; exact (below_size (by repeat (first | (with_reducible first | exact HB.out | apply below_alloc | apply pw_below_drewN | apply below_drew1 | refine below_set ?_ GE585.out) | exact HB.out))) : w.heap.size ≤ gb586)); have n5_ := Aside0.mk ((by rw [hg]; exact Nat.ne_of_lt (blk_lt (g := gb585) (o := .cells #[.int .i64 a0_0, .slice A0_1 l0_1.length c0_1] 38 (0, 0)) (by (with_reducible repeat (first | refine blk_drewN ?_ _ | refine blk_drew ?_ | refine blk_alloc ?_ _)); exact BK585.out)) : gb585 ≠ gb586)); have n6_ := Aside0.mk ((by rw [hg]; exact Nat.ne_of_gt (blk_lt (g := gb585) (o := .cells #[.int .i64 a0_0, .slice A0_1 l0_1.length c0_1] 38 (0, 0)) (by (with_reducible repeat (first | refine blk_drewN ?_ _ | refine blk_drew ?_ | refine blk_alloc ?_ _)); exact BK585.out)) : gb586 ≠ gb585)); clear BK585; clear HB; have BK585 := n0_; have HB := n1_; have BK586 := n2_; have GW586 := n3_; have GE586 := n4_; have NB585_586 := n5_; have NB586_585 := n6_; clear n0_ n1_ n2_ n3_ n4_ n5_ n6_; clear hb hbox hg; have hnb14 := NB585_586.out; have hnc14 := NB586_585.out; have hcz15_0 : w13.cell? ⟨gb585, 0, none⟩ = some (.int .i64 a0_0) := (blk_cell BK585.out 0).trans rfl; have hcz15_1 : w13.cell? ⟨gb585, 1, none⟩ = some (.slice A0_1 l0_1.length c0_1) := (blk_cell BK585.out 1).trans rfl; have hfz15_0 := blk_frozen BK585.out 0; have hfz15_1 := blk_frozen BK585.out 1; have hcz16_0 : w13.cell? ⟨gb586, 0, none⟩ = some (.int .i64 a1_0) := (blk_cell BK586.out 0).trans rfl; have hcz16_1 : w13.cell? ⟨gb586, 1, none⟩ = some (.slice A1_1 l1_1.length c1_1) := (blk_cell BK586.out 1).trans rfl; have hfz16_0 := blk_frozen BK586.out 0; have hfz16_1 := blk_frozen BK586.out 1) | ((with_reducible refine gate_callee (f := 86) rfl ?_); refine goesL_ (some 14) rfl rfl Try.func86 (by kernel_rfl) rfl #[.slice A0_1 l0_1.length c0_1, .slice A1_1 l1_1.length c1_1] rfl (by (try simp only [List.map_toArray, List.map_cons, List.map_nil]); first | done | rfl | (simp only [List.length_drop, List.length_take]; rfl)) ?_; (with_reducible refine (laws_eqArcS.calls k _ _ l0_1 _ _ l1_1 false _ ?side1 ?side2 ?side3 ?side4 A4.out).mono ?_); (case side1 => repeat (first | exact (Kd.C_below HR0_1.out HB.out) | (with_reducible refine Kd.C_alloc ?_ _) | (with_reducible refine Kd.C_drewN ?_ _) | (with_reducible refine Kd.C_drew ?_))); (case side2 => exact HC0_1.out); (case side3 => repeat (first | exact (Kd.C_below HR1_1.out HB.out) | (with_reducible refine Kd.C_alloc ?_ _) | (with_reducible refine Kd.C_drewN ?_ _) | (with_reducible refine Kd.C_drew ?_))); (case side4 => exact HC1_1.out); rintro e w17 ⟨rfl, hb⟩; refine ⟨_, rfl, ?_⟩; have n0_ := Aside0.mk (blk_below (g := gb585) (o := .cells #[.int .i64 a0_0, .slice A0_1 l0_1.length c0_1] 38 (0, 0)) (by (with_reducible repeat (first | refine blk_drewN ?_ _ | refine blk_drew ?_ | refine blk_alloc ?_ _)); exact BK585.out) hb); have n1_ := Aside0.mk (blk_below (g := gb586) (o := .cells #[.int .i64 a1_0, .slice A1_1 l1_1.length c1_1] 38 (0, 0)) (by (with_reducible repeat (first | refine blk_drewN ?_ _ | refine blk_drew ?_ | refine blk_alloc ?_ _)); exact BK586.out) hb); have n2_ := Aside0.mk (below_step (by repeat (first | (with_reducible first | exact HB.out | apply below_alloc | apply pw_below_drewN | apply below_drew1 | refine below_set ?_ GE585.out | refine below_set ?_ GE586.out) | exact HB.out)) hb); clear BK585; clear BK586; clear HB; have BK585 := n0_; have BK586 := n1_; have HB := n2_; clear n0_ n1_ n2_; (try clear hb); (try clear hb2); (try clear hk); (try clear hi)))
   go_ret
   exact ⟨by first | rfl | (simp [errW_none, errW_some] <;> rfl) | (simp [*, errW_none, errW_some] <;> rfl), by repeat (first | (with_reducible first | exact HB.out | apply below_alloc | apply pw_below_drewN | apply below_drew1 | refine below_set ?_ GE585.out | refine below_set ?_ GE586.out) | exact HB.out)⟩
 ·rw [if_neg c3] at H
  have c3b0 : (a0_0 == a1_0) = false := beq_eq_false_iff_ne.mpr c3
  have c3b1 : (a0_0 != a1_0) = true := bne_iff_ne.mpr c3
  obtain rfl := Option.some.inj H
  go_enter Try.func39, Try.ntmps39
  go_wp2_with (first | ((with_reducible refine gate_dst (N := 2) rfl ?_); refine box_event ?hg (N := 2) ?hd (cs := #[.int .i64 a0_0, .slice A0_1 l0_1.length c0_1]) (t := 38) ?hr ?_; (case hd => rfl); (case hg => rfl); (case hr => first | (go_simp; done) | (go_simp; rfl)); intro gb585 hg w18 hbox hb; have n0_ := Aside0.mk (below_step (by repeat (first | (with_reducible first | exact HB.out | apply below_alloc | apply pw_below_drewN | apply below_drew1) | exact HB.out)) hb); have n1_ := Aside0.mk (hbox); have n2_ := Aside0.mk ((by rw [hg]; exact (below_size (by repeat (first | (with_reducible first | exact HB.out | apply below_alloc | apply pw_below_drewN | apply below_drew1) | exact HB.out))) : w.heap.size ≤ gb585)); have n3_ := Aside0.mk ((by rw [hg]; exact (below_size (by repeat (first | (with_reducible first | exact HB.out | apply below_alloc | apply pw_below_drewN | apply below_drew1) | exact HB.out))) : w.heap.size ≤ gb585)); clear HB; have HB := n0_; have BK585 := n1_; have GW585 := n2_; have GE585 := n3_; clear n0_ n1_ n2_ n3_; clear hb hbox hg) | ((with_reducible refine gate_dst (N := 3) rfl ?_); refine box_event ?hg (N := 3) ?hd (cs := #[.int .i64 a1_0, .slice A1_1 l1_1.length c1_1]) (t := 38) ?hr ?_; (case hd => rfl); (case hg => rfl); (case hr => first | (go_simp; done) | (go_simp; rfl)); intro gb586 hg w19 hbox hb; have n0_ := Aside0.mk (blk_below (g := gb585) (o := .cells #[.int .i64 a0_0, .slice A0_1 l0_1.length c0_1] 38 (0, 0)) (by (with_reducible repeat (first | refine blk_drewN ?_ _ | refine blk_drew ?_ | refine blk_alloc ?_ _)); exact BK585.out) hb); have n1_ := Aside0.mk (below_step (by repeat (first | (with_reducible first | exact HB.out | apply below_alloc | apply pw_below_drewN | apply below_drew1 | refine below_set ?_ GE585.out) | exact HB.out)) hb); have n2_ := Aside0.mk (hbox); have n3_ := Aside0.mk ((by rw [hg]; exact (below_size (by repeat (first | (with_reducible first | exact HB.out | apply below_alloc | apply pw_below_drewN | apply below_drew1 | refine below_set ?_ GE585.out) | exact HB.out))) : w.heap.size ≤ gb586)); have n4_ := Aside0.mk ((by rw [hg]; exact (below_size (by repeat (first | (with_reducible first | exact HB.out | apply below_alloc | apply pw_below_drewN | apply below_drew1 | refine below_set ?_ GE585.out) | exact HB.out))) : w.heap.size ≤ gb586)); have n5_ := Aside0.mk ((by rw [hg]; exact Nat.ne_of_lt (blk_lt (g := gb585) (o := .cells #[.int .i64 a0_0, .slice A0_1 l0_1.length c0_1] 38 (0, 0)) (by (with_reducible repeat (first | refine blk_drewN ?_ _ | refine blk_drew ?_ | refine blk_alloc ?_ _)); exact BK585.out)) : gb585 ≠ gb586)); have n6_ := Aside0.mk ((by rw [hg]; exact Nat.ne_of_gt (blk_lt (g := gb585) (o := .cells #[.int .i64 a0_0, .slice A0_1 l0_1.length c0_1] 38 (0, 0)) (by (with_reducible repeat (first | refine blk_drewN ?_ _ | refine blk_drew ?_ | refine blk_alloc ?_ _)); exact BK585.out)) : gb586 ≠ gb585)); clear BK585; clear HB; have BK585 := n0_; have HB := n1_; have BK586 := n2_; have GW586 := n3_; have GE586 := n4_; have NB585_586 := n5_; have NB586_585 := n6_; clear n0_ n1_ n2_ n3_ n4_ n5_ n6_; clear hb hbox hg; have hnb20 := NB585_586.out; have hnc20 := NB586_585.out; have hcz21_0 : w19.cell? ⟨gb585, 0, none⟩ = some (.int .i64 a0_0) := (blk_cell BK585.out 0).trans rfl; have hcz21_1 : w19.cell? ⟨gb585, 1, none⟩ = some (.slice A0_1 l0_1.length c0_1) := (blk_cell BK585.out 1).trans rfl; have hfz21_0 := blk_frozen BK585.out 0; have hfz21_1 := blk_frozen BK585.out 1; have hcz22_0 : w19.cell? ⟨gb586, 0, none⟩ = some (.int .i64 a1_0) := (blk_cell BK586.out 0).trans rfl; have hcz22_1 : w19.cell? ⟨gb586, 1, none⟩ = some (.slice A1_1 l1_1.length c1_1) := (blk_cell BK586.out 1).trans rfl; have hfz22_0 := blk_frozen BK586.out 0; have hfz22_1 := blk_frozen BK586.out 1))
  go_ret
  exact ⟨by first | rfl | (simp [errW_none, errW_some] <;> rfl) | (simp [*, errW_none, errW_some] <;> rfl), by repeat (first | (with_reducible first | exact HB.out | apply below_alloc | apply pw_below_drewN | apply below_drew1 | refine below_set ?_ GE585.out | refine below_set ?_ GE586.out) | exact HB.out)⟩
end Go.Proofs.Ytmabopomecdidaa.Pr
end
section
set_option linter.unusedSimpArgs false
set_option linter.unusedVariables false
namespace Go.Proofs.Ytmabopomecdidaa.Pure
open Go.RowKit Go.Proofs.Ytmabopomecdidaa.Pr Go.Proofs.YtmabopomecdidaaW.PrintWords Go.Proofs.YtmabopomecdidaaW.PrintLast Go.Proofs.YtmabopomecdidaaW.PrintMore
section
variable {t e : Nat → Option Bool} {r : Bool}
theorem Ev.and {b : Bool} (k : Ev t r) : Ev (fun n => if b = true then t n else some false) (b && r) := by
 cases b with
 | false => exact Ev.neg (by simp) (Ev.now _)
 | true => exact Ev.pos rfl k
theorem Ev.nand {c : Prop} [Decidable c] (k : Ev t r) : Ev (fun n => if c then some false else t n) (!decide c && r) := by
 by_cases h : c
 ·exact Ev.pos h (Ev.is (by simp [h]))
 ·exact Ev.neg h (k.cast (by simp [h]))
end
abbrev Arc := S45
def arc (l : List Arc) (i : Nat) : Arc := rd_T45 l (i : Int)
theorem rda (l : List Arc) (i : Nat) : rd_T45 l (i : Int) = arc l i := rfl
theorem arc_get {l : List Arc} {i : Nat} (h : i < l.length) : arc l i = l[i] := by simp [arc, rd_T45, h]
theorem arc_mem {l : List Arc} {i : Nat} (h : i < l.length) : arc l i ∈ l := by
 rw [arc_get h]
 exact List.getElem_mem h
attribute [irreducible] arc
def okArcW (n : Int) (a : Arc) : Bool := inB a.f0 0 (wrap64 (n - 1)) && (inB a.f1 0 (wrap64 (n - 1)) && (!decide (a.f0 = a.f1) && (inB a.f2 0 99 && (inB a.f3 0 99 && inB a.f4 0 9))))
theorem l1Ok_l (n : Int) (l : List Arc) (hm : l.length ≤ maxLen) : ∀ (m i : Nat), l.length - i = m → i ≤ l.length → Ev (fun k => spec_l1Ok.l0 k (i : Int) n l) ((l.drop i).all (okArcW n) && (inB n 1 8 && decide ((l.length : Int) ≤ 16))) := by
 intro m
 induction m with
 | zero =>
  intro i hd hi
  refine Ev.go ?_ (fun k => by rw [spec_l1Ok.l0])
  refine Ev.neg (by omega) (Ev.bind0 (in1 _ _ _) ?_)
  rw [List.drop_of_length_le (by omega)]
  exact (Ev.and (Ev.now _)).cast (by simp)
 | succ m ih =>
  intro i hd hi
  have hlt : i < l.length := by omega
  refine Ev.go ?_ (fun k => by rw [spec_l1Ok.l0])
  rw [drop_cons hlt, ← arc_get hlt, List.all_cons, rda, up1 hlt hm]
  refine Ev.pos (by omega) (Ev.pos (by omega) ?_)
  refine Ev.cast (Ev.bind0 (in1 _ _ _) (Ev.and (Ev.bind0 (in1 _ _ _) (Ev.and (Ev.nand (Ev.bind0 (in1 _ _ _) (Ev.and (Ev.bind0 (in1 _ _ _) (Ev.and (Ev.bind0 (in1 _ _ _) (Ev.and (ih (i + 1) (by omega) (by omega))))))))))))) ?_
  simp only [okArcW, Bool.and_assoc]
theorem okArcW_okArc {n : Int} (h : 1 ≤ n) (h8 : n ≤ 8) (a : Arc) : okArcW n a = okArc n a := by
 unfold okArcW okArc inB okN okC
 rw [w64 (by omega) (by omega)]
 have e : (a.f4 ≤ 9) ↔ (a.f4 ≤ 10 - 1) := by omega
 have e2 : (a.f0 == a.f1) = decide (a.f0 = a.f1) := by
  by_cases c : a.f0 = a.f1 <;> simp [c]
 rw [e2]
 simp only [Bool.and_assoc, e]
theorem l1Ok_ev (n : Int) (l : List Arc) (hm : l.length ≤ maxLen) : Ev (fun k => spec_l1Ok.f k n l) (netOkB n l) := by
 unfold spec_l1Ok.f
 refine (l1Ok_l n l hm _ 0 rfl (by omega)).cast ?_
 unfold netOkB
 rw [List.drop_zero]
 by_cases h : 1 ≤ n ∧ n ≤ 8
 ·have e : l.all (okArcW n) = l.all (okArc n) := by
   congr 1
   funext a
   exact okArcW_okArc h.1 h.2 a
  rw [e, show inB n 1 8 = true from inB_iff.2 h]
  simp [h.1, h.2, Bool.and_comm]
 ·have e : inB n 1 8 = false := by
   cases c : inB n 1 8 with
   | false => rfl
   | true => exact absurd (inB_iff.1 c) h
  rw [e]
  have e2 : (decide (1 ≤ n) && decide (n ≤ 8)) = false := e
  simp only [e2, Bool.false_and, Bool.and_false]
structure NetGood (n : Int) (l : List Arc) : Prop where
 n1 : 1 ≤ n
 n8 : n ≤ 8
 len : l.length ≤ 16
 ok : ∀ i, i < l.length → (0 ≤ (arc l i).f0 ∧ (arc l i).f0 < n) ∧ (0 ≤ (arc l i).f1 ∧ (arc l i).f1 < n) ∧ (arc l i).f0 ≠ (arc l i).f1 ∧ (0 ≤ (arc l i).f2 ∧ (arc l i).f2 ≤ 99) ∧ (0 ≤ (arc l i).f3 ∧ (arc l i).f3 ≤ 99) ∧ (0 ≤ (arc l i).f4 ∧ (arc l i).f4 ≤ 9)
theorem okArc_iff (n : Int) (a : Arc) : okArc n a = true ↔ (0 ≤ a.f0 ∧ a.f0 < n) ∧ (0 ≤ a.f1 ∧ a.f1 < n) ∧ a.f0 ≠ a.f1 ∧ (0 ≤ a.f2 ∧ a.f2 ≤ 99) ∧ (0 ≤ a.f3 ∧ a.f3 ≤ 99) ∧ (0 ≤ a.f4 ∧ a.f4 ≤ 9) := by
 simp only [okArc, okN, okC, Bool.and_eq_true, decide_eq_true_eq, Bool.not_eq_true', beq_eq_false_iff_ne]
 constructor
 ·rintro ⟨⟨⟨⟨⟨⟨a1, a2⟩, a3, a4⟩, a5⟩, a6⟩, a7⟩, a8, a9⟩
  exact ⟨⟨a1, by omega⟩, ⟨a3, by omega⟩, a5, a6, a7, a8, by omega⟩
 ·rintro ⟨⟨a1, a2⟩, ⟨a3, a4⟩, a5, a6, a7, a8, a9⟩
  exact ⟨⟨⟨⟨⟨⟨a1, by omega⟩, a3, by omega⟩, a5⟩, a6⟩, a7⟩, a8, by omega⟩
theorem netOkB_iff (n : Int) (l : List Arc) : netOkB n l = true ↔ NetGood n l := by
 simp only [netOkB, Bool.and_eq_true, decide_eq_true_eq, List.all_eq_true]
 constructor
 ·rintro ⟨⟨⟨h1, h2⟩, h3⟩, h4⟩
  exact ⟨h1, h2, by omega, fun i hi => (okArc_iff n _).1 (h4 _ (arc_mem hi))⟩
 ·rintro ⟨h1, h2, h3, h4⟩
  refine ⟨⟨⟨h1, h2⟩, by omega⟩, fun a ha => ?_⟩
  obtain ⟨i, hi, rfl⟩ := List.getElem_of_mem ha
  rw [← arc_get hi]
  exact (okArc_iff n _).2 (h4 i hi)
end Go.Proofs.Ytmabopomecdidaa.Pure
end
section
set_option linter.unusedSimpArgs false
set_option linter.unusedVariables false
namespace Go.Proofs.Ytmabopomecdidaa.Pure
open Go.RowKit Go.Proofs.Ytmabopomecdidaa.Pr Go.Proofs.YtmabopomecdidaaW.PrintWords Go.Proofs.YtmabopomecdidaaW.PrintLast Go.Proofs.YtmabopomecdidaaW.PrintMore
theorem inList_l (x : List Int) (v : Int) (hm : x.length ≤ maxLen) : ∀ (m i : Nat), x.length - i = m → i ≤ x.length → Ev (fun k => spec_l12In.l0 k x v (i : Int)) ((x.drop i).contains v) := by
 intro m
 induction m with
 | zero =>
  intro i hd hi
  refine Ev.go ?_ (fun k => by rw [spec_l12In.l0])
  exact Ev.neg (by omega) (Ev.is (by rw [List.drop_of_length_le (by omega)]; simp))
 | succ m ih =>
  intro i hd hi
  have hlt : i < x.length := by omega
  have hn := ih (i + 1) (by omega) (by omega)
  rw [← up1 hlt hm] at hn
  refine Ev.go ?_ (fun k => by rw [spec_l12In.l0])
  refine Ev.pos (by omega) (Ev.pos (by omega) ?_)
  rw [rdg i]
  have e : (x.drop i).contains v = (v == nth x i || (x.drop (i + 1)).contains v) := by rw [drop_cons hlt, List.contains_cons, nth_get hlt]
  by_cases c : nth x i = v
  ·exact Ev.pos c (Ev.is (by rw [e, c]; simp))
  ·refine Ev.neg c (hn.cast ?_)
   have hne : ¬ v = nth x i := fun h => c h.symm
   rw [e]
   simp [hne]
theorem inList_ev (x : List Int) (v : Int) (hm : x.length ≤ maxLen) : Ev (fun k => spec_l12In.f k x v) (x.contains v) :=
 inList_l x v hm _ 0 rfl (Nat.zero_le _)
def readyFrom (l : List Arc) (out : List Int) (v : Int) (i : Nat) : Bool := (l.drop i).all fun a => decide (a.f1 ≠ v) || out.contains a.f0
theorem ready_cand (l : List Arc) (out : List Int) (v : Int) : (!(out.contains v) && readyFrom l out v 0) = candB l out v := by
 unfold readyFrom candB
 rw [List.not_any_eq_all_not, List.drop_zero]
 congr 1
 congr 1
 funext a
 by_cases h : a.f1 = v <;> simp [h]
theorem order_l2 (n : Int) (l : List Arc) (out : List Int) (nx v : Int) (h0 : 0 ≤ v) (h1 : v ≤ 64) (hm : l.length ≤ maxLen) (ho : out.length ≤ maxLen) {R : List Int × Bool} : ∀ (m i : Nat) (b : Bool), l.length - i = m → i ≤ l.length →
  Ev (fun k => spec_RingOrder.l1 k out (if (b && readyFrom l out v i) = true then v else nx) (v - 1) n l) R → Ev (fun k => spec_RingOrder.l2 k out nx v b (i : Int) n l) R := by
 intro m
 induction m with
 | zero =>
  intro i b hd hi h
  have e : readyFrom l out v i = true := by unfold readyFrom; rw [List.drop_of_length_le (by omega)]; rfl
  rw [e, Bool.and_true] at h
  refine Ev.go ?_ (fun k => by rw [spec_RingOrder.l2])
  refine Ev.neg (by omega) ?_
  rw [w64 (by omega) (by omega)]
  cases b with
  | true => exact Ev.pos rfl (by simpa using h)
  | false => exact Ev.neg (by simp) (by simpa using h)
 | succ m ih =>
  intro i b hd hi h
  have hlt : i < l.length := by omega
  have e : readyFrom l out v i = ((decide ((arc l i).f1 ≠ v) || out.contains (arc l i).f0) && readyFrom l out v (i + 1)) := by
   unfold readyFrom
   rw [drop_cons hlt, List.all_cons]
   have : arc l i = l[i] := by simp [arc, rd_T45, hlt]
   rw [this]
  refine Ev.go ?_ (fun k => by rw [spec_RingOrder.l2])
  refine Ev.pos (by omega) ?_
  rw [up1 hlt hm]
  cases b with
  | false => exact Ev.neg (by simp) (ih (i + 1) false (by omega) (by omega) (by simpa using h))
  | true =>
   refine Ev.pos rfl (Ev.pos (by omega) ?_)
   rw [rda]
   by_cases c : (arc l i).f1 = v
   ·refine Ev.pos c (Ev.bind (inList_ev out (arc l i).f0 ho) (ih (i + 1) _ (by omega) (by omega) ?_))
    rw [e] at h
    simpa [c] using h
   ·refine Ev.neg c (ih (i + 1) true (by omega) (by omega) ?_)
    rw [e] at h
    simpa [c] using h
theorem order_l1 (n : Int) (l : List Arc) (out : List Int) (hm : l.length ≤ maxLen) (ho : out.length ≤ maxLen) {R : List Int × Bool} : ∀ (m : Nat) (nx : Int), m ≤ 64 →
  Ev (fun k => if lowN (candB l out) m nx < 0 then some (([] : List Int), false) else if out.length < 17592186044416 then spec_RingOrder.l0 k (out ++ [lowN (candB l out) m nx]) n l else none) R →
  Ev (fun k => spec_RingOrder.l1 k out nx ((m : Int) - 1) n l) R := by
 intro m
 induction m with
 | zero =>
  intro nx _ h
  refine Ev.go ?_ (fun k => by rw [spec_RingOrder.l1])
  exact Ev.neg (by omega) h
 | succ m ih =>
  intro nx hle h
  refine Ev.go ?_ (fun k => by rw [spec_RingOrder.l1])
  have e : ((m + 1 : Nat) : Int) - 1 = (m : Int) := by omega
  rw [e]
  refine Ev.pos (by omega) (Ev.bind (inList_ev out (m : Int) ho) ?_)
  refine order_l2 n l out nx (m : Int) (by omega) (by omega) hm ho _ 0 _ rfl (Nat.zero_le _) ?_
  rw [ready_cand]
  refine ih _ (by omega) ?_
  exact h
theorem order_l0 (N : Nat) (hN : N ≤ 64) (l : List Arc) (hm : l.length ≤ maxLen) : ∀ (m : Nat) (out : List Int), out.length + m = N → Ev (fun k => spec_RingOrder.l0 k out (N : Int) l) (ordF l N m out) := by
 intro m
 induction m with
 | zero =>
  intro out h
  refine Ev.go ?_ (fun k => by rw [spec_RingOrder.l0])
  exact Ev.neg (by omega) (Ev.now _)
 | succ m ih =>
  intro out h
  refine Ev.go ?_ (fun k => by rw [spec_RingOrder.l0])
  refine Ev.pos (by omega) ?_
  rw [w64 (by omega) (by omega)]
  refine order_l1 (N : Int) l out hm (by simp only [maxLen]; omega) N (-1) hN ?_
  unfold ordF
  by_cases c : lowN (candB l out) N (-1) < 0
  ·rw [if_pos c]
   exact Ev.pos c (Ev.now _)
  ·rw [if_neg c]
   exact Ev.neg c (Ev.pos (by omega) (ih _ (by rw [List.length_append]; simp; omega)))
def orderV (n : Int) (l : List Arc) : List Int × Bool := if netOkB n l = true then ordF l n.toNat n.toNat [] else ([], false)
theorem specRing_ev (n : Int) (l : List Arc) (hm : l.length ≤ maxLen) : Ev (fun k => spec_RingOrder.f k n l) (orderV n l) := by
 unfold spec_RingOrder.f
 refine Ev.bind (l1Ok_ev n l hm) ?_
 unfold orderV
 cases h : netOkB n l with
 | false => exact Ev.neg (by simp) (Ev.is (by simp))
 | true =>
  have hg := (netOkB_iff n l).1 h
  have h1 := hg.n1
  have h8 := hg.n8
  obtain ⟨N, rfl⟩ := Int.eq_ofNat_of_zero_le (show 0 ≤ n by omega)
  rw [if_pos rfl, Int.toNat_natCast]
  exact Ev.pos rfl (order_l0 N (by omega) l hm N [] (by simp))
theorem implRing (n : Int) (l : List Arc) : impl_RingOrder.f n l = some (orderV n l) := by
 unfold impl_RingOrder.f impl_NetOk.f
 show (if netOkB n l = true then _ else _) = _
 unfold orderV
 cases h : netOkB n l with
 | false => rfl
 | true =>
  have hg := (netOkB_iff n l).1 h
  have h1 := hg.n1
  have h8 := hg.n8
  unfold impl_Net_order.f
  rw [if_pos (show 0 ≤ n by omega), if_pos (show n ≤ 64 by omega)]
  rfl
theorem ordF_len (l : List Arc) (N : Nat) : ∀ (m : Nat) (out : List Int), (ordF l N m out).1.length ≤ out.length + m
 | 0, out => by simp [ordF]
 | m + 1, out => by
  unfold ordF
  split
  ·simp
  ·have := ordF_len l N m (out ++ [lowN (candB l out) N (-1)])
   rw [List.length_append] at this
   simp at this
   omega
theorem orderV_len (n : Int) (l : List Arc) : (orderV n l).1.length ≤ 8 := by
 unfold orderV
 cases h : netOkB n l with
 | false => simp
 | true =>
  have hg := (netOkB_iff n l).1 h
  have h8 := hg.n8
  rw [if_pos rfl]
  have := ordF_len l n.toNat n.toNat []
  simp at this
  omega
end Go.Proofs.Ytmabopomecdidaa.Pure
end
section
set_option linter.unusedSectionVars false
namespace Go.Proofs.Ytmabopomecdidaa.Fl
def sm (F : Nat → Int) : Nat → Int
 | 0 => 0
 | n + 1 => sm F n + F n
section
variable {n m : Nat} {fr tw : Nat → Nat} {f : Nat → Int} (hf : ∀ i, i < m → fr i < n) (ht : ∀ i, i < m → tw i < n)
def net (m : Nat) (fr tw : Nat → Nat) (f : Nat → Int) (v : Nat) : Int := sm (fun i => (if fr i = v then f i else 0) - (if tw i = v then f i else 0)) m
include hf ht
end
section
variable {n m : Nat} {fr tw : Nat → Nat} {f cap : Nat → Int} (hf : ∀ i, i < m → fr i < n) (ht : ∀ i, i < m → tw i < n) (h0 : ∀ i, i < m → 0 ≤ f i ∧ f i ≤ cap i) {s t : Nat} (hs : s < n) (hz : ∀ v, v < n → v ≠ s → v ≠ t → net m fr tw f v = 0)
include hf ht h0 hs hz
end
end Go.Proofs.Ytmabopomecdidaa.Fl
end
section
set_option linter.unusedSectionVars false
namespace Go.Proofs.Ytmabopomecdidaa.Pm
open Go.Proofs.Ytmabopomecdidaa.Fl
def at_ (p : List Nat) (i : Nat) : Nat := p.getD i 0
structure IsPerm (n : Nat) (p : List Nat) : Prop where
 len : p.length = n
 nd : p.Nodup
 lt : ∀ x ∈ p, x < n
theorem perm_mem_all {n : Nat} {p : List Nat} (h : IsPerm n p) : ∀ k, k < n → k ∈ p := by
 intro k hk
 apply Classical.byContradiction
 intro hc
 have : ∀ (n : Nat) (l : List Nat), l.Nodup → (∀ x ∈ l, x < n) → l.length ≤ n := by
  intro n
  induction n with
  | zero =>
   intro l _ h
   cases l with
   | nil => simp
   | cons a l => exact absurd (h a (by simp)) (by omega)
  | succ n ih =>
   intro l hn h
   have h1 := ih (l.erase n) (hn.erase n) (fun x hx => by
    have h2 := h x (List.mem_of_mem_erase hx)
    have h3 : x ≠ n := by
     rintro rfl
     exact (List.Nodup.not_mem_erase hn) hx
    omega)
   have h4 : l.length ≤ (l.erase n).length + 1 := by
    rw [List.length_erase]
    split <;> omega
   omega
 have h1 := this n (k :: p) (List.nodup_cons.2 ⟨hc, h.nd⟩) (fun x hx => by
  rcases List.mem_cons.1 hx with rfl | hx
  ·exact hk
  ·exact h.lt x hx)
 have := h.len
 simp at h1
 omega
def inv (n : Nat) (p : List Nat) : List Nat := (List.range n).map fun k => p.idxOf k
theorem inv_at {n : Nat} {p : List Nat} (h : IsPerm n p) {k : Nat} (hk : k < n) : at_ (inv n p) k < n ∧ at_ p (at_ (inv n p) k) = k := by
 have hm := perm_mem_all h k hk
 have h1 := List.idxOf_lt_length_of_mem hm
 have e : at_ (inv n p) k = p.idxOf k := by simp [at_, inv, hk]
 rw [e]
 refine ⟨by rw [← h.len]; exact h1, ?_⟩
 simp only [at_, List.getD_eq_getElem?_getD, List.getElem?_eq_getElem h1, Option.getD_some]
 exact List.getElem_idxOf h1
end Go.Proofs.Ytmabopomecdidaa.Pm
end
section
set_option linter.unusedSimpArgs false
set_option linter.unusedVariables false
namespace Go.Proofs.Ytmabopomecdidaa.Pure
open Go.RowKit Go.Proofs.Ytmabopomecdidaa.Pr Go.Proofs.YtmabopomecdidaaW.PrintWords Go.Proofs.YtmabopomecdidaaW.PrintLast Go.Proofs.YtmabopomecdidaaW.PrintMore
theorem lowN_spec (c : Int → Bool) : ∀ (n : Nat) (nx : Int), lowN c n nx = nx ∨ ∃ j : Nat, j < n ∧ lowN c n nx = (j : Int) ∧ c (j : Int) = true
 | 0, nx => .inl rfl
 | n + 1, nx => by
  unfold lowN
  by_cases h : c (n : Int) = true
  ·rw [if_pos h]
   rcases lowN_spec c n (n : Int) with e | ⟨j, h1, h2, h3⟩
   ·exact .inr ⟨n, by omega, e, h⟩
   ·exact .inr ⟨j, by omega, h2, h3⟩
  ·rw [if_neg h]
   rcases lowN_spec c n nx with e | ⟨j, h1, h2, h3⟩
   ·exact .inl e
   ·exact .inr ⟨j, by omega, h2, h3⟩
structure Ord (l : List Arc) (N : Nat) (out : List Int) : Prop where
 node : ∀ v ∈ out, 0 ≤ v ∧ v < N
 once : out.Nodup
 back : ∀ j, j < out.length → ∀ a ∈ l, a.f1 = nth out j → a.f0 ∈ out.take j
theorem Ord.nil (l : List Arc) (N : Nat) : Ord l N [] := ⟨by simp, List.nodup_nil, by simp⟩
theorem Ord.push {l : List Arc} {N : Nat} {out : List Int} (h : Ord l N out) {j : Nat} (hj : j < N) (hc : candB l out (j : Int) = true) : Ord l N (out ++ [(j : Int)]) := by
 unfold candB at hc
 simp only [Bool.and_eq_true, Bool.not_eq_true', List.any_eq_false, decide_eq_true_eq, not_and, List.contains_eq_mem, decide_eq_false_iff_not, Decidable.not_not] at hc
 obtain ⟨h1, h2⟩ := hc
 refine ⟨?_, ?_, ?_⟩
 ·intro v hv
  rcases List.mem_append.1 hv with hv | hv
  ·exact h.node v hv
  ·simp at hv; omega
 ·rw [List.nodup_append]
  refine ⟨h.once, by simp, ?_⟩
  intro a ha b hb e
  simp at hb
  subst hb
  subst e
  exact h1 ha
 ·intro i hi a ha he
  rw [List.length_append, List.length_singleton] at hi
  by_cases e : i < out.length
  ·have hn : nth (out ++ [(j : Int)]) i = nth out i := by simp [nth, List.getD_eq_getElem?_getD, List.getElem?_append_left e]
   rw [List.take_append_of_le_length (by omega)]
   exact h.back i e a ha (by rw [← hn]; exact he)
  ·have e' : i = out.length := by omega
   subst e'
   have hn : nth (out ++ [(j : Int)]) out.length = (j : Int) := by simp [nth]
   rw [hn] at he
   rw [List.take_left]
   exact h2 a ha he
theorem ordF_good (l : List Arc) (N : Nat) : ∀ (m : Nat) (out : List Int), Ord l N out → out.length + m = N → (ordF l N m out).2 = true → Ord l N (ordF l N m out).1 ∧ (ordF l N m out).1.length = N
 | 0, out, h, hl, _ => ⟨h, by simpa [ordF] using hl⟩
 | m + 1, out, h, hl, ht => by
  unfold ordF at ht ⊢
  by_cases c : lowN (candB l out) N (-1) < 0
  ·rw [if_pos c] at ht; cases ht
  ·rw [if_neg c] at ht ⊢
   rcases lowN_spec (candB l out) N (-1) with e | ⟨j, h1, h2, h3⟩
   ·rw [e] at c; omega
   ·rw [h2] at ht ⊢
    exact ordF_good l N m _ (h.push h1 h3) (by rw [List.length_append, List.length_singleton]; omega) ht
theorem Ord.all {l : List Arc} {N : Nat} {out : List Int} (h : Ord l N out) (hN : out.length = N) : ∀ v, v < N → (v : Int) ∈ out := by
 have hm : ∀ (L : List Int), (∀ v ∈ L, 0 ≤ v) → L.Nodup → (L.map Int.toNat).Nodup := by
  intro L h0 hn
  rw [List.Nodup, List.pairwise_map]
  exact (List.Pairwise.and_mem.1 hn).imp (fun {a b} hab e => hab.2.2 (by have := h0 a hab.1; have := h0 b hab.2.1; omega))
 have hp : Pm.IsPerm N (out.map Int.toNat) := ⟨by simpa using hN, hm out (fun v hv => (h.node v hv).1) h.once, by
  intro x hx
  obtain ⟨v, hv, rfl⟩ := List.mem_map.1 hx
  have := h.node v hv
  omega⟩
 intro v hv
 obtain ⟨u, hu, e⟩ := List.mem_map.1 (Pm.perm_mem_all hp v hv)
 have := h.node u hu
 rw [show (v : Int) = u by omega]
 exact hu
end Go.Proofs.Ytmabopomecdidaa.Pure
end
section
set_option linter.unusedSimpArgs false
set_option linter.unusedVariables false
namespace Go.Proofs.Ytmabopomecdidaa.Pure
open Go.RowKit Go.Proofs.Ytmabopomecdidaa.Pr Go.Proofs.YtmabopomecdidaaW.PrintWords Go.Proofs.YtmabopomecdidaaW.PrintLast Go.Proofs.YtmabopomecdidaaW.PrintMore
def flip (a : Arc) : Arc := ⟨a.f1, a.f0, a.f2, a.f3, a.f4⟩
def back (l : List Arc) : List Arc := l.map flip
theorem back_len (l : List Arc) : (back l).length = l.length := by simp [back]
theorem back_arc {l : List Arc} {i : Nat} (h : i < l.length) : arc (back l) i = flip (arc l i) := by
 rw [arc_get (by rw [back_len]; exact h), arc_get h]
 simp [back]
theorem back_good {n : Int} {l : List Arc} (h : NetGood n l) : NetGood n (back l) := by
 refine ⟨h.n1, h.n8, by rw [back_len]; exact h.len, fun i hi => ?_⟩
 rw [back_len] at hi
 obtain ⟨a1, a2, a3, a4⟩ := h.ok i hi
 rw [back_arc hi]
 exact ⟨a2, a1, fun e => a3 e.symm, a4⟩
theorem implBack_l (n : Int) (l : List Arc) (hm : l.length ≤ 1000) : ∀ (m i : Nat), l.length - i = m → i ≤ l.length → Ev (fun k => impl_Net_back.l0 k l (l.length : Int) (i : Int) n ((back l).take i)) (n, back l) := by
 intro m
 induction m with
 | zero =>
  intro i hd hi
  refine Ev.go ?_ (fun k => by rw [impl_Net_back.l0])
  refine Ev.neg (by omega) (Ev.is ?_)
  rw [List.take_of_length_le (by rw [back_len]; omega)]
 | succ m ih =>
  intro i hd hi
  have hlt : i < l.length := by omega
  refine Ev.go ?_ (fun k => by rw [impl_Net_back.l0])
  have ih := ih (i + 1) (by omega) (by omega)
  have hlt2 : i < (back l).length := by rw [back_len]; exact hlt
  rw [List.take_succ_eq_append_getElem hlt2, ← arc_get hlt2, back_arc hlt] at ih
  rw [up1 hlt (by simp only [maxLen]; omega), rda]
  exact Ev.pos (by omega) (Ev.pos (by omega) (Ev.pos (by omega) (Ev.pos (by simp; omega) ih)))
theorem implBack_ev (n : Int) (l : List Arc) (hm : l.length ≤ 1000) : Ev (fun k => impl_Net_back.f k n l) (n, back l) := by
 unfold impl_Net_back.f
 exact Ev.pos (by omega) (Ev.pos (by omega) (by simpa using implBack_l n l hm _ 0 rfl (Nat.zero_le _)))
theorem implNetBack_ev {n : Int} {l : List Arc} (h : NetGood n l) : Ev (fun k => impl_NetBack.f k n l) (n, back l) := by
 unfold impl_NetBack.f
 have := h.len
 exact Ev.bind0 (show impl_NetOk.f n l = some (netOkB n l) from rfl) (Ev.pos ((netOkB_iff n l).2 h) (Ev.bind (implBack_ev n l (by omega)) (Ev.now _)))
end Go.Proofs.Ytmabopomecdidaa.Pure
end
section
set_option linter.unusedSimpArgs false
set_option linter.unusedVariables false
namespace Go.Proofs.Ytmabopomecdidaa.Pure
open Go.RowKit Go.Proofs.Ytmabopomecdidaa.Pr Go.Proofs.YtmabopomecdidaaW.PrintWords Go.Proofs.YtmabopomecdidaaW.PrintLast Go.Proofs.YtmabopomecdidaaW.PrintMore
theorem lowN_neg (c : Int → Bool) : ∀ (n : Nat) (nx : Int), lowN c n nx < 0 → ∀ j, j < n → c (j : Int) = false
 | 0, _, _, j, hj => by omega
 | n + 1, nx, h, j, hj => by
  unfold lowN at h
  by_cases hc : c (n : Int) = true
  ·rw [if_pos hc] at h
   rcases lowN_spec c n (n : Int) with e | ⟨t, _, e, _⟩ <;> omega
  ·rw [if_neg hc] at h
   by_cases e : j = n
   ·subst e; simpa using hc
   ·exact lowN_neg c n nx h j (by omega)
theorem ordF_stuck (l : List Arc) (N : Nat) : ∀ (m : Nat) (out : List Int), Ord l N out → out.length + m = N → (ordF l N m out).2 = false → ∃ o, Ord l N o ∧ o.length < N ∧ ∀ j, j < N → candB l o (j : Int) = false
 | 0, out, _, _, ht => by simp [ordF] at ht
 | m + 1, out, h, hl, ht => by
  unfold ordF at ht
  by_cases c : lowN (candB l out) N (-1) < 0
  ·exact ⟨out, h, by omega, lowN_neg _ N (-1) c⟩
  ·rw [if_neg c] at ht
   rcases lowN_spec (candB l out) N (-1) with e | ⟨j, h1, h2, h3⟩
   ·rw [e] at c; omega
   ·rw [h2] at ht
    exact ordF_stuck l N m _ (h.push h1 h3) (by rw [List.length_append, List.length_singleton]; omega) ht
theorem miss {N : Nat} {o : List Int} (h : o.length < N) : ∃ v, v < N ∧ (v : Int) ∉ o := by
 apply Classical.byContradiction
 intro hc
 have hall : ∀ v, v < N → (v : Int) ∈ o := fun v hv => Classical.byContradiction (fun k => hc ⟨v, hv, k⟩)
 have h1 : ∀ (n : Nat) (L : List Int), (∀ v, v < n → (v : Int) ∈ L) → n ≤ L.length := by
  intro n
  induction n with
  | zero => intro L _; exact Nat.zero_le _
  | succ n ih =>
   intro L hL
   have h2 := ih (L.erase (n : Int)) (fun v hv => (List.mem_erase_of_ne (by omega)).2 (hL v (by omega)))
   rw [List.length_erase_of_mem (hL n (by omega))] at h2
   have := List.length_pos_of_mem (hL n (by omega))
   omega
 have := h1 N o hall
 omega
theorem ord_turned {l : List Arc} {N : Nat} {out : List Int} (h : Ord l N out) (hN : out.length = N) (hl : ∀ a ∈ l, (0 ≤ a.f0 ∧ a.f0 < N) ∧ (0 ≤ a.f1 ∧ a.f1 < N)) : (ordF (back l) N N []).2 = true := by
 cases ht : (ordF (back l) N N []).2 with
 | true => rfl
 | false =>
  exfalso
  obtain ⟨o, ho, h1, h2⟩ := ordF_stuck (back l) N N [] (Ord.nil _ _) (by simp) ht
  have step : ∀ v : Nat, v < N → (v : Int) ∉ o → ∃ u : Nat, u < N ∧ (u : Int) ∉ o ∧ ∃ a ∈ l, a.f0 = (v : Int) ∧ a.f1 = (u : Int) := by
   intro v hv hvo
   have hc := h2 v hv
   unfold candB at hc
   have e : o.contains (v : Int) = false := by simpa using hvo
   rw [e] at hc
   simp only [Bool.not_false, Bool.true_and, Bool.not_eq_false', List.any_eq_true, Bool.and_eq_true, decide_eq_true_eq, Bool.not_eq_true'] at hc
   obtain ⟨b, hb, e1, e2⟩ := hc
   obtain ⟨a, ha, rfl⟩ := List.mem_map.1 hb
   have hla := hl a ha
   have e1 : a.f0 = (v : Int) := e1
   have e2 : o.contains a.f1 = false := e2
   refine ⟨a.f1.toNat, by omega, ?_, a, ha, e1, by omega⟩
   rw [show ((a.f1.toNat : Nat) : Int) = a.f1 by omega]
   simpa using e2
  have key : ∀ m j, out.length - j ≤ m → ∀ hj : j < out.length, out[j] ∈ o := by
   intro m
   induction m with
   | zero => intro j hm hj; omega
   | succ m ih =>
    intro j hm hj
    apply Classical.byContradiction
    intro hno
    have hnode := h.node _ (List.getElem_mem hj)
    have ev : ((out[j].toNat : Nat) : Int) = out[j] := by omega
    obtain ⟨u, hu, huo, a, ha, e1, e2⟩ := step out[j].toNat (by omega) (by rw [ev]; exact hno)
    obtain ⟨i, hi, eu⟩ := List.getElem_of_mem (h.all hN u hu)
    have hb := h.back i hi a ha (by rw [nth_get hi, eu]; exact e2)
    obtain ⟨t, ht2, et⟩ := List.getElem_of_mem hb
    rw [List.length_take] at ht2
    rw [List.getElem_take] at et
    have ee : out[t] = out[j] := by rw [et, e1, ev]
    have hte := (List.getElem_inj h.once).1 ee
    have := ih i (by omega) hi
    rw [eu] at this
    exact huo this
  obtain ⟨v, hv, hvo⟩ := miss h1
  obtain ⟨j, hj, e⟩ := List.getElem_of_mem (h.all hN v hv)
  have := key out.length j (by omega) hj
  rw [e] at this
  exact hvo this
end Go.Proofs.Ytmabopomecdidaa.Pure
end
section
set_option linter.unusedSimpArgs false
set_option linter.unusedVariables false
namespace Go.Proofs.Ytmabopomecdidaa.Pure
open Go.RowKit Go.Proofs.Ytmabopomecdidaa.Pr Go.Proofs.YtmabopomecdidaaW.PrintWords Go.Proofs.YtmabopomecdidaaW.PrintLast Go.Proofs.YtmabopomecdidaaW.PrintMore
structure Rdr (b : List Int) : Prop where
 len : b.length ≤ 2000
 rng : ∀ i, i < b.length → 0 ≤ nth b i ∧ nth b i ≤ 255
theorem Rdr.rd {b : List Int} (h : Rdr b) (i : Int) : 0 ≤ Go.Proofs.YtmabopomecdidaaW.PrintWords.rd b i ∧ Go.Proofs.YtmabopomecdidaaW.PrintWords.rd b i ≤ 255 := by
 have e : Go.Proofs.YtmabopomecdidaaW.PrintWords.rd b i = nth b i.toNat := rfl
 rw [e]
 by_cases c : i.toNat < b.length
 ·exact h.rng _ c
 ·have c2 : b.length ≤ i.toNat := by omega
  simp [nth, List.getElem?_eq_none c2]
theorem tm {x a : Int} (hx : 0 ≤ x) (ha : 0 < a) : 0 ≤ Int.tmod x a ∧ Int.tmod x a < a := by
 rw [Int.tmod_eq_emod_of_nonneg hx]
 exact ⟨Int.emod_nonneg _ (by omega), Int.emod_lt_of_pos _ ha⟩
theorem td {x a : Int} (hx : 0 ≤ x) (ha : 0 < a) : 0 ≤ Int.tdiv x a ∧ Int.tdiv x a ≤ x := by
 rw [Int.tdiv_eq_ediv_of_nonneg hx]
 exact ⟨Int.ediv_nonneg hx (by omega), Int.ediv_le_self _ hx⟩
theorem xor_nn {x y : Int} (hx : 0 ≤ x) (hx' : x < 4294967296) (hy : 0 ≤ y) (hy' : y < 4294967296) : 0 ≤ Go.bits .xor .i64 x y := by
 obtain ⟨x, rfl⟩ := Int.eq_ofNat_of_zero_le hx
 obtain ⟨y, rfl⟩ := Int.eq_ofNat_of_zero_le hy
 have h1 : x ^^^ y < 2 ^ 32 := Nat.xor_lt_two_pow (by omega) (by omega)
 have e : Go.bits .xor .i64 ((x : Nat) : Int) ((y : Nat) : Int) = wrap64 (((BitVec.ofInt 64 ((x : Nat) : Int) ^^^ BitVec.ofInt 64 ((y : Nat) : Int)).toNat : Nat) : Int) := by
  unfold Go.bits
  simp only [i64_w]
  rfl
 rw [e, BitVec.toNat_xor, BitVec.ofInt_natCast, BitVec.ofInt_natCast, BitVec.toNat_ofNat, BitVec.toNat_ofNat, Nat.mod_eq_of_lt (by omega), Nat.mod_eq_of_lt (by omega), w64 (by omega) (by omega)]
 omega
theorem pick_pv {b : List Int} (h : Rdr b) {p a : Int} (hp : 0 ≤ p) (hp' : p ≤ 1000000) : Pv (fun k => spec_l30Rd_pick.f k b p a) (fun r => (0 ≤ r.1 ∧ (a < 1 → r.1 = 0) ∧ (1 ≤ a → r.1 < a)) ∧ r.2 = p + 1) := by
 have w1 : wrap64 (p + 1) = p + 1 := w64 (by omega) (by omega)
 have w2 : wrap64 (p + 1 - 1) = p := by rw [w64 (by omega) (by omega)]; omega
 unfold spec_l30Rd_pick.f
 refine Pv.ite (fun c => ?_) (fun c => ?_)
 ·refine Pv.go ?_ (fun k => by rw [spec_l30Rd_pick.j0])
  exact Pv.pos rfl (Pv.now ⟨⟨Int.le_refl _, fun _ => rfl, fun c2 => by omega⟩, w1⟩)
 ·refine Pv.go ?_ (fun k => by rw [spec_l30Rd_pick.j0])
  refine Pv.ite (fun _ => Pv.now ⟨⟨Int.le_refl _, fun _ => rfl, fun c2 => by dsimp only; omega⟩, w1⟩) (fun c0 => ?_)
  have hb : 0 < (b.length : Int) := by
   have : (b.length : Int) ≠ 0 := by simpa using c0
   omega
  have hb2 := h.len
  rw [w1, w2]
  have fin : ∀ X : Int, 0 ≤ X → Pv (fun _ => some (Int.tmod X a, p + 1)) (fun r => (0 ≤ r.1 ∧ (a < 1 → r.1 = 0) ∧ (1 ≤ a → r.1 < a)) ∧ r.2 = p + 1) := by
   intro X hX
   have := tm hX (show 0 < a by omega)
   exact Pv.now ⟨⟨this.1, fun c2 => absurd c2 c, fun _ => this.2⟩, rfl⟩
  refine Pv.ite (fun c1 => Pv.pos hp (Pv.neg (by omega) ?_)) (fun c1 => ?_)
  ·have := h.rd p
   rw [w64 (n := Go.Proofs.YtmabopomecdidaaW.PrintWords.rd b p) (by omega) (by omega)]
   exact fin _ (by omega)
  ·have t1 := tm hp hb
   have e1 : wrap64 (p * 7) = p * 7 := w64 (by omega) (by omega)
   have e2 : wrap64 (p * 7 + 3) = p * 7 + 3 := w64 (by omega) (by omega)
   rw [e1, e2]
   have t2 := tm (show 0 ≤ p * 7 + 3 by omega) hb
   have r1 := h.rd (Int.tmod p b.length)
   have r2 := h.rd (Int.tmod (p * 7 + 3) b.length)
   have d1 := td hp hb
   refine Pv.neg (by omega) (Pv.pos t1.1 (Pv.pos t1.2 (Pv.pos t2.1 (Pv.pos t2.2 (Pv.neg (by omega) ?_)))))
   generalize Go.Proofs.YtmabopomecdidaaW.PrintWords.rd b (Int.tmod p b.length) = u at r1
   generalize Go.Proofs.YtmabopomecdidaaW.PrintWords.rd b (Int.tmod (p * 7 + 3) b.length) = v at r2
   generalize Int.tdiv p b.length = q at d1
   rw [w64 (n := u) (by omega) (by omega), w64 (n := v) (by omega) (by omega), w64 (n := q) (by omega) (by omega), w64 (n := u * 131) (by omega) (by omega), w64 (n := v * 1117) (by omega) (by omega), w64 (n := p * 29) (by omega) (by omega), w64 (n := q * 53) (by omega) (by omega), w64 (n := u * 131 + v * 1117) (by omega) (by omega), w64 (n := u * 131 + v * 1117 + p * 29) (by omega) (by omega), w64 (n := u * 131 + v * 1117 + p * 29 + q * 53) (by omega) (by omega)]
   have d2 := td (show 0 ≤ u * 131 + v * 1117 + p * 29 + q * 53 by omega) (show (0 : Int) < 64 by omega)
   generalize Int.tdiv (u * 131 + v * 1117 + p * 29 + q * 53) 64 = z at d2
   rw [w64 (n := z) (by omega) (by omega)]
   exact fin _ (xor_nn (by omega) (by omega) (by omega) (by omega))
theorem one_pv {b : List Int} (h : Rdr b) {p : Int} (hp : 0 ≤ p) (hp' : p ≤ 1000000) {l : List Int} (hl : 0 < l.length) : Pv (fun k => spec_l30Rd_one.f k b p l) (fun r => r.1 ∈ l ∧ r.2 = p + 1) := by
 unfold spec_l30Rd_one.f
 refine Pv.bind (pick_pv h hp hp') (fun r ⟨⟨h1, _, h2⟩, h3⟩ => ?_)
 have h2 := h2 (by omega)
 refine Pv.pos h1 (Pv.pos h2 (Pv.now ⟨?_, h3⟩))
 have e : Go.Proofs.YtmabopomecdidaaW.PrintWords.rd l r.1 = nth l r.1.toNat := rfl
 dsimp only
 rw [e]
 exact getD_mem (by omega)
theorem u8_range {x : Int} (h : (Lit.int .u8 x).wf = true) : 0 ≤ x ∧ x ≤ 255 := by
 simp only [Lit.wf] at h
 have h2 : IntKind.u8.min ≤ x ∧ x ≤ IntKind.u8.max := by simpa using h
 have e1 : IntKind.u8.min = 0 := by decide
 have e2 : IntKind.u8.max = 255 := by decide
 omega
theorem open_pv {l : List Int} (hl : ∀ x ∈ l, (Lit.int .u8 x).wf = true) : ∃ b, spec_l30Open.f l = some (b, 0) ∧ Rdr b := by
 have key : ∀ m : List Int, m.length ≤ 2000 → (∀ x ∈ m, x ∈ l) → Rdr m := fun m h1 h2 => ⟨h1, fun i hi => u8_range (hl _ (h2 _ (getD_mem hi)))⟩
 unfold spec_l30Open.f
 by_cases c : (l.length : Int) > 2000
 ·rw [if_pos c, if_pos (by omega)]
  exact ⟨_, rfl, key _ (by simp; omega) (fun x hx => List.mem_of_mem_take hx)⟩
 ·rw [if_neg c]
  exact ⟨_, rfl, key _ (by omega) (fun x hx => hx)⟩
end Go.Proofs.Ytmabopomecdidaa.Pure
end
section
set_option linter.unusedSimpArgs false
set_option linter.unusedVariables false
namespace Go.Proofs.Ytmabopomecdidaa.Pure
open Go.RowKit Go.Proofs.Ytmabopomecdidaa.Pr Go.Proofs.YtmabopomecdidaaW.PrintWords Go.Proofs.YtmabopomecdidaaW.PrintLast Go.Proofs.YtmabopomecdidaaW.PrintMore
def NetSz (p : Int) (r : Int × List Arc × Int) : Prop := (0 ≤ r.1 ∧ r.1 ≤ 9) ∧ r.2.1.length ≤ 13 ∧ (p ≤ r.2.2 ∧ r.2.2 ≤ p + 100)
theorem net_l {b : List Int} (h : Rdr b) (n : Int) (hn : 1 ≤ n ∧ n ≤ 9) : ∀ (m : Nat) (p : Int) (l : List Arc), 0 ≤ p → p + 6 * m ≤ 100000 → m ≤ 13 → l.length ≤ 13 - m → Pv (fun k => spec_l30Net.l0 k (m : Int) b p n l) (fun r => r.1 = n ∧ r.2.1.length ≤ 13 ∧ (p ≤ r.2.2 ∧ r.2.2 ≤ p + 6 * m)) := by
 intro m
 induction m with
 | zero =>
  intro p l hp hp' hm hl
  refine Pv.go ?_ (fun k => by rw [spec_l30Net.l0])
  exact Pv.neg (by omega) (Pv.now ⟨rfl, by dsimp only; omega, by dsimp only; omega⟩)
 | succ m ih =>
  intro p l hp hp' hm hl
  have hw : wrap64 (((m + 1 : Nat) : Int) - 1) = (m : Int) := by rw [w64 (by omega) (by omega)]; omega
  refine Pv.go ?_ (fun k => by rw [spec_l30Net.l0])
  rw [hw]
  refine Pv.pos (by omega) (Pv.bind (pick_pv h hp (by omega)) (fun r1 ⟨a1, e1⟩ => Pv.bind (pick_pv h (p := r1.2) (by omega) (by omega)) (fun r2 ⟨a2, e2⟩ => Pv.bind (pick_pv h (p := r2.2) (by omega) (by omega)) (fun r3 ⟨a3, e3⟩ => Pv.bind (one_pv h (p := r3.2) (by omega) (by omega) (by simp)) (fun r4 ⟨a4, e4⟩ => Pv.bind (one_pv h (p := r4.2) (by omega) (by omega) (by simp)) (fun r5 ⟨a5, e5⟩ => Pv.bind (pick_pv h (p := r5.2) (by omega) (by omega)) (fun r6 ⟨a6, e6⟩ => ?_)))))))
  have step : ∀ x : Arc, Pv (fun k => spec_l30Net.l0 k (m : Int) b r6.2 n (l ++ [x])) (fun r => r.1 = n ∧ r.2.1.length ≤ 13 ∧ (p ≤ r.2.2 ∧ r.2.2 ≤ p + 6 * ((m + 1 : Nat) : Int))) := fun x => (ih r6.2 (l ++ [x]) (by omega) (by omega) (by omega) (by simp; omega)).mono (fun r hr => ⟨hr.1, hr.2.1, by omega, by omega⟩)
  refine Pv.ite (fun _ => Pv.neg (by omega) (Pv.pos (by omega) (step _))) (fun _ => Pv.pos (by omega) (step _))
theorem net_pv {b : List Int} (h : Rdr b) {p : Int} (hp : 0 ≤ p) (hp' : p ≤ 10000) : Pv (fun k => spec_l30Net.f k b p) (fun r => (2 ≤ r.1 ∧ r.1 ≤ 6) ∧ r.2.1.length ≤ 13 ∧ (p ≤ r.2.2 ∧ r.2.2 ≤ p + 90)) := by
 unfold spec_l30Net.f
 refine Pv.bind (pick_pv h hp (by omega)) (fun r1 ⟨a1, e1⟩ => Pv.bind (pick_pv h (p := r1.2) (by omega) (by omega)) (fun r2 ⟨a2, e2⟩ => ?_))
 have b1 := a1.2.2 (by omega)
 have b2 := a2.2.2 (by omega)
 have hw : wrap64 (2 + r1.1) = 2 + r1.1 := w64 (by omega) (by omega)
 rw [hw]
 have := net_l h (2 + r1.1) (by omega) r2.1.toNat r2.2 [] (by omega) (by omega) (by omega) (by simp)
 rw [Int.toNat_of_nonneg a2.1] at this
 exact this.mono (fun r hr => ⟨⟨by omega, by omega⟩, hr.2.1, by omega, by omega⟩)
theorem anyNet_pv {b : List Int} (h : Rdr b) {p : Int} (hp : 0 ≤ p) (hp' : p ≤ 10000) : Pv (fun k => spec_l30AnyNet.f k b p) (NetSz p) := by
 unfold spec_l30AnyNet.f
 refine Pv.bind (net_pv h hp hp') (fun r0 ⟨a0, l0, e0⟩ => ?_)
 refine Pv.ite (fun c => ?_) (fun c => Pv.now ⟨by dsimp only; omega, l0, by dsimp only; omega⟩)
 refine Pv.bind (pick_pv h (p := r0.2.2) (by omega) (by omega)) (fun r1 ⟨a1, e1⟩ => Pv.bind (pick_pv h (p := r1.2) (by omega) (by omega)) (fun r2 ⟨a2, e2⟩ => ?_))
 have b1 := a1.2.2 (by omega)
 refine Pv.ite (fun c1 => Pv.pos a1.1 (Pv.pos b1 (Pv.bind (one_pv h (p := r2.2) (by omega) (by omega) (by simp)) (fun r3 ⟨a3, e3⟩ => Pv.now ⟨by dsimp only; omega, by simpa using l0, by dsimp only; omega⟩)))) (fun c1 => ?_)
 refine Pv.ite (fun c2 => Pv.bind (one_pv h (p := r2.2) (by omega) (by omega) (by simp)) (fun r3 ⟨a3, e3⟩ => Pv.pos a1.1 (Pv.pos b1 (Pv.now ⟨by dsimp only; omega, by simpa using l0, by dsimp only; omega⟩)))) (fun c2 => ?_)
 refine Pv.ite (fun c3 => Pv.bind (one_pv h (p := r2.2) (by omega) (by omega) (by simp)) (fun r3 ⟨a3, e3⟩ => Pv.now ⟨?_, l0, by dsimp only; omega⟩)) (fun c3 => Pv.now ⟨by dsimp only; omega, l0, by dsimp only; omega⟩)
 simp only [List.mem_cons, List.not_mem_nil, or_false] at a3
 dsimp only
 omega
end Go.Proofs.Ytmabopomecdidaa.Pure
end
section
set_option linter.unusedSimpArgs false
set_option linter.unusedVariables false
namespace Go.Proofs.Ytmabopomecdidaa.Pure
open Go.RowKit Go.Proofs.Ytmabopomecdidaa.Pr Go.Proofs.YtmabopomecdidaaW.PrintWords Go.Proofs.YtmabopomecdidaaW.PrintLast Go.Proofs.YtmabopomecdidaaW.PrintMore
theorem flat_l (b : List Int) (p n : Int) : ∀ (m i : Nat) (l : List Arc), l.length - i = m → i ≤ l.length → l.length ≤ 13 → Pv (fun k => spec_l30Flat.l0 k (i : Int) b p n l) (fun r => r.1 = n ∧ r.2.1.length = l.length ∧ r.2.2 = p) := by
 intro m
 induction m with
 | zero =>
  intro i l hd hi hl
  refine Pv.go ?_ (fun k => by rw [spec_l30Flat.l0])
  exact Pv.neg (by omega) (Pv.now ⟨rfl, rfl, rfl⟩)
 | succ m ih =>
  intro i l hd hi hl
  refine Pv.go ?_ (fun k => by rw [spec_l30Flat.l0])
  rw [up1 (show i < l.length by omega) (by simp only [maxLen]; omega)]
  refine Pv.pos (by omega) (Pv.pos (by omega) (Pv.ite (fun _ => Pv.bind0 rfl ?_) (fun _ => ih (i + 1) l (by omega) (by omega) hl)))
  exact (ih (i + 1) _ (by simp; omega) (by simp; omega) (by simp; omega)).mono (fun r hr => ⟨hr.1, by simpa using hr.2.1, hr.2.2⟩)
theorem flat_pv {b : List Int} (h : Rdr b) {p : Int} (hp : 0 ≤ p) (hp' : p ≤ 10000) : Pv (fun k => spec_l30Flat.f k b p) (fun r => (0 ≤ r.1 ∧ r.1 ≤ 9) ∧ r.2.1.length ≤ 13) := by
 unfold spec_l30Flat.f
 refine Pv.bind (anyNet_pv h hp hp') (fun r1 h1 => Pv.bind (pick_pv h (p := r1.2.2) (by have := h1.2.2; omega) (by have := h1.2.2; omega)) (fun r2 _ => ?_))
 refine Pv.ite (fun _ => ?_) (fun _ => Pv.now ⟨h1.1, h1.2.1⟩)
 exact (flat_l b r2.2 r1.1 _ 0 r1.2.1 rfl (Nat.zero_le _) h1.2.1).mono (fun r hr => ⟨by rw [hr.1]; exact h1.1, by rw [hr.2.1]; exact h1.2.1⟩)
end Go.Proofs.Ytmabopomecdidaa.Pure
end
section
set_option linter.unusedSimpArgs false
set_option linter.unusedVariables false
namespace Go.Proofs.Ytmabopomecdidaa.Pure
open Go.RowKit Go.Proofs.Ytmabopomecdidaa.Pr Go.Proofs.YtmabopomecdidaaW.PrintWords Go.Proofs.YtmabopomecdidaaW.PrintLast Go.Proofs.YtmabopomecdidaaW.PrintMore
def lst (n : Nat) (F : Nat → Int) : List Int := (List.range n).map F
theorem lst_len (n : Nat) (F : Nat → Int) : (lst n F).length = n := by simp [lst]
theorem lst_nth {n v : Nat} (F : Nat → Int) (h : v < n) : nth (lst n F) v = F v := by
 simp [nth, lst, h]
theorem lst_rd {n v : Nat} (F : Nat → Int) (h : v < n) : rd (lst n F) (v : Int) = F v := by rw [rdg, lst_nth F h]
def upd (F : Nat → Int) (a : Nat) (x : Int) : Nat → Int := fun v => if v = a then x else F v
theorem lst_set {n a : Nat} (F : Nat → Int) (x : Int) : (lst n F).set a x = lst n (upd F a x) := by
 apply List.ext_getElem (by simp [lst])
 intro i h1 h2
 have hi : i < n := by simpa [lst] using h2
 simp only [List.getElem_set]
 by_cases e : a = i
 ·subst e; simp [lst, upd]
 ·simp [lst, upd, e, show ¬ i = a from fun h => e h.symm]
theorem upd_same (F : Nat → Int) (a : Nat) (x : Int) : upd F a x a = x := by simp [upd]
theorem upd_far (F : Nat → Int) {a v : Nat} (x : Int) (h : v ≠ a) : upd F a x v = F v := by simp [upd, h]
inductive Conn (E : Nat → Nat → Prop) : Nat → Nat → Prop
 | refl (v : Nat) : Conn E v v
 | tail {u v w : Nat} : Conn E u v → (E v w ∨ E w v) → Conn E u w
theorem Conn.trans {E : Nat → Nat → Prop} {u v w : Nat} (h : Conn E u v) (k : Conn E v w) : Conn E u w := by
 induction k with
 | refl => exact h
 | tail _ e ih => exact .tail ih e
theorem Conn.one {E : Nat → Nat → Prop} {u v : Nat} (h : E u v ∨ E v u) : Conn E u v := .tail (.refl u) h
theorem Conn.symm {E : Nat → Nat → Prop} {u v : Nat} (h : Conn E u v) : Conn E v u := by
 induction h with
 | refl => exact .refl _
 | tail _ e ih => exact (Conn.one e.symm).trans ih
theorem Conn.mono {E E' : Nat → Nat → Prop} {u v : Nat} (h : Conn E u v) (k : ∀ a b, E a b → E' a b) : Conn E' u v := by
 induction h with
 | refl => exact .refl _
 | tail _ e ih => exact .tail ih (e.imp (k _ _) (k _ _))
end Go.Proofs.Ytmabopomecdidaa.Pure
end
section
set_option linter.unusedSimpArgs false
set_option linter.unusedVariables false
namespace Go.Proofs.Ytmabopomecdidaa.Pure
open Go.RowKit Go.Proofs.Ytmabopomecdidaa.Pr Go.Proofs.YtmabopomecdidaaW.PrintWords Go.Proofs.YtmabopomecdidaaW.PrintLast Go.Proofs.YtmabopomecdidaaW.PrintMore
theorem wkInts_l (a b : List Int) (hm : a.length ≤ maxLen) (hl : a.length = b.length) : ∀ (m i : Nat), a.length - i = m → i ≤ a.length → Ev (fun k => laws_wkInts.l0 k a b (i : Int)) (decide (a.drop i = b.drop i)) := by
 intro m
 induction m with
 | zero =>
  intro i hd hi
  refine Ev.go ?_ (fun k => by rw [laws_wkInts.l0])
  refine Ev.neg (by omega) (Ev.is ?_)
  rw [List.drop_of_length_le (by omega), List.drop_of_length_le (by omega)]
  rfl
 | succ m ih =>
  intro i hd hi
  have hlt : i < a.length := by omega
  have hlt2 : i < b.length := by omega
  refine Ev.go ?_ (fun k => by rw [laws_wkInts.l0])
  refine Ev.pos (by omega) (Ev.pos (by omega) (Ev.pos (by omega) ?_))
  rw [rdn hlt, rdn hlt2, up1 hlt hm, drop_cons hlt, drop_cons hlt2]
  by_cases c : a[i] = b[i]
  ·exact Ev.pos c ((ih (i + 1) (by omega) (by omega)).cast (by rw [c]; simp only [List.cons.injEq, true_and]))
  ·exact Ev.neg c (Ev.is (by simp only [List.cons.injEq, c, false_and]; rfl))
theorem wkInts_ev (a b : List Int) (hm : a.length ≤ maxLen) : Ev (fun k => laws_wkInts.f k a b) (decide (a = b)) := by
 unfold laws_wkInts.f
 by_cases c : a.length = b.length
 ·exact Ev.pos (by omega) (by simpa using wkInts_l a b hm c _ 0 rfl (Nat.zero_le _))
 ·exact Ev.neg (by omega) (Ev.is (by rw [eq_comm]; exact decide_eq_false (fun e => c (by rw [e]))))
theorem wkInts_same (a : List Int) (hm : a.length ≤ maxLen) : Ev (fun k => laws_wkInts.f k a a) true := (wkInts_ev a a hm).cast (by simp)
theorem wkIn_l (a : List Int) (v : Int) (hm : a.length ≤ maxLen) : ∀ (m i : Nat), a.length - i = m → i ≤ a.length → Ev (fun k => laws_wkIn.l0 k a v (i : Int)) (decide (v ∈ a.drop i)) := by
 intro m
 induction m with
 | zero =>
  intro i hd hi
  refine Ev.go ?_ (fun k => by rw [laws_wkIn.l0])
  refine Ev.neg (by omega) (Ev.is ?_)
  rw [List.drop_of_length_le (by omega)]
  simp
 | succ m ih =>
  intro i hd hi
  have hlt : i < a.length := by omega
  refine Ev.go ?_ (fun k => by rw [laws_wkIn.l0])
  refine Ev.pos (by omega) (Ev.pos (by omega) ?_)
  rw [rdn hlt, up1 hlt hm, drop_cons hlt]
  by_cases c : a[i] = v
  ·exact Ev.pos c (Ev.is (decide_eq_true (List.mem_cons.2 (.inl c.symm))).symm)
  ·exact Ev.neg c ((ih (i + 1) (by omega) (by omega)).cast (by rw [decide_eq_decide]; simp only [List.mem_cons]; exact ⟨.inr, fun h => h.resolve_left (fun e => c e.symm)⟩))
theorem wkIn_ev (a : List Int) (v : Int) (hm : a.length ≤ maxLen) : Ev (fun k => laws_wkIn.f k a v) (decide (v ∈ a)) := by
 unfold laws_wkIn.f
 simpa using wkIn_l a v hm _ 0 rfl (Nat.zero_le _)
end Go.Proofs.Ytmabopomecdidaa.Pure
end
section
set_option linter.unusedSimpArgs false
set_option linter.unusedVariables false
set_option linter.unusedSectionVars false
namespace Go.Proofs.Ytmabopomecdidaa.Pure
open Go.RowKit Go.Proofs.Ytmabopomecdidaa.Pr Go.Proofs.YtmabopomecdidaaW.PrintWords Go.Proofs.YtmabopomecdidaaW.PrintLast Go.Proofs.YtmabopomecdidaaW.PrintMore
section
variable {N : Nat} {l : List Arc} (hg : NetGood N l) {out : List Int} (ho : Ord l N out) (hN : out.length = N)
include hg ho hN
theorem ring_arcs {F : Nat → Int} (hF : ∀ t, t < out.length → F (nth out t).toNat = (t : Int)) : ∀ (m i : Nat), l.length - i = m → i ≤ l.length → Ev (fun k => laws_FnRingOrder.l1 k out (lst N F) (i : Int) N l) true := by
 have h8 := hg.n8
 have h16 := hg.len
 have h1 := hg.n1
 intro m
 induction m with
 | zero =>
  intro i hd hi
  refine Ev.go ?_ (fun k => by rw [laws_FnRingOrder.l1])
  refine Ev.neg (by omega) (Ev.bind (implNetBack_ev hg) (Ev.bind0 (implRing _ _) (Ev.pos (by omega) (Ev.is ?_))))
  have hl : ∀ a ∈ l, (0 ≤ a.f0 ∧ a.f0 < N) ∧ (0 ≤ a.f1 ∧ a.f1 < N) := by
   intro a ha
   obtain ⟨i, hi, e⟩ := List.getElem_of_mem ha
   have := hg.ok i hi
   rw [arc_get hi, e] at this
   exact ⟨this.1, this.2.1⟩
  have := ord_turned ho hN hl
  unfold orderV
  rw [if_pos ((netOkB_iff _ _).2 (back_good hg)), Int.toNat_natCast]
  exact this
 | succ m ih =>
  intro i hd hi
  have hlt : i < l.length := by omega
  obtain ⟨⟨a1, a2⟩, ⟨a3, a4⟩, _⟩ := hg.ok i hlt
  have hmem := arc_mem hlt
  generalize ha : arc l i = a at *
  obtain ⟨u, hu⟩ := Int.eq_ofNat_of_zero_le a1
  obtain ⟨v, hv⟩ := Int.eq_ofNat_of_zero_le a3
  obtain ⟨j, hj, ej⟩ := List.getElem_of_mem (ho.all hN v (by omega))
  have hb := ho.back j hj a hmem (by rw [nth_get hj, ej]; exact hv)
  obtain ⟨t, ht, et⟩ := List.getElem_of_mem hb
  rw [List.length_take] at ht
  rw [List.getElem_take] at et
  have f1 := hF j hj
  have f2 := hF t (by omega)
  rw [nth_get hj, ej, Int.toNat_natCast] at f1
  rw [nth_get (by omega), et, hu, Int.toNat_natCast] at f2
  refine Ev.go ?_ (fun k => by rw [laws_FnRingOrder.l1])
  rw [rda, ha, up1 hlt (by simp only [maxLen]; omega), hu, hv, lst_rd F (show u < N by omega), lst_rd F (show v < N by omega), lst_len, f1, f2]
  exact Ev.pos (by omega) (Ev.pos (by omega) (Ev.pos (by omega) (Ev.pos (by omega) (Ev.pos (by omega) (Ev.pos (by omega) (Ev.neg (by omega) (ih (i + 1) (by omega) (by omega))))))))
theorem ring_ranks : ∀ (m j : Nat) (F : Nat → Int), out.length - j = m → j ≤ out.length → (∀ t, t < j → F (nth out t).toNat = (t : Int)) → Ev (fun k => laws_FnRingOrder.l0 k out (lst N F) (j : Int) N l) true := by
 have h8 := hg.n8
 intro m
 induction m with
 | zero =>
  intro j F hd hj hF
  have e : j = out.length := by omega
  subst e
  refine Ev.go ?_ (fun k => by rw [laws_FnRingOrder.l0])
  exact Ev.neg (by omega) (ring_arcs hg ho hN hF _ 0 rfl (Nat.zero_le _))
 | succ m ih =>
  intro j F hd hj hF
  have hlt : j < out.length := by omega
  have hnode := ho.node _ (List.getElem_mem hlt)
  have hno : nth out j ∉ out.take j := by
   intro hc
   rw [nth_get hlt] at hc
   obtain ⟨t, ht, et⟩ := List.getElem_of_mem hc
   rw [List.length_take] at ht
   rw [List.getElem_take] at et
   have := (List.getElem_inj ho.once).1 et
   omega
  obtain ⟨v, hv⟩ : ∃ v : Nat, out[j] = (v : Int) := ⟨out[j].toNat, by omega⟩
  refine Ev.go ?_ (fun k => by rw [laws_FnRingOrder.l0])
  have hw := wkIn_ev (out.take j) (nth out j) (by simp only [maxLen, List.length_take]; omega)
  rw [decide_eq_false hno] at hw
  rw [rdg j, Int.toNat_natCast, up1 hlt (by simp only [maxLen]; omega)]
  refine Ev.pos (by omega) (Ev.pos (by omega) (Ev.pos (by omega) (Ev.bind hw (Ev.neg (by simp) ?_))))
  have hnv : nth out j = (v : Int) := by rw [nth_get hlt, hv]
  rw [hnv, lst_len, Int.toNat_natCast, lst_set]
  refine Ev.pos (by omega) (Ev.pos (by omega) (ih (j + 1) _ (by omega) (by omega) ?_))
  intro t ht
  by_cases e : t = j
  ·subst e
   rw [hnv, Int.toNat_natCast, upd_same]
  ·have htl : t < out.length := by omega
   rw [upd_far, hF t (by omega)]
   intro hc
   have h2 := ho.node _ (List.getElem_mem htl)
   rw [nth_get htl] at hc
   have := (List.getElem_inj ho.once).1 (show out[t] = out[j] by omega)
   exact e this
end
theorem FnRingOrder : laws_FnRingOrder.Asked := by
 intro c hc
 refine Pv.rounds ?_
 unfold laws_FnRingOrder.f
 refine Pv.ite (fun _ => Pv.now rfl) (fun _ => ?_)
 unfold spec_DrawRingOrder.f
 obtain ⟨b, e, hb⟩ := open_pv hc.2
 refine Pv.bind (R := fun r => (0 ≤ r.1 ∧ r.1 ≤ 9) ∧ r.2.length ≤ 13) (Pv.bind0 e (Pv.bind (flat_pv hb (p := 0) (by omega) (by omega)) (fun r1 h1 => Pv.now h1))) (fun r ⟨h1, h2⟩ => ?_)
 obtain ⟨n, l⟩ := r
 dsimp only at h1 h2 ⊢
 have hs := specRing_ev n l (by simp only [maxLen]; omega)
 have hlen := orderV_len n l
 have hw := wkInts_same (orderV n l).1 (by simp only [maxLen]; omega)
 refine Pv.of (Ev.bind0 (implRing n l) (Ev.bind hs (Ev.neg (by simp) (Ev.bind hw (Ev.pos rfl (Ev.go (r := true) ?_ (fun k => by rw [laws_FnRingOrder.j0]))))))) rfl
 cases hv : (orderV n l).2 with
 | false => exact Ev.pos rfl (Ev.pos (by simp) (Ev.bind hw (Ev.now _)))
 | true =>
  obtain ⟨N, rfl, hg, ho, hN⟩ : ∃ N : Nat, n = N ∧ NetGood N l ∧ Ord l N (orderV n l).1 ∧ (orderV n l).1.length = N := by
   unfold orderV at hv ⊢
   cases hk : netOkB n l with
   | false => rw [hk] at hv; simp at hv
   | true =>
    have hg := (netOkB_iff n l).1 hk
    have h1 := hg.n1
    rw [hk] at hv
    rw [if_pos rfl] at hv ⊢
    obtain ⟨N, rfl⟩ := Int.eq_ofNat_of_zero_le (show 0 ≤ n by omega)
    rw [Int.toNat_natCast] at hv ⊢
    exact ⟨N, rfl, hg, ordF_good l N N [] (Ord.nil _ _) (by simp) hv⟩
  refine Ev.neg (by simp) (Ev.pos (by omega) (Ev.pos (by omega) ?_))
  have er : List.replicate (N : Int).toNat (0 : Int) = lst N (fun _ => 0) := by
   rw [Int.toNat_natCast]
   apply List.ext_getElem (by simp [lst])
   intro i h1 h2
   simp [lst]
  rw [er]
  exact ring_ranks hg ho hN _ 0 _ rfl (Nat.zero_le _) (fun t ht => by omega)
end Go.Proofs.Ytmabopomecdidaa.Pure
end
section
namespace Go.Proofs.Ytmabopomecdidaa.fnRingOrder
open Go.ChangeShapes Go.WideShapes Go.ChangeAt Go.RowKit Go.Proofs.YtmabopomecdidaaW.PrintWords Go.Proofs.Ytmabopomecdidaa.Pr
open Go.ChangeMaps (open_string shut_string)
set_option linter.unusedVariables false
set_option linter.unusedSimpArgs false
theorem own : ownKnob Try.prog.godebug = none := by kernel_rfl
theorem laidOut : laidOutB Try.prog = true := by kernel_rfl
theorem opens0 : Opens Try.prog (Kd.slice 5 (Kd.int .u8)) 35 (fun l => l.length ≤ maxLen ∧ ∀ x ∈ l, (fun n => (Lit.int .u8 n).wf = true) x) := (opens_slice (P := Try.prog) Try.underlying35 (by kernel_rfl) (opens_int (P := Try.prog) (k := .u8) Try.underlying5))
set_option maxRecDepth 100000 in
set_option maxHeartbeats 2000000 in
theorem lifted (os : Os) (started : os.Started) (H : Type) (enc : TypeId × Value → H) :
  ReturnsInHanded {} Try.checked os 4 .any (Rows.fnRingOrderSpec.pre6 enc Try.prog Try.f4 Rows.fnRingOrderRow.domain false) (Rows.fnRingOrderSpec.post enc Try.prog Try.f4 false true false false) := by
 refine returnsInHanded_of_change_sized (C := Try.checked) own started (by kernel_rfl) Try.func4
  (ChangeSpec.witness6 (enc := enc) (C := Try.checked) false ⟨#[], #[(.slice none 0 0)], []⟩ 8 (by kernel_rfl) (by kernel_rfl) (by kernel_rfl) (by kernel_rfl)) ?_
 intro W base args ds gs before hval0 hW hcnd hsz0 _
 have hval : ∀ (j : Nat) t v, Try.f4.params[j]? = some t → args[j]? = some v → Value.okWide Try.prog W .any base t v := hval0
 have hW' := hW
 obtain ⟨p, q, hA0, hV, rfl, hfz, hnd⟩ := hW
 have hA : DataW.TrodAll enc Try.prog W 0 (fun _ => true) true Try.f4.params.toList args.toList ds p := hA0
 rw [Try.params4] at hA hval
 obtain ⟨v0, vs0, d0, ds0, p0, q0, hargs, rfl, rfl, h0, r0⟩ := trodAll_cons hA
 obtain ⟨rfl, rfl, rfl⟩ := trodAll_nil r0
 obtain rfl : args = #[v0] := by cases args; simp_all
 obtain ⟨rfl, rfl⟩ := trodVars_none hV
 have k0 := h0
 have lt0 : ∀ x ∈ p0, x.block < W.heap.size := by obtain ⟨m, hm⟩ := k0; exact DataW.trod_lt m _ _ _ hm
 obtain ⟨a0, len0, cap0, rfl⟩ := okWide_slice Try.underlying35 (hval 0 35 v0 rfl rfl)
 obtain ⟨fuel0, hf0⟩ := h0
 obtain ⟨l0, ⟨A0, c0, e0, hc0, hr0⟩, w0⟩ := opens0 hf0
 have e0' : (Value.slice a0 len0 cap0) = .slice A0 l0.length c0 := (List.cons.inj e0).1
 injection e0' with e0a e0b e0c
 subst e0a e0b e0c
 obtain ⟨k, hh⟩ := Pure.FnRingOrder l0 w0
 refine (laws_FnRingOrder.calls k _ _ l0 true W hr0 hc0 hh).mono fun e W' ⟨he, bel0⟩ => ?_
 have bel : Below W.heap.size W W' := bel0
 subst he
 exact ⟨_, rfl, _, _, _, [], _, [], hW', trodAll_mk1 (shut_bool Try.underlying4 _), (trodAll_cons_mk (Below.trod laidOut (by kernel_rfl) (of_decide_eq_true (by kernel_rfl)) k0 bel lt0) trodAll_mk0), rfl, bel.frame _, fun h => by cases h⟩
theorem over : Rows.fnRingOrderRow.holds Try.pinned (OpenSpec.ofChange Rows.fnRingOrderSpec) :=
 OpenClaim.holds_of_wide 4 Try.f4 rfl rfl rfl rfl rfl rfl rfl ⟨rfl, rfl, rfl, rfl, rfl⟩ rfl rfl rfl rfl rfl (by kernel_rfl) Try.func4 (by kernel_rfl)
  (of_decide_eq_true (by kernel_rfl)) (by unfold Func.isWrapper; first | (rw [if_pos (by decide +kernel)]; kernel_rfl) | (rw [if_neg (by decide +kernel)]; exact ⟨rfl, rfl⟩))
  (fun os started H enc _ => lifted os started H enc)
theorem proved : Rows.FnRingOrderSaid := over
#print axioms proved
end Go.Proofs.Ytmabopomecdidaa.fnRingOrder
namespace Go.Proofs.Ytmabopomecdidaa
theorem fnRingOrder_holds : Rows.FnRingOrderSaid := fnRingOrder.proved
end Go.Proofs.Ytmabopomecdidaa
end
