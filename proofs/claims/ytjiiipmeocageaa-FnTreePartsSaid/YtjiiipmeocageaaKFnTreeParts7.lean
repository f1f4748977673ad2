/- For the statement FnTreeParts of this seat: it is proved here, with no further conditions (part 8 of its texts: words, walks of the functions, the plain law, the row). -/
import Derived.Test.YtjiiipmeocageaaRows
import Derived.WalkKit
import Derived.ProofKit
import Derived.OpenShut
import Derived.ShutString
import Derived.ChangeOld
import Derived.Below
import Derived.SizedLaws
import Derived.WideShapes
import Derived.Test.YtjiiipmeocageaaKFnTreeParts6
section
namespace Go.Proofs.Ytjiiipmeocageaa.Pr
open Go.RowKit Go.Proofs.YtjiiipmeocageaaW.PrintWords Go.Proofs.YtjiiipmeocageaaW.PrintLast Go.Proofs.YtjiiipmeocageaaW.PrintMore
attribute [local go_sem] max2_int min2_int max_two min_two max_three min_three max_four min_four
set_option linter.unusedVariables false
set_option linter.unusedSimpArgs false
def laws_eqArcS.l0 : Nat → List (S56) → List (S56) → Int → Option (Bool)
 | 0, _, _, _ => none
 | k + 1, x0, x1, x5 => if x5 < (x0.length : Int) then (if 0 ≤ x5 then (if x5 < (x1.length : Int) then ((laws_eqArc.f ((rd_T56 x0 x5).f0) ((rd_T56 x0 x5).f1) ((rd_T56 x0 x5).f2) ((rd_T56 x0 x5).f3) ((rd_T56 x0 x5).f4) ((rd_T56 x1 x5).f0) ((rd_T56 x1 x5).f1) ((rd_T56 x1 x5).f2) ((rd_T56 x1 x5).f3) ((rd_T56 x1 x5).f4)).bind fun t566 => (if t566 = true then (laws_eqArcS.l0 k x0 x1 (wrap64 (x5 + 1))) else (some false))) else (none)) else (none)) else (some true)
def laws_eqArcS.f (k : Nat) (l0 : List (S56)) (l1 : List (S56)) : Option (Bool) := if (l0.length : Int) = (l1.length : Int) then (laws_eqArcS.l0 k l0 l1 0) else (some false)
theorem laws_eqArcS.mono_l : ∀ k, (∀ y0 y1 y2, LeO (laws_eqArcS.l0 k y0 y1 y2) (laws_eqArcS.l0 (k + 1) y0 y1 y2))
 | 0 => fun _ _ _ r h => by simp [laws_eqArcS.l0] at h
 | k + 1 => by
  have ih0 := laws_eqArcS.mono_l k
  ·intro y0 y1 y2
   unfold laws_eqArcS.l0
   repeat' first
   | (with_reducible exact ih0 _ _ _)
   | (with_reducible exact LeO.refl _)
   | (with_reducible exact LeO.none _)
   | (with_reducible refine LeO.ite ?_ ?_)
   | (with_reducible refine LeO.bind ?_ (fun _ => ?_))
   | exact ih0 _ _ _
   | exact LeO.none _
   | refine LeO.ite ?_ ?_
   | refine LeO.bind ?_ (fun _ => ?_)
theorem laws_eqArcS.mono : ∀ a0 a1 k, LeO (laws_eqArcS.f k a0 a1) (laws_eqArcS.f (k + 1) a0 a1) := by
 intro a0 a1 k
 have ih0 := laws_eqArcS.mono_l k
 unfold laws_eqArcS.f
 repeat' first
   | (with_reducible exact ih0 _ _ _)
   | (with_reducible exact LeO.refl _)
   | (with_reducible exact LeO.none _)
   | (with_reducible refine LeO.ite ?_ ?_)
   | (with_reducible refine LeO.bind ?_ (fun _ => ?_))
   | exact ih0 _ _ _
   | exact LeO.none _
   | refine LeO.ite ?_ ?_
   | refine LeO.bind ?_ (fun _ => ?_)
def laws_eqArcS.T6 : Bool × List (List Nat × List Nat) := (true, [([], []), ([], []), ([0, 1], [0, 1]), ([2], [2]), ([], []), ([], []), ([4, 5], [4, 5]), ([6], [6]), ([3, 7], [3, 7]), ([8], [8])])
def laws_eqArcS.B6 : List Nat := [0, 0, 3, 7, 0, 0, 48, 112, 255, 511]
theorem laws_eqArcS.tab6 : rtab .any (opsOf Try.f73 6) = laws_eqArcS.T6 := by kernel_rfl
theorem laws_eqArcS.bits6 : waitsOk laws_eqArcS.T6.2 laws_eqArcS.B6 = true := by kernel_rfl
set_option maxHeartbeats 8000000 in
set_option maxRecDepth 100000 in
theorem laws_eqArcS.calls (k : Nat) (A0 : Option Addr) (c0 : Nat) (l0 : List (S56)) (A1 : Option Addr) (c1 : Nat) (l1 : List (S56)) (r : Bool) (w : World) (hr0 : Kd.C k56 w A0 l0.length l0) (hc0 : l0.length ≤ c0) (hr1 : Kd.C k56 w A1 l1.length l1) (hc1 : l1.length ≤ c1) (h : laws_eqArcS.f k l0 l1 = some r) :
  Calls Try.prog 73 #[.slice A0 l0.length c0, .slice A1 l1.length c1] w fun e w' => e = .returned (.bool r) ∧ Below w.heap.size w w' := by
 have hu56 := Try.underlying56
 have HR0 := Aside0.mk hr0
 have HC0 := Aside0.mk hc0
 clear hr0 hc0
 have HR1 := Aside0.mk hr1
 have HC1 := Aside0.mk hc1
 clear hr1 hc1
 have HB := Aside0.mk (Below.refl w.heap.size w)
 have H : (if (l0.length : Int) = (l1.length : Int) then (laws_eqArcS.l0 k l0 l1 0) else (some false)) = some r := h
 clear h
 by_cases c3 : (l0.length : Int) = (l1.length : Int)
 ·rw [if_pos c3] at H
  have c3b0 : ((l0.length : Int) == (l1.length : Int)) = true := beq_iff_eq.mpr c3
  have c3b1 : ((l0.length : Int) != (l1.length : Int)) = false := bne_eq_false_iff_eq.mpr c3
  have c3b2 : (l0.length == l1.length) = true := by first | simpa using c3 | (simp at c3 ⊢; omega)
  clear c3
  have H' := Aside0.mk H
  clear H
  go_enter Try.func73, Try.ntmps73
  go_wp2
  go_loopg [5] k (fun kq v5 w' => ∃ (x5_1 : Int), v5 = .int .i64 x5_1 ∧ Aside0 (laws_eqArcS.l0 kq l0 l1 x5_1 = some r) ∧ Aside0 (kq ≤ k) ∧ Aside0 (Below w.heap.size w w'))
  case atStart => exact ⟨(0), (by first | rfl | (simp; done) | (simp [*]; done)), H', ⟨Nat.le_refl _⟩, ⟨by repeat (first | (with_reducible first | exact HB.out | apply below_alloc | apply pw_below_drewN | apply below_drew1) | exact HB.out)⟩⟩
  case round =>
   clear H'
   try clear c1
   try clear p2
   try clear c3
   try clear c3b0
   try clear c3b1
   try clear c3b2
   obtain ⟨x5_1, rfl, HA, HK1, HB⟩ := hrel
   cases gk with
   | zero => exact absurd HA.out (by simp [laws_eqArcS.l0])
   | succ k1 =>
    have H := HA.out
    clear HA
    simp only [laws_eqArcS.l0] at H
    by_cases c4 : x5_1 < (l0.length : Int)
    ·rw [if_pos c4] at H
     have c4b0 : decide (x5_1 < (l0.length : Int)) = true := decide_eq_true c4
     clear c4
     by_cases c5 : 0 ≤ x5_1
     ·rw [if_pos c5] at H
      have c5b0 : decide (0 ≤ x5_1) = true := decide_eq_true c5
      clear c5
      by_cases c6 : x5_1 < (l1.length : Int)
      ·rw [if_pos c6] at H
       have c6b0 : decide (x5_1 < (l1.length : Int)) = true := decide_eq_true c6
       clear c6
       replace H := Option.bind_eq_some_iff.mp H
       obtain ⟨t566, A70, H⟩ := H
       replace H : (if t566 = true then (laws_eqArcS.l0 k1 l0 l1 (wrap64 (x5_1 + 1))) else (some false)) = some r := H
       have A7 := Aside0.mk A70
       clear A70
       by_cases c8 : t566 = true
       ·subst c8
        have H1 : (laws_eqArcS.l0 k1 l0 l1 (wrap64 (x5_1 + 1))) = some r := by rw [if_pos rfl] at H; exact H
        clear H
        have H := H1
        clear H1
        have H' := Aside0.mk H
        clear H
        try go_wp2
        have n0_ := Aside0.mk (below_drew1 HB.out)
        clear HB
        have HB := n0_
        clear n0_
        have p564 : 0 ≤ (x5_1 : Int) := of_decide_eq_true (by first | (with_reducible assumption) | assumption)
        have q564 : x5_1 < (l0.length : Int) := of_decide_eq_true (by first | (with_reducible assumption) | assumption)
        obtain ⟨ad564, e564, hx564_0, hx564_1, hx564_2, hx564_3, hx564_4⟩ := at_T56 HR0.out x5_1 p564 q564
        have hw564_4 := hx564_4
        have hw564_3 := hx564_3
        have hw564_2 := hx564_2
        have hw564_1 := hx564_1
        have hw564_0 := hx564_0
        cases e564
        replace hx564_0 := (HB.out.cell (World.block_lt_of_cell? w _ hx564_0)).trans hx564_0
        replace hx564_1 := (HB.out.cell (World.block_lt_of_cell? w _ hx564_1)).trans hx564_1
        replace hx564_2 := (HB.out.cell (World.block_lt_of_cell? w _ hx564_2)).trans hx564_2
        replace hx564_3 := (HB.out.cell (World.block_lt_of_cell? w _ hx564_3)).trans hx564_3
        replace hx564_4 := (HB.out.cell (World.block_lt_of_cell? w _ hx564_4)).trans hx564_4
        replace p564 := eq_true p564
        replace q564 := eq_true q564
        have p565 : 0 ≤ (x5_1 : Int) := of_decide_eq_true (by first | (with_reducible assumption) | assumption)
        have q565 : x5_1 < (l1.length : Int) := of_decide_eq_true (by first | (with_reducible assumption) | assumption)
        obtain ⟨ad565, e565, hx565_0, hx565_1, hx565_2, hx565_3, hx565_4⟩ := at_T56 HR1.out x5_1 p565 q565
        have hw565_4 := hx565_4
        have hw565_3 := hx565_3
        have hw565_2 := hx565_2
        have hw565_1 := hx565_1
        have hw565_0 := hx565_0
        cases e565
        replace hx565_0 := (HB.out.cell (World.block_lt_of_cell? w _ hx565_0)).trans hx565_0
        replace hx565_1 := (HB.out.cell (World.block_lt_of_cell? w _ hx565_1)).trans hx565_1
        replace hx565_2 := (HB.out.cell (World.block_lt_of_cell? w _ hx565_2)).trans hx565_2
        replace hx565_3 := (HB.out.cell (World.block_lt_of_cell? w _ hx565_3)).trans hx565_3
        replace hx565_4 := (HB.out.cell (World.block_lt_of_cell? w _ hx565_4)).trans hx565_4
        replace p565 := eq_true p565
        replace q565 := eq_true q565
        refine start_ (n := 10) (S := fun w' => w'.cell? (ad564.add ((x5_1).toNat * 5)) = some (.int .i64 ((rd_T56 l0 x5_1).f0)) ∧ w'.cell? ⟨(ad564.add ((x5_1).toNat * 5)).block, (ad564.add ((x5_1).toNat * 5)).off + 1, none⟩ = some (.int .i64 ((rd_T56 l0 x5_1).f1)) ∧ w'.cell? ⟨(ad564.add ((x5_1).toNat * 5)).block, (ad564.add ((x5_1).toNat * 5)).off + 2, none⟩ = some (.int .i64 ((rd_T56 l0 x5_1).f2)) ∧ w'.cell? ⟨(ad564.add ((x5_1).toNat * 5)).block, (ad564.add ((x5_1).toNat * 5)).off + 3, none⟩ = some (.int .i64 ((rd_T56 l0 x5_1).f3)) ∧ w'.cell? ⟨(ad564.add ((x5_1).toNat * 5)).block, (ad564.add ((x5_1).toNat * 5)).off + 4, none⟩ = some (.int .i64 ((rd_T56 l0 x5_1).f4)) ∧ w'.cell? (ad565.add ((x5_1).toNat * 5)) = some (.int .i64 ((rd_T56 l1 x5_1).f0)) ∧ w'.cell? ⟨(ad565.add ((x5_1).toNat * 5)).block, (ad565.add ((x5_1).toNat * 5)).off + 1, none⟩ = some (.int .i64 ((rd_T56 l1 x5_1).f1)) ∧ w'.cell? ⟨(ad565.add ((x5_1).toNat * 5)).block, (ad565.add ((x5_1).toNat * 5)).off + 2, none⟩ = some (.int .i64 ((rd_T56 l1 x5_1).f2)) ∧ w'.cell? ⟨(ad565.add ((x5_1).toNat * 5)).block, (ad565.add ((x5_1).toNat * 5)).off + 3, none⟩ = some (.int .i64 ((rd_T56 l1 x5_1).f3)) ∧ w'.cell? ⟨(ad565.add ((x5_1).toNat * 5)).block, (ad565.add ((x5_1).toNat * 5)).off + 4, none⟩ = some (.int .i64 ((rd_T56 l1 x5_1).f4))) (ds := []) #[false, false, false, false, false, false, false, false, false, false] (by kernel_rfl) rfl rfl ⟨((HB.out.cell (World.block_lt_of_cell? w _ hw564_0)).trans hw564_0), ((HB.out.cell (World.block_lt_of_cell? w _ hw564_1)).trans hw564_1), ((HB.out.cell (World.block_lt_of_cell? w _ hw564_2)).trans hw564_2), ((HB.out.cell (World.block_lt_of_cell? w _ hw564_3)).trans hw564_3), ((HB.out.cell (World.block_lt_of_cell? w _ hw564_4)).trans hw564_4), ((HB.out.cell (World.block_lt_of_cell? w _ hw565_0)).trans hw565_0), ((HB.out.cell (World.block_lt_of_cell? w _ hw565_1)).trans hw565_1), ((HB.out.cell (World.block_lt_of_cell? w _ hw565_2)).trans hw565_2), ((HB.out.cell (World.block_lt_of_cell? w _ hw565_3)).trans hw565_3), ((HB.out.cell (World.block_lt_of_cell? w _ hw565_4)).trans hw565_4)⟩ (fun hHeld => ?_); refine with_tabW laws_eqArcS.tab6 laws_eqArcS.bits6 (fun HT_ HW_ => ?_)
        generalize wr.drew = w9 at HB hx564_0 hx564_1 hx564_2 hx564_3 hx564_4 hx565_0 hx565_1 hx565_2 hx565_3 hx565_4 hHeld ⊢
        refine pure_ (i := 0) (N := some 17) (v := ?_) (a' := ?_) #[true, false, false, false, false, false, false, false, false, false] rfl rfl (any_of HT_.out (by kernel_rfl)) (fun _ _ _ h => h) (Or.inl ⟨by rfl, ?_⟩) ?_ ?_
        rotate_left
        ·intro w'
         go_simp
         with_reducible rfl
        rotate_left
        ·simp only [Act.put, List.setIfInBounds_toArray, List.set_cons_zero, List.set_cons_succ, i64_w, i32_w]
         rfl
        refine pure_ (i := 1) (N := some 18) (v := ?_) (a' := ?_) #[true, true, false, false, false, false, false, false, false, false] rfl rfl (any_of HT_.out (by kernel_rfl)) (fun _ _ _ h => h) (Or.inl ⟨by rfl, ?_⟩) ?_ ?_
        rotate_left
        ·intro w'
         go_simp
         with_reducible rfl
        rotate_left
        ·simp only [Act.put, List.setIfInBounds_toArray, List.set_cons_zero, List.set_cons_succ, i64_w, i32_w]
         rfl
        refine pure_ (i := 2) (N := some 19) (v := ?_) (a' := ?_) #[true, true, true, false, false, false, false, false, false, false] rfl rfl (any_of HT_.out (by kernel_rfl)) (fun _ _ _ h => h) (Or.inl ⟨by rfl, ?_⟩) ?_ ?_
        rotate_left
        ·intro w'
         go_simp
         with_reducible rfl
        rotate_left
        ·simp only [Act.put, List.setIfInBounds_toArray, List.set_cons_zero, List.set_cons_succ, i64_w, i32_w]
         rfl
        refine pure_ (i := 4) (N := some 21) (v := ?_) (a' := ?_) #[true, true, true, false, true, false, false, false, false, false] rfl rfl (any_of HT_.out (by kernel_rfl)) (fun _ _ _ h => h) (Or.inl ⟨by rfl, ?_⟩) ?_ ?_
        rotate_left
        ·intro w'
         go_simp
         with_reducible rfl
        rotate_left
        ·simp only [Act.put, List.setIfInBounds_toArray, List.set_cons_zero, List.set_cons_succ, i64_w, i32_w]
         rfl
        refine pure_ (i := 5) (N := some 22) (v := ?_) (a' := ?_) #[true, true, true, false, true, true, false, false, false, false] rfl rfl (any_of HT_.out (by kernel_rfl)) (fun _ _ _ h => h) (Or.inl ⟨by rfl, ?_⟩) ?_ ?_
        rotate_left
        ·intro w'
         go_simp
         with_reducible rfl
        rotate_left
        ·simp only [Act.put, List.setIfInBounds_toArray, List.set_cons_zero, List.set_cons_succ, i64_w, i32_w]
         rfl
        refine pure_ (i := 6) (N := some 23) (v := ?_) (a' := ?_) #[true, true, true, false, true, true, true, false, false, false] rfl rfl (any_of HT_.out (by kernel_rfl)) (fun _ _ _ h => h) (Or.inl ⟨by rfl, ?_⟩) ?_ ?_
        rotate_left
        ·intro w'
         go_simp
         with_reducible rfl
        rotate_left
        ·simp only [Act.put, List.setIfInBounds_toArray, List.set_cons_zero, List.set_cons_succ, i64_w, i32_w]
         rfl
        refine take_ (i := 3) (N := some 20) (v := ?_) (a' := ?_) #[true, true, true, true, true, true, true, false, false, false] rfl rfl (take_ofW HT_.out HW_.out (by kernel_rfl)) (fun _ _ _ h => h) (Or.inl ⟨by rfl, ?_⟩) hHeld ?_ ?_
        rotate_left
        ·rintro w' ⟨s0, s1, s2, s3, s4, s5, s6, s7, s8, s9⟩
         go_simp
         with_reducible rfl
        rotate_left
        ·simp only [Act.put, List.setIfInBounds_toArray, List.set_cons_zero, List.set_cons_succ, i64_w, i32_w]
         rfl
        refine take_ (i := 7) (N := some 24) (v := ?_) (a' := ?_) #[true, true, true, true, true, true, true, true, false, false] rfl rfl (take_ofW HT_.out HW_.out (by kernel_rfl)) (fun _ _ _ h => h) (Or.inl ⟨by rfl, ?_⟩) hHeld ?_ ?_
        rotate_left
        ·rintro w' ⟨s0, s1, s2, s3, s4, s5, s6, s7, s8, s9⟩
         go_simp
         with_reducible rfl
        rotate_left
        ·simp only [Act.put, List.setIfInBounds_toArray, List.set_cons_zero, List.set_cons_succ, i64_w, i32_w]
         rfl
        refine one_ (i := 8) (N := some 25) #[true, true, true, true, true, true, true, true, true, false] rfl rfl (one_of HT_.out (by kernel_rfl)) (by decide) (fun K hK => ?_)
        refine goes_ Try.func86 (by kernel_rfl) rfl #[.agg #[.int .i64 ((rd_T56 l0 x5_1).f0), .int .i64 ((rd_T56 l0 x5_1).f1), .int .i64 ((rd_T56 l0 x5_1).f2), .int .i64 ((rd_T56 l0 x5_1).f3), .int .i64 ((rd_T56 l0 x5_1).f4)], .agg #[.int .i64 ((rd_T56 l1 x5_1).f0), .int .i64 ((rd_T56 l1 x5_1).f1), .int .i64 ((rd_T56 l1 x5_1).f2), .int .i64 ((rd_T56 l1 x5_1).f3), .int .i64 ((rd_T56 l1 x5_1).f4)]] (by rfl) rfl rfl (by (try simp only [List.map_toArray, List.map_cons, List.map_nil]); first | done | rfl | (simp only [List.length_drop, List.length_take]; rfl)) ?_
        with_reducible refine (laws_eqArc.calls ((rd_T56 l0 x5_1).f0) ((rd_T56 l0 x5_1).f1) ((rd_T56 l0 x5_1).f2) ((rd_T56 l0 x5_1).f3) ((rd_T56 l0 x5_1).f4) ((rd_T56 l1 x5_1).f0) ((rd_T56 l1 x5_1).f1) ((rd_T56 l1 x5_1).f2) ((rd_T56 l1 x5_1).f3) ((rd_T56 l1 x5_1).f4) true _ A7.out).mono ?_
        rintro e w10 ⟨rfl, hb⟩
        refine ⟨_, rfl, ?_⟩
        have n0_ := Aside0.mk (below_step (by repeat (first | (with_reducible first | exact HB.out | apply below_alloc | apply pw_below_drewN | apply below_drew1) | exact HB.out)) hb)
        clear HB
        have HB := n0_
        clear n0_
        (try clear hb)
        (try clear hb2)
        (try clear hk)
        (try clear hi)
        refine hK.out _ _ ⟨((HB.out.cell (World.block_lt_of_cell? w _ hw564_0)).trans hw564_0), ((HB.out.cell (World.block_lt_of_cell? w _ hw564_1)).trans hw564_1), ((HB.out.cell (World.block_lt_of_cell? w _ hw564_2)).trans hw564_2), ((HB.out.cell (World.block_lt_of_cell? w _ hw564_3)).trans hw564_3), ((HB.out.cell (World.block_lt_of_cell? w _ hw564_4)).trans hw564_4), ((HB.out.cell (World.block_lt_of_cell? w _ hw565_0)).trans hw565_0), ((HB.out.cell (World.block_lt_of_cell? w _ hw565_1)).trans hw565_1), ((HB.out.cell (World.block_lt_of_cell? w _ hw565_2)).trans hw565_2), ((HB.out.cell (World.block_lt_of_cell? w _ hw565_3)).trans hw565_3), ((HB.out.cell (World.block_lt_of_cell? w _ hw565_4)).trans hw565_4)⟩ (fun hHeld => ?_)
        clear hK K
        refine norm_ (a' := ?_) ?_ ?_
        rotate_left
        ·show Act.put _ (some 25) _ = _
         simp only [Act.put, List.setIfInBounds_toArray, List.set_cons_zero, List.set_cons_succ, i64_w, i32_w]
         rfl
        refine pure_ (i := 9) (N := some 26) (v := ?_) (a' := ?_) #[true, true, true, true, true, true, true, true, true, true] rfl rfl (any_of HT_.out (by kernel_rfl)) (fun _ _ _ h => h) (Or.inl ⟨by rfl, ?_⟩) ?_ ?_
        rotate_left
        ·intro w'
         go_simp
         with_reducible rfl
        rotate_left
        ·simp only [Act.put, List.setIfInBounds_toArray, List.set_cons_zero, List.set_cons_succ, i64_w, i32_w]
         rfl
        refine done_ (done_of HT_.out (by kernel_rfl)) ?_
        try go_wp2
        go_roundg k1
        case measure => have := HK1.out; omega
        case rel => exact ⟨(wrap64 (x5_1 + 1)), (by first | rfl | (simp; done) | (simp [*]; done)), H', ⟨by have := HK1.out; omega⟩, ⟨by repeat (first | (with_reducible first | exact HB.out | apply below_alloc | apply pw_below_drewN | apply below_drew1) | exact HB.out)⟩⟩
       ·replace c8 := Bool.eq_false_iff.mpr c8
        subst c8
        have H1 : (some false) = some r := by rw [if_neg (show ¬ (false = true) by decide)] at H; exact H
        clear H
        have H := H1
        clear H1
        obtain rfl := Option.some.inj H
        try go_wp2
        have n0_ := Aside0.mk (below_drew1 HB.out)
        clear HB
        have HB := n0_
        clear n0_
        have p564 : 0 ≤ (x5_1 : Int) := of_decide_eq_true (by first | (with_reducible assumption) | assumption)
        have q564 : x5_1 < (l0.length : Int) := of_decide_eq_true (by first | (with_reducible assumption) | assumption)
        obtain ⟨ad564, e564, hx564_0, hx564_1, hx564_2, hx564_3, hx564_4⟩ := at_T56 HR0.out x5_1 p564 q564
        have hw564_4 := hx564_4
        have hw564_3 := hx564_3
        have hw564_2 := hx564_2
        have hw564_1 := hx564_1
        have hw564_0 := hx564_0
        cases e564
        replace hx564_0 := (HB.out.cell (World.block_lt_of_cell? w _ hx564_0)).trans hx564_0
        replace hx564_1 := (HB.out.cell (World.block_lt_of_cell? w _ hx564_1)).trans hx564_1
        replace hx564_2 := (HB.out.cell (World.block_lt_of_cell? w _ hx564_2)).trans hx564_2
        replace hx564_3 := (HB.out.cell (World.block_lt_of_cell? w _ hx564_3)).trans hx564_3
        replace hx564_4 := (HB.out.cell (World.block_lt_of_cell? w _ hx564_4)).trans hx564_4
        replace p564 := eq_true p564
        replace q564 := eq_true q564
        have p565 : 0 ≤ (x5_1 : Int) := of_decide_eq_true (by first | (with_reducible assumption) | assumption)
        have q565 : x5_1 < (l1.length : Int) := of_decide_eq_true (by first | (with_reducible assumption) | assumption)
        obtain ⟨ad565, e565, hx565_0, hx565_1, hx565_2, hx565_3, hx565_4⟩ := at_T56 HR1.out x5_1 p565 q565
        have hw565_4 := hx565_4
        have hw565_3 := hx565_3
        have hw565_2 := hx565_2
        have hw565_1 := hx565_1
        have hw565_0 := hx565_0
        cases e565
        replace hx565_0 := (HB.out.cell (World.block_lt_of_cell? w _ hx565_0)).trans hx565_0
        replace hx565_1 := (HB.out.cell (World.block_lt_of_cell? w _ hx565_1)).trans hx565_1
        replace hx565_2 := (HB.out.cell (World.block_lt_of_cell? w _ hx565_2)).trans hx565_2
        replace hx565_3 := (HB.out.cell (World.block_lt_of_cell? w _ hx565_3)).trans hx565_3
        replace hx565_4 := (HB.out.cell (World.block_lt_of_cell? w _ hx565_4)).trans hx565_4
        replace p565 := eq_true p565
        replace q565 := eq_true q565
        refine start_ (n := 10) (S := fun w' => w'.cell? (ad564.add ((x5_1).toNat * 5)) = some (.int .i64 ((rd_T56 l0 x5_1).f0)) ∧ w'.cell? ⟨(ad564.add ((x5_1).toNat * 5)).block, (ad564.add ((x5_1).toNat * 5)).off + 1, none⟩ = some (.int .i64 ((rd_T56 l0 x5_1).f1)) ∧ w'.cell? ⟨(ad564.add ((x5_1).toNat * 5)).block, (ad564.add ((x5_1).toNat * 5)).off + 2, none⟩ = some (.int .i64 ((rd_T56 l0 x5_1).f2)) ∧ w'.cell? ⟨(ad564.add ((x5_1).toNat * 5)).block, (ad564.add ((x5_1).toNat * 5)).off + 3, none⟩ = some (.int .i64 ((rd_T56 l0 x5_1).f3)) ∧ w'.cell? ⟨(ad564.add ((x5_1).toNat * 5)).block, (ad564.add ((x5_1).toNat * 5)).off + 4, none⟩ = some (.int .i64 ((rd_T56 l0 x5_1).f4)) ∧ w'.cell? (ad565.add ((x5_1).toNat * 5)) = some (.int .i64 ((rd_T56 l1 x5_1).f0)) ∧ w'.cell? ⟨(ad565.add ((x5_1).toNat * 5)).block, (ad565.add ((x5_1).toNat * 5)).off + 1, none⟩ = some (.int .i64 ((rd_T56 l1 x5_1).f1)) ∧ w'.cell? ⟨(ad565.add ((x5_1).toNat * 5)).block, (ad565.add ((x5_1).toNat * 5)).off + 2, none⟩ = some (.int .i64 ((rd_T56 l1 x5_1).f2)) ∧ w'.cell? ⟨(ad565.add ((x5_1).toNat * 5)).block, (ad565.add ((x5_1).toNat * 5)).off + 3, none⟩ = some (.int .i64 ((rd_T56 l1 x5_1).f3)) ∧ w'.cell? ⟨(ad565.add ((x5_1).toNat * 5)).block, (ad565.add ((x5_1).toNat * 5)).off + 4, none⟩ = some (.int .i64 ((rd_T56 l1 x5_1).f4))) (ds := []) #[false, false, false, false, false, false, false, false, false, false] (by kernel_rfl) rfl rfl ⟨((HB.out.cell (World.block_lt_of_cell? w _ hw564_0)).trans hw564_0), ((HB.out.cell (World.block_lt_of_cell? w _ hw564_1)).trans hw564_1), ((HB.out.cell (World.block_lt_of_cell? w _ hw564_2)).trans hw564_2), ((HB.out.cell (World.block_lt_of_cell? w _ hw564_3)).trans hw564_3), ((HB.out.cell (World.block_lt_of_cell? w _ hw564_4)).trans hw564_4), ((HB.out.cell (World.block_lt_of_cell? w _ hw565_0)).trans hw565_0), ((HB.out.cell (World.block_lt_of_cell? w _ hw565_1)).trans hw565_1), ((HB.out.cell (World.block_lt_of_cell? w _ hw565_2)).trans hw565_2), ((HB.out.cell (World.block_lt_of_cell? w _ hw565_3)).trans hw565_3), ((HB.out.cell (World.block_lt_of_cell? w _ hw565_4)).trans hw565_4)⟩ (fun hHeld => ?_); refine with_tabW laws_eqArcS.tab6 laws_eqArcS.bits6 (fun HT_ HW_ => ?_)
        generalize wr.drew = w11 at HB hx564_0 hx564_1 hx564_2 hx564_3 hx564_4 hx565_0 hx565_1 hx565_2 hx565_3 hx565_4 hHeld ⊢
        refine pure_ (i := 0) (N := some 17) (v := ?_) (a' := ?_) #[true, false, false, false, false, false, false, false, false, false] rfl rfl (any_of HT_.out (by kernel_rfl)) (fun _ _ _ h => h) (Or.inl ⟨by rfl, ?_⟩) ?_ ?_
        rotate_left
        ·intro w'
         go_simp
         with_reducible rfl
        rotate_left
        ·simp only [Act.put, List.setIfInBounds_toArray, List.set_cons_zero, List.set_cons_succ, i64_w, i32_w]
         rfl
        refine pure_ (i := 1) (N := some 18) (v := ?_) (a' := ?_) #[true, true, false, false, false, false, false, false, false, false] rfl rfl (any_of HT_.out (by kernel_rfl)) (fun _ _ _ h => h) (Or.inl ⟨by rfl, ?_⟩) ?_ ?_
        rotate_left
        ·intro w'
         go_simp
         with_reducible rfl
        rotate_left
        ·simp only [Act.put, List.setIfInBounds_toArray, List.set_cons_zero, List.set_cons_succ, i64_w, i32_w]
         rfl
        refine pure_ (i := 2) (N := some 19) (v := ?_) (a' := ?_) #[true, true, true, false, false, false, false, false, false, false] rfl rfl (any_of HT_.out (by kernel_rfl)) (fun _ _ _ h => h) (Or.inl ⟨by rfl, ?_⟩) ?_ ?_
        rotate_left
        ·intro w'
         go_simp
         with_reducible rfl
        rotate_left
        ·simp only [Act.put, List.setIfInBounds_toArray, List.set_cons_zero, List.set_cons_succ, i64_w, i32_w]
         rfl
        refine pure_ (i := 4) (N := some 21) (v := ?_) (a' := ?_) #[true, true, true, false, true, false, false, false, false, false] rfl rfl (any_of HT_.out (by kernel_rfl)) (fun _ _ _ h => h) (Or.inl ⟨by rfl, ?_⟩) ?_ ?_
        rotate_left
        ·intro w'
         go_simp
         with_reducible rfl
        rotate_left
        ·simp only [Act.put, List.setIfInBounds_toArray, List.set_cons_zero, List.set_cons_succ, i64_w, i32_w]
         rfl
        refine pure_ (i := 5) (N := some 22) (v := ?_) (a' := ?_) #[true, true, true, false, true, true, false, false, false, false] rfl rfl (any_of HT_.out (by kernel_rfl)) (fun _ _ _ h => h) (Or.inl ⟨by rfl, ?_⟩) ?_ ?_
        rotate_left
        ·intro w'
         go_simp
         with_reducible rfl
        rotate_left
        ·simp only [Act.put, List.setIfInBounds_toArray, List.set_cons_zero, List.set_cons_succ, i64_w, i32_w]
         rfl
        refine pure_ (i := 6) (N := some 23) (v := ?_) (a' := ?_) #[true, true, true, false, true, true, true, false, false, false] rfl rfl (any_of HT_.out (by kernel_rfl)) (fun _ _ _ h => h) (Or.inl ⟨by rfl, ?_⟩) ?_ ?_
        rotate_left
        ·intro w'
         go_simp
         with_reducible rfl
        rotate_left
        ·simp only [Act.put, List.setIfInBounds_toArray, List.set_cons_zero, List.set_cons_succ, i64_w, i32_w]
         rfl
        refine take_ (i := 3) (N := some 20) (v := ?_) (a' := ?_) #[true, true, true, true, true, true, true, false, false, false] rfl rfl (take_ofW HT_.out HW_.out (by kernel_rfl)) (fun _ _ _ h => h) (Or.inl ⟨by rfl, ?_⟩) hHeld ?_ ?_
        rotate_left
        ·rintro w' ⟨s0, s1, s2, s3, s4, s5, s6, s7, s8, s9⟩
         go_simp
         with_reducible rfl
        rotate_left
        ·simp only [Act.put, List.setIfInBounds_toArray, List.set_cons_zero, List.set_cons_succ, i64_w, i32_w]
         rfl
        refine take_ (i := 7) (N := some 24) (v := ?_) (a' := ?_) #[true, true, true, true, true, true, true, true, false, false] rfl rfl (take_ofW HT_.out HW_.out (by kernel_rfl)) (fun _ _ _ h => h) (Or.inl ⟨by rfl, ?_⟩) hHeld ?_ ?_
        rotate_left
        ·rintro w' ⟨s0, s1, s2, s3, s4, s5, s6, s7, s8, s9⟩
         go_simp
         with_reducible rfl
        rotate_left
        ·simp only [Act.put, List.setIfInBounds_toArray, List.set_cons_zero, List.set_cons_succ, i64_w, i32_w]
         rfl
        refine one_ (i := 8) (N := some 25) #[true, true, true, true, true, true, true, true, true, false] rfl rfl (one_of HT_.out (by kernel_rfl)) (by decide) (fun K hK => ?_)
        refine goes_ Try.func86 (by kernel_rfl) rfl #[.agg #[.int .i64 ((rd_T56 l0 x5_1).f0), .int .i64 ((rd_T56 l0 x5_1).f1), .int .i64 ((rd_T56 l0 x5_1).f2), .int .i64 ((rd_T56 l0 x5_1).f3), .int .i64 ((rd_T56 l0 x5_1).f4)], .agg #[.int .i64 ((rd_T56 l1 x5_1).f0), .int .i64 ((rd_T56 l1 x5_1).f1), .int .i64 ((rd_T56 l1 x5_1).f2), .int .i64 ((rd_T56 l1 x5_1).f3), .int .i64 ((rd_T56 l1 x5_1).f4)]] (by rfl) rfl rfl (by (try simp only [List.map_toArray, List.map_cons, List.map_nil]); first | done | rfl | (simp only [List.length_drop, List.length_take]; rfl)) ?_
        with_reducible refine (laws_eqArc.calls ((rd_T56 l0 x5_1).f0) ((rd_T56 l0 x5_1).f1) ((rd_T56 l0 x5_1).f2) ((rd_T56 l0 x5_1).f3) ((rd_T56 l0 x5_1).f4) ((rd_T56 l1 x5_1).f0) ((rd_T56 l1 x5_1).f1) ((rd_T56 l1 x5_1).f2) ((rd_T56 l1 x5_1).f3) ((rd_T56 l1 x5_1).f4) false _ A7.out).mono ?_
        rintro e w12 ⟨rfl, hb⟩
        refine ⟨_, rfl, ?_⟩
        have n0_ := Aside0.mk (below_step (by repeat (first | (with_reducible first | exact HB.out | apply below_alloc | apply pw_below_drewN | apply below_drew1) | exact HB.out)) hb)
        clear HB
        have HB := n0_
        clear n0_
        (try clear hb)
        (try clear hb2)
        (try clear hk)
        (try clear hi)
        refine hK.out _ _ ⟨((HB.out.cell (World.block_lt_of_cell? w _ hw564_0)).trans hw564_0), ((HB.out.cell (World.block_lt_of_cell? w _ hw564_1)).trans hw564_1), ((HB.out.cell (World.block_lt_of_cell? w _ hw564_2)).trans hw564_2), ((HB.out.cell (World.block_lt_of_cell? w _ hw564_3)).trans hw564_3), ((HB.out.cell (World.block_lt_of_cell? w _ hw564_4)).trans hw564_4), ((HB.out.cell (World.block_lt_of_cell? w _ hw565_0)).trans hw565_0), ((HB.out.cell (World.block_lt_of_cell? w _ hw565_1)).trans hw565_1), ((HB.out.cell (World.block_lt_of_cell? w _ hw565_2)).trans hw565_2), ((HB.out.cell (World.block_lt_of_cell? w _ hw565_3)).trans hw565_3), ((HB.out.cell (World.block_lt_of_cell? w _ hw565_4)).trans hw565_4)⟩ (fun hHeld => ?_)
        clear hK K
        refine norm_ (a' := ?_) ?_ ?_
        rotate_left
        ·show Act.put _ (some 25) _ = _
         simp only [Act.put, List.setIfInBounds_toArray, List.set_cons_zero, List.set_cons_succ, i64_w, i32_w]
         rfl
        refine pure_ (i := 9) (N := some 26) (v := ?_) (a' := ?_) #[true, true, true, true, true, true, true, true, true, true] rfl rfl (any_of HT_.out (by kernel_rfl)) (fun _ _ _ h => h) (Or.inl ⟨by rfl, ?_⟩) ?_ ?_
        rotate_left
        ·intro w'
         go_simp
         with_reducible rfl
        rotate_left
        ·simp only [Act.put, List.setIfInBounds_toArray, List.set_cons_zero, List.set_cons_succ, i64_w, i32_w]
         rfl
        refine done_ (done_of HT_.out (by kernel_rfl)) ?_
        try go_wp2
        go_ret
        exact ⟨by first | rfl | (simp [errW_none, errW_some] <;> rfl) | (simp [*, errW_none, errW_some] <;> rfl), by repeat (first | (with_reducible first | exact HB.out | apply below_alloc | apply pw_below_drewN | apply below_drew1) | exact HB.out)⟩
      ·rw [if_neg c6] at H
       exact absurd H (by simp)
     ·rw [if_neg c5] at H
      exact absurd H (by simp)
    ·rw [if_neg c4] at H
     have c4b0 : decide (x5_1 < (l0.length : Int)) = false := decide_eq_false c4
     clear c4
     obtain rfl := Option.some.inj H
     go_wp2
     go_ret
     exact ⟨by first | rfl | (simp [errW_none, errW_some] <;> rfl) | (simp [*, errW_none, errW_some] <;> rfl), by repeat (first | (with_reducible first | exact HB.out | apply below_alloc | apply pw_below_drewN | apply below_drew1) | exact HB.out)⟩
 ·rw [if_neg c3] at H
  have c3b0 : ((l0.length : Int) == (l1.length : Int)) = false := beq_eq_false_iff_ne.mpr c3
  have c3b1 : ((l0.length : Int) != (l1.length : Int)) = true := bne_iff_ne.mpr c3
  have c3b2 : (l0.length == l1.length) = false := by first | simpa using c3 | (simp at c3 ⊢; omega)
  obtain rfl := Option.some.inj H
  go_enter Try.func73, Try.ntmps73
  go_wp2
  go_ret
  exact ⟨by first | rfl | (simp [errW_none, errW_some] <;> rfl) | (simp [*, errW_none, errW_some] <;> rfl), by repeat (first | (with_reducible first | exact HB.out | apply below_alloc | apply pw_below_drewN | apply below_drew1) | exact HB.out)⟩
end Go.Proofs.Ytjiiipmeocageaa.Pr
end
section
namespace Go.Proofs.Ytjiiipmeocageaa.Pr
open Go.RowKit Go.Proofs.YtjiiipmeocageaaW.PrintWords Go.Proofs.YtjiiipmeocageaaW.PrintLast Go.Proofs.YtjiiipmeocageaaW.PrintMore
attribute [local go_sem] max2_int min2_int max_two min_two max_three min_three max_four min_four
set_option linter.unusedVariables false
set_option linter.unusedSimpArgs false
def laws_eqNet.f (k : Nat) (a0_0 : Int) (l0_1 : List (S56)) (a1_0 : Int) (l1_1 : List (S56)) : Option (Bool) := if a0_0 = a1_0 then ((laws_eqArcS.f k l0_1 l1_1).bind fun t569 => (if t569 = true then (some true) else (some false))) else (some false)
theorem laws_eqNet.mono : ∀ a0 a1 a2 a3 k, LeO (laws_eqNet.f k a0 a1 a2 a3) (laws_eqNet.f (k + 1) a0 a1 a2 a3) := by
 intro a0 a1 a2 a3 k
 unfold laws_eqNet.f
 repeat' first
   | (with_reducible exact laws_eqArcS.mono _ _ _)
   | (with_reducible exact LeO.refl _)
   | (with_reducible exact LeO.none _)
   | (with_reducible refine LeO.ite ?_ ?_)
   | (with_reducible refine LeO.bind ?_ (fun _ => ?_))
   | exact laws_eqArcS.mono _ _ _
   | exact LeO.none _
   | refine LeO.ite ?_ ?_
   | refine LeO.bind ?_ (fun _ => ?_)
set_option maxHeartbeats 8000000 in
set_option maxRecDepth 100000 in
theorem laws_eqNet.calls (k : Nat) (a0_0 : Int) (A0_1 : Option Addr) (c0_1 : Nat) (l0_1 : List (S56)) (a1_0 : Int) (A1_1 : Option Addr) (c1_1 : Nat) (l1_1 : List (S56)) (r : Bool) (w : World) (hr0_1 : Kd.C k56 w A0_1 l0_1.length l0_1) (hc0_1 : l0_1.length ≤ c0_1) (hr1_1 : Kd.C k56 w A1_1 l1_1.length l1_1) (hc1_1 : l1_1.length ≤ c1_1) (h : laws_eqNet.f k a0_0 l0_1 a1_0 l1_1 = some r) :
  Calls Try.prog 35 #[.agg #[.int .i64 a0_0, .slice A0_1 l0_1.length c0_1], .agg #[.int .i64 a1_0, .slice A1_1 l1_1.length c1_1]] w fun e w' => e = .returned (.bool r) ∧ Below w.heap.size w w' := by
 have hu51 := Try.underlying51
 have HR0_1 := Aside0.mk hr0_1
 have HC0_1 := Aside0.mk hc0_1
 clear hr0_1 hc0_1
 have HR1_1 := Aside0.mk hr1_1
 have HC1_1 := Aside0.mk hc1_1
 clear hr1_1 hc1_1
 have HB := Aside0.mk (Below.refl w.heap.size w)
 have H : (if a0_0 = a1_0 then ((laws_eqArcS.f k l0_1 l1_1).bind fun t569 => (if t569 = true then (some true) else (some false))) else (some false)) = some r := h
 clear h
 by_cases c3 : a0_0 = a1_0
 ·rw [if_pos c3] at H
  have c3b0 : (a0_0 == a1_0) = true := beq_iff_eq.mpr c3
  have c3b1 : (a0_0 != a1_0) = false := bne_eq_false_iff_eq.mpr c3
  clear c3
  replace H := Option.bind_eq_some_iff.mp H
  obtain ⟨t569, A40, H⟩ := H
  replace H : (if t569 = true then (some true) else (some false)) = some r := H
  have A4 := Aside0.mk A40
  clear A40
  by_cases c5 : t569 = true
  ·subst c5
   have H1 : (some true) = some r := by rw [if_pos rfl] at H; exact H
   clear H
   have H := H1
   clear H1
   obtain rfl := Option.some.inj H
   go_enter Try.func35, Try.ntmps35
   go_wp2_with (first | ((with_reducible refine gate_dst (N := 2) rfl ?_); refine box_event ?hg (N := 2) ?hd (cs := #[.int .i64 a0_0, .slice A0_1 l0_1.length c0_1]) (t := 51) ?hr ?_; (case hd => rfl); (case hg => rfl); (case hr => first | (go_simp; done) | (go_simp; rfl)); intro gb567 hg w6 hbox hb; have n0_ := Aside0.mk (below_step (by repeat (first | (with_reducible first | exact HB.out | apply below_alloc | apply pw_below_drewN | apply below_drew1) | exact HB.out)) hb); have n1_ := Aside0.mk (hbox); have n2_ := Aside0.mk ((by rw [hg]; exact (below_size (by repeat (first | (with_reducible first | exact HB.out | apply below_alloc | apply pw_below_drewN | apply below_drew1) | exact HB.out))) : w.heap.size ≤ gb567)); have n3_ := Aside0.mk ((by rw [hg]; exact (below_size (by repeat (first | (with_reducible first | exact HB.out | apply below_alloc | apply pw_below_drewN | apply below_drew1) | exact HB.out))) : w.heap.size ≤ gb567)); clear HB; have HB := n0_; have BK567 := n1_; have GW567 := n2_; have GE567 := n3_; clear n0_ n1_ n2_ n3_; clear hb hbox hg) | ((with_reducible refine gate_dst (N := 3) rfl ?_); refine box_event ?hg (N := 3) ?hd (cs := #[.int .i64 a1_0, .slice A1_1 l1_1.length c1_1]) (t := 51) ?hr ?_; (case hd => rfl); (case hg => rfl); (case hr => first | (go_simp; done) | (go_simp; rfl)); intro gb568 hg w7 hbox hb; have n0_ := Aside0.mk (blk_below (g := gb567) (o := .cells #[.int .i64 a0_0, .slice A0_1 l0_1.length c0_1] 51 (0, 0)) (by (with_reducible repeat (first | refine blk_drewN ?_ _ | refine blk_drew ?_ | refine blk_alloc ?_ _)); exact BK567.out) hb); have n1_ := Aside0.mk (below_step (by repeat (first | (with_reducible first | exact HB.out | apply below_alloc | apply pw_below_drewN | apply below_drew1 | refine below_set ?_ GE567.out) | exact HB.out)) hb); have n2_ := Aside0.mk (hbox); have n3_ := Aside0.mk ((by rw [hg]; exact (below_size (by repeat (first | (with_reducible first | exact HB.out | apply below_alloc | apply pw_below_drewN | apply below_drew1 | refine below_set ?_ GE567.out) | exact HB.out))) : w.heap.size ≤ gb568)); have n4_ := Aside0.mk ((by rw [hg]; exact (below_size (by repeat (first | (with_reducible first | exact HB.out | apply below_alloc | apply pw_below_drewN | apply below_drew1 | refine below_set ?_ GE567.out) | exact HB.out))) : w.heap.size ≤ gb568)); have n5_ := Aside0.mk ((by rw [hg]; exact Nat.ne_of_lt (blk_lt (g := gb567) (o := .cells #[.int .i64 a0_0, .slice A0_1 l0_1.length c0_1] 51 (0, 0)) (by (with_reducible repeat (first | refine blk_drewN ?_ _ | refine blk_drew ?_ | refine blk_alloc ?_ _)); exact BK567.out)) : gb567 ≠ gb568)); have n6_ := Aside0.mk ((by rw [hg]; exact Nat.ne_of_gt (blk_lt (g := gb567) (o := .cells #[.int .i64 a0_0, .slice A0_1 l0_1.length c0_1] 51 (0, 0)) (by (with_reducible repeat (first | refine blk_drewN ?_ _ | refine blk_drew ?_ | refine blk_alloc ?_ _)); exact BK567.out)) : gb568 ≠ gb567)); clear BK567; clear HB; have BK567 := n0_; have HB := n1_; have BK568 := n2_; have GW568 := n3_; have GE568 := n4_; have NB567_568 := n5_; have NB568_567 := n6_; clear n0_ n1_ n2_ n3_ n4_ n5_ n6_; clear hb hbox hg; have hnb8 := NB567_568.out; have hnc8 := NB568_567.out; have hcz9_0 : w7.cell? ⟨gb567, 0, none⟩ = some (.int .i64 a0_0) := (blk_cell BK567.out 0).trans rfl; have hcz9_1 : w7.cell? ⟨gb567, 1, none⟩ = some (.slice A0_1 l0_1.length c0_1) := (blk_cell BK567.out 1).trans rfl; have hfz9_0 := blk_frozen BK567.out 0; have hfz9_1 := blk_frozen BK567.out 1; have hcz10_0 : w7.cell? ⟨gb568, 0, none⟩ = some (.int .i64 a1_0) := (blk_cell BK568.out 0).trans rfl; have hcz10_1 : w7.cell? ⟨gb568, 1, none⟩ = some (.slice A1_1 l1_1.length c1_1) := (blk_cell BK568.out 1).trans rfl; have hfz10_0 := blk_frozen BK568.out 0; have hfz10_1 := blk_frozen BK568.out 1) | ((with_reducible refine gate_callee (f := 73) rfl ?_); refine goesL_ (some 14) rfl rfl Try.func73 (by kernel_rfl) rfl #[.slice A0_1 l0_1.length c0_1, .slice A1_1 l1_1.length c1_1] rfl (by (try simp only [List.map_toArray, List.map_cons, List.map_nil]); first | done | rfl | (simp only [List.length_drop, List.length_take]; rfl)) ?_; (with_reducible refine (laws_eqArcS.calls k _ _ l0_1 _ _ l1_1 true _ ?side1 ?side2 ?side3 ?side4 A4.out).mono ?_); (case side1 => repeat (first | exact (Kd.C_below HR0_1.out HB.out) | (with_reducible refine Kd.C_alloc ?_ _) | (with_reducible refine Kd.C_drewN ?_ _) | (with_reducible refine Kd.C_drew ?_))); (case side2 => exact HC0_1.out); (case side3 => repeat (first | exact (Kd.C_below HR1_1.out HB.out) | (with_reducible refine Kd.C_alloc ?_ _) | (with_reducible refine Kd.C_drewN ?_ _) | (with_reducible refine Kd.C_drew ?_))); (case side4 => exact HC1_1.out); rintro e w11 ⟨rfl, hb⟩; refine ⟨_, rfl, ?_⟩; have n0_ := Aside0.mk (blk_below (g := gb567) (o := .cells #[.int .i64 a0_0, .slice A0_1 l0_1.length c0_1] 51 (0, 0)) (by (with_reducible repeat (first | refine blk_drewN ?_ _ | refine blk_drew ?_ | refine blk_alloc ?_ _)); exact BK567.out) hb); have n1_ := Aside0.mk (blk_below (g := gb568) (o := .cells #[.int .i64 a1_0, .slice A1_1 l1_1.length c1_1] 51 (0, 0)) (by (with_reducible repeat (first | refine blk_drewN ?_ _ | refine blk_drew ?_ | refine blk_alloc ?_ _)); exact BK568.out) hb); have n2_ := Aside0.mk (below_step (by repeat (first | (with_reducible first | exact HB.out | apply below_alloc | apply pw_below_drewN | apply below_drew1 | refine below_set ?_ GE567.out | refine below_set ?_ GE568.out) | exact HB.out)) hb); clear BK567; clear BK568; clear HB; have BK567 := n0_; have BK568 := n1_; have HB := n2_; clear n0_ n1_ n2_; (try clear hb); (try clear hb2); (try clear hk); (try clear hi)))
   go_ret
   exact ⟨by first | rfl | (simp [errW_none, errW_some] <;> rfl) | (simp [*, errW_none, errW_some] <;> rfl), by repeat (first | (with_reducible first | exact HB.out | apply below_alloc | apply pw_below_drewN | apply below_drew1 | refine below_set ?_ GE567.out | refine below_set ?_ GE568.out) | exact HB.out)⟩
  ·replace c5 := Bool.eq_false_iff.mpr c5
   subst c5
   have H1 : (some false) = some r := by rw [if_neg (show ¬ (false = true) by decide)] at H; exact H
   clear H
   have H := H1
   clear H1
   obtain rfl := Option.some.inj H
   go_enter Try.func35, Try.ntmps35
   go_wp2_with (first | ((with_reducible refine gate_dst (N := 2) rfl ?_); refine box_event ?hg (N := 2) ?hd (cs := #[.int .i64 a0_0, .slice A0_1 l0_1.length c0_1]) (t := 51) ?hr ?_; (case hd => rfl); (case hg => rfl); (case hr => first | (go_simp; done) | (go_simp; rfl)); intro gb567 hg w12 hbox hb; have n0_ := Aside0.mk (below_step (by repeat (first | (with_reducible first | exact HB.out | apply below_alloc | apply pw_below_drewN | apply below_drew1) | exact HB.out)) hb); have n1_ := Aside0.mk (hbox); have n2_ := Aside0.mk ((by rw [hg]; exact (below_size (by repeat (first | (with_reducible first | exact HB.out | apply below_alloc | apply pw_below_drewN | apply below_drew1) | exact HB.out))) : w.heap.size ≤ gb567)); have n3_ := Aside0.mk ((by rw [hg]; exact (below_size (by repeat (first | (with_reducible first | exact HB.out | apply below_alloc | apply pw_below_drewN | apply below_drew1) | exact HB.out))) : w.heap.size ≤ gb567)); clear HB; have HB := n0_; have BK567 := n1_; have GW567 := n2_; have GE567 := n3_; clear n0_ n1_ n2_ n3_; clear hb hbox hg) | ((with_reducible refine gate_dst (N := 3) rfl ?_); refine box_event ?hg (N := 3) ?hd (cs := #[.int .i64 a1_0, .slice A1_1 l1_1.length c1_1]) (t := 51) ?hr ?_; (case hd => rfl); (case hg => rfl); (case hr => first | (go_simp; done) | (go_simp; rfl)); intro gb568 hg w13 hbox hb; have n0_ := Aside0.mk (blk_below (g := gb567) (o := .cells #[.int .i64 a0_0, .slice A0_1 l0_1.length c0_1] 51 (0, 0)) (by (with_reducible repeat (first | refine blk_drewN ?_ _ | refine blk_drew ?_ | refine blk_alloc ?_ _)); exact BK567.out) hb); have n1_ := Aside0.mk (below_step (by repeat (first | (with_reducible first | exact HB.out | apply below_alloc | apply pw_below_drewN | apply below_drew1 | refine below_set ?_ GE567.out) | exact HB.out)) hb); have n2_ := Aside0.mk (hbox); have n3_ := Aside0.mk ((by rw [hg]; exact (below_size (by repeat (first | (with_reducible first | exact HB.out | apply below_alloc | apply pw_below_drewN | apply below_drew1 | refine below_set ?_ GE567.out) | exact HB.out))) : w.heap.size ≤ gb568)); have n4_ := Aside0.mk ((by rw [hg]; exact (below_size (by repeat (first | (with_reducible first | exact HB.out | apply below_alloc | apply pw_below_drewN | apply below_drew1 | refine below_set ?_ GE567.out) | exact HB.out))) : w.heap.size ≤ gb568)); have n5_ := Aside0.mk ((by rw [hg]; exact Nat.ne_of_lt (blk_lt (g := gb567) (o := .cells #[.int .i64 a0_0, .slice A0_1 l0_1.length c0_1] 51 (0, 0)) (by (with_reducible repeat (first | refine blk_drewN ?_ _ | refine blk_drew ?_ | refine blk_alloc ?_ _)); exact BK567.out)) : gb567 ≠ gb568)); have n6_ := Aside0.mk ((by rw [hg]; exact Nat.ne_of_gt (blk_lt (g := gb567) (o := .cells #[.int .i64 a0_0, .slice A0_1 l0_1.length c0_1] 51 (0, 0)) (by (with_reducible repeat (first | refine blk_drewN ?_ _ | refine blk_drew ?_ | refine blk_alloc ?_ _)); exact BK567.out)) : gb568 ≠ gb567)); clear BK567; clear HB; have BK567 := n0_; have HB := n1_; have BK568 := n2_; have GW568 := n3_; have GE568 := n4_; have NB567_568 := n5_; have NB568_567 := n6_; clear n0_ n1_ n2_ n3_ n4_ n5_ n6_; clear hb hbox hg; have hnb14 := NB567_568.out; have hnc14 := NB568_567.out; have hcz15_0 : w13.cell? ⟨gb567, 0, none⟩ = some (.int .i64 a0_0) := (blk_cell BK567.out 0).trans rfl; have hcz15_1 : w13.cell? ⟨gb567, 1, none⟩ = some (.slice A0_1 l0_1.length c0_1) := (blk_cell BK567.out 1).trans rfl; have hfz15_0 := blk_frozen BK567.out 0; have hfz15_1 := blk_frozen BK567.out 1; have hcz16_0 : w13.cell? ⟨gb568, 0, none⟩ = some (.int .i64 a1_0) := (blk_cell BK568.out 0).trans rfl; have hcz16_1 : w13.cell? ⟨gb568, 1, none⟩ = some (.slice A1_1 l1_1.length c1_1) := (blk_cell BK568.out 1).trans rfl; have hfz16_0 := blk_frozen BK568.out 0; have hfz16_1 := blk_frozen BK568.out 1) | ((with_reducible refine gate_callee (f := 73) rfl ?_); refine goesL_ (some 14) rfl rfl Try.func73 (by kernel_rfl) rfl #[.slice A0_1 l0_1.length c0_1, .slice A1_1 l1_1.length c1_1] rfl (by (try simp only [List.map_toArray, List.map_cons, List.map_nil]); first | done | rfl | (simp only [List.length_drop, List.length_take]; rfl)) ?_; (with_reducible refine (laws_eqArcS.calls k _ _ l0_1 _ _ l1_1 false _ ?side1 ?side2 ?side3 ?side4 A4.out).mono ?_); (case side1 => repeat (first | exact (Kd.C_below HR0_1.out HB.out) | (with_reducible refine Kd.C_alloc ?_ _) | (with_reducible refine Kd.C_drewN ?_ _) | (with_reducible refine Kd.C_drew ?_))); (case side2 => exact HC0_1.out); (case side3 => repeat (first | exact (Kd.C_below HR1_1.out HB.out) | (with_reducible refine Kd.C_alloc ?_ _) | (with_reducible refine Kd.C_drewN ?_ _) | (with_reducible refine Kd.C_drew ?_))); (case side4 => exact HC1_1.out); rintro e w17 ⟨rfl, hb⟩; refine ⟨_, rfl, ?_⟩; have n0_ := Aside0.mk (blk_below (g := gb567) (o := .cells #[.int .i64 a0_0, .slice A0_1 l0_1.length c0_1] 51 (0, 0)) (by (with_reducible repeat (first | refine blk_drewN ?_ _ | refine blk_drew ?_ | refine blk_alloc ?_ _)); exact BK567.out) hb); have n1_ := Aside0.mk (blk_below (g := gb568) (o := .cells #[.int .i64 a1_0, .slice A1_1 l1_1.length c1_1] 51 (0, 0)) (by (with_reducible repeat (first | refine blk_drewN ?_ _ | refine blk_drew ?_ | refine blk_alloc ?_ _)); exact BK568.out) hb); have n2_ := Aside0.mk (below_step (by repeat (first | (with_reducible first | exact HB.out | apply below_alloc | apply pw_below_drewN | apply below_drew1 | refine below_set ?_ GE567.out | refine below_set ?_ GE568.out) | exact HB.out)) hb); clear BK567; clear BK568; clear HB; have BK567 := n0_; have BK568 := n1_; have HB := n2_; clear n0_ n1_ n2_; (try clear hb); (try clear hb2); (try clear hk); (try clear hi)))
   go_ret
   exact ⟨by first | rfl | (simp [errW_none, errW_some] <;> rfl) | (simp [*, errW_none, errW_some] <;> rfl), by repeat (first | (with_reducible first | exact HB.out | apply below_alloc | apply pw_below_drewN | apply below_drew1 | refine below_set ?_ GE567.out | refine below_set ?_ GE568.out) | exact HB.out)⟩
 ·rw [if_neg c3] at H
  have c3b0 : (a0_0 == a1_0) = false := beq_eq_false_iff_ne.mpr c3
  have c3b1 : (a0_0 != a1_0) = true := bne_iff_ne.mpr c3
  obtain rfl := Option.some.inj H
  go_enter Try.func35, Try.ntmps35
  go_wp2_with (first | ((with_reducible refine gate_dst (N := 2) rfl ?_); refine box_event ?hg (N := 2) ?hd (cs := #[.int .i64 a0_0, .slice A0_1 l0_1.length c0_1]) (t := 51) ?hr ?_; (case hd => rfl); (case hg => rfl); (case hr => first | (go_simp; done) | (go_simp; rfl)); intro gb567 hg w18 hbox hb; have n0_ := Aside0.mk (below_step (by repeat (first | (with_reducible first | exact HB.out | apply below_alloc | apply pw_below_drewN | apply below_drew1) | exact HB.out)) hb); have n1_ := Aside0.mk (hbox); have n2_ := Aside0.mk ((by rw [hg]; exact (below_size (by repeat (first | (with_reducible first | exact HB.out | apply below_alloc | apply pw_below_drewN | apply below_drew1) | exact HB.out))) : w.heap.size ≤ gb567)); have n3_ := Aside0.mk ((by rw [hg]; exact (below_size (by repeat (first | (with_reducible first | exact HB.out | apply below_alloc | apply pw_below_drewN | apply below_drew1) | exact HB.out))) : w.heap.size ≤ gb567)); clear HB; have HB := n0_; have BK567 := n1_; have GW567 := n2_; have GE567 := n3_; clear n0_ n1_ n2_ n3_; clear hb hbox hg) | ((with_reducible refine gate_dst (N := 3) rfl ?_); refine box_event ?hg (N := 3) ?hd (cs := #[.int .i64 a1_0, .slice A1_1 l1_1.length c1_1]) (t := 51) ?hr ?_; (case hd => rfl); (case hg => rfl); (case hr => first | (go_simp; done) | (go_simp; rfl)); intro gb568 hg w19 hbox hb; have n0_ := Aside0.mk (blk_below (g := gb567) (o := .cells #[.int .i64 a0_0, .slice A0_1 l0_1.length c0_1] 51 (0, 0)) (by (with_reducible repeat (first | refine blk_drewN ?_ _ | refine blk_drew ?_ | refine blk_alloc ?_ _)); exact BK567.out) hb); have n1_ := Aside0.mk (below_step (by repeat (first | (with_reducible first | exact HB.out | apply below_alloc | apply pw_below_drewN | apply below_drew1 | refine below_set ?_ GE567.out) | exact HB.out)) hb); have n2_ := Aside0.mk (hbox); have n3_ := Aside0.mk ((by rw [hg]; exact (below_size (by repeat (first | (with_reducible first | exact HB.out | apply below_alloc | apply pw_below_drewN | apply below_drew1 | refine below_set ?_ GE567.out) | exact HB.out))) : w.heap.size ≤ gb568)); have n4_ := Aside0.mk ((by rw [hg]; exact (below_size (by repeat (first | (with_reducible first | exact HB.out | apply below_alloc | apply pw_below_drewN | apply below_drew1 | refine below_set ?_ GE567.out) | exact HB.out))) : w.heap.size ≤ gb568)); have n5_ := Aside0.mk ((by rw [hg]; exact Nat.ne_of_lt (blk_lt (g := gb567) (o := .cells #[.int .i64 a0_0, .slice A0_1 l0_1.length c0_1] 51 (0, 0)) (by (with_reducible repeat (first | refine blk_drewN ?_ _ | refine blk_drew ?_ | refine blk_alloc ?_ _)); exact BK567.out)) : gb567 ≠ gb568)); have n6_ := Aside0.mk ((by rw [hg]; exact Nat.ne_of_gt (blk_lt (g := gb567) (o := .cells #[.int .i64 a0_0, .slice A0_1 l0_1.length c0_1] 51 (0, 0)) (by (with_reducible repeat (first | refine blk_drewN ?_ _ | refine blk_drew ?_ | refine blk_alloc ?_ _)); exact BK567.out)) : gb568 ≠ gb567)); clear BK567; clear HB; have BK567 := n0_; have HB := n1_; have BK568 := n2_; have GW568 := n3_; have GE568 := n4_; have NB567_568 := n5_; have NB568_567 := n6_; clear n0_ n1_ n2_ n3_ n4_ n5_ n6_; clear hb hbox hg; have hnb20 := NB567_568.out; have hnc20 := NB568_567.out; have hcz21_0 : w19.cell? ⟨gb567, 0, none⟩ = some (.int .i64 a0_0) := (blk_cell BK567.out 0).trans rfl; have hcz21_1 : w19.cell? ⟨gb567, 1, none⟩ = some (.slice A0_1 l0_1.length c0_1) := (blk_cell BK567.out 1).trans rfl; have hfz21_0 := blk_frozen BK567.out 0; have hfz21_1 := blk_frozen BK567.out 1; have hcz22_0 : w19.cell? ⟨gb568, 0, none⟩ = some (.int .i64 a1_0) := (blk_cell BK568.out 0).trans rfl; have hcz22_1 : w19.cell? ⟨gb568, 1, none⟩ = some (.slice A1_1 l1_1.length c1_1) := (blk_cell BK568.out 1).trans rfl; have hfz22_0 := blk_frozen BK568.out 0; have hfz22_1 := blk_frozen BK568.out 1))
  go_ret
  exact ⟨by first | rfl | (simp [errW_none, errW_some] <;> rfl) | (simp [*, errW_none, errW_some] <;> rfl), by repeat (first | (with_reducible first | exact HB.out | apply below_alloc | apply pw_below_drewN | apply below_drew1 | refine below_set ?_ GE567.out | refine below_set ?_ GE568.out) | exact HB.out)⟩
end Go.Proofs.Ytjiiipmeocageaa.Pr
end
section
set_option linter.unusedSimpArgs false
set_option linter.unusedVariables false
namespace Go.Proofs.Ytjiiipmeocageaa.Pure
open Go.RowKit Go.Proofs.Ytjiiipmeocageaa.Pr Go.Proofs.YtjiiipmeocageaaW.PrintWords Go.Proofs.YtjiiipmeocageaaW.PrintLast Go.Proofs.YtjiiipmeocageaaW.PrintMore
section
variable {t e : Nat → Option Bool} {r : Bool}
theorem Ev.and {b : Bool} (k : Ev t r) : Ev (fun n => if b = true then t n else some false) (b && r) := by
 cases b with
 | false => exact Ev.neg (by simp) (Ev.now _)
 | true => exact Ev.pos rfl k
theorem Ev.nand {c : Prop} [Decidable c] (k : Ev t r) : Ev (fun n => if c then some false else t n) (!decide c && r) := by
 by_cases h : c
 ·exact Ev.pos h (Ev.is (by simp [h]))
 ·exact Ev.neg h (k.cast (by simp [h]))
end
abbrev Arc := S56
def arc (l : List Arc) (i : Nat) : Arc := rd_T56 l (i : Int)
theorem rda (l : List Arc) (i : Nat) : rd_T56 l (i : Int) = arc l i := rfl
theorem arc_get {l : List Arc} {i : Nat} (h : i < l.length) : arc l i = l[i] := by simp [arc, rd_T56, h]
theorem arc_mem {l : List Arc} {i : Nat} (h : i < l.length) : arc l i ∈ l := by
 rw [arc_get h]
 exact List.getElem_mem h
attribute [irreducible] arc
def okArcW (n : Int) (a : Arc) : Bool := inB a.f0 0 (wrap64 (n - 1)) && (inB a.f1 0 (wrap64 (n - 1)) && (!decide (a.f0 = a.f1) && (inB a.f2 0 99 && (inB a.f3 0 99 && inB a.f4 0 9))))
theorem l1Ok_l (n : Int) (l : List Arc) (hm : l.length ≤ maxLen) : ∀ (m i : Nat), l.length - i = m → i ≤ l.length → Ev (fun k => spec_l1Ok.l0 k (i : Int) n l) ((l.drop i).all (okArcW n) && (inB n 1 8 && decide ((l.length : Int) ≤ 16))) := by
 intro m
 induction m with
 | zero =>
  intro i hd hi
  refine Ev.go ?_ (fun k => by rw [spec_l1Ok.l0])
  refine Ev.neg (by omega) (Ev.bind0 (in1 _ _ _) ?_)
  rw [List.drop_of_length_le (by omega)]
  exact (Ev.and (Ev.now _)).cast (by simp)
 | succ m ih =>
  intro i hd hi
  have hlt : i < l.length := by omega
  refine Ev.go ?_ (fun k => by rw [spec_l1Ok.l0])
  rw [drop_cons hlt, ← arc_get hlt, List.all_cons, rda, up1 hlt hm]
  refine Ev.pos (by omega) (Ev.pos (by omega) ?_)
  refine Ev.cast (Ev.bind0 (in1 _ _ _) (Ev.and (Ev.bind0 (in1 _ _ _) (Ev.and (Ev.nand (Ev.bind0 (in1 _ _ _) (Ev.and (Ev.bind0 (in1 _ _ _) (Ev.and (Ev.bind0 (in1 _ _ _) (Ev.and (ih (i + 1) (by omega) (by omega))))))))))))) ?_
  simp only [okArcW, Bool.and_assoc]
theorem okArcW_okArc {n : Int} (h : 1 ≤ n) (h8 : n ≤ 8) (a : Arc) : okArcW n a = okArc n a := by
 unfold okArcW okArc inB okN okC
 rw [w64 (by omega) (by omega)]
 have e : (a.f4 ≤ 9) ↔ (a.f4 ≤ 10 - 1) := by omega
 have e2 : (a.f0 == a.f1) = decide (a.f0 = a.f1) := by
  by_cases c : a.f0 = a.f1 <;> simp [c]
 rw [e2]
 simp only [Bool.and_assoc, e]
theorem l1Ok_ev (n : Int) (l : List Arc) (hm : l.length ≤ maxLen) : Ev (fun k => spec_l1Ok.f k n l) (netOkB n l) := by
 unfold spec_l1Ok.f
 refine (l1Ok_l n l hm _ 0 rfl (by omega)).cast ?_
 unfold netOkB
 rw [List.drop_zero]
 by_cases h : 1 ≤ n ∧ n ≤ 8
 ·have e : l.all (okArcW n) = l.all (okArc n) := by
   congr 1
   funext a
   exact okArcW_okArc h.1 h.2 a
  rw [e, show inB n 1 8 = true from inB_iff.2 h]
  simp [h.1, h.2, Bool.and_comm]
 ·have e : inB n 1 8 = false := by
   cases c : inB n 1 8 with
   | false => rfl
   | true => exact absurd (inB_iff.1 c) h
  rw [e]
  have e2 : (decide (1 ≤ n) && decide (n ≤ 8)) = false := e
  simp only [e2, Bool.false_and, Bool.and_false]
structure NetGood (n : Int) (l : List Arc) : Prop where
 n1 : 1 ≤ n
 n8 : n ≤ 8
 len : l.length ≤ 16
 ok : ∀ i, i < l.length → (0 ≤ (arc l i).f0 ∧ (arc l i).f0 < n) ∧ (0 ≤ (arc l i).f1 ∧ (arc l i).f1 < n) ∧ (arc l i).f0 ≠ (arc l i).f1 ∧ (0 ≤ (arc l i).f2 ∧ (arc l i).f2 ≤ 99) ∧ (0 ≤ (arc l i).f3 ∧ (arc l i).f3 ≤ 99) ∧ (0 ≤ (arc l i).f4 ∧ (arc l i).f4 ≤ 9)
theorem okArc_iff (n : Int) (a : Arc) : okArc n a = true ↔ (0 ≤ a.f0 ∧ a.f0 < n) ∧ (0 ≤ a.f1 ∧ a.f1 < n) ∧ a.f0 ≠ a.f1 ∧ (0 ≤ a.f2 ∧ a.f2 ≤ 99) ∧ (0 ≤ a.f3 ∧ a.f3 ≤ 99) ∧ (0 ≤ a.f4 ∧ a.f4 ≤ 9) := by
 simp only [okArc, okN, okC, Bool.and_eq_true, decide_eq_true_eq, Bool.not_eq_true', beq_eq_false_iff_ne]
 constructor
 ·rintro ⟨⟨⟨⟨⟨⟨a1, a2⟩, a3, a4⟩, a5⟩, a6⟩, a7⟩, a8, a9⟩
  exact ⟨⟨a1, by omega⟩, ⟨a3, by omega⟩, a5, a6, a7, a8, by omega⟩
 ·rintro ⟨⟨a1, a2⟩, ⟨a3, a4⟩, a5, a6, a7, a8, a9⟩
  exact ⟨⟨⟨⟨⟨⟨a1, by omega⟩, a3, by omega⟩, a5⟩, a6⟩, a7⟩, a8, by omega⟩
theorem netOkB_iff (n : Int) (l : List Arc) : netOkB n l = true ↔ NetGood n l := by
 simp only [netOkB, Bool.and_eq_true, decide_eq_true_eq, List.all_eq_true]
 constructor
 ·rintro ⟨⟨⟨h1, h2⟩, h3⟩, h4⟩
  exact ⟨h1, h2, by omega, fun i hi => (okArc_iff n _).1 (h4 _ (arc_mem hi))⟩
 ·rintro ⟨h1, h2, h3, h4⟩
  refine ⟨⟨⟨h1, h2⟩, by omega⟩, fun a ha => ?_⟩
  obtain ⟨i, hi, rfl⟩ := List.getElem_of_mem ha
  rw [← arc_get hi]
  exact (okArc_iff n _).2 (h4 i hi)
end Go.Proofs.Ytjiiipmeocageaa.Pure
end
section
set_option linter.unusedSimpArgs false
set_option linter.unusedVariables false
namespace Go.Proofs.Ytjiiipmeocageaa.Pure
open Go.RowKit Go.Proofs.Ytjiiipmeocageaa.Pr Go.Proofs.YtjiiipmeocageaaW.PrintWords Go.Proofs.YtjiiipmeocageaaW.PrintLast Go.Proofs.YtjiiipmeocageaaW.PrintMore
def NetSz (p : Int) (r : Int × List Arc × Int) : Prop := (0 ≤ r.1 ∧ r.1 ≤ 9) ∧ r.2.1.length ≤ 13 ∧ (p ≤ r.2.2 ∧ r.2.2 ≤ p + 100)
theorem net_l {b : List Int} (h : Rdr b) (n : Int) (hn : 1 ≤ n ∧ n ≤ 9) : ∀ (m : Nat) (p : Int) (l : List Arc), 0 ≤ p → p + 6 * m ≤ 100000 → m ≤ 13 → l.length ≤ 13 - m → Pv (fun k => spec_l30Net.l0 k (m : Int) b p n l) (fun r => r.1 = n ∧ r.2.1.length ≤ 13 ∧ (p ≤ r.2.2 ∧ r.2.2 ≤ p + 6 * m)) := by
 intro m
 induction m with
 | zero =>
  intro p l hp hp' hm hl
  refine Pv.go ?_ (fun k => by rw [spec_l30Net.l0])
  exact Pv.neg (by omega) (Pv.now ⟨rfl, by dsimp only; omega, by dsimp only; omega⟩)
 | succ m ih =>
  intro p l hp hp' hm hl
  have hw : wrap64 (((m + 1 : Nat) : Int) - 1) = (m : Int) := by rw [w64 (by omega) (by omega)]; omega
  refine Pv.go ?_ (fun k => by rw [spec_l30Net.l0])
  rw [hw]
  refine Pv.pos (by omega) (Pv.bind (pick_pv h hp (by omega)) (fun r1 ⟨a1, e1⟩ => Pv.bind (pick_pv h (p := r1.2) (by omega) (by omega)) (fun r2 ⟨a2, e2⟩ => Pv.bind (pick_pv h (p := r2.2) (by omega) (by omega)) (fun r3 ⟨a3, e3⟩ => Pv.bind (one_pv h (p := r3.2) (by omega) (by omega) (by simp)) (fun r4 ⟨a4, e4⟩ => Pv.bind (one_pv h (p := r4.2) (by omega) (by omega) (by simp)) (fun r5 ⟨a5, e5⟩ => Pv.bind (pick_pv h (p := r5.2) (by omega) (by omega)) (fun r6 ⟨a6, e6⟩ => ?_)))))))
  have step : ∀ x : Arc, Pv (fun k => spec_l30Net.l0 k (m : Int) b r6.2 n (l ++ [x])) (fun r => r.1 = n ∧ r.2.1.length ≤ 13 ∧ (p ≤ r.2.2 ∧ r.2.2 ≤ p + 6 * ((m + 1 : Nat) : Int))) := fun x => (ih r6.2 (l ++ [x]) (by omega) (by omega) (by omega) (by simp; omega)).mono (fun r hr => ⟨hr.1, hr.2.1, by omega, by omega⟩)
  refine Pv.ite (fun _ => Pv.neg (by omega) (Pv.pos (by omega) (step _))) (fun _ => Pv.pos (by omega) (step _))
theorem net_pv {b : List Int} (h : Rdr b) {p : Int} (hp : 0 ≤ p) (hp' : p ≤ 10000) : Pv (fun k => spec_l30Net.f k b p) (fun r => (2 ≤ r.1 ∧ r.1 ≤ 6) ∧ r.2.1.length ≤ 13 ∧ (p ≤ r.2.2 ∧ r.2.2 ≤ p + 90)) := by
 unfold spec_l30Net.f
 refine Pv.bind (pick_pv h hp (by omega)) (fun r1 ⟨a1, e1⟩ => Pv.bind (pick_pv h (p := r1.2) (by omega) (by omega)) (fun r2 ⟨a2, e2⟩ => ?_))
 have b1 := a1.2.2 (by omega)
 have b2 := a2.2.2 (by omega)
 have hw : wrap64 (2 + r1.1) = 2 + r1.1 := w64 (by omega) (by omega)
 rw [hw]
 have := net_l h (2 + r1.1) (by omega) r2.1.toNat r2.2 [] (by omega) (by omega) (by omega) (by simp)
 rw [Int.toNat_of_nonneg a2.1] at this
 exact this.mono (fun r hr => ⟨⟨by omega, by omega⟩, hr.2.1, by omega, by omega⟩)
theorem anyNet_pv {b : List Int} (h : Rdr b) {p : Int} (hp : 0 ≤ p) (hp' : p ≤ 10000) : Pv (fun k => spec_l30AnyNet.f k b p) (NetSz p) := by
 unfold spec_l30AnyNet.f
 refine Pv.bind (net_pv h hp hp') (fun r0 ⟨a0, l0, e0⟩ => ?_)
 refine Pv.ite (fun c => ?_) (fun c => Pv.now ⟨by dsimp only; omega, l0, by dsimp only; omega⟩)
 refine Pv.bind (pick_pv h (p := r0.2.2) (by omega) (by omega)) (fun r1 ⟨a1, e1⟩ => Pv.bind (pick_pv h (p := r1.2) (by omega) (by omega)) (fun r2 ⟨a2, e2⟩ => ?_))
 have b1 := a1.2.2 (by omega)
 refine Pv.ite (fun c1 => Pv.pos a1.1 (Pv.pos b1 (Pv.bind (one_pv h (p := r2.2) (by omega) (by omega) (by simp)) (fun r3 ⟨a3, e3⟩ => Pv.now ⟨by dsimp only; omega, by simpa using l0, by dsimp only; omega⟩)))) (fun c1 => ?_)
 refine Pv.ite (fun c2 => Pv.bind (one_pv h (p := r2.2) (by omega) (by omega) (by simp)) (fun r3 ⟨a3, e3⟩ => Pv.pos a1.1 (Pv.pos b1 (Pv.now ⟨by dsimp only; omega, by simpa using l0, by dsimp only; omega⟩)))) (fun c2 => ?_)
 refine Pv.ite (fun c3 => Pv.bind (one_pv h (p := r2.2) (by omega) (by omega) (by simp)) (fun r3 ⟨a3, e3⟩ => Pv.now ⟨?_, l0, by dsimp only; omega⟩)) (fun c3 => Pv.now ⟨by dsimp only; omega, l0, by dsimp only; omega⟩)
 simp only [List.mem_cons, List.not_mem_nil, or_false] at a3
 dsimp only
 omega
end Go.Proofs.Ytjiiipmeocageaa.Pure
end
section
namespace Go.Proofs.Ytjiiipmeocageaa.Pr
open Go.RowKit Go.Proofs.YtjiiipmeocageaaW.PrintWords Go.Proofs.YtjiiipmeocageaaW.PrintLast Go.Proofs.YtjiiipmeocageaaW.PrintMore
attribute [local go_sem] max2_int min2_int max_two min_two max_three min_three max_four min_four
set_option linter.unusedVariables false
set_option linter.unusedSimpArgs false
def laws_wkIn.l0 : Nat → List Int → Int → Int → Option (Bool)
 | 0, _, _, _ => none
 | k + 1, x0, x1, x5 => if x5 < (x0.length : Int) then (if 0 ≤ x5 then (if (rd x0 x5) = x1 then (some true) else (laws_wkIn.l0 k x0 x1 (wrap64 (x5 + 1)))) else (none)) else (some false)
def laws_wkIn.f (k : Nat) (l0 : List Int) (a1 : Int) : Option (Bool) := laws_wkIn.l0 k l0 a1 0
theorem laws_wkIn.mono_l : ∀ k, (∀ y0 y1 y2, LeO (laws_wkIn.l0 k y0 y1 y2) (laws_wkIn.l0 (k + 1) y0 y1 y2))
 | 0 => fun _ _ _ r h => by simp [laws_wkIn.l0] at h
 | k + 1 => by
  have ih0 := laws_wkIn.mono_l k
  ·intro y0 y1 y2
   unfold laws_wkIn.l0
   repeat' first
   | (with_reducible exact ih0 _ _ _)
   | (with_reducible exact LeO.refl _)
   | (with_reducible exact LeO.none _)
   | (with_reducible refine LeO.ite ?_ ?_)
   | (with_reducible refine LeO.bind ?_ (fun _ => ?_))
   | exact ih0 _ _ _
   | exact LeO.none _
   | refine LeO.ite ?_ ?_
   | refine LeO.bind ?_ (fun _ => ?_)
theorem laws_wkIn.mono : ∀ a0 a1 k, LeO (laws_wkIn.f k a0 a1) (laws_wkIn.f (k + 1) a0 a1) := by
 intro a0 a1 k
 have ih0 := laws_wkIn.mono_l k
 unfold laws_wkIn.f
 repeat' first
   | (with_reducible exact ih0 _ _ _)
   | (with_reducible exact LeO.refl _)
   | (with_reducible exact LeO.none _)
   | (with_reducible refine LeO.ite ?_ ?_)
   | (with_reducible refine LeO.bind ?_ (fun _ => ?_))
   | exact ih0 _ _ _
   | exact LeO.none _
   | refine LeO.ite ?_ ?_
   | refine LeO.bind ?_ (fun _ => ?_)
set_option maxHeartbeats 8000000 in
set_option maxRecDepth 100000 in
theorem laws_wkIn.calls (k : Nat) (A0 : Option Addr) (c0 : Nat) (l0 : List Int) (a1 : Int) (r : Bool) (w : World) (hr0 : Kd.C (Kd.int .i64) w A0 l0.length l0) (hc0 : l0.length ≤ c0) (h : laws_wkIn.f k l0 a1 = some r) :
  Calls Try.prog 44 #[.slice A0 l0.length c0, .int .i64 a1] w fun e w' => e = .returned (.bool r) ∧ Drawn0 w w' := by
 have HR0 := Aside0.mk hr0
 have HC0 := Aside0.mk hc0
 clear hr0 hc0
 have H : (laws_wkIn.l0 k l0 a1 0) = some r := h
 clear h
 have H' := Aside0.mk H
 clear H
 go_enter Try.func44, Try.ntmps44
 go_wp2
 go_loopg [5] k (fun kq v5 w' => ∃ (x5_1 : Int), v5 = .int .i64 x5_1 ∧ Aside0 (laws_wkIn.l0 kq l0 a1 x5_1 = some r) ∧ Aside0 (kq ≤ k) ∧ Drawn0 w w')
 case atStart => exact ⟨(0), (by first | rfl | (simp; done) | (simp [*]; done)), H', ⟨Nat.le_refl _⟩, by repeat (first | exact Drawn0.refl _ | apply Drawn0.step)⟩
 case round =>
  clear H'
  try clear p2
  obtain ⟨x5_1, rfl, HA, HK1, ⟨m1, rfl⟩⟩ := hrel
  cases gk with
  | zero => exact absurd HA.out (by simp [laws_wkIn.l0])
  | succ k1 =>
   have H := HA.out
   clear HA
   simp only [laws_wkIn.l0] at H
   by_cases c3 : x5_1 < (l0.length : Int)
   ·rw [if_pos c3] at H
    have c3b0 : decide (x5_1 < (l0.length : Int)) = true := decide_eq_true c3
    clear c3
    by_cases c4 : 0 ≤ x5_1
    ·rw [if_pos c4] at H
     have c4b0 : decide (0 ≤ x5_1) = true := decide_eq_true c4
     clear c4
     by_cases c5 : (rd l0 x5_1) = a1
     ·rw [if_pos c5] at H
      have c5b0 : ((rd l0 x5_1) == a1) = true := beq_iff_eq.mpr c5
      have c5b1 : ((rd l0 x5_1) != a1) = false := bne_eq_false_iff_eq.mpr c5
      clear c5
      obtain rfl := Option.some.inj H
      have p774 : 0 ≤ (x5_1 : Int) := of_decide_eq_true (by first | (with_reducible assumption) | assumption)
      have q774 : x5_1 < (l0.length : Int) := of_decide_eq_true (by first | (with_reducible assumption) | assumption)
      obtain ⟨ad774, e774, hx774_0⟩ := Kd.at_int HR0.out x5_1 p774 q774
      cases e774
      replace p774 := eq_true p774
      replace q774 := eq_true q774
      go_wp2
      go_ret
      exact ⟨by first | rfl | (simp; done) | (simp [*]; done), by repeat (first | exact Drawn0.refl _ | apply Drawn0.step)⟩
     ·rw [if_neg c5] at H
      have c5b0 : ((rd l0 x5_1) == a1) = false := beq_eq_false_iff_ne.mpr c5
      have c5b1 : ((rd l0 x5_1) != a1) = true := bne_iff_ne.mpr c5
      have H' := Aside0.mk H
      clear H
      have p774 : 0 ≤ (x5_1 : Int) := of_decide_eq_true (by first | (with_reducible assumption) | assumption)
      have q774 : x5_1 < (l0.length : Int) := of_decide_eq_true (by first | (with_reducible assumption) | assumption)
      obtain ⟨ad774, e774, hx774_0⟩ := Kd.at_int HR0.out x5_1 p774 q774
      cases e774
      replace p774 := eq_true p774
      replace q774 := eq_true q774
      go_wp2
      go_roundg k1
      case measure => have := HK1.out; omega
      case rel => exact ⟨(wrap64 (x5_1 + 1)), (by first | rfl | (simp; done) | (simp [*]; done)), H', ⟨by have := HK1.out; omega⟩, by repeat (first | exact Drawn0.refl _ | apply Drawn0.step)⟩
    ·rw [if_neg c4] at H
     exact absurd H (by simp)
   ·rw [if_neg c3] at H
    have c3b0 : decide (x5_1 < (l0.length : Int)) = false := decide_eq_false c3
    clear c3
    obtain rfl := Option.some.inj H
    go_wp2
    go_ret
    exact ⟨by first | rfl | (simp; done) | (simp [*]; done), by repeat (first | exact Drawn0.refl _ | apply Drawn0.step)⟩
end Go.Proofs.Ytjiiipmeocageaa.Pr
end
section
set_option linter.unusedSimpArgs false
set_option linter.unusedVariables false
namespace Go.Proofs.Ytjiiipmeocageaa.Pure
open Go.RowKit Go.Proofs.Ytjiiipmeocageaa.Pr Go.Proofs.YtjiiipmeocageaaW.PrintWords Go.Proofs.YtjiiipmeocageaaW.PrintLast Go.Proofs.YtjiiipmeocageaaW.PrintMore
theorem wkInts_l (a b : List Int) (hm : a.length ≤ maxLen) (hl : a.length = b.length) : ∀ (m i : Nat), a.length - i = m → i ≤ a.length → Ev (fun k => laws_wkInts.l0 k a b (i : Int)) (decide (a.drop i = b.drop i)) := by
 intro m
 induction m with
 | zero =>
  intro i hd hi
  refine Ev.go ?_ (fun k => by rw [laws_wkInts.l0])
  refine Ev.neg (by omega) (Ev.is ?_)
  rw [List.drop_of_length_le (by omega), List.drop_of_length_le (by omega)]
  rfl
 | succ m ih =>
  intro i hd hi
  have hlt : i < a.length := by omega
  have hlt2 : i < b.length := by omega
  refine Ev.go ?_ (fun k => by rw [laws_wkInts.l0])
  refine Ev.pos (by omega) (Ev.pos (by omega) (Ev.pos (by omega) ?_))
  rw [rdn hlt, rdn hlt2, up1 hlt hm, drop_cons hlt, drop_cons hlt2]
  by_cases c : a[i] = b[i]
  ·exact Ev.pos c ((ih (i + 1) (by omega) (by omega)).cast (by rw [c]; simp only [List.cons.injEq, true_and]))
  ·exact Ev.neg c (Ev.is (by simp only [List.cons.injEq, c, false_and]; rfl))
theorem wkInts_ev (a b : List Int) (hm : a.length ≤ maxLen) : Ev (fun k => laws_wkInts.f k a b) (decide (a = b)) := by
 unfold laws_wkInts.f
 by_cases c : a.length = b.length
 ·exact Ev.pos (by omega) (by simpa using wkInts_l a b hm c _ 0 rfl (Nat.zero_le _))
 ·exact Ev.neg (by omega) (Ev.is (by rw [eq_comm]; exact decide_eq_false (fun e => c (by rw [e]))))
theorem wkInts_same (a : List Int) (hm : a.length ≤ maxLen) : Ev (fun k => laws_wkInts.f k a a) true := (wkInts_ev a a hm).cast (by simp)
end Go.Proofs.Ytjiiipmeocageaa.Pure
end
section
set_option linter.unusedSimpArgs false
set_option linter.unusedVariables false
namespace Go.Proofs.Ytjiiipmeocageaa.Pure
open Go.RowKit Go.Proofs.Ytjiiipmeocageaa.Pr Go.Proofs.YtjiiipmeocageaaW.PrintWords Go.Proofs.YtjiiipmeocageaaW.PrintLast Go.Proofs.YtjiiipmeocageaaW.PrintMore
def lst (n : Nat) (F : Nat → Int) : List Int := (List.range n).map F
theorem lst_len (n : Nat) (F : Nat → Int) : (lst n F).length = n := by simp [lst]
theorem lst_nth {n v : Nat} (F : Nat → Int) (h : v < n) : nth (lst n F) v = F v := by
 simp [nth, lst, h]
theorem lst_rd {n v : Nat} (F : Nat → Int) (h : v < n) : rd (lst n F) (v : Int) = F v := by rw [rdg, lst_nth F h]
theorem lst_congr {n : Nat} {F G : Nat → Int} (h : ∀ v, v < n → F v = G v) : lst n F = lst n G := by
 unfold lst
 exact List.map_congr_left (fun v hv => h v (List.mem_range.1 hv))
theorem lst_snoc (n : Nat) (F : Nat → Int) : lst n F ++ [F n] = lst (n + 1) F := by
 simp [lst, List.range_succ]
def upd (F : Nat → Int) (a : Nat) (x : Int) : Nat → Int := fun v => if v = a then x else F v
theorem lst_set {n a : Nat} (F : Nat → Int) (x : Int) : (lst n F).set a x = lst n (upd F a x) := by
 apply List.ext_getElem (by simp [lst])
 intro i h1 h2
 have hi : i < n := by simpa [lst] using h2
 simp only [List.getElem_set]
 by_cases e : a = i
 ·subst e; simp [lst, upd]
 ·simp [lst, upd, e, show ¬ i = a from fun h => e h.symm]
theorem upd_same (F : Nat → Int) (a : Nat) (x : Int) : upd F a x a = x := by simp [upd]
theorem upd_far (F : Nat → Int) {a v : Nat} (x : Int) (h : v ≠ a) : upd F a x v = F v := by simp [upd, h]
inductive Conn (E : Nat → Nat → Prop) : Nat → Nat → Prop
 | refl (v : Nat) : Conn E v v
 | tail {u v w : Nat} : Conn E u v → (E v w ∨ E w v) → Conn E u w
theorem Conn.trans {E : Nat → Nat → Prop} {u v w : Nat} (h : Conn E u v) (k : Conn E v w) : Conn E u w := by
 induction k with
 | refl => exact h
 | tail _ e ih => exact .tail ih e
theorem Conn.one {E : Nat → Nat → Prop} {u v : Nat} (h : E u v ∨ E v u) : Conn E u v := .tail (.refl u) h
theorem Conn.symm {E : Nat → Nat → Prop} {u v : Nat} (h : Conn E u v) : Conn E v u := by
 induction h with
 | refl => exact .refl _
 | tail _ e ih => exact (Conn.one e.symm).trans ih
theorem Conn.mono {E E' : Nat → Nat → Prop} {u v : Nat} (h : Conn E u v) (k : ∀ a b, E a b → E' a b) : Conn E' u v := by
 induction h with
 | refl => exact .refl _
 | tail _ e ih => exact .tail ih (e.imp (k _ _) (k _ _))
noncomputable def cnt (p : Nat → Prop) : Nat → Nat
 | 0 => 0
 | n + 1 => cnt p n + if Bp (p n) = true then 1 else 0
theorem cnt_le (p : Nat → Prop) (n : Nat) : cnt p n ≤ n := by
 induction n with
 | zero => exact Nat.le_refl _
 | succ n ih => simp only [cnt]; split <;> omega
theorem cnt_mono {p q : Nat → Prop} (h : ∀ v, p v → q v) (n : Nat) : cnt p n ≤ cnt q n := by
 induction n with
 | zero => exact Nat.le_refl _
 | succ n ih =>
  simp only [cnt]
  by_cases hp : p n
  ·rw [Bp_true hp, Bp_true (h n hp)]; omega
  ·rw [Bp_false hp]; simp; omega
theorem cnt_lt {p q : Nat → Prop} (h : ∀ v, p v → q v) {n u : Nat} (hu : u < n) (hq : q u) (hp : ¬ p u) : cnt p n < cnt q n := by
 induction n with
 | zero => omega
 | succ n ih =>
  simp only [cnt]
  by_cases e : u = n
  ·subst e
   have := cnt_mono h u
   rw [Bp_false hp, Bp_true hq]
   simp; omega
  ·have := ih (by omega)
   by_cases hp' : p n
   ·rw [Bp_true hp', Bp_true (h n hp')]; omega
   ·rw [Bp_false hp']; simp; omega
theorem cnt_all {p : Nat → Prop} {n : Nat} (h : n ≤ cnt p n) : ∀ v, v < n → p v := by
 induction n with
 | zero => intro v hv; omega
 | succ n ih =>
  intro v hv
  simp only [cnt] at h
  have := cnt_le p n
  by_cases hp : p n
  ·rw [Bp_true hp] at h
   simp at h
   by_cases e : v = n
   ·subst e; exact hp
   ·exact ih h v (by omega)
  ·rw [Bp_false hp] at h
   simp at h
   omega
theorem spread (n : Nat) (f : Nat → Nat → Prop) (mono : ∀ r v, f r v → f (r + 1) v) (lt : ∀ r v, f r v → v < n) (stop : ∀ r, (∀ v, f (r + 1) v → f r v) → ∀ v, f (r + 2) v → f (r + 1) v) (h0 : ∃ v, f 0 v) : ∀ r v, f r v → f (n - 1) v := by
 have monos : ∀ r s v, f r v → f (r + s) v := by
  intro r s v h
  induction s with
  | zero => exact h
  | succ s ih => exact mono _ _ ih
 have stops : ∀ r, (∀ v, f (r + 1) v → f r v) → ∀ s v, f (r + s) v → f r v := by
  intro r h s
  have hs : ∀ s v, f (r + s + 1) v → f (r + s) v := by
   intro s
   induction s with
   | zero => exact h
   | succ s ih => exact stop (r + s) ih
  induction s with
  | zero => exact fun v h => h
  | succ s ih => exact fun v h => ih v (hs s v h)
 have key : ∀ r, (∃ s, s < r ∧ ∀ v, f (s + 1) v → f s v) ∨ r + 1 ≤ cnt (f r) n := by
  intro r
  induction r with
  | zero =>
   right
   obtain ⟨v, hv⟩ := h0
   have := cnt_lt (p := fun _ => False) (q := f 0) (fun _ h => h.elim) (lt 0 v hv) hv (fun h => h)
   omega
  | succ r ih =>
   rcases ih with ⟨s, h1, h2⟩ | ih
   ·exact .inl ⟨s, by omega, h2⟩
   ·by_cases c : ∀ v, f (r + 1) v → f r v
    ·exact .inl ⟨r, by omega, c⟩
    ·right
     have : ∃ v, f (r + 1) v ∧ ¬ f r v := by
      apply Classical.byContradiction
      intro h
      exact c (fun v hv => Classical.byContradiction (fun h' => h ⟨v, hv, h'⟩))
     obtain ⟨v, h1, h2⟩ := this
     have := cnt_lt (mono r) (lt _ v h1) h1 h2
     omega
 intro r v hv
 obtain ⟨u, hu⟩ := h0
 have hn : 0 < n := by have := lt 0 u hu; omega
 rcases key (n - 1) with ⟨s, h1, h2⟩ | h
 ·by_cases c : r ≤ s
  ·have e : n - 1 = r + (n - 1 - r) := by omega
   rw [e]
   exact monos _ _ _ hv
  ·have hs : f s v := by
    have e : r = s + (r - s) := by omega
    rw [e] at hv
    exact stops s h2 _ v hv
   have e : n - 1 = s + (n - 1 - s) := by omega
   rw [e]
   exact monos _ _ _ hs
 ·exact cnt_all (by omega) v (lt _ v hv)
end Go.Proofs.Ytjiiipmeocageaa.Pure
end
section
set_option linter.unusedSimpArgs false
set_option linter.unusedVariables false
set_option linter.unusedSectionVars false
namespace Go.Proofs.Ytjiiipmeocageaa.Pure
open Go.RowKit Go.Proofs.Ytjiiipmeocageaa.Pr Go.Proofs.YtjiiipmeocageaaW.PrintWords Go.Proofs.YtjiiipmeocageaaW.PrintLast Go.Proofs.YtjiiipmeocageaaW.PrintMore
def frm (l : List Arc) (x : List Int) (j : Nat) : Nat := (arc l (nth x j).toNat).f0.toNat
def too (l : List Arc) (x : List Int) (j : Nat) : Nat := (arc l (nth x j).toNat).f1.toNat
def TE (l : List Arc) (x : List Int) (j : Nat) (a b : Nat) : Prop := ∃ i, i < j ∧ a = frm l x i ∧ b = too l x i
structure Parts (n : Nat) (E : Nat → Nat → Prop) (F : Nat → Int) : Prop where
 same : ∀ a b, E a b → F a = F b
 low : ∀ v, v < n → F v ≤ v
 conn : ∀ v, v < n → ∃ u : Nat, F v = u ∧ u < n ∧ Conn E u v
theorem Parts.all {n : Nat} {E : Nat → Nat → Prop} {F : Nat → Int} (h : Parts n E F) {u v : Nat} (c : Conn E u v) : F u = F v := by
 induction c with
 | refl => rfl
 | tail _ e ih => exact ih.trans (e.elim (h.same _ _) (fun e => (h.same _ _ e).symm))
theorem Parts.uniq {n : Nat} {E : Nat → Nat → Prop} {F G : Nat → Int} (hF : Parts n E F) (hG : Parts n E G) : ∀ v, v < n → F v = G v := by
 intro v hv
 obtain ⟨u, e1, h1, c1⟩ := hF.conn v hv
 obtain ⟨w, e2, h2, c2⟩ := hG.conn v hv
 have a1 := hG.low u h1
 have a2 := hF.low w h2
 rw [hG.all c1] at a1
 rw [hF.all c2] at a2
 omega
section
variable {n : Int} {l : List Arc} (hg : NetGood n l) {x : List Int} (hx : ∀ j, j < x.length → 0 ≤ nth x j ∧ nth x j < l.length)
include hg hx
theorem frm_lt {j : Nat} (h : j < x.length) : ((frm l x j : Nat) : Int) = (arc l (nth x j).toNat).f0 ∧ frm l x j < n.toNat := by
 have h1 := hx j h
 have h2 := (hg.ok (nth x j).toNat (by omega)).1
 have := hg.n1
 unfold frm
 omega
theorem too_lt {j : Nat} (h : j < x.length) : ((too l x j : Nat) : Int) = (arc l (nth x j).toNat).f1 ∧ too l x j < n.toNat := by
 have h1 := hx j h
 have h2 := (hg.ok (nth x j).toNat (by omega)).2.1
 have := hg.n1
 unfold too
 omega
end
def stepS (F : Nat → Int) (a b : Nat) : Nat → Int := if F a < F b then upd F b (F a) else upd F a (F b)
def sweepS (l : List Arc) (x : List Int) (F : Nat → Int) : Nat → (Nat → Int)
 | 0 => F
 | i + 1 => stepS (sweepS l x F i) (frm l x i) (too l x i)
def roundS (l : List Arc) (x : List Int) : Nat → (Nat → Int)
 | 0 => fun v => v
 | r + 1 => sweepS l x (roundS l x r) x.length
theorem stepS_at {F : Nat → Int} {a b : Nat} : stepS F a b a ≤ F a ∧ stepS F a b a ≤ F b ∧ stepS F a b b ≤ F a ∧ stepS F a b b ≤ F b ∧ ∀ v, stepS F a b v ≤ F v := by
 unfold stepS
 by_cases h : F a < F b
 ·rw [if_pos h]
  refine ⟨?_, ?_, ?_, ?_, fun v => ?_⟩
  ·by_cases e : a = b
   ·subst e; omega
   ·rw [upd_far _ _ e]; omega
  ·by_cases e : a = b
   ·subst e; omega
   ·rw [upd_far _ _ e]; omega
  ·rw [upd_same]; omega
  ·rw [upd_same]; omega
  ·by_cases e : v = b
   ·subst e; rw [upd_same]; omega
   ·rw [upd_far _ _ e]; omega
 ·rw [if_neg h]
  refine ⟨?_, ?_, ?_, ?_, fun v => ?_⟩
  ·rw [upd_same]; omega
  ·rw [upd_same]; omega
  ·by_cases e : b = a
   ·subst e; rw [upd_same]; omega
   ·rw [upd_far _ _ e]; omega
  ·by_cases e : b = a
   ·subst e; rw [upd_same]; omega
   ·rw [upd_far _ _ e]; omega
  ·by_cases e : v = a
   ·subst e; rw [upd_same]; omega
   ·rw [upd_far _ _ e]; omega
theorem stepS_from {F : Nat → Int} {a b v : Nat} : stepS F a b v = F v ∨ (v = b ∧ stepS F a b v = F a) ∨ (v = a ∧ stepS F a b v = F b) := by
 unfold stepS
 by_cases h : F a < F b
 ·rw [if_pos h]
  by_cases e : v = b
  ·exact .inr (.inl ⟨e, by rw [e, upd_same]⟩)
  ·exact .inl (upd_far _ _ e)
 ·rw [if_neg h]
  by_cases e : v = a
  ·exact .inr (.inr ⟨e, by rw [e, upd_same]⟩)
  ·exact .inl (upd_far _ _ e)
theorem sweepS_le (l : List Arc) (x : List Int) (F : Nat → Int) : ∀ i v, sweepS l x F i v ≤ F v := by
 intro i
 induction i with
 | zero => intro v; exact Int.le_refl _
 | succ i ih => intro v; exact Int.le_trans (stepS_at.2.2.2.2 v) (ih v)
theorem sweepS_anti (l : List Arc) (x : List Int) (F : Nat → Int) (i : Nat) : ∀ s v, sweepS l x F (i + s) v ≤ sweepS l x F i v := by
 intro s
 induction s with
 | zero => intro v; exact Int.le_refl _
 | succ s ih => intro v; exact Int.le_trans (stepS_at.2.2.2.2 v) (ih v)
theorem sweepS_arc (l : List Arc) (x : List Int) (F : Nat → Int) {i : Nat} (hi : i < x.length) : sweepS l x F x.length (frm l x i) ≤ F (too l x i) ∧ sweepS l x F x.length (too l x i) ≤ F (frm l x i) := by
 have e : x.length = (i + 1) + (x.length - (i + 1)) := by omega
 have h1 := sweepS_anti l x F (i + 1) (x.length - (i + 1))
 rw [← e] at h1
 have h2 := sweepS_le l x F i
 have h3 := @stepS_at (sweepS l x F i) (frm l x i) (too l x i)
 constructor
 ·exact Int.le_trans (h1 _) (Int.le_trans h3.2.1 (h2 _))
 ·exact Int.le_trans (h1 _) (Int.le_trans h3.2.2.1 (h2 _))
def Near (l : List Arc) (x : List Int) (n u : Nat) : Nat → Nat → Prop
 | 0, v => v = u ∧ v < n
 | r + 1, v => v < n ∧ (Near l x n u r v ∨ ∃ w, Near l x n u r w ∧ (TE l x x.length w v ∨ TE l x x.length v w))
theorem near_lt {l : List Arc} {x : List Int} {n u : Nat} : ∀ r v, Near l x n u r v → v < n
 | 0, v, h => h.2
 | r + 1, v, h => h.1
theorem near_round {l : List Arc} {x : List Int} {n u : Nat} : ∀ r v, Near l x n u r v → roundS l x r v ≤ u := by
 intro r
 induction r with
 | zero =>
  intro v h
  rw [h.1]
  exact Int.le_refl _
 | succ r ih =>
  intro v h
  rcases h.2 with h | ⟨w, hw, ⟨i, hi, e1, e2⟩ | ⟨i, hi, e1, e2⟩⟩
  ·exact Int.le_trans (sweepS_le l x _ _ v) (ih v h)
  ·have := (sweepS_arc l x (roundS l x r) hi).2
   rw [← e1, ← e2] at this
   exact Int.le_trans this (ih w hw)
  ·have := (sweepS_arc l x (roundS l x r) hi).1
   rw [← e1, ← e2] at this
   exact Int.le_trans this (ih w hw)
section
variable {n : Int} {l : List Arc} (hg : NetGood n l) {x : List Int} (hx : ∀ j, j < x.length → 0 ≤ nth x j ∧ nth x j < l.length)
include hg hx
theorem near_conn {u v : Nat} (hu : u < n.toNat) (c : Conn (TE l x x.length) u v) : Near l x n.toNat u (n.toNat - 1) v := by
 have hr : ∃ r, Near l x n.toNat u r v := by
  induction c with
  | refl => exact ⟨0, rfl, hu⟩
  | tail c e ih =>
   obtain ⟨r, hr⟩ := ih
   refine ⟨r + 1, ?_, .inr ⟨_, hr, e⟩⟩
   rcases e with ⟨i, hi, e1, e2⟩ | ⟨i, hi, e1, e2⟩
   ·rw [e2]; exact (too_lt hg hx hi).2
   ·rw [e1]; exact (frm_lt hg hx hi).2
 obtain ⟨r, hr⟩ := hr
 refine spread n.toNat (Near l x n.toNat u) (fun r v h => ⟨near_lt r v h, .inl h⟩) near_lt (fun r h v hv => ?_) ⟨u, rfl, hu⟩ r v hr
 refine ⟨hv.1, ?_⟩
 rcases hv.2 with hv | ⟨w, hw, e⟩
 ·exact .inl (h v hv)
 ·exact .inr ⟨w, h w hw, e⟩
theorem sweepS_conn (F : Nat → Int) (hF : ∀ v, v < n.toNat → ∃ u : Nat, F v = u ∧ u < n.toNat ∧ Conn (TE l x x.length) u v) : ∀ i, i ≤ x.length → ∀ v, v < n.toNat → ∃ u : Nat, sweepS l x F i v = u ∧ u < n.toNat ∧ Conn (TE l x x.length) u v := by
 intro i
 induction i with
 | zero => exact fun _ => hF
 | succ i ih =>
  intro hi v hv
  have ih := ih (by omega)
  have he : TE l x x.length (frm l x i) (too l x i) := ⟨i, by omega, rfl, rfl⟩
  simp only [sweepS]
  rcases @stepS_from (sweepS l x F i) (frm l x i) (too l x i) v with h | ⟨e, h⟩ | ⟨e, h⟩
  ·rw [h]; exact ih v hv
  ·rw [h]
   obtain ⟨u, h1, h2, h3⟩ := ih _ (frm_lt hg hx (j := i) (by omega)).2
   exact ⟨u, h1, h2, e ▸ .tail h3 (.inl he)⟩
  ·rw [h]
   obtain ⟨u, h1, h2, h3⟩ := ih _ (too_lt hg hx (j := i) (by omega)).2
   exact ⟨u, h1, h2, e ▸ .tail h3 (.inr he)⟩
theorem roundS_conn : ∀ r v, v < n.toNat → ∃ u : Nat, roundS l x r v = u ∧ u < n.toNat ∧ Conn (TE l x x.length) u v := by
 intro r
 induction r with
 | zero => exact fun v hv => ⟨v, rfl, hv, .refl v⟩
 | succ r ih => exact sweepS_conn hg hx _ ih _ (Nat.le_refl _)
theorem roundS_le : ∀ r v, roundS l x r v ≤ v := by
 intro r
 induction r with
 | zero => exact fun v => Int.le_refl _
 | succ r ih => exact fun v => Int.le_trans (sweepS_le l x _ _ v) (ih v)
theorem roundS_anti (r : Nat) : ∀ s v, roundS l x (r + s) v ≤ roundS l x r v := by
 intro s
 induction s with
 | zero => exact fun v => Int.le_refl _
 | succ s ih => exact fun v => Int.le_trans (sweepS_le l x _ _ v) (ih v)
theorem specParts : Parts n.toNat (TE l x x.length) (roundS l x n.toNat) := by
 have h1 := hg.n1
 have least : ∀ u v, u < n.toNat → Conn (TE l x x.length) u v → roundS l x n.toNat v ≤ u := by
  intro u v hu c
  have a := near_round _ _ (near_conn hg hx hu c)
  have b := roundS_anti hg hx (n.toNat - 1) 1 v
  rw [show n.toNat - 1 + 1 = n.toNat by omega] at b
  exact Int.le_trans b a
 refine ⟨fun a b e => ?_, fun v hv => roundS_le hg hx _ v, roundS_conn hg hx _⟩
 have ha : a < n.toNat := by obtain ⟨i, hi, e1, e2⟩ := e; rw [e1]; exact (frm_lt hg hx hi).2
 have hb : b < n.toNat := by obtain ⟨i, hi, e1, e2⟩ := e; rw [e2]; exact (too_lt hg hx hi).2
 obtain ⟨u, e1, h1, c1⟩ := roundS_conn hg hx n.toNat a ha
 obtain ⟨w, e2, h2, c2⟩ := roundS_conn hg hx n.toNat b hb
 have b1 := least u b h1 (.tail c1 (.inl e))
 have b2 := least w a h2 (.tail c2 (.inr e))
 omega
end
def stepI (F : Nat → Int) (a b : Nat) : Nat → Int := fun v => if F v = mx (F a) (F b) then mn (F a) (F b) else F v
def sweepI (l : List Arc) (x : List Int) : Nat → (Nat → Int)
 | 0 => fun v => v
 | i + 1 => stepI (sweepI l x i) (frm l x i) (too l x i)
theorem stepI_ends (F : Nat → Int) (a b : Nat) : stepI F a b a = stepI F a b b := by
 have e1 : mx (F a) (F b) = max (F a) (F b) := by unfold mx; omega
 have e2 : mn (F a) (F b) = min (F a) (F b) := by unfold mn; omega
 unfold stepI
 rw [e1, e2]
 split <;> split <;> omega
section
variable {n : Int} {l : List Arc} (hg : NetGood n l) {x : List Int} (hx : ∀ j, j < x.length → 0 ≤ nth x j ∧ nth x j < l.length)
include hg hx
theorem implParts_to : ∀ i, i ≤ x.length → Parts n.toNat (TE l x i) (sweepI l x i) := by
 intro i
 induction i with
 | zero =>
  intro _
  exact ⟨fun a b ⟨j, hj, _⟩ => absurd hj (by omega), fun v _ => Int.le_refl _, fun v hv => ⟨v, rfl, hv, .refl v⟩⟩
 | succ i ih =>
  intro hi
  have ih := ih (by omega)
  have ha := (frm_lt hg hx (j := i) (by omega)).2
  have hb := (too_lt hg hx (j := i) (by omega)).2
  have up : ∀ a b, TE l x i a b → TE l x (i + 1) a b := fun a b ⟨j, hj, e⟩ => ⟨j, by omega, e⟩
  have he : TE l x (i + 1) (frm l x i) (too l x i) := ⟨i, by omega, rfl, rfl⟩
  refine ⟨fun a b ⟨j, hj, e1, e2⟩ => ?_, fun v hv => ?_, fun v hv => ?_⟩
  ·by_cases e : j = i
   ·subst e
    rw [e1, e2]
    exact stepI_ends _ _ _
   ·have := ih.same a b ⟨j, by omega, e1, e2⟩
    simp only [sweepI, stepI, this]
  ·have h1 := ih.low v hv
   simp only [sweepI, stepI]
   split
   ·rename_i c
    have : mn (sweepI l x i (frm l x i)) (sweepI l x i (too l x i)) ≤ mx (sweepI l x i (frm l x i)) (sweepI l x i (too l x i)) := by unfold mn mx; omega
    omega
   ·exact h1
  ·obtain ⟨u, e1, h1, c1⟩ := ih.conn v hv
   obtain ⟨p, ep, hp, cp⟩ := ih.conn _ ha
   obtain ⟨q, eq, hq, cq⟩ := ih.conn _ hb
   have c1 := c1.mono up
   have cp := cp.mono up
   have cq := cq.mono up
   have link : Conn (TE l x (i + 1)) p q := (Conn.tail cp (.inl he)).trans cq.symm
   simp only [sweepI, stepI]
   by_cases c : sweepI l x i v = mx (sweepI l x i (frm l x i)) (sweepI l x i (too l x i))
   ·rw [if_pos c]
    rw [ep, eq] at c ⊢
    by_cases hpq : p < q
    ·refine ⟨p, by unfold mn; omega, hp, ?_⟩
     have : u = q := by unfold mx at c; omega
     subst this
     exact link.trans c1
    ·refine ⟨q, by unfold mn; omega, hq, ?_⟩
     have : u = p := by unfold mx at c; omega
     subst this
     exact link.symm.trans c1
   ·rw [if_neg c]
    exact ⟨u, e1, h1, c1⟩
end
section
variable {n : Int} {l : List Arc} (hg : NetGood n l) {x : List Int} (hx : ∀ j, j < x.length → 0 ≤ nth x j ∧ nth x j < l.length) (hm : x.length ≤ 35184372088832)
include hg hx hm
theorem rdx {j : Nat} (h : j < x.length) : rd x (j : Int) = (((nth x j).toNat : Nat) : Int) ∧ (nth x j).toNat < l.length := by
 have := hx j h
 rw [rdg]
 omega
theorem specParts_l2 (r : Nat) (hr : r < n.toNat) (F : Nat → Int) {res : List Int} (next : Ev (fun k => spec_l23Parts.l1 k x (lst n.toNat (sweepS l x F x.length)) ((r + 1 : Nat) : Int) n l) res) : ∀ (m i : Nat), x.length - i = m → i ≤ x.length → Ev (fun k => spec_l23Parts.l2 k x (lst n.toNat (sweepS l x F i)) (r : Int) (i : Int) n l) res := by
 intro m
 have h1 := hg.n1
 have h8 := hg.n8
 induction m with
 | zero =>
  intro i hd hi
  have e : i = x.length := by omega
  subst e
  refine Ev.go ?_ (fun k => by rw [spec_l23Parts.l2])
  rw [up1 (i := r) (n := n.toNat) hr (by simp only [maxLen]; omega)]
  exact Ev.neg (by omega) next
 | succ m ih =>
  intro i hd hi
  have hlt : i < x.length := by omega
  have hn := ih (i + 1) (by omega) (by omega)
  rw [← up1 hlt (by simp only [maxLen]; omega)] at hn
  obtain ⟨e0, hj⟩ := rdx hg hx hm hlt
  obtain ⟨ef, hf⟩ := frm_lt hg hx hlt
  obtain ⟨et, ht⟩ := too_lt hg hx hlt
  refine Ev.go ?_ (fun k => by rw [spec_l23Parts.l2])
  rw [e0, rda, ← ef, ← et, lst_len, lst_rd _ hf, lst_rd _ ht]
  refine Ev.pos (by omega) (Ev.pos (by omega) (Ev.pos (by omega) (Ev.pos (by omega) (Ev.pos (by omega) (Ev.pos (by omega) (Ev.pos (by omega) (Ev.pos (by omega) ?_)))))))
  simp only [Int.toNat_natCast, lst_set]
  simp only [sweepS, stepS] at hn
  by_cases c : sweepS l x F i (frm l x i) < sweepS l x F i (too l x i)
  ·rw [if_pos c] at hn
   exact Ev.pos c hn
  ·rw [if_neg c] at hn
   exact Ev.neg c hn
theorem specParts_l1 : ∀ (m r : Nat), n.toNat - r = m → r ≤ n.toNat → Ev (fun k => spec_l23Parts.l1 k x (lst n.toNat (roundS l x r)) (r : Int) n l) (lst n.toNat (roundS l x n.toNat)) := by
 have h1 := hg.n1
 intro m
 induction m with
 | zero =>
  intro r hd hr
  have e : r = n.toNat := by omega
  subst e
  refine Ev.go ?_ (fun k => by rw [spec_l23Parts.l1])
  exact Ev.neg (by omega) (Ev.now _)
 | succ m ih =>
  intro r hd hr
  refine Ev.go ?_ (fun k => by rw [spec_l23Parts.l1])
  refine Ev.pos (by omega) ?_
  exact specParts_l2 hg hx hm r (by omega) (roundS l x r) (ih (r + 1) (by omega) (by omega)) _ 0 rfl (Nat.zero_le _)
theorem specParts_l0 : ∀ (m i : Nat), n.toNat - i = m → i ≤ n.toNat → Ev (fun k => spec_l23Parts.l0 k x (lst i (fun v => v)) (i : Int) n l) (lst n.toNat (roundS l x n.toNat)) := by
 have h1 := hg.n1
 have h8 := hg.n8
 intro m
 induction m with
 | zero =>
  intro i hd hi
  have e : i = n.toNat := by omega
  subst e
  refine Ev.go ?_ (fun k => by rw [spec_l23Parts.l0])
  exact Ev.neg (by omega) (specParts_l1 hg hx hm _ 0 rfl (Nat.zero_le _))
 | succ m ih =>
  intro i hd hi
  have hlt : i < n.toNat := by omega
  refine Ev.go ?_ (fun k => by rw [spec_l23Parts.l0])
  rw [up1 hlt (by simp only [maxLen]; omega), lst_snoc i (fun v => (v : Int))]
  exact Ev.pos (by omega) (Ev.pos (by rw [lst_len]; omega) (ih (i + 1) (by omega) (by omega)))
theorem specParts_ev : Ev (fun k => spec_l23Parts.f k n l x) (lst n.toNat (roundS l x n.toNat)) := specParts_l0 hg hx hm _ 0 rfl (Nat.zero_le _)
theorem implParts_l2 (i : Nat) (hi : i < x.length) {res : List Int} (next : Ev (fun k => impl_Net_joined.l1 k (lst n.toNat (sweepI l x (i + 1))) x (x.length : Int) ((i + 1 : Nat) : Int) n l) res) : ∀ (m v : Nat), n.toNat - v = m → v ≤ n.toNat → Ev (fun k => impl_Net_joined.l2 k (lst n.toNat (fun u => if u < v then sweepI l x (i + 1) u else sweepI l x i u)) (sweepI l x i (frm l x i)) (sweepI l x i (too l x i)) x (x.length : Int) (i : Int) (n.toNat : Int) (v : Int) n l) res := by
 intro m
 have h1 := hg.n1
 have h8 := hg.n8
 induction m with
 | zero =>
  intro v hd hv
  have e : v = n.toNat := by omega
  subst e
  refine Ev.go ?_ (fun k => by rw [impl_Net_joined.l2])
  rw [up1 hi (by simp only [maxLen]; omega), lst_congr (G := sweepI l x (i + 1)) (fun u hu => if_pos hu)]
  exact Ev.neg (by omega) next
 | succ m ih =>
  intro v hd hv
  have hlt : v < n.toNat := by omega
  have hn := ih (v + 1) (by omega) (by omega)
  rw [← up1 (i := v) (n := n.toNat) hlt (by simp only [maxLen]; omega)] at hn
  refine Ev.go ?_ (fun k => by rw [impl_Net_joined.l2])
  rw [lst_len, lst_rd _ hlt, if_neg (Nat.lt_irrefl v)]
  refine Ev.pos (by omega) (Ev.pos (by omega) (Ev.pos (by omega) ?_))
  simp only [Int.toNat_natCast, lst_set]
  by_cases c : sweepI l x i v = mx (sweepI l x i (frm l x i)) (sweepI l x i (too l x i))
  ·refine Ev.pos c ?_
   rw [lst_congr (n := n.toNat) (F := upd _ v _) (G := fun u => if u < v + 1 then sweepI l x (i + 1) u else sweepI l x i u) ?_]
   ·exact hn
   ·intro u hu
    by_cases e : u = v
    ·subst e
     rw [upd_same, if_pos (Nat.lt_succ_self _)]
     simp only [sweepI, stepI]
     rw [if_pos c]
    ·rw [upd_far _ _ e]
     by_cases h : u < v
     ·rw [if_pos h, if_pos (by omega)]
     ·rw [if_neg h, if_neg (by omega)]
  ·refine Ev.neg c ?_
   rw [lst_congr (n := n.toNat) (G := fun u => if u < v + 1 then sweepI l x (i + 1) u else sweepI l x i u) ?_]
   ·exact hn
   ·intro u hu
    by_cases e : u = v
    ·subst e
     rw [if_neg (Nat.lt_irrefl u), if_pos (Nat.lt_succ_self _)]
     simp only [sweepI, stepI]
     rw [if_neg c]
    ·by_cases h : u < v
     ·rw [if_pos h, if_pos (by omega)]
     ·rw [if_neg h, if_neg (by omega)]
theorem implParts_l1 : ∀ (m i : Nat), x.length - i = m → i ≤ x.length → Ev (fun k => impl_Net_joined.l1 k (lst n.toNat (sweepI l x i)) x (x.length : Int) (i : Int) n l) (lst n.toNat (sweepI l x x.length)) := by
 intro m
 have h1 := hg.n1
 have h8 := hg.n8
 induction m with
 | zero =>
  intro i hd hi
  have e : i = x.length := by omega
  subst e
  refine Ev.go ?_ (fun k => by rw [impl_Net_joined.l1])
  exact Ev.neg (by omega) (Ev.now _)
 | succ m ih =>
  intro i hd hi
  have hlt : i < x.length := by omega
  have hn := ih (i + 1) (by omega) (by omega)
  obtain ⟨e0, hj⟩ := rdx hg hx hm hlt
  obtain ⟨ef, hf⟩ := frm_lt hg hx hlt
  obtain ⟨et, ht⟩ := too_lt hg hx hlt
  refine Ev.go ?_ (fun k => by rw [impl_Net_joined.l1])
  rw [e0, rda, ← ef, ← et, lst_len, lst_rd _ hf, lst_rd _ ht]
  refine Ev.pos (by omega) (Ev.pos (by omega) (Ev.pos (by omega) (Ev.pos (by omega) (Ev.pos (by omega) (Ev.pos (by omega) (Ev.pos (by omega) (Ev.pos (by omega) (Ev.pos (by omega) ?_))))))))
  have := implParts_l2 hg hx hm i hlt hn _ 0 rfl (Nat.zero_le _)
  rw [lst_congr (G := sweepI l x i) (fun u hu => if_neg (Nat.not_lt_zero u))] at this
  exact this
theorem implParts_l0 : ∀ (m i : Nat), n.toNat - i = m → i ≤ n.toNat → Ev (fun k => impl_Net_joined.l0 k x (lst i (fun v => v)) n (i : Int) n l) (lst n.toNat (sweepI l x x.length)) := by
 have h1 := hg.n1
 have h8 := hg.n8
 intro m
 induction m with
 | zero =>
  intro i hd hi
  have e : i = n.toNat := by omega
  subst e
  refine Ev.go ?_ (fun k => by rw [impl_Net_joined.l0])
  exact Ev.neg (by omega) (implParts_l1 hg hx hm _ 0 rfl (Nat.zero_le _))
 | succ m ih =>
  intro i hd hi
  have hlt : i < n.toNat := by omega
  refine Ev.go ?_ (fun k => by rw [impl_Net_joined.l0])
  rw [up1 hlt (by simp only [maxLen]; omega), lst_snoc i (fun v => (v : Int))]
  exact Ev.pos (by omega) (Ev.pos (by rw [lst_len]; omega) (ih (i + 1) (by omega) (by omega)))
theorem implParts_ev : Ev (fun k => impl_Net_joined.f k n l x) (lst n.toNat (roundS l x n.toNat)) := by
 have h1 := hg.n1
 have h8 := hg.n8
 unfold impl_Net_joined.f
 refine Ev.pos (by omega) (Ev.pos (by omega) ((implParts_l0 hg hx hm _ 0 rfl (Nat.zero_le _)).cast ?_))
 exact lst_congr (fun v hv => (implParts_to hg hx _ (Nat.le_refl _)).uniq (specParts hg hx) v hv)
end
end Go.Proofs.Ytjiiipmeocageaa.Pure
end
section
set_option linter.unusedSimpArgs false
set_option linter.unusedVariables false
namespace Go.Proofs.Ytjiiipmeocageaa.Pure
open Go.RowKit Go.Proofs.Ytjiiipmeocageaa.Pr Go.Proofs.YtjiiipmeocageaaW.PrintWords Go.Proofs.YtjiiipmeocageaaW.PrintLast Go.Proofs.YtjiiipmeocageaaW.PrintMore
def arcsB (n : Int) (l : List Arc) (x : List Int) : Bool := netOkB n l && decide ((x.length : Int) ≤ 16) && x.all (okN (l.length : Int))
theorem arcsB_iff (n : Int) (l : List Arc) (x : List Int) : arcsB n l x = true ↔ NetGood n l ∧ x.length ≤ 16 ∧ ∀ j, j < x.length → 0 ≤ nth x j ∧ nth x j < l.length := by
 simp only [arcsB, Bool.and_eq_true, netOkB_iff, decide_eq_true_eq, List.all_eq_true, okN]
 constructor
 ·rintro ⟨⟨h1, h2⟩, h3⟩
  refine ⟨h1, by omega, fun j hj => ?_⟩
  have := h3 _ (getD_mem hj)
  omega
 ·rintro ⟨h1, h2, h3⟩
  refine ⟨⟨h1, by omega⟩, fun c hc => ?_⟩
  obtain ⟨j, hj, rfl⟩ := mem_getD hc
  have := h3 j hj
  omega
def treeV (n : Int) (l : List Arc) (x : List Int) : List Int := if arcsB n l x = true then lst n.toNat (roundS l x n.toNat) else []
theorem treeV_len (n : Int) (l : List Arc) (x : List Int) : (treeV n l x).length ≤ 8 := by
 unfold treeV
 by_cases h : arcsB n l x = true
 ·rw [if_pos h, lst_len]
  have := ((arcsB_iff n l x).1 h).1.n8
  omega
 ·rw [if_neg h]; simp
theorem implTree_ev (n : Int) (l : List Arc) (x : List Int) : Ev (fun k => impl_TreeParts.f k n l x) (treeV n l x) := by
 unfold impl_TreeParts.f
 refine Ev.bind0 (show impl_arcsOk.f n l x = some (arcsB n l x) from rfl) ?_
 unfold treeV
 cases h : arcsB n l x with
 | false => exact Ev.neg (by simp) (Ev.is (by simp))
 | true =>
  obtain ⟨hg, h16, hx⟩ := (arcsB_iff n l x).1 h
  rw [if_pos rfl]
  exact Ev.pos rfl (Ev.bind (implParts_ev hg hx (by omega)) (Ev.now _))
theorem specTree_l (n : Int) (l : List Arc) (x : List Int) (hl : l.length ≤ maxLen) (hm : x.length ≤ maxLen) : ∀ (m i : Nat), x.length - i = m → i ≤ x.length → (∀ j, j < i → okN (l.length : Int) (nth x j) = true) → Ev (fun k => spec_TreeParts.l0 k x (i : Int) n l) (treeV n l x) := by
 have hl2 := hl
 simp only [maxLen] at hl2
 intro m
 induction m with
 | zero =>
  intro i hd hi hok
  have e : i = x.length := by omega
  subst e
  have hall : x.all (okN (l.length : Int)) = true := List.all_eq_true.2 (fun c hc => by
   obtain ⟨j, hj, rfl⟩ := mem_getD hc
   exact hok j hj)
  refine Ev.go ?_ (fun k => by rw [spec_TreeParts.l0])
  refine Ev.neg (by omega) (Ev.bind (l1Ok_ev n l hl) ?_)
  unfold treeV
  have hb : arcsB n l x = (netOkB n l && decide ((x.length : Int) ≤ 16)) := by unfold arcsB; rw [hall, Bool.and_true]
  cases h : netOkB n l with
  | false => exact Ev.neg (by simp) (Ev.is (by rw [hb, h]; simp))
  | true =>
   refine Ev.pos rfl ?_
   by_cases h16 : (x.length : Int) > 16
   ·exact Ev.pos h16 (Ev.is (by rw [hb, h]; simp; omega))
   ·have ht : arcsB n l x = true := by rw [hb, h]; simp; omega
    obtain ⟨hg, h17, hx⟩ := (arcsB_iff n l x).1 ht
    rw [if_pos ht]
    exact Ev.neg h16 (Ev.bind (specParts_ev hg hx (by omega)) (Ev.now _))
 | succ m ih =>
  intro i hd hi hok
  have hlt : i < x.length := by omega
  refine Ev.go ?_ (fun k => by rw [spec_TreeParts.l0])
  refine Ev.pos (by omega) (Ev.pos (by omega) (Ev.bind0 (in1 _ _ _) ?_))
  rw [rdg i, w64 (by omega) (by omega)]
  change Ev (fun k => if okN (l.length : Int) (nth x i) = true then _ else _) _
  cases h : okN (l.length : Int) (nth x i) with
  | false =>
   refine Ev.neg (by simp) (Ev.is ?_)
   unfold treeV
   rw [if_neg]
   intro hb
   have := ((arcsB_iff n l x).1 hb).2.2 i hlt
   have : okN (l.length : Int) (nth x i) = true := by simp only [okN, Bool.and_eq_true, decide_eq_true_eq]; omega
   rw [h] at this
   simp at this
  | true =>
   refine Ev.pos rfl ?_
   rw [up1 hlt hm]
   refine ih (i + 1) (by omega) (by omega) (fun j hj => ?_)
   by_cases e : j = i
   ·subst e; exact h
   ·exact hok j (by omega)
theorem specTree_ev (n : Int) (l : List Arc) (x : List Int) (hl : l.length ≤ maxLen) (hm : x.length ≤ maxLen) : Ev (fun k => spec_TreeParts.f k n l x) (treeV n l x) :=
 specTree_l n l x hl hm _ 0 rfl (Nat.zero_le _) (fun j h => absurd h (by omega))
end Go.Proofs.Ytjiiipmeocageaa.Pure
end
section
set_option linter.unusedSimpArgs false
set_option linter.unusedVariables false
set_option linter.unusedSectionVars false
namespace Go.Proofs.Ytjiiipmeocageaa.Pure
open Go.RowKit Go.Proofs.Ytjiiipmeocageaa.Pr Go.Proofs.YtjiiipmeocageaaW.PrintWords Go.Proofs.YtjiiipmeocageaaW.PrintLast Go.Proofs.YtjiiipmeocageaaW.PrintMore
theorem drawParts_l {b : List Int} (h : Rdr b) (n : Int) (l : List Arc) (hl : l.length ≤ 13) : ∀ (m : Nat) (p : Int) (x : List Int), (0 ≤ p ∧ p + m ≤ 100000) → m ≤ 5 → x.length + m ≤ 5 → Pv (fun k => spec_DrawTreeParts.l0 k x (m : Int) b p n l) (fun r => r.1 = n ∧ r.2.1 = l ∧ r.2.2.length ≤ 6) := by
 intro m
 induction m with
 | zero =>
  intro p x hp hm hx
  refine Pv.go ?_ (fun k => by rw [spec_DrawTreeParts.l0])
  refine Pv.neg (by omega) (Pv.bind (pick_pv h (by omega) (by omega)) (fun r1 ⟨a1, e1⟩ => ?_))
  exact Pv.ite (fun _ => Pv.pos (by omega) (Pv.now ⟨rfl, rfl, by simp; omega⟩)) (fun _ => Pv.now ⟨rfl, rfl, by dsimp only; omega⟩)
 | succ m ih =>
  intro p x hp hm hx
  refine Pv.go ?_ (fun k => by rw [spec_DrawTreeParts.l0])
  have w2 : wrap64 (((m + 1 : Nat) : Int) - 1) = (m : Int) := by rw [w64 (by omega) (by omega)]; omega
  rw [w2]
  refine Pv.pos (by omega) (Pv.ite (fun _ => ?_) (fun _ => ?_))
  ·exact Pv.bind (pick_pv h (by omega) (by omega)) (fun r1 ⟨a1, e1⟩ => Pv.pos (by omega) (ih r1.2 (x ++ [r1.1]) (by omega) (by omega) (by simp; omega)))
  ·refine Pv.bind (pick_pv h (by omega) (by omega)) (fun r1 ⟨a1, e1⟩ => ?_)
   exact Pv.ite (fun _ => Pv.pos (by omega) (Pv.now ⟨rfl, rfl, by simp; omega⟩)) (fun _ => Pv.now ⟨rfl, rfl, by dsimp only; omega⟩)
theorem drawParts_pv {x : List Int} (hx : ∀ c ∈ x, (Lit.int .u8 c).wf = true) : Pv (fun k => spec_DrawTreeParts.f k x) (fun r => r.2.1.length ≤ 13 ∧ r.2.2.length ≤ 6) := by
 unfold spec_DrawTreeParts.f
 obtain ⟨b, e, hb⟩ := open_pv hx
 refine Pv.bind0 e (Pv.bind (anyNet_pv hb (p := 0) (by omega) (by omega)) (fun r1 h1 => Pv.bind (pick_pv hb (p := r1.2.2) (by have := h1.2.2; omega) (by have := h1.2.2; omega)) (fun r2 ⟨a2, e2⟩ => ?_)))
 have b2 := a2.2.2 (by omega)
 have h3 := h1.2.2
 have := drawParts_l hb r1.1 r1.2.1 h1.2.1 r2.1.toNat r2.2 [] (by omega) (by omega) (by simp; omega)
 rw [Int.toNat_of_nonneg a2.1] at this
 exact this.mono (fun r hr => ⟨by rw [hr.2.1]; exact h1.2.1, hr.2.2⟩)
section
variable {n : Int} {l : List Arc} (hg : NetGood n l) {x : List Int} (hx : ∀ j, j < x.length → 0 ≤ nth x j ∧ nth x j < l.length) (hxl : x.length ≤ 16)
include hg hx hxl
theorem roundS_nil (v : Nat) : ∀ r, roundS l [] r v = v := by
 intro r
 induction r with
 | zero => rfl
 | succ r ih => exact ih
theorem treeKinds : ∀ (m k : Nat), n.toNat - k = m → k ≤ n.toNat → Ev (fun q => laws_FnTreeParts.l1 q (lst n.toNat (roundS l x n.toNat)) (lst n.toNat (fun v => v)) (k : Int) n l) true := by
 have h1 := hg.n1
 have h8 := hg.n8
 have P := specParts hg hx
 intro m
 induction m with
 | zero =>
  intro k hd hk
  refine Ev.go ?_ (fun k => by rw [laws_FnTreeParts.l1])
  exact Ev.neg (by omega) (Ev.now _)
 | succ m ih =>
  intro k hd hk
  have hlt : k < n.toNat := by omega
  refine Ev.go ?_ (fun k => by rw [laws_FnTreeParts.l1])
  obtain ⟨u, e1, h2, c⟩ := P.conn k hlt
  have low := P.low k hlt
  have hu := P.all c
  rw [up1 hlt (by simp only [maxLen]; omega), lst_rd _ hlt, e1, lst_rd _ h2, lst_rd _ hlt]
  simp only [lst_len]
  rw [e1] at hu low
  exact Ev.pos (by omega) (Ev.pos (by omega) (Ev.pos (by omega) (Ev.neg (by omega) (Ev.pos (by omega) (Ev.pos (by omega) (Ev.pos hu (Ev.pos (by omega) (Ev.pos trivial (ih (k + 1) (by omega) (by omega))))))))))
theorem treeArcs : ∀ (m i : Nat), x.length - i = m → i ≤ x.length → Ev (fun q => laws_FnTreeParts.l0 q x (lst n.toNat (roundS l x n.toNat)) (i : Int) n l) true := by
 have h1 := hg.n1
 have h8 := hg.n8
 have P := specParts hg hx
 intro m
 induction m with
 | zero =>
  intro i hd hi
  refine Ev.go ?_ (fun k => by rw [laws_FnTreeParts.l0])
  refine Ev.neg (by omega) (Ev.bind (implTree_ev n l []) ?_)
  have e : treeV n l [] = lst n.toNat (fun v => v) := by
   unfold treeV
   rw [if_pos ((arcsB_iff n l []).2 ⟨hg, by simp, fun j hj => by simp at hj⟩)]
   exact lst_congr (fun v _ => roundS_nil hg hx hxl v _)
  rw [e]
  exact treeKinds hg hx hxl _ 0 rfl (Nat.zero_le _)
 | succ m ih =>
  intro i hd hi
  have hlt : i < x.length := by omega
  refine Ev.go ?_ (fun k => by rw [laws_FnTreeParts.l0])
  have h2 := hx i hlt
  have hf := frm_lt hg hx hlt
  have ht := too_lt hg hx hlt
  have er : rd x (i : Int) = (((nth x i).toNat : Nat) : Int) := by rw [rdg]; omega
  have same := P.same _ _ ⟨i, hlt, rfl, rfl⟩
  rw [er, rda, ← hf.1, ← ht.1, lst_rd _ hf.2, lst_rd _ ht.2, up1 hlt (by simp only [maxLen]; omega)]
  simp only [lst_len]
  exact Ev.pos (by omega) (Ev.pos (by omega) (Ev.pos (by omega) (Ev.pos (by omega) (Ev.pos (by omega) (Ev.pos (by omega) (Ev.pos (by omega) (Ev.pos (by omega) (Ev.pos same (ih (i + 1) (by omega) (by omega))))))))))
end
theorem FnTreeParts : laws_FnTreeParts.Asked := by
 intro c hc
 refine Pv.rounds ?_
 unfold laws_FnTreeParts.f
 refine Pv.ite (fun _ => Pv.now rfl) (fun _ => Pv.bind (drawParts_pv hc.2) (fun r ⟨h1, h2⟩ => ?_))
 obtain ⟨n, l, x⟩ := r
 dsimp only at h1 h2 ⊢
 have hi := implTree_ev n l x
 have hs := specTree_ev n l x (by simp only [maxLen]; omega) (by simp only [maxLen]; omega)
 have hlen := treeV_len n l x
 have hw := wkInts_same (treeV n l x) (by simp only [maxLen]; omega)
 refine Pv.of (Ev.bind hi (Ev.bind hs (Ev.bind hw (Ev.pos rfl (Ev.go (r := true) ?_ (fun k => by rw [laws_FnTreeParts.j0])))))) rfl
 cases hb : arcsB n l x with
 | false =>
  have e : treeV n l x = [] := by unfold treeV; rw [hb]; rfl
  rw [e] at hs hw ⊢
  exact Ev.pos rfl (Ev.bind hs (Ev.bind hw (Ev.now _)))
 | true =>
  obtain ⟨hg, h16, hx⟩ := (arcsB_iff n l x).1 hb
  have e : treeV n l x = lst n.toNat (roundS l x n.toNat) := by unfold treeV; rw [hb]; rfl
  have := hg.n1
  rw [e]
  refine Ev.neg ?_ (treeArcs hg hx h16 _ 0 rfl (Nat.zero_le _))
  rw [lst_len]
  simp
  omega
end Go.Proofs.Ytjiiipmeocageaa.Pure
end
section
namespace Go.Proofs.Ytjiiipmeocageaa.fnTreeParts
open Go.ChangeShapes Go.WideShapes Go.ChangeAt Go.RowKit Go.Proofs.YtjiiipmeocageaaW.PrintWords Go.Proofs.Ytjiiipmeocageaa.Pr
open Go.ChangeMaps (open_string shut_string)
set_option linter.unusedVariables false
set_option linter.unusedSimpArgs false
theorem own : ownKnob Try.prog.godebug = none := by kernel_rfl
theorem laidOut : laidOutB Try.prog = true := by kernel_rfl
theorem opens0 : Opens Try.prog (Kd.slice 5 (Kd.int .u8)) 45 (fun l => l.length ≤ maxLen ∧ ∀ x ∈ l, (fun n => (Lit.int .u8 n).wf = true) x) := (opens_slice (P := Try.prog) Try.underlying45 (by kernel_rfl) (opens_int (P := Try.prog) (k := .u8) Try.underlying5))
set_option maxRecDepth 100000 in
set_option maxHeartbeats 2000000 in
theorem lifted (os : Os) (started : os.Started) (H : Type) (enc : TypeId × Value → H) :
  ReturnsInHanded {} Try.checked os 7 .any (Rows.fnTreePartsSpec.pre6 enc Try.prog Try.f7 Rows.fnTreePartsRow.domain false) (Rows.fnTreePartsSpec.post enc Try.prog Try.f7 false true false false) := by
 refine returnsInHanded_of_change_sized (C := Try.checked) own started (by kernel_rfl) Try.func7
  (ChangeSpec.witness6 (enc := enc) (C := Try.checked) false ⟨#[], #[(.slice none 0 0)], []⟩ 8 (by kernel_rfl) (by kernel_rfl) (by kernel_rfl) (by kernel_rfl)) ?_
 intro W base args ds gs before hval0 hW hcnd hsz0 _
 have hval : ∀ (j : Nat) t v, Try.f7.params[j]? = some t → args[j]? = some v → Value.okWide Try.prog W .any base t v := hval0
 have hW' := hW
 obtain ⟨p, q, hA0, hV, rfl, hfz, hnd⟩ := hW
 have hA : DataW.TrodAll enc Try.prog W 0 (fun _ => true) true Try.f7.params.toList args.toList ds p := hA0
 rw [Try.params7] at hA hval
 obtain ⟨v0, vs0, d0, ds0, p0, q0, hargs, rfl, rfl, h0, r0⟩ := trodAll_cons hA
 obtain ⟨rfl, rfl, rfl⟩ := trodAll_nil r0
 obtain rfl : args = #[v0] := by cases args; simp_all
 obtain ⟨rfl, rfl⟩ := trodVars_none hV
 have k0 := h0
 have lt0 : ∀ x ∈ p0, x.block < W.heap.size := by obtain ⟨m, hm⟩ := k0; exact DataW.trod_lt m _ _ _ hm
 obtain ⟨a0, len0, cap0, rfl⟩ := okWide_slice Try.underlying45 (hval 0 45 v0 rfl rfl)
 obtain ⟨fuel0, hf0⟩ := h0
 obtain ⟨l0, ⟨A0, c0, e0, hc0, hr0⟩, w0⟩ := opens0 hf0
 have e0' : (Value.slice a0 len0 cap0) = .slice A0 l0.length c0 := (List.cons.inj e0).1
 injection e0' with e0a e0b e0c
 subst e0a e0b e0c
 obtain ⟨k, hh⟩ := Pure.FnTreeParts l0 w0
 refine (laws_FnTreeParts.calls k _ _ l0 true W hr0 hc0 hh).mono fun e W' ⟨he, bel0⟩ => ?_
 have bel : Below W.heap.size W W' := bel0
 subst he
 exact ⟨_, rfl, _, _, _, [], _, [], hW', trodAll_mk1 (shut_bool Try.underlying4 _), (trodAll_cons_mk (Below.trod laidOut (by kernel_rfl) (of_decide_eq_true (by kernel_rfl)) k0 bel lt0) trodAll_mk0), rfl, bel.frame _, fun h => by cases h⟩
theorem over : Rows.fnTreePartsRow.holds Try.pinned (OpenSpec.ofChange Rows.fnTreePartsSpec) :=
 OpenClaim.holds_of_wide 7 Try.f7 rfl rfl rfl rfl rfl rfl rfl ⟨rfl, rfl, rfl, rfl, rfl⟩ rfl rfl rfl rfl rfl (by kernel_rfl) Try.func7 (by kernel_rfl)
  (of_decide_eq_true (by kernel_rfl)) (by unfold Func.isWrapper; first | (rw [if_pos (by decide +kernel)]; kernel_rfl) | (rw [if_neg (by decide +kernel)]; exact ⟨rfl, rfl⟩))
  (fun os started H enc _ => lifted os started H enc)
theorem proved : Rows.FnTreePartsSaid := over
#print axioms proved
end Go.Proofs.Ytjiiipmeocageaa.fnTreeParts
namespace Go.Proofs.Ytjiiipmeocageaa
theorem fnTreeParts_holds : Rows.FnTreePartsSaid := fnTreeParts.proved
end Go.Proofs.Ytjiiipmeocageaa
end
