/- For the statement FnRingLong of this seat: it is proved here, with no further conditions (part 5 of its texts: words, walks of the functions, the plain law, the row). -/
import Derived.Test.YtmabopomecdidaaKFnRingLong3
section
namespace Go.Proofs.Ytmabopomecdidaa.Pr
open Go.RowKit Go.Proofs.YtmabopomecdidaaW.PrintWords Go.Proofs.YtmabopomecdidaaW.PrintLast Go.Proofs.YtmabopomecdidaaW.PrintMore
attribute [local go_sem] max2_int min2_int max_two min_two max_three min_three max_four min_four
set_option linter.unusedVariables false
set_option linter.unusedSimpArgs false
abbrev Y83 := true
abbrev N83 := false
mutual
def impl_RingLong.l0 : Nat → List Int → List Int → Int → Int → Int → List (S45) → Option (Int)
 | 0, _, _, _, _, _, _ => none
 | k + 1, x3, x5, x21, x22, q5, p9 => if x22 < x21 then (if 0 ≤ x22 then (if x22 < (x3.length : Int) then (impl_RingLong.l1 k x3 x5 (rd x3 x22) x21 x22 p9 (p9.length : Int) 0 q5 p9) else (none)) else (none)) else ((slices_Max_int_int.f x5).bind fun t678 => (some t678))
def impl_RingLong.l1 : Nat → List Int → List Int → Int → Int → Int → List (S45) → Int → Int → Int → List (S45) → Option (Int)
 | 0, _, _, _, _, _, _, _, _, _, _ => none
 | k + 1, x3, x5, x7, x21, x22, x27, x28, x29, q5, p9 => if x29 < x28 then (if 0 ≤ x29 then (if x29 < (x27.length : Int) then (if ((rd_T45 x27 x29).f0) = x7 then (if 0 ≤ ((rd_T45 x27 x29).f1) then (if ((rd_T45 x27 x29).f1) < (x5.length : Int) then (if 0 ≤ x7 then (if x7 < (x5.length : Int) then (impl_RingLong.l1 k x3 (x5.set (((rd_T45 x27 x29).f1) : Int).toNat (mx (rd x5 ((rd_T45 x27 x29).f1)) (wrap64 ((rd x5 x7) + ((rd_T45 x27 x29).f2))))) x7 x21 x22 x27 x28 (wrap64 (x29 + 1)) q5 p9) else (none)) else (none)) else (none)) else (none)) else (impl_RingLong.l1 k x3 x5 x7 x21 x22 x27 x28 (wrap64 (x29 + 1)) q5 p9)) else (none)) else (none)) else (impl_RingLong.l0 k x3 x5 x21 (wrap64 (x22 + 1)) q5 p9)
end
def impl_RingLong.f (k : Nat) (a0_0 : Int) (l0_1 : List (S45)) : Option (Int) := (impl_RingOrder.f a0_0 l0_1).bind fun bt671 => (if bt671.2 = true then (if 0 ≤ a0_0 then (if (a0_0 : Int).toNat ≤ 35184372088832 then (impl_RingLong.l0 k bt671.1 (List.replicate (a0_0 : Int).toNat 0) (bt671.1.length : Int) 0 a0_0 l0_1) else (none)) else (none)) else (some (-1)))
def impl_RingLong.T12 : Bool × List (List Nat × List Nat) := (true, [([], []), ([], []), ([1], [1]), ([], []), ([], []), ([4], [4]), ([3, 5], [3, 5]), ([6], [6]), ([], []), ([], []), ([8, 9], [8, 9]), ([10], [10]), ([], []), ([12], [12]), ([11, 13], [11, 13]), ([7, 14], [7, 14]), ([0, 2, 0, 1, 2, 3, 4, 5, 6, 7, 8, 9, 10, 11, 12, 13, 14, 15], [0, 2]), ([16, 15, 0, 1, 2, 3, 4, 5, 6, 7, 8, 9, 10, 11, 12, 13, 14, 15], [15, 16])])
def impl_RingLong.B12 : List Nat := [0, 0, 2, 0, 0, 16, 56, 120, 0, 0, 768, 1792, 0, 4096, 16128, 32760, 65535, 131071]
theorem impl_RingLong.tab12 : rtab .any (opsOf Try.f44 12) = impl_RingLong.T12 := by kernel_rfl
theorem impl_RingLong.bits12 : waitsOk impl_RingLong.T12.2 impl_RingLong.B12 = true := by kernel_rfl
set_option maxHeartbeats 8000000 in
set_option maxRecDepth 100000 in
theorem impl_RingLong.calls (k : Nat) (a0_0 : Int) (A0_1 : Option Addr) (c0_1 : Nat) (l0_1 : List (S45)) (r : Int) (w : World) (hr0_1 : Kd.C k45 w A0_1 l0_1.length l0_1) (hc0_1 : l0_1.length ≤ c0_1) (h : impl_RingLong.f k a0_0 l0_1 = some r) :
  Calls Try.prog 44 #[.agg #[.int .i64 a0_0, .slice A0_1 l0_1.length c0_1]] w fun e w' => e = .returned (.int .i64 r) ∧ Below w.heap.size w w' := by
 have hu38 := Try.underlying38
 have hu45 := Try.underlying45
 have r2 := Aside0.mk hr0_1
 have HC0_1 := Aside0.mk hc0_1
 clear hr0_1 hc0_1
 have HB := Aside0.mk (Below.refl w.heap.size w)
 have H : ((impl_RingOrder.f a0_0 l0_1).bind fun bt671 => (if bt671.2 = true then (if 0 ≤ a0_0 then (if (a0_0 : Int).toNat ≤ 35184372088832 then (impl_RingLong.l0 k bt671.1 (List.replicate (a0_0 : Int).toNat 0) (bt671.1.length : Int) 0 a0_0 l0_1) else (none)) else (none)) else (some (-1)))) = some r := h
 clear h
 replace H := Option.bind_eq_some_iff.mp H
 obtain ⟨⟨t671, t674⟩, A20, H⟩ := H
 replace H : (if t674 = true then (if 0 ≤ a0_0 then (if (a0_0 : Int).toNat ≤ 35184372088832 then (impl_RingLong.l0 k t671 (List.replicate (a0_0 : Int).toNat 0) (t671.length : Int) 0 a0_0 l0_1) else (none)) else (none)) else (some (-1))) = some r := H
 have A2 := Aside0.mk A20
 clear A20
 by_cases c3 : t674 = true
 ·subst c3
  have H1 : (if 0 ≤ a0_0 then (if (a0_0 : Int).toNat ≤ 35184372088832 then (impl_RingLong.l0 k t671 (List.replicate (a0_0 : Int).toNat 0) (t671.length : Int) 0 a0_0 l0_1) else (none)) else (none)) = some r := by rw [if_pos rfl] at H; exact H
  clear H
  have H := H1
  clear H1
  by_cases c4 : 0 ≤ a0_0
  ·rw [if_pos c4] at H
   have c4b0 := eq_true c4
   have c4b1 : decide (0 ≤ a0_0) = true := decide_eq_true c4
   clear c4
   by_cases c5 : (a0_0 : Int).toNat ≤ 35184372088832
   ·rw [if_pos c5] at H
    have c5b0 := eq_true c5
    have c5b1 : decide ((a0_0 : Int).toNat ≤ 35184372088832) = true := decide_eq_true c5
    clear c5
    obtain ⟨y675, hy675⟩ : ∃ y_ : List Int, y_ = (List.replicate (a0_0 : Int).toNat 0) := ⟨_, rfl⟩
    replace H : (impl_RingLong.l0 k t671 y675 (t671.length : Int) 0 a0_0 l0_1) = some r := by first | (rw [hy675]; with_reducible exact H) | (have H2_ := (Option.bind_some _ _).symm.trans H; rw [hy675]; with_reducible exact H2_) | (have H2_ := (Option.bind_some _ _).symm.trans H; with_reducible exact H2_) | with_reducible exact H | (rw [hy675]; exact H) | exact H
    have Ny675 := Aside0.mk hy675
    clear hy675
    have H' := Aside0.mk H
    clear H
    go_enter Try.func44, Try.ntmps44
    go_wp2_with (first | ((with_reducible refine gate_dst (N := 1) rfl ?_); refine box_event ?hg (N := 1) ?hd (cs := #[.int .i64 a0_0, .slice A0_1 l0_1.length c0_1]) (t := 38) ?hr ?_; (case hd => rfl); (case hg => rfl); (case hr => first | (go_simp; done) | (go_simp; rfl)); intro p8 hg w6 hbox hb; have n0_ := Aside0.mk (below_step HB.out hb); have n1_ := Aside0.mk (hbox); have n2_ := Aside0.mk ((by rw [hg]; exact (below_size HB.out) : w.heap.size ≤ p8)); have n3_ := Aside0.mk ((by rw [hg]; exact (below_size HB.out) : w.heap.size ≤ p8)); clear HB; have HB := n0_; have p3 := n1_; have GW670 := n2_; have q7 := n3_; clear n0_ n1_ n2_ n3_; clear hb hbox hg; have r5 : w6.cell? ⟨p8, 0, none⟩ = some (.int .i64 a0_0) := (blk_cell p3.out 0).trans rfl; have r6 : w6.cell? ⟨p8, 1, none⟩ = some (.slice A0_1 l0_1.length c0_1) := (blk_cell p3.out 1).trans rfl; have r7 := blk_frozen p3.out 0; have r8 := blk_frozen p3.out 1) | ((with_reducible refine gate_callee (f := 24) rfl ?_); refine goesL_ (some 12) rfl rfl Try.func24 (by kernel_rfl) rfl #[.agg #[.int .i64 a0_0, .slice A0_1 l0_1.length c0_1]] rfl (by (try simp only [List.map_toArray, List.map_cons, List.map_nil]); first | done | rfl | (simp only [List.length_drop, List.length_take]; rfl)) ?_; (with_reducible refine (impl_RingOrder.calls a0_0 _ _ l0_1 t671 true _ ?side1 ?side2 A2.out).mono ?_); (case side1 => repeat (first | exact (Kd.C_below r2.out HB.out) | (with_reducible refine Kd.C_alloc ?_ _) | (with_reducible refine Kd.C_drewN ?_ _) | (with_reducible refine Kd.C_drew ?_))); (case side2 => exact HC0_1.out); rintro e w8 ⟨v672, rfl, ho0, hb⟩; refine ⟨_, rfl, ?_⟩; have n0_ := Aside0.mk (Kd.R_lower ho0 (below_size HB.out)); have n1_ := Aside0.mk (blk_below (g := p8) (o := .cells #[.int .i64 a0_0, .slice A0_1 l0_1.length c0_1] 38 (0, 0)) p3.out hb); have n2_ := Aside0.mk (below_step HB.out hb); clear p3; clear HB; have HO673 := n0_; have p3 := n1_; have HB := n2_; clear n0_ n1_ n2_; (try clear hb); (try clear hb2); (try clear hk); (try clear hi); (try clear ho0); have r9 : w8.cell? ⟨p8, 0, none⟩ = some (.int .i64 a0_0) := (blk_cell p3.out 0).trans rfl; have s7 : w8.cell? ⟨p8, 1, none⟩ = some (.slice A0_1 l0_1.length c0_1) := (blk_cell p3.out 1).trans rfl; have s8 := blk_frozen p3.out 0; have s9 := blk_frozen p3.out 1) | ((with_reducible refine gate_dst (N := 19) rfl ?_); refine Kd.R_make (Kd.int .i64) _ 3 rfl (N := 19) rfl 22 _ _ rfl a0_0 (by first | rfl | (go_simp; done) | (go_simp; rfl)) (by first | rfl | (go_simp; done) | (go_simp; rfl)) Try.underlying22 (.int .i64 0) 8 info3 rfl (by decide) (by omega) 0 (ok := fun _ => True) (okp := fun _ => True) rfl (fun _ hk => hk) trivial (of_decide_eq_true (by first | (with_reducible assumption) | assumption)) (Nat.le_trans (Nat.mul_le_mul_right _ (of_decide_eq_true (by first | (with_reducible assumption) | assumption) : a0_0.toNat ≤ 35184372088832)) (by omega)) (Below.refl _ _) (Nat.le_refl _) ?_; intro v676 w10 ho11 hb hg_ hnew_; clear hg_ hnew_; (first | rw [← Ny675.out] at ho11 | (simp only [Int.reduceToNat] at ho11; rw [← Ny675.out] at ho11)); have n0_ := Aside0.mk (Kd.R_elder' HO673.out (Kd.R_base ho11) hb); have n1_ := Aside0.mk (Kd.R_lower (Kd.R_new' ho11 (Kd.R_lt HO673.out)) (below_size HB.out)); have n2_ := Aside0.mk (blk_below (g := p8) (o := .cells #[.int .i64 a0_0, .slice A0_1 l0_1.length c0_1] 38 (0, 0)) p3.out hb); have n3_ := Aside0.mk (below_step HB.out hb); clear HO673; clear p3; clear HB; have HO673 := n0_; have HO677 := n1_; have p3 := n2_; have HB := n3_; clear n0_ n1_ n2_ n3_; clear hb ho11; obtain ⟨Ao12, co12, eo12⟩ := Kd.R_slice HO673.out; subst eo12))
    go_loopg [22] k (fun kq v22 w' => ∃ (x5_1 : List Int) (p4 : Int), v22 = .int .i64 p4 ∧ Aside0 (impl_RingLong.l0 kq t671 x5_1 (t671.length : Int) p4 a0_0 l0_1 = some r) ∧ Aside0 (kq ≤ k) ∧ Aside0 (Kd.R (Kd.int .i64) 3 w' w.heap.size (fun k_ => some k_ ≠ (v676 : Value).ownBlock) (.slice Ao12 t671.length co12) t671) ∧ Aside0 (Kd.R (Kd.int .i64) 3 w' w.heap.size (fun k_ => some k_ ≠ ((.slice Ao12 t671.length co12) : Value).ownBlock) v676 x5_1) ∧ Aside0 (w'.heap[p8]? = some (.cells #[.int .i64 a0_0, (.slice A0_1 l0_1.length c0_1)] 38 (0, 0))) ∧ Aside0 (Below w.heap.size w w'))
    case atStart => exact ⟨(y675), (0), (by first | rfl | (simp; done) | (simp [*]; done)), H', ⟨Nat.le_refl _⟩, ⟨by (with_reducible repeat (first | apply Kd.R_alloc | apply Kd.R_drewN | apply Kd.R_drew)); exact Kd.R_mono HO673.out (fun _ hk => hk.2)⟩, ⟨by (with_reducible repeat (first | apply Kd.R_alloc | apply Kd.R_drewN | apply Kd.R_drew)); exact Kd.R_mono HO677.out (fun _ hk => hk.2)⟩, ⟨by (with_reducible repeat (first | refine blk_drewN ?_ _ | refine blk_drew ?_ | refine blk_alloc ?_ _)); exact p3.out⟩, ⟨by repeat (first | (with_reducible first | exact HB.out | apply below_alloc | apply pw_below_drewN | apply below_drew1 | refine below_set ?_ q7.out) | exact HB.out)⟩⟩
    case round =>
     clear H'
     try clear c2
     try clear p2
     try clear c3
     try clear c4
     try clear c4b0
     try clear c4b1
     try clear c5
     try clear c5b0
     try clear c5b1
     try clear r5
     try clear r6
     try clear r9
     try clear s7
     try clear r7
     try clear r8
     try clear s8
     try clear s9
     obtain ⟨x5_1, p4, rfl, HA, HK1, HO_3, HO_5, p3, HB⟩ := hrel
     cases gk with
     | zero => exact absurd HA.out (by simp [impl_RingLong.l0])
     | succ k1 =>
      have H := HA.out
      clear HA
      simp only [impl_RingLong.l0] at H
      by_cases c13 : p4 < (t671.length : Int)
      ·rw [if_pos c13] at H
       have c13b0 : decide (p4 < (t671.length : Int)) = true := decide_eq_true c13
       clear c13
       by_cases c14 : 0 ≤ p4
       ·rw [if_pos c14] at H
        have c14b0 : decide (0 ≤ p4) = true := decide_eq_true c14
        clear c14
        by_cases c15 : p4 < (t671.length : Int)
        ·rw [if_pos c15] at H
         have c15b0 : decide (p4 < (t671.length : Int)) = true := decide_eq_true c15
         clear c15
         have H' := Aside0.mk H
         clear H
         have p679 : 0 ≤ (p4 : Int) := of_decide_eq_true (by first | (with_reducible assumption) | assumption)
         have q679 : p4 < (t671.length : Int) := of_decide_eq_true (by first | (with_reducible assumption) | assumption)
         obtain ⟨r3, e679, t0⟩ := Kd.at_int (Kd.R_reads' HO_3.out).2.2 p4 p679 q679
         cases e679
         replace p679 := eq_true p679
         replace q679 := eq_true q679
         have t1 : wr.cell? ⟨p8, 0, none⟩ = some (.int .i64 a0_0) := (blk_cell p3.out 0).trans rfl
         have t2 : wr.cell? ⟨p8, 1, none⟩ = some (.slice A0_1 l0_1.length c0_1) := (blk_cell p3.out 1).trans rfl
         have t3 := blk_frozen p3.out 0
         have t4 := blk_frozen p3.out 1
         go_wp2
         go_loopg [29] k1 (fun kq v29 w' => ∃ (x5_2 : List Int) (p0 : Int), v29 = .int .i64 p0 ∧ Aside0 (impl_RingLong.l1 kq t671 x5_2 (rd t671 p4) (t671.length : Int) p4 l0_1 (l0_1.length : Int) p0 a0_0 l0_1 = some r) ∧ Aside0 (kq ≤ k1) ∧ Aside0 (Kd.R (Kd.int .i64) 3 w' w.heap.size (fun k_ => some k_ ≠ (v676 : Value).ownBlock) (.slice (some r3) t671.length co12) t671) ∧ Aside0 (Kd.R (Kd.int .i64) 3 w' w.heap.size (fun k_ => some k_ ≠ ((.slice (some r3) t671.length co12) : Value).ownBlock) v676 x5_2) ∧ Aside0 (w'.heap[p8]? = some (.cells #[.int .i64 a0_0, (.slice A0_1 l0_1.length c0_1)] 38 (0, 0))) ∧ Aside0 (Below w.heap.size w w'))
         case atStart => exact ⟨(x5_1), (0), (by first | rfl | (simp; done) | (simp [*]; done)), H', ⟨Nat.le_refl _⟩, ⟨by (with_reducible repeat (first | apply Kd.R_alloc | apply Kd.R_drewN | apply Kd.R_drew)); exact HO_3.out⟩, ⟨by (with_reducible repeat (first | apply Kd.R_alloc | apply Kd.R_drewN | apply Kd.R_drew)); exact HO_5.out⟩, ⟨by (with_reducible repeat (first | refine blk_drewN ?_ _ | refine blk_drew ?_ | refine blk_alloc ?_ _)); exact p3.out⟩, ⟨by repeat (first | (with_reducible first | exact HB.out | apply below_alloc | apply pw_below_drewN | apply below_drew1 | refine below_set ?_ q7.out) | exact HB.out)⟩⟩
         case round =>
          clear H'
          try clear c1
          try clear c2
          try clear p2
          try clear c3
          try clear c4
          try clear c4b0
          try clear c4b1
          try clear c5
          try clear c5b0
          try clear c5b1
          try clear p6
          try clear q6
          try clear hx6
          try clear c13
          try clear c13b0
          try clear c14
          try clear c14b0
          try clear c15
          try clear c15b0
          try clear t1
          try clear t2
          try clear r5
          try clear r6
          try clear r9
          try clear s7
          try clear t3
          try clear t4
          try clear r7
          try clear r8
          try clear s8
          try clear s9
          try clear t0
          try clear p2
          try clear p679
          try clear q679
          obtain ⟨x5_2, p0, rfl, HA, HK2, HO_3, HO_5, p3, HB⟩ := hrel
          cases gk with
          | zero => exact absurd HA.out (by simp [impl_RingLong.l1])
          | succ k2 =>
           have H := HA.out
           clear HA
           simp only [impl_RingLong.l1] at H
           by_cases c17 : p0 < (l0_1.length : Int)
           ·rw [if_pos c17] at H
            have c17b0 : decide (p0 < (l0_1.length : Int)) = true := decide_eq_true c17
            clear c17
            by_cases c18 : 0 ≤ p0
            ·rw [if_pos c18] at H
             have c18b0 : decide (0 ≤ p0) = true := decide_eq_true c18
             clear c18
             by_cases c19 : p0 < (l0_1.length : Int)
             ·rw [if_pos c19] at H
              have c19b0 : decide (p0 < (l0_1.length : Int)) = true := decide_eq_true c19
              clear c19
              by_cases c20 : ((rd_T45 l0_1 p0).f0) = (rd t671 p4)
              ·rw [if_pos c20] at H
               have c20b0 : (((rd_T45 l0_1 p0).f0) == (rd t671 p4)) = true := beq_iff_eq.mpr c20
               have c20b1 : (((rd_T45 l0_1 p0).f0) != (rd t671 p4)) = false := bne_eq_false_iff_eq.mpr c20
               clear c20
               by_cases c21 : 0 ≤ ((rd_T45 l0_1 p0).f1)
               ·rw [if_pos c21] at H
                have c21b0 : decide (0 ≤ ((rd_T45 l0_1 p0).f1)) = true := decide_eq_true c21
                clear c21
                by_cases c22 : ((rd_T45 l0_1 p0).f1) < (x5_2.length : Int)
                ·rw [if_pos c22] at H
                 have c22b0 : decide (((rd_T45 l0_1 p0).f1) < (x5_2.length : Int)) = true := decide_eq_true c22
                 clear c22
                 by_cases c23 : 0 ≤ (rd t671 p4)
                 ·rw [if_pos c23] at H
                  have c23b0 : decide (0 ≤ (rd t671 p4)) = true := decide_eq_true c23
                  clear c23
                  by_cases c24 : (rd t671 p4) < (x5_2.length : Int)
                  ·rw [if_pos c24] at H
                   have c24b0 : decide ((rd t671 p4) < (x5_2.length : Int)) = true := decide_eq_true c24
                   clear c24
                   obtain ⟨ji25, hji25⟩ : ∃ j_ : Int, (mx (rd x5_2 ((rd_T45 l0_1 p0).f1)) (wrap64 ((rd x5_2 (rd t671 p4)) + ((rd_T45 l0_1 p0).f2)))) = j_ := ⟨_, rfl⟩
                   replace H : (impl_RingLong.l1 k2 t671 (x5_2.set (((rd_T45 l0_1 p0).f1) : Int).toNat (ji25)) (rd t671 p4) (t671.length : Int) p4 l0_1 (l0_1.length : Int) (wrap64 (p0 + 1)) a0_0 l0_1) = some r := by first | (rw [hji25] at H; exact H) | (simp only [hji25] at H ⊢; exact H)
                   have hji25_ : (if (rd x5_2 ((rd_T45 l0_1 p0).f1)) < (wrap64 ((rd x5_2 (rd t671 p4)) + ((rd_T45 l0_1 p0).f2))) then (wrap64 ((rd x5_2 (rd t671 p4)) + ((rd_T45 l0_1 p0).f2))) else (rd x5_2 ((rd_T45 l0_1 p0).f1))) = ji25 := hji25
                   obtain ⟨y684, hy684⟩ : ∃ y_ : List Int, y_ = (x5_2.set (((rd_T45 l0_1 p0).f1) : Int).toNat (ji25)) := ⟨_, rfl⟩
                   replace H : (impl_RingLong.l1 k2 t671 y684 (rd t671 p4) (t671.length : Int) p4 l0_1 (l0_1.length : Int) (wrap64 (p0 + 1)) a0_0 l0_1) = some r := by first | (rw [hy684]; with_reducible exact H) | (have H2_ := (Option.bind_some _ _).symm.trans H; rw [hy684]; with_reducible exact H2_) | (have H2_ := (Option.bind_some _ _).symm.trans H; with_reducible exact H2_) | with_reducible exact H | (rw [hy684]; exact H) | exact H
                   have Ny684 := Aside0.mk hy684
                   clear hy684
                   have H' := Aside0.mk H
                   clear H
                   have p680 : 0 ≤ (p0 : Int) := of_decide_eq_true (by first | (with_reducible assumption) | assumption)
                   have q680 : p0 < (l0_1.length : Int) := of_decide_eq_true (by first | (with_reducible assumption) | assumption)
                   obtain ⟨q9, e680, q0, q1, q2, q3, q4⟩ := at_T45 r2.out p0 p680 q680
                   cases e680
                   replace q0 := (HB.out.cell (World.block_lt_of_cell? w _ q0)).trans q0
                   replace q1 := (HB.out.cell (World.block_lt_of_cell? w _ q1)).trans q1
                   replace q2 := (HB.out.cell (World.block_lt_of_cell? w _ q2)).trans q2
                   replace q3 := (HB.out.cell (World.block_lt_of_cell? w _ q3)).trans q3
                   replace q4 := (HB.out.cell (World.block_lt_of_cell? w _ q4)).trans q4
                   replace p680 := eq_true p680
                   replace q680 := eq_true q680
                   try go_wp2_with (first | ((with_reducible refine gate_dst (N := 9) rfl ?_); refine box_event ?hg (N := 9) ?hd (cs := #[.int .i64 0, .int .i64 0, .int .i64 0, .int .i64 0, .int .i64 0]) (t := 45) ?hr ?_; (case hd => rfl); (case hg => rfl); (case hr => first | (go_simp; done) | (go_simp; rfl)); intro p1 hg w27 hbox hb; have n0_ := Aside0.mk (Kd.R_below HO_3.out hb); have n1_ := Aside0.mk (Kd.R_below HO_5.out hb); have n2_ := Aside0.mk (blk_below (g := p8) (o := .cells #[.int .i64 a0_0, .slice (some q9) l0_1.length c0_1] 38 (0, 0)) p3.out hb); have n3_ := Aside0.mk (below_step HB.out hb); have n4_ := Aside0.mk (hbox); have n5_ := Aside0.mk ((by rw [hg]; exact (below_size HB.out) : w.heap.size ≤ p1)); have n6_ := Aside0.mk ((by rw [hg]; exact (below_size HB.out) : w.heap.size ≤ p1)); have n7_ := Aside0.mk ((by rw [hg]; exact Nat.ne_of_lt (blk_lt (g := p8) (o := .cells #[.int .i64 a0_0, .slice (some q9) l0_1.length c0_1] 38 (0, 0)) p3.out) : p8 ≠ p1)); have n8_ := Aside0.mk ((by rw [hg]; exact Nat.ne_of_gt (blk_lt (g := p8) (o := .cells #[.int .i64 a0_0, .slice (some q9) l0_1.length c0_1] 38 (0, 0)) p3.out) : p1 ≠ p8)); clear HO_3; clear HO_5; clear p3; clear HB; have HO_3 := n0_; have HO_5 := n1_; have p3 := n2_; have HB := n3_; have p5 := n4_; have GW681 := n5_; have r4 := n6_; have p7 := n7_; have q8 := n8_; clear n0_ n1_ n2_ n3_ n4_ n5_ n6_ n7_ n8_; clear hb hbox hg; have hnb28 := q8.out; have hnc28 := p7.out; have hcz29_0 : w27.cell? ⟨p1, 0, none⟩ = some (.int .i64 0) := (blk_cell p5.out 0).trans rfl; have hcz29_1 : w27.cell? ⟨p1, 1, none⟩ = some (.int .i64 0) := (blk_cell p5.out 1).trans rfl; have hcz29_2 : w27.cell? ⟨p1, 2, none⟩ = some (.int .i64 0) := (blk_cell p5.out 2).trans rfl; have hcz29_3 : w27.cell? ⟨p1, 3, none⟩ = some (.int .i64 0) := (blk_cell p5.out 3).trans rfl; have hcz29_4 : w27.cell? ⟨p1, 4, none⟩ = some (.int .i64 0) := (blk_cell p5.out 4).trans rfl; have hfz29_0 := blk_frozen p5.out 0; have hfz29_1 := blk_frozen p5.out 1; have hfz29_2 := blk_frozen p5.out 2; have hfz29_3 := blk_frozen p5.out 3; have hfz29_4 := blk_frozen p5.out 4))
                   have n0_ : Aside0 (Kd.R (Kd.int .i64) 3 (((((w27.setCell ⟨p1, 0, none⟩ (.int .i64 ((rd_T45 l0_1 p0).f0))).setCell ⟨p1, 1, none⟩ (.int .i64 ((rd_T45 l0_1 p0).f1))).setCell ⟨p1, 2, none⟩ (.int .i64 ((rd_T45 l0_1 p0).f2))).setCell ⟨p1, 3, none⟩ (.int .i64 ((rd_T45 l0_1 p0).f3))).setCell ⟨p1, 4, none⟩ (.int .i64 ((rd_T45 l0_1 p0).f4))) w.heap.size (fun k_ => some k_ ≠ (v676 : Value).ownBlock) (.slice (some r3) t671.length co12) t671) := ⟨by (with_reducible repeat (first | apply Kd.R_alloc | apply Kd.R_drewN | apply Kd.R_drew)); exact Kd.R_mono (Kd.R_far (p := ⟨p1, 4, none⟩) (Kd.R_far (p := ⟨p1, 3, none⟩) (Kd.R_far (p := ⟨p1, 2, none⟩) (Kd.R_far (p := ⟨p1, 1, none⟩) (Kd.R_far (p := ⟨p1, 0, none⟩) (Kd.R_types HO_3.out p5.out (by decide)) (fun _ hk => hk.2) (.int .i64 ((rd_T45 l0_1 p0).f0))) (fun _ hk => hk.2) (.int .i64 ((rd_T45 l0_1 p0).f1))) (fun _ hk => hk.2) (.int .i64 ((rd_T45 l0_1 p0).f2))) (fun _ hk => hk.2) (.int .i64 ((rd_T45 l0_1 p0).f3))) (fun _ hk => hk.2) (.int .i64 ((rd_T45 l0_1 p0).f4))) (fun _ hk => hk.1)⟩
                   have n1_ : Aside0 (Kd.R (Kd.int .i64) 3 (((((w27.setCell ⟨p1, 0, none⟩ (.int .i64 ((rd_T45 l0_1 p0).f0))).setCell ⟨p1, 1, none⟩ (.int .i64 ((rd_T45 l0_1 p0).f1))).setCell ⟨p1, 2, none⟩ (.int .i64 ((rd_T45 l0_1 p0).f2))).setCell ⟨p1, 3, none⟩ (.int .i64 ((rd_T45 l0_1 p0).f3))).setCell ⟨p1, 4, none⟩ (.int .i64 ((rd_T45 l0_1 p0).f4))) w.heap.size (fun k_ => some k_ ≠ (.slice (some r3) t671.length co12 : Value).ownBlock) v676 x5_2) := ⟨by (with_reducible repeat (first | apply Kd.R_alloc | apply Kd.R_drewN | apply Kd.R_drew)); exact Kd.R_mono (Kd.R_far (p := ⟨p1, 4, none⟩) (Kd.R_far (p := ⟨p1, 3, none⟩) (Kd.R_far (p := ⟨p1, 2, none⟩) (Kd.R_far (p := ⟨p1, 1, none⟩) (Kd.R_far (p := ⟨p1, 0, none⟩) (Kd.R_types HO_5.out p5.out (by decide)) (fun _ hk => hk.2) (.int .i64 ((rd_T45 l0_1 p0).f0))) (fun _ hk => hk.2) (.int .i64 ((rd_T45 l0_1 p0).f1))) (fun _ hk => hk.2) (.int .i64 ((rd_T45 l0_1 p0).f2))) (fun _ hk => hk.2) (.int .i64 ((rd_T45 l0_1 p0).f3))) (fun _ hk => hk.2) (.int .i64 ((rd_T45 l0_1 p0).f4))) (fun _ hk => hk.1)⟩
                   have n2_ : Aside0 ((((((w27.setCell ⟨p1, 0, none⟩ (.int .i64 ((rd_T45 l0_1 p0).f0))).setCell ⟨p1, 1, none⟩ (.int .i64 ((rd_T45 l0_1 p0).f1))).setCell ⟨p1, 2, none⟩ (.int .i64 ((rd_T45 l0_1 p0).f2))).setCell ⟨p1, 3, none⟩ (.int .i64 ((rd_T45 l0_1 p0).f3))).setCell ⟨p1, 4, none⟩ (.int .i64 ((rd_T45 l0_1 p0).f4))).heap[p8]? = some (.cells #[.int .i64 a0_0, .slice (some q9) l0_1.length c0_1] 38 (0, 0))) := ⟨by (with_reducible repeat (first | refine blk_drewN ?_ _ | refine blk_drew ?_ | refine blk_alloc ?_ _)); refine blk_far ?_ p7.out _; (with_reducible repeat (first | refine blk_drewN ?_ _ | refine blk_drew ?_ | refine blk_alloc ?_ _)); refine blk_far ?_ p7.out _; (with_reducible repeat (first | refine blk_drewN ?_ _ | refine blk_drew ?_ | refine blk_alloc ?_ _)); refine blk_far ?_ p7.out _; (with_reducible repeat (first | refine blk_drewN ?_ _ | refine blk_drew ?_ | refine blk_alloc ?_ _)); refine blk_far ?_ p7.out _; (with_reducible repeat (first | refine blk_drewN ?_ _ | refine blk_drew ?_ | refine blk_alloc ?_ _)); refine blk_far ?_ p7.out _; (with_reducible repeat (first | refine blk_drewN ?_ _ | refine blk_drew ?_ | refine blk_alloc ?_ _)); exact p3.out⟩
                   have n3_ : Aside0 ((((((w27.setCell ⟨p1, 0, none⟩ (.int .i64 ((rd_T45 l0_1 p0).f0))).setCell ⟨p1, 1, none⟩ (.int .i64 ((rd_T45 l0_1 p0).f1))).setCell ⟨p1, 2, none⟩ (.int .i64 ((rd_T45 l0_1 p0).f2))).setCell ⟨p1, 3, none⟩ (.int .i64 ((rd_T45 l0_1 p0).f3))).setCell ⟨p1, 4, none⟩ (.int .i64 ((rd_T45 l0_1 p0).f4))).heap[p1]? = some (.cells #[.int .i64 ((rd_T45 l0_1 p0).f0), .int .i64 ((rd_T45 l0_1 p0).f1), .int .i64 ((rd_T45 l0_1 p0).f2), .int .i64 ((rd_T45 l0_1 p0).f3), .int .i64 ((rd_T45 l0_1 p0).f4)] 45 (0, 0))) := ⟨by (with_reducible repeat (first | refine blk_drewN ?_ _ | refine blk_drew ?_ | refine blk_alloc ?_ _)); refine blk_put (cs := #[.int .i64 ((rd_T45 l0_1 p0).f0), .int .i64 ((rd_T45 l0_1 p0).f1), .int .i64 ((rd_T45 l0_1 p0).f2), .int .i64 ((rd_T45 l0_1 p0).f3), .int .i64 0]) ?_ 4 _ rfl; (with_reducible repeat (first | refine blk_drewN ?_ _ | refine blk_drew ?_ | refine blk_alloc ?_ _)); refine blk_put (cs := #[.int .i64 ((rd_T45 l0_1 p0).f0), .int .i64 ((rd_T45 l0_1 p0).f1), .int .i64 ((rd_T45 l0_1 p0).f2), .int .i64 0, .int .i64 0]) ?_ 3 _ rfl; (with_reducible repeat (first | refine blk_drewN ?_ _ | refine blk_drew ?_ | refine blk_alloc ?_ _)); refine blk_put (cs := #[.int .i64 ((rd_T45 l0_1 p0).f0), .int .i64 ((rd_T45 l0_1 p0).f1), .int .i64 0, .int .i64 0, .int .i64 0]) ?_ 2 _ rfl; (with_reducible repeat (first | refine blk_drewN ?_ _ | refine blk_drew ?_ | refine blk_alloc ?_ _)); refine blk_put (cs := #[.int .i64 ((rd_T45 l0_1 p0).f0), .int .i64 0, .int .i64 0, .int .i64 0, .int .i64 0]) ?_ 1 _ rfl; (with_reducible repeat (first | refine blk_drewN ?_ _ | refine blk_drew ?_ | refine blk_alloc ?_ _)); refine blk_put (cs := #[.int .i64 0, .int .i64 0, .int .i64 0, .int .i64 0, .int .i64 0]) ?_ 0 _ rfl; (with_reducible repeat (first | refine blk_drewN ?_ _ | refine blk_drew ?_ | refine blk_alloc ?_ _)); exact p5.out⟩
                   have n4_ : Aside0 (Below w.heap.size w (((((w27.setCell ⟨p1, 0, none⟩ (.int .i64 ((rd_T45 l0_1 p0).f0))).setCell ⟨p1, 1, none⟩ (.int .i64 ((rd_T45 l0_1 p0).f1))).setCell ⟨p1, 2, none⟩ (.int .i64 ((rd_T45 l0_1 p0).f2))).setCell ⟨p1, 3, none⟩ (.int .i64 ((rd_T45 l0_1 p0).f3))).setCell ⟨p1, 4, none⟩ (.int .i64 ((rd_T45 l0_1 p0).f4)))) := ⟨by repeat (first | (with_reducible first | exact HB.out | apply below_alloc | apply pw_below_drewN | apply below_drew1 | refine below_set ?_ q7.out | refine below_set ?_ r4.out) | exact HB.out)⟩
                   (try clear HO_3)
                   (try clear HO_5)
                   (try clear p3)
                   (try clear p5)
                   (try clear HB)
                   generalize (((((w27.setCell ⟨p1, 0, none⟩ (.int .i64 ((rd_T45 l0_1 p0).f0))).setCell ⟨p1, 1, none⟩ (.int .i64 ((rd_T45 l0_1 p0).f1))).setCell ⟨p1, 2, none⟩ (.int .i64 ((rd_T45 l0_1 p0).f2))).setCell ⟨p1, 3, none⟩ (.int .i64 ((rd_T45 l0_1 p0).f3))).setCell ⟨p1, 4, none⟩ (.int .i64 ((rd_T45 l0_1 p0).f4))) = w30 at n0_ n1_ n2_ n3_ n4_ ⊢
                   have HO_3 := n0_
                   have HO_5 := n1_
                   have p3 := n2_
                   have p5 := n3_
                   have HB := n4_
                   clear n0_ n1_ n2_ n3_ n4_
                   have n0_ := Aside0.mk (Kd.R_drew HO_3.out)
                   have n1_ := Aside0.mk (Kd.R_drew HO_5.out)
                   have n2_ := Aside0.mk (blk_drew p3.out)
                   have n3_ := Aside0.mk (blk_drew p5.out)
                   have n4_ := Aside0.mk (below_drew1 HB.out)
                   clear HO_3
                   clear HO_5
                   clear p3
                   clear p5
                   clear HB
                   have HO_3 := n0_
                   have HO_5 := n1_
                   have p3 := n2_
                   have p5 := n3_
                   have HB := n4_
                   clear n0_ n1_ n2_ n3_ n4_
                   obtain ⟨Ao32, co32, eo32⟩ := Kd.R_slice HO_5.out
                   (first | subst eo32 | (injection eo32 with f1_ f2_ f3_; have f4_ := f1_.symm; have f5_ := f3_.symm; clear f1_ f2_ f3_; subst f4_; subst f5_))
                   have p682 : 0 ≤ (((rd_T45 l0_1 p0).f1) : Int) := of_decide_eq_true (by first | (with_reducible assumption) | assumption)
                   have q682 : ((rd_T45 l0_1 p0).f1) < (x5_2.length : Int) := of_decide_eq_true (by first | (with_reducible assumption) | assumption)
                   obtain ⟨ad682, e682, r0⟩ := Kd.at_int (Kd.R_reads' HO_5.out).2.2 ((rd_T45 l0_1 p0).f1) p682 q682
                   cases e682
                   replace p682 := eq_true p682
                   replace q682 := eq_true q682
                   have p683 : 0 ≤ ((rd t671 p4) : Int) := of_decide_eq_true (by first | (with_reducible assumption) | assumption)
                   have q683 : (rd t671 p4) < (x5_2.length : Int) := of_decide_eq_true (by first | (with_reducible assumption) | assumption)
                   obtain ⟨ad683, e683, r1⟩ := Kd.at_int (Kd.R_reads' HO_5.out).2.2 (rd t671 p4) p683 q683
                   obtain rfl : ad682 = ad683 := (by injection e683)
                   replace p683 := eq_true p683
                   replace q683 := eq_true q683
                   have p26 : 0 ≤ (((rd_T45 l0_1 p0).f1) : Int) := of_decide_eq_true (by first | (with_reducible assumption) | assumption)
                   have q26 : (((rd_T45 l0_1 p0).f1) : Int) < ((x5_2.length : Int) : Int) := of_decide_eq_true (by first | (with_reducible assumption) | assumption)
                   obtain ⟨go26, co26, eo26, gb26, gl26, cl26, HG26⟩ := Kd.R_form HO_5.out (by omega)
                   (first | cases eo26 | (injection eo26 with ea_ en_ ec_; (first | subst ea_ | (injection ea_ with ea_; subst ea_)); subst ec_; clear en_))
                   have GB26 := Aside0.mk gb26
                   have GG26 := Aside0.mk HG26
                   clear gb26 gl26 HG26
                   (first | simp only [add_plain] at r0 | skip)
                   (first | simp only [add_plain] at r1 | skip)
                   obtain ⟨hx26_0, hf26_0⟩ := Kd.R_celln 0 HO_5.out (((rd_T45 l0_1 p0).f1) : Int) p26 q26
                   replace p26 := eq_true p26
                   replace q26 := eq_true q26
                   have HP33 := Kd.R_putn HO_5.out (((rd_T45 l0_1 p0).f1) : Int) ji25
                   rw [← Ny684.out] at HP33
                   have HQ33 := Aside0.mk HP33
                   clear HP33
                   refine start_ (n := 18) (S := fun w' => w'.cell? ⟨p1, 0, none⟩ = some (.int .i64 ((rd_T45 l0_1 p0).f0)) ∧ w'.cell? ⟨p1, 1, none⟩ = some (.int .i64 ((rd_T45 l0_1 p0).f1)) ∧ w'.cell? ⟨p1, 2, none⟩ = some (.int .i64 ((rd_T45 l0_1 p0).f2)) ∧ w'.cell? ⟨p1, 3, none⟩ = some (.int .i64 ((rd_T45 l0_1 p0).f3)) ∧ w'.cell? ⟨p1, 4, none⟩ = some (.int .i64 ((rd_T45 l0_1 p0).f4)) ∧ w'.cell? ⟨go26, (((rd_T45 l0_1 p0).f1)).toNat, none⟩ = some (.int .i64 (rd x5_2 ((rd_T45 l0_1 p0).f1))) ∧ w'.cell? ⟨go26, ((rd t671 p4)).toNat, none⟩ = some (.int .i64 (rd x5_2 (rd t671 p4)))) (ds := [17]) #[N83,N83,N83,N83,N83,N83,N83,N83,N83,N83,N83,N83,N83,N83,N83,N83,N83,N83] (by kernel_rfl) rfl rfl ⟨(blk_cell p5.out 0).trans rfl, (blk_cell p5.out 1).trans rfl, (blk_cell p5.out 2).trans rfl, (blk_cell p5.out 3).trans rfl, (blk_cell p5.out 4).trans rfl, r0, r1⟩ (fun hHeld => ?_); refine with_tabW impl_RingLong.tab12 impl_RingLong.bits12 (fun HT_ HW_ => ?_)
                   generalize w30.drew = w31 at HO_3 HO_5 p3 p5 HB GG26 HQ33 hf26_0 hx26_0 r0 r1 hHeld ⊢
                   refine pure_ (i := 0) (N := some 37) (v := ?_) (a' := ?_) #[Y83,N83,N83,N83,N83,N83,N83,N83,N83,N83,N83,N83,N83,N83,N83,N83,N83,N83] rfl rfl (any_of HT_.out (by kernel_rfl)) (fun _ _ _ h => h) (Or.inl ⟨by rfl, ?_⟩) ?_ ?_
                   rotate_left
                   ·intro w'
                    go_simp
                    with_reducible rfl
                   rotate_left
                   ·simp only [Act.put, List.setIfInBounds_toArray, List.set_cons_zero, List.set_cons_succ, i64_w, i32_w]
                    rfl
                   refine pure_ (i := 1) (N := some 38) (v := ?_) (a' := ?_) #[Y83,Y83,N83,N83,N83,N83,N83,N83,N83,N83,N83,N83,N83,N83,N83,N83,N83,N83] rfl rfl (any_of HT_.out (by kernel_rfl)) (fun _ _ _ h => h) (Or.inl ⟨by rfl, ?_⟩) ?_ ?_
                   rotate_left
                   ·intro w'
                    go_simp
                    with_reducible rfl
                   rotate_left
                   ·simp only [Act.put, List.setIfInBounds_toArray, List.set_cons_zero, List.set_cons_succ, i64_w, i32_w]
                    rfl
                   refine pure_ (i := 3) (N := some 40) (v := ?_) (a' := ?_) #[Y83,Y83,N83,Y83,N83,N83,N83,N83,N83,N83,N83,N83,N83,N83,N83,N83,N83,N83] rfl rfl (any_of HT_.out (by kernel_rfl)) (fun _ _ _ h => h) (Or.inl ⟨by rfl, ?_⟩) ?_ ?_
                   rotate_left
                   ·intro w'
                    go_simp
                    with_reducible rfl
                   rotate_left
                   ·simp only [Act.put, List.setIfInBounds_toArray, List.set_cons_zero, List.set_cons_succ, i64_w, i32_w]
                    rfl
                   refine pure_ (i := 4) (N := some 41) (v := ?_) (a' := ?_) #[Y83,Y83,N83,Y83,Y83,N83,N83,N83,N83,N83,N83,N83,N83,N83,N83,N83,N83,N83] rfl rfl (any_of HT_.out (by kernel_rfl)) (fun _ _ _ h => h) (Or.inl ⟨by rfl, ?_⟩) ?_ ?_
                   rotate_left
                   ·intro w'
                    go_simp
                    with_reducible rfl
                   rotate_left
                   ·simp only [Act.put, List.setIfInBounds_toArray, List.set_cons_zero, List.set_cons_succ, i64_w, i32_w]
                    rfl
                   refine pure_ (i := 8) (N := some 45) (v := ?_) (a' := ?_) #[Y83,Y83,N83,Y83,Y83,N83,N83,N83,Y83,N83,N83,N83,N83,N83,N83,N83,N83,N83] rfl rfl (any_of HT_.out (by kernel_rfl)) (fun _ _ _ h => h) (Or.inl ⟨by rfl, ?_⟩) ?_ ?_
                   rotate_left
                   ·intro w'
                    go_simp
                    with_reducible rfl
                   rotate_left
                   ·simp only [Act.put, List.setIfInBounds_toArray, List.set_cons_zero, List.set_cons_succ, i64_w, i32_w]
                    rfl
                   refine pure_ (i := 9) (N := some 46) (v := ?_) (a' := ?_) #[Y83,Y83,N83,Y83,Y83,N83,N83,N83,Y83,Y83,N83,N83,N83,N83,N83,N83,N83,N83] rfl rfl (any_of HT_.out (by kernel_rfl)) (fun _ _ _ h => h) (Or.inl ⟨by rfl, ?_⟩) ?_ ?_
                   rotate_left
                   ·intro w'
                    go_simp
                    with_reducible rfl
                   rotate_left
                   ·simp only [Act.put, List.setIfInBounds_toArray, List.set_cons_zero, List.set_cons_succ, i64_w, i32_w]
                    rfl
                   refine pure_ (i := 10) (N := some 47) (v := ?_) (a' := ?_) #[Y83,Y83,N83,Y83,Y83,N83,N83,N83,Y83,Y83,Y83,N83,N83,N83,N83,N83,N83,N83] rfl rfl (any_of HT_.out (by kernel_rfl)) (fun _ _ _ h => h) (Or.inl ⟨by rfl, ?_⟩) ?_ ?_
                   rotate_left
                   ·intro w'
                    go_simp
                    with_reducible rfl
                   rotate_left
                   ·simp only [Act.put, List.setIfInBounds_toArray, List.set_cons_zero, List.set_cons_succ, i64_w, i32_w]
                    rfl
                   refine pure_ (i := 12) (N := some 49) (v := ?_) (a' := ?_) #[Y83,Y83,N83,Y83,Y83,N83,N83,N83,Y83,Y83,Y83,N83,Y83,N83,N83,N83,N83,N83] rfl rfl (any_of HT_.out (by kernel_rfl)) (fun _ _ _ h => h) (Or.inl ⟨by rfl, ?_⟩) ?_ ?_
                   rotate_left
                   ·intro w'
                    go_simp
                    with_reducible rfl
                   rotate_left
                   ·simp only [Act.put, List.setIfInBounds_toArray, List.set_cons_zero, List.set_cons_succ, i64_w, i32_w]
                    rfl
                   refine take_ (i := 2) (N := some 39) (v := ?_) (a' := ?_) #[Y83,Y83,Y83,Y83,Y83,N83,N83,N83,Y83,Y83,Y83,N83,Y83,N83,N83,N83,N83,N83] rfl rfl (take_ofW HT_.out HW_.out (by kernel_rfl)) (fun _ _ _ h => h) (Or.inl ⟨by rfl, ?_⟩) hHeld ?_ ?_
                   rotate_left
                   ·rintro w' ⟨s0, s1, s2, s3, s4, s5, s6⟩
                    go_simp
                    with_reducible rfl
                   rotate_left
                   ·simp only [Act.put, List.setIfInBounds_toArray, List.set_cons_zero, List.set_cons_succ, i64_w, i32_w]
                    rfl
                   refine take_ (i := 5) (N := some 42) (v := ?_) (a' := ?_) #[Y83,Y83,Y83,Y83,Y83,Y83,N83,N83,Y83,Y83,Y83,N83,Y83,N83,N83,N83,N83,N83] rfl rfl (take_ofW HT_.out HW_.out (by kernel_rfl)) (fun _ _ _ h => h) (Or.inl ⟨by rfl, ?_⟩) hHeld ?_ ?_
                   rotate_left
                   ·rintro w' ⟨s0, s1, s2, s3, s4, s5, s6⟩
                    go_simp
                    with_reducible rfl
                   rotate_left
                   ·simp only [Act.put, List.setIfInBounds_toArray, List.set_cons_zero, List.set_cons_succ, i64_w, i32_w]
                    rfl
                   refine pure_ (i := 6) (N := some 43) (v := ?_) (a' := ?_) #[Y83,Y83,Y83,Y83,Y83,Y83,Y83,N83,Y83,Y83,Y83,N83,Y83,N83,N83,N83,N83,N83] rfl rfl (any_of HT_.out (by kernel_rfl)) (fun _ _ _ h => h) (Or.inl ⟨by rfl, ?_⟩) ?_ ?_
                   rotate_left
                   ·intro w'
                    go_simp
                    with_reducible rfl
                   rotate_left
                   ·simp only [Act.put, List.setIfInBounds_toArray, List.set_cons_zero, List.set_cons_succ, i64_w, i32_w]
                    rfl
                   refine take_ (i := 7) (N := some 44) (v := ?_) (a' := ?_) #[Y83,Y83,Y83,Y83,Y83,Y83,Y83,Y83,Y83,Y83,Y83,N83,Y83,N83,N83,N83,N83,N83] rfl rfl (take_ofW HT_.out HW_.out (by kernel_rfl)) (fun _ _ _ h => h) (Or.inl ⟨by rfl, ?_⟩) hHeld ?_ ?_
                   rotate_left
                   ·rintro w' ⟨s0, s1, s2, s3, s4, s5, s6⟩
                    go_simp
                    with_reducible rfl
                   rotate_left
                   ·simp only [Act.put, List.setIfInBounds_toArray, List.set_cons_zero, List.set_cons_succ, i64_w, i32_w]
                    rfl
                   refine take_ (i := 11) (N := some 48) (v := ?_) (a' := ?_) #[Y83,Y83,Y83,Y83,Y83,Y83,Y83,Y83,Y83,Y83,Y83,Y83,Y83,N83,N83,N83,N83,N83] rfl rfl (take_ofW HT_.out HW_.out (by kernel_rfl)) (fun _ _ _ h => h) (Or.inl ⟨by rfl, ?_⟩) hHeld ?_ ?_
                   rotate_left
                   ·rintro w' ⟨s0, s1, s2, s3, s4, s5, s6⟩
                    go_simp
                    with_reducible rfl
                   rotate_left
                   ·simp only [Act.put, List.setIfInBounds_toArray, List.set_cons_zero, List.set_cons_succ, i64_w, i32_w]
                    rfl
                   refine take_ (i := 13) (N := some 50) (v := ?_) (a' := ?_) #[Y83,Y83,Y83,Y83,Y83,Y83,Y83,Y83,Y83,Y83,Y83,Y83,Y83,Y83,N83,N83,N83,N83] rfl rfl (take_ofW HT_.out HW_.out (by kernel_rfl)) (fun _ _ _ h => h) (Or.inl ⟨by rfl, ?_⟩) hHeld ?_ ?_
                   rotate_left
                   ·rintro w' ⟨s0, s1, s2, s3, s4, s5, s6⟩
                    go_simp
                    with_reducible rfl
                   rotate_left
                   ·simp only [Act.put, List.setIfInBounds_toArray, List.set_cons_zero, List.set_cons_succ, i64_w, i32_w]
                    rfl
                   refine pure_ (i := 14) (N := some 51) (v := ?_) (a' := ?_) #[Y83,Y83,Y83,Y83,Y83,Y83,Y83,Y83,Y83,Y83,Y83,Y83,Y83,Y83,Y83,N83,N83,N83] rfl rfl (any_of HT_.out (by kernel_rfl)) (fun _ _ _ h => h) (Or.inl ⟨by rfl, ?_⟩) ?_ ?_
                   rotate_left
                   ·intro w'
                    go_simp
                    with_reducible rfl
                   rotate_left
                   ·simp only [Act.put, List.setIfInBounds_toArray, List.set_cons_zero, List.set_cons_succ, i64_w, i32_w]
                    rfl
                   refine pure_ (i := 15) (N := some 52) (v := ?_) (a' := ?_) #[Y83,Y83,Y83,Y83,Y83,Y83,Y83,Y83,Y83,Y83,Y83,Y83,Y83,Y83,Y83,Y83,N83,N83] rfl rfl (any_of HT_.out (by kernel_rfl)) (fun _ _ _ h => h) (Or.inl ⟨by rfl, ?_⟩) ?_ ?_
                   rotate_left
                   ·intro w'
                    go_simp
                    with_reducible rfl
                   rotate_left
                   ·simp only [Act.put, List.setIfInBounds_toArray, List.set_cons_zero, List.set_cons_succ, i64_w, i32_w]
                    rfl
                   refine pure_ (i := 16) (N := some 53) (v := ?_) (a' := ?_) #[Y83,Y83,Y83,Y83,Y83,Y83,Y83,Y83,Y83,Y83,Y83,Y83,Y83,Y83,Y83,Y83,Y83,N83] rfl rfl (any_of HT_.out (by kernel_rfl)) (fun _ _ _ h => h) (Or.inl ⟨by rfl, ?_⟩) ?_ ?_
                   rotate_left
                   ·intro w'
                    go_simp
                    with_reducible rfl
                   rotate_left
                   ·simp only [Act.put, List.setIfInBounds_toArray, List.set_cons_zero, List.set_cons_succ, i64_w, i32_w]
                    rfl
                   refine last_ (i := 17) (N := none) #[true, true, true, true, true, true, true, true, true, true, true, true, true, true, true, true, true, true] rfl rfl (one_of HT_.out (by kernel_rfl)) (by decide) (fun K hK => ?_)
                   refine skip_ (w1 := ?_) (by rfl) rfl ?_ ?_
                   rotate_left
                   ·go_simp
                    rfl
                   refine hK.out _ _ ?_
                   clear hK K
                   refine done_ (done_of HT_.out (by kernel_rfl)) ?_
                   try go_wp2
                   go_roundg k2
                   case measure => have := HK1.out; have := HK2.out; omega
                   case rel => exact ⟨(y684), (wrap64 (p0 + 1)), (by first | rfl | (simp; done) | (simp [*]; done)), H', ⟨by have := HK1.out; have := HK2.out; omega⟩, ⟨by (with_reducible repeat (first | apply Kd.R_alloc | apply Kd.R_drewN | apply Kd.R_drew)); exact Kd.R_mono (Kd.R_far (p := ⟨go26, (((rd_T45 l0_1 p0).f1) : Int).toNat, none⟩) (Kd.R_mono HO_3.out (fun k_ hk => (⟨hk, fun e_ => hk (by rw [e_]; rfl)⟩ : _ ∧ k_ ≠ go26))) (fun _ hk => hk.2) (.int .i64 ji25)) (fun _ hk => hk.1)⟩, ⟨by (with_reducible repeat (first | apply Kd.R_alloc | apply Kd.R_drewN | apply Kd.R_drew)); exact HQ33.out⟩, ⟨by (with_reducible repeat (first | refine blk_drewN ?_ _ | refine blk_drew ?_ | refine blk_alloc ?_ _)); refine blk_far ?_ (by have h_ := Kd.R_ne HO_5.out p3.out (by decide); intro e_; exact h_ (by rw [e_]; rfl)) _; (with_reducible repeat (first | refine blk_drewN ?_ _ | refine blk_drew ?_ | refine blk_alloc ?_ _)); exact p3.out⟩, ⟨by repeat (first | (with_reducible first | exact HB.out | apply below_alloc | apply pw_below_drewN | apply below_drew1 | refine below_set ?_ GB26.out | refine below_set ?_ q7.out | refine below_set ?_ r4.out) | exact HB.out)⟩⟩
                  ·rw [if_neg c24] at H
                   exact absurd H (by simp)
                 ·rw [if_neg c23] at H
                  exact absurd H (by simp)
                ·rw [if_neg c22] at H
                 exact absurd H (by simp)
               ·rw [if_neg c21] at H
                exact absurd H (by simp)
              ·rw [if_neg c20] at H
               have c20b0 : (((rd_T45 l0_1 p0).f0) == (rd t671 p4)) = false := beq_eq_false_iff_ne.mpr c20
               have c20b1 : (((rd_T45 l0_1 p0).f0) != (rd t671 p4)) = true := bne_iff_ne.mpr c20
               have H' := Aside0.mk H
               clear H
               have p680 : 0 ≤ (p0 : Int) := of_decide_eq_true (by first | (with_reducible assumption) | assumption)
               have q680 : p0 < (l0_1.length : Int) := of_decide_eq_true (by first | (with_reducible assumption) | assumption)
               obtain ⟨q9, e680, q0, q1, q2, q3, q4⟩ := at_T45 r2.out p0 p680 q680
               cases e680
               replace q0 := (HB.out.cell (World.block_lt_of_cell? w _ q0)).trans q0
               replace q1 := (HB.out.cell (World.block_lt_of_cell? w _ q1)).trans q1
               replace q2 := (HB.out.cell (World.block_lt_of_cell? w _ q2)).trans q2
               replace q3 := (HB.out.cell (World.block_lt_of_cell? w _ q3)).trans q3
               replace q4 := (HB.out.cell (World.block_lt_of_cell? w _ q4)).trans q4
               replace p680 := eq_true p680
               replace q680 := eq_true q680
               go_wp2_with (first | ((with_reducible refine gate_dst (N := 9) rfl ?_); refine box_event ?hg (N := 9) ?hd (cs := #[.int .i64 0, .int .i64 0, .int .i64 0, .int .i64 0, .int .i64 0]) (t := 45) ?hr ?_; (case hd => rfl); (case hg => rfl); (case hr => first | (go_simp; done) | (go_simp; rfl)); intro p1 hg w34 hbox hb; have n0_ := Aside0.mk (Kd.R_below HO_3.out hb); have n1_ := Aside0.mk (Kd.R_below HO_5.out hb); have n2_ := Aside0.mk (blk_below (g := p8) (o := .cells #[.int .i64 a0_0, .slice (some q9) l0_1.length c0_1] 38 (0, 0)) p3.out hb); have n3_ := Aside0.mk (below_step HB.out hb); have n4_ := Aside0.mk (hbox); have n5_ := Aside0.mk ((by rw [hg]; exact (below_size HB.out) : w.heap.size ≤ p1)); have n6_ := Aside0.mk ((by rw [hg]; exact (below_size HB.out) : w.heap.size ≤ p1)); have n7_ := Aside0.mk ((by rw [hg]; exact Nat.ne_of_lt (blk_lt (g := p8) (o := .cells #[.int .i64 a0_0, .slice (some q9) l0_1.length c0_1] 38 (0, 0)) p3.out) : p8 ≠ p1)); have n8_ := Aside0.mk ((by rw [hg]; exact Nat.ne_of_gt (blk_lt (g := p8) (o := .cells #[.int .i64 a0_0, .slice (some q9) l0_1.length c0_1] 38 (0, 0)) p3.out) : p1 ≠ p8)); clear HO_3; clear HO_5; clear p3; clear HB; have HO_3 := n0_; have HO_5 := n1_; have p3 := n2_; have HB := n3_; have p5 := n4_; have GW681 := n5_; have r4 := n6_; have p7 := n7_; have q8 := n8_; clear n0_ n1_ n2_ n3_ n4_ n5_ n6_ n7_ n8_; clear hb hbox hg; have hnb35 := q8.out; have hnc35 := p7.out; have hcz36_0 : w34.cell? ⟨p1, 0, none⟩ = some (.int .i64 0) := (blk_cell p5.out 0).trans rfl; have hcz36_1 : w34.cell? ⟨p1, 1, none⟩ = some (.int .i64 0) := (blk_cell p5.out 1).trans rfl; have hcz36_2 : w34.cell? ⟨p1, 2, none⟩ = some (.int .i64 0) := (blk_cell p5.out 2).trans rfl; have hcz36_3 : w34.cell? ⟨p1, 3, none⟩ = some (.int .i64 0) := (blk_cell p5.out 3).trans rfl; have hcz36_4 : w34.cell? ⟨p1, 4, none⟩ = some (.int .i64 0) := (blk_cell p5.out 4).trans rfl; have hfz36_0 := blk_frozen p5.out 0; have hfz36_1 := blk_frozen p5.out 1; have hfz36_2 := blk_frozen p5.out 2; have hfz36_3 := blk_frozen p5.out 3; have hfz36_4 := blk_frozen p5.out 4))
               go_roundg k2
               case measure => have := HK1.out; have := HK2.out; omega
               case rel => exact ⟨(x5_2), (wrap64 (p0 + 1)), (by first | rfl | (simp; done) | (simp [*]; done)), H', ⟨by have := HK1.out; have := HK2.out; omega⟩, ⟨by (with_reducible repeat (first | apply Kd.R_alloc | apply Kd.R_drewN | apply Kd.R_drew)); exact Kd.R_mono (Kd.R_far (p := ⟨p1, 4, none⟩) (Kd.R_far (p := ⟨p1, 3, none⟩) (Kd.R_far (p := ⟨p1, 2, none⟩) (Kd.R_far (p := ⟨p1, 1, none⟩) (Kd.R_far (p := ⟨p1, 0, none⟩) (Kd.R_types HO_3.out p5.out (by decide)) (fun _ hk => hk.2) (.int .i64 ((rd_T45 l0_1 p0).f0))) (fun _ hk => hk.2) (.int .i64 ((rd_T45 l0_1 p0).f1))) (fun _ hk => hk.2) (.int .i64 ((rd_T45 l0_1 p0).f2))) (fun _ hk => hk.2) (.int .i64 ((rd_T45 l0_1 p0).f3))) (fun _ hk => hk.2) (.int .i64 ((rd_T45 l0_1 p0).f4))) (fun _ hk => hk.1)⟩, ⟨by (with_reducible repeat (first | apply Kd.R_alloc | apply Kd.R_drewN | apply Kd.R_drew)); exact Kd.R_mono (Kd.R_far (p := ⟨p1, 4, none⟩) (Kd.R_far (p := ⟨p1, 3, none⟩) (Kd.R_far (p := ⟨p1, 2, none⟩) (Kd.R_far (p := ⟨p1, 1, none⟩) (Kd.R_far (p := ⟨p1, 0, none⟩) (Kd.R_types HO_5.out p5.out (by decide)) (fun _ hk => hk.2) (.int .i64 ((rd_T45 l0_1 p0).f0))) (fun _ hk => hk.2) (.int .i64 ((rd_T45 l0_1 p0).f1))) (fun _ hk => hk.2) (.int .i64 ((rd_T45 l0_1 p0).f2))) (fun _ hk => hk.2) (.int .i64 ((rd_T45 l0_1 p0).f3))) (fun _ hk => hk.2) (.int .i64 ((rd_T45 l0_1 p0).f4))) (fun _ hk => hk.1)⟩, ⟨by (with_reducible repeat (first | refine blk_drewN ?_ _ | refine blk_drew ?_ | refine blk_alloc ?_ _)); refine blk_far ?_ p7.out _; (with_reducible repeat (first | refine blk_drewN ?_ _ | refine blk_drew ?_ | refine blk_alloc ?_ _)); refine blk_far ?_ p7.out _; (with_reducible repeat (first | refine blk_drewN ?_ _ | refine blk_drew ?_ | refine blk_alloc ?_ _)); refine blk_far ?_ p7.out _; (with_reducible repeat (first | refine blk_drewN ?_ _ | refine blk_drew ?_ | refine blk_alloc ?_ _)); refine blk_far ?_ p7.out _; (with_reducible repeat (first | refine blk_drewN ?_ _ | refine blk_drew ?_ | refine blk_alloc ?_ _)); refine blk_far ?_ p7.out _; (with_reducible repeat (first | refine blk_drewN ?_ _ | refine blk_drew ?_ | refine blk_alloc ?_ _)); exact p3.out⟩, ⟨by repeat (first | (with_reducible first | exact HB.out | apply below_alloc | apply pw_below_drewN | apply below_drew1 | refine below_set ?_ q7.out | refine below_set ?_ r4.out) | exact HB.out)⟩⟩
             ·rw [if_neg c19] at H
              exact absurd H (by simp)
            ·rw [if_neg c18] at H
             exact absurd H (by simp)
           ·rw [if_neg c17] at H
            have c17b0 : decide (p0 < (l0_1.length : Int)) = false := decide_eq_false c17
            clear c17
            have H' := Aside0.mk H
            clear H
            go_wp2
            go_roundg k2
            case measure => have := HK1.out; have := HK2.out; omega
            case rel => exact ⟨(x5_2), (wrap64 (p4 + 1)), (by first | rfl | (simp; done) | (simp [*]; done)), H', ⟨by have := HK1.out; have := HK2.out; omega⟩, ⟨by (with_reducible repeat (first | apply Kd.R_alloc | apply Kd.R_drewN | apply Kd.R_drew)); exact HO_3.out⟩, ⟨by (with_reducible repeat (first | apply Kd.R_alloc | apply Kd.R_drewN | apply Kd.R_drew)); exact HO_5.out⟩, ⟨by (with_reducible repeat (first | refine blk_drewN ?_ _ | refine blk_drew ?_ | refine blk_alloc ?_ _)); exact p3.out⟩, ⟨by repeat (first | (with_reducible first | exact HB.out | apply below_alloc | apply pw_below_drewN | apply below_drew1 | refine below_set ?_ q7.out) | exact HB.out)⟩⟩
        ·rw [if_neg c15] at H
         exact absurd H (by simp)
       ·rw [if_neg c14] at H
        exact absurd H (by simp)
      ·rw [if_neg c13] at H
       have c13b0 : decide (p4 < (t671.length : Int)) = false := decide_eq_false c13
       clear c13
       replace H := Option.bind_eq_some_iff.mp H
       obtain ⟨t678, A370, H⟩ := H
       replace H : (some t678) = some r := H
       have A37 := Aside0.mk A370
       clear A370
       obtain rfl := Option.some.inj H
       obtain ⟨Ao38, co38, eo38⟩ := Kd.R_slice HO_5.out
       subst eo38
       go_wp2_with (first | ((with_reducible refine gate_callee (f := 88) rfl ?_); refine goesL_ (some 57) rfl rfl Try.func88 (by kernel_rfl) rfl #[.slice Ao38 x5_1.length co38] rfl (by (try simp only [List.map_toArray, List.map_cons, List.map_nil]); first | done | rfl | (simp only [List.length_drop, List.length_take]; rfl)) ?_; (with_reducible refine (slices_Max_int_int.calls _ _ x5_1 t678 _ ?side1 ?side2 A37.out).mono ?_); (case side1 => repeat (first | exact (Kd.R_reads' HO_5.out).2.2 | (with_reducible refine Kd.C_alloc ?_ _) | (with_reducible refine Kd.C_drewN ?_ _) | (with_reducible refine Kd.C_drew ?_))); (case side2 => exact (Kd.R_reads' HO_5.out).2.1); rintro e w39 ⟨rfl, hb⟩; refine ⟨_, rfl, ?_⟩; have n0_ := Aside0.mk (Kd.R_below HO_3.out hb); have n1_ := Aside0.mk (Kd.R_below HO_5.out hb); have n2_ := Aside0.mk (blk_below (g := p8) (o := .cells #[.int .i64 a0_0, .slice A0_1 l0_1.length c0_1] 38 (0, 0)) p3.out hb); have n3_ := Aside0.mk (below_step HB.out hb); clear HO_3; clear HO_5; clear p3; clear HB; have HO_3 := n0_; have HO_5 := n1_; have p3 := n2_; have HB := n3_; clear n0_ n1_ n2_ n3_; (try clear hb); (try clear hb2); (try clear hk); (try clear hi)))
       go_ret
       exact ⟨by first | rfl | (simp [errW_none, errW_some] <;> rfl) | (simp [*, errW_none, errW_some] <;> rfl), by repeat (first | (with_reducible first | exact HB.out | apply below_alloc | apply pw_below_drewN | apply below_drew1 | refine below_set ?_ q7.out) | exact HB.out)⟩
   ·rw [if_neg c5] at H
    exact absurd H (by simp)
  ·rw [if_neg c4] at H
   exact absurd H (by simp)
 ·replace c3 := Bool.eq_false_iff.mpr c3
  subst c3
  have H1 : (some (-1)) = some r := by rw [if_neg (show ¬ (false = true) by decide)] at H; exact H
  clear H
  have H := H1
  clear H1
  obtain rfl := Option.some.inj H
  go_enter Try.func44, Try.ntmps44
  go_wp2_with (first | ((with_reducible refine gate_dst (N := 1) rfl ?_); refine box_event ?hg (N := 1) ?hd (cs := #[.int .i64 a0_0, .slice A0_1 l0_1.length c0_1]) (t := 38) ?hr ?_; (case hd => rfl); (case hg => rfl); (case hr => first | (go_simp; done) | (go_simp; rfl)); intro p8 hg w40 hbox hb; have n0_ := Aside0.mk (below_step HB.out hb); have n1_ := Aside0.mk (hbox); have n2_ := Aside0.mk ((by rw [hg]; exact (below_size HB.out) : w.heap.size ≤ p8)); have n3_ := Aside0.mk ((by rw [hg]; exact (below_size HB.out) : w.heap.size ≤ p8)); clear HB; have HB := n0_; have p3 := n1_; have GW670 := n2_; have q7 := n3_; clear n0_ n1_ n2_ n3_; clear hb hbox hg; have hcz41_0 : w40.cell? ⟨p8, 0, none⟩ = some (.int .i64 a0_0) := (blk_cell p3.out 0).trans rfl; have hcz41_1 : w40.cell? ⟨p8, 1, none⟩ = some (.slice A0_1 l0_1.length c0_1) := (blk_cell p3.out 1).trans rfl; have hfz41_0 := blk_frozen p3.out 0; have hfz41_1 := blk_frozen p3.out 1) | ((with_reducible refine gate_callee (f := 24) rfl ?_); refine goesL_ (some 12) rfl rfl Try.func24 (by kernel_rfl) rfl #[.agg #[.int .i64 a0_0, .slice A0_1 l0_1.length c0_1]] rfl (by (try simp only [List.map_toArray, List.map_cons, List.map_nil]); first | done | rfl | (simp only [List.length_drop, List.length_take]; rfl)) ?_; (with_reducible refine (impl_RingOrder.calls a0_0 _ _ l0_1 t671 false _ ?side1 ?side2 A2.out).mono ?_); (case side1 => repeat (first | exact (Kd.C_below r2.out HB.out) | (with_reducible refine Kd.C_alloc ?_ _) | (with_reducible refine Kd.C_drewN ?_ _) | (with_reducible refine Kd.C_drew ?_))); (case side2 => exact HC0_1.out); rintro e w42 ⟨v672, rfl, ho0, hb⟩; refine ⟨_, rfl, ?_⟩; have n0_ := Aside0.mk (Kd.R_lower ho0 (below_size HB.out)); have n1_ := Aside0.mk (blk_below (g := p8) (o := .cells #[.int .i64 a0_0, .slice A0_1 l0_1.length c0_1] 38 (0, 0)) p3.out hb); have n2_ := Aside0.mk (below_step HB.out hb); clear p3; clear HB; have HO673 := n0_; have p3 := n1_; have HB := n2_; clear n0_ n1_ n2_; (try clear hb); (try clear hb2); (try clear hk); (try clear hi); (try clear ho0)))
  go_ret
  exact ⟨by first | rfl | (simp [errW_none, errW_some] <;> rfl) | (simp [*, errW_none, errW_some] <;> rfl), by repeat (first | (with_reducible first | exact HB.out | apply below_alloc | apply pw_below_drewN | apply below_drew1 | refine below_set ?_ q7.out) | exact HB.out)⟩
end Go.Proofs.Ytmabopomecdidaa.Pr
end
section
namespace Go.Proofs.Ytmabopomecdidaa.Pr
open Go.RowKit Go.Proofs.YtmabopomecdidaaW.PrintWords Go.Proofs.YtmabopomecdidaaW.PrintLast Go.Proofs.YtmabopomecdidaaW.PrintMore
attribute [local go_sem] max2_int min2_int max_two min_two max_three min_three max_four min_four
set_option linter.unusedVariables false
set_option linter.unusedSimpArgs false
def IsS112 (w0 W : World) (g : Nat) (f0 : List Int) (f1 : Int) : Prop := ∃ A0 c0, W.heap[g]? = some (.cells #[.slice A0 f0.length c0, .int .i64 f1] 112 (0, 0)) ∧ w0.heap.size ≤ g ∧ Kd.C (Kd.int .u8) w0 A0 f0.length f0
theorem IsS112.grown {w0 W : World} {g : Nat} {f0 : List Int} {f1 : Int} {W1 : World} {row : Option Nat} (h : IsS112 w0 W g f0 f1) (hw : W.grownBy W1 row) (hne : some g ≠ row) : IsS112 w0 W1 g f0 f1 := by
 obtain ⟨A0, c0, hb, hg, hr0⟩ := h
 exact ⟨A0, c0, blk_grown hb hw hne, hg, hr0⟩
theorem IsS112.below {w0 W : World} {g : Nat} {f0 : List Int} {f1 : Int} {W1 : World} (h : IsS112 w0 W g f0 f1) (hw : Below W.heap.size W W1) : IsS112 w0 W1 g f0 f1 := h.grown (grown_of_below hw none) (by simp)
theorem IsS112.grown2 {w0 W : World} {g : Nat} {f0 : List Int} {f1 : Int} {W0 W1 : World} {row : Option Nat} (_h0 : IsS112 w0 W0 g f0 f1) (h : IsS112 w0 W g f0 f1) (hw : W.grownBy W1 row) (hne : some g ≠ row) : IsS112 w0 W1 g f0 f1 := h.grown hw hne
theorem IsS112.alloc {w0 W : World} {g : Nat} {f0 : List Int} {f1 : Int} (h : IsS112 w0 W g f0 f1) (o : Obj) : IsS112 w0 (W.alloc o) g f0 f1 := h.below (below_alloc (Below.refl _ _) o)
theorem IsS112.drewN {w0 W : World} {g : Nat} {f0 : List Int} {f1 : Int} (h : IsS112 w0 W g f0 f1) (m : Nat) : IsS112 w0 (W.drewN m) g f0 f1 := h
theorem IsS112.drew {w0 W : World} {g : Nat} {f0 : List Int} {f1 : Int} (h : IsS112 w0 W g f0 f1) : IsS112 w0 W.drew g f0 f1 := h
theorem IsS112.apart {w0 W : World} {g : Nat} {f0 : List Int} {f1 : Int} {α : Type} {d : Kd α} {e : Nat} {base : Nat} {ok : Nat → Prop} {v : Value} {xs : List α} (h : IsS112 w0 W g f0 f1) (ho : d.R e W base ok v xs) (ht : ∀ q, q ∈ e :: d.E → q ≠ 112) : d.R e W base (fun k => ok k ∧ k ≠ g) v xs := by
 obtain ⟨A0, c0, hb, hg, hr0⟩ := h
 exact Kd.R_types ho hb ht
theorem IsS112.own_ne {w0 W : World} {g : Nat} {f0 : List Int} {f1 : Int} {α : Type} {d : Kd α} {e : Nat} {base : Nat} {ok : Nat → Prop} {v : Value} {xs : List α} (h : IsS112 w0 W g f0 f1) (ho : d.R e W base ok v xs) (ht : e ≠ 112) : some g ≠ v.ownBlock := by
 obtain ⟨A0, c0, hb, hg, hr0⟩ := h
 exact Kd.R_ne ho hb ht
theorem IsS112.lt {w0 W : World} {g : Nat} {f0 : List Int} {f1 : Int} (h : IsS112 w0 W g f0 f1) : g < W.heap.size := by
 obtain ⟨A0, c0, hb, hg, hr0⟩ := h
 exact blk_lt hb
theorem IsS112.ge {w0 W : World} {g : Nat} {f0 : List Int} {f1 : Int} (h : IsS112 w0 W g f0 f1) : w0.heap.size ≤ g := by
 obtain ⟨A0, c0, hb, hg, hr0⟩ := h
 exact hg
theorem IsS112.ne_blk {w0 W : World} {g : Nat} {f0 : List Int} {f1 : Int} {a : Nat} {cs : Array Value} {t : TypeId} {fr : Nat × Nat} (h : IsS112 w0 W g f0 f1) (hb2 : W.heap[a]? = some (.cells cs t fr)) (ht : t ≠ 112) : g ≠ a := by
 obtain ⟨A0, c0, hb, hg, hr0⟩ := h
 rintro rfl
 rw [hb] at hb2
 injection hb2 with hb2
 injection hb2 with _ ht2
 exact ht ht2.symm
theorem IsS112.far {w0 W : World} {g : Nat} {f0 : List Int} {f1 : Int} {p : Addr} (h : IsS112 w0 W g f0 f1) (hne : g ≠ p.block) (u : Value) : IsS112 w0 (W.setCell p u) g f0 f1 := by
 obtain ⟨A0, c0, hb, hg, hr0⟩ := h
 exact ⟨A0, c0, blk_far hb hne u, hg, hr0⟩
theorem cellS112_0 {W : World} {g : Nat} {A0 : Option Addr} {c0 : Nat} {f0 : List Int} {f1 : Int} (h : W.heap[g]? = some (.cells #[.slice A0 f0.length c0, .int .i64 f1] 112 (0, 0))) : W.cell? ⟨g, 0, none⟩ = some (.slice A0 f0.length c0) := (blk_cell h 0).trans rfl
theorem cellS112_1 {W : World} {g : Nat} {A0 : Option Addr} {c0 : Nat} {f0 : List Int} {f1 : Int} (h : W.heap[g]? = some (.cells #[.slice A0 f0.length c0, .int .i64 f1] 112 (0, 0))) : W.cell? ⟨g, 1, none⟩ = some (.int .i64 f1) := (blk_cell h 1).trans rfl
theorem IsS112.set_1 {w0 W : World} {g : Nat} {f0 : List Int} {f1 : Int} (h : IsS112 w0 W g f0 f1) (x : Int) : IsS112 w0 (W.setCell ⟨g, 1, none⟩ (.int .i64 x)) g f0 x := by
 obtain ⟨A0, c0, hb, hg, hr0⟩ := h
 exact ⟨A0, c0, by simpa using blk_set hb 1 (.int .i64 x), hg, hr0⟩
def spec_l30Rd_pick.j0 : Nat → Int → Bool → List Int → Int → Option (Int × Int)
 | 0, _, _, _, _ => none
 | k + 1, x1, x24, p0, p1 => if x24 = true then (some (0, p1)) else (if (wrap64 (p1 - 1)) < (p0.length : Int) then (if 0 ≤ (wrap64 (p1 - 1)) then (if x1 = 0 then (none) else (some (Int.tmod (wrap64 (rd p0 (wrap64 (p1 - 1)))) x1, p1))) else (none)) else (if (p0.length : Int) = 0 then (none) else (if 0 ≤ (Int.tmod (wrap64 (p1 - 1)) (p0.length : Int)) then (if (Int.tmod (wrap64 (p1 - 1)) (p0.length : Int)) < (p0.length : Int) then (if 0 ≤ (Int.tmod (wrap64 ((wrap64 ((wrap64 (p1 - 1)) * 7)) + 3)) (p0.length : Int)) then (if (Int.tmod (wrap64 ((wrap64 ((wrap64 (p1 - 1)) * 7)) + 3)) (p0.length : Int)) < (p0.length : Int) then (if x1 = 0 then (none) else (some (Int.tmod (Go.bits .xor .i64 (wrap64 ((wrap64 ((wrap64 ((wrap64 ((wrap64 (rd p0 (Int.tmod (wrap64 (p1 - 1)) (p0.length : Int)))) * 131)) + (wrap64 ((wrap64 (rd p0 (Int.tmod (wrap64 ((wrap64 ((wrap64 (p1 - 1)) * 7)) + 3)) (p0.length : Int)))) * 1117)))) + (wrap64 ((wrap64 (p1 - 1)) * 29)))) + (wrap64 ((wrap64 (Int.tdiv (wrap64 (p1 - 1)) (p0.length : Int))) * 53)))) (wrap64 (Int.tdiv (wrap64 ((wrap64 ((wrap64 ((wrap64 ((wrap64 (rd p0 (Int.tmod (wrap64 (p1 - 1)) (p0.length : Int)))) * 131)) + (wrap64 ((wrap64 (rd p0 (Int.tmod (wrap64 ((wrap64 ((wrap64 (p1 - 1)) * 7)) + 3)) (p0.length : Int)))) * 1117)))) + (wrap64 ((wrap64 (p1 - 1)) * 29)))) + (wrap64 ((wrap64 (Int.tdiv (wrap64 (p1 - 1)) (p0.length : Int))) * 53)))) 64))) x1, p1))) else (none)) else (none)) else (none)) else (none))))
def spec_l30Rd_pick.f (k : Nat) (s0_0 : List Int) (s0_1 : Int) (a1 : Int) : Option (Int × Int) := if a1 < 1 then (spec_l30Rd_pick.j0 k a1 true s0_0 (wrap64 (s0_1 + 1))) else (spec_l30Rd_pick.j0 k a1 ((s0_0.length : Int) == 0) s0_0 (wrap64 (s0_1 + 1)))
set_option maxHeartbeats 8000000 in
set_option maxRecDepth 100000 in
theorem spec_l30Rd_pick.calls (k : Nat) (g : Nat) (s0_0 : List Int) (s0_1 : Int) (a1 : Int) (r1 : Int) (r2 : Int) (w0 w : World) (hI : IsS112 w0 w g s0_0 s0_1) (hB : Below w0.heap.size w0 w) (h : spec_l30Rd_pick.f k s0_0 s0_1 a1 = some (r1, r2)) :
  Calls Try.prog 74 #[.pointer (some ⟨g, 0, none⟩), .int .i64 a1] w fun e w' => e = .returned (.int .i64 r1) ∧ IsS112 w0 w' g s0_0 r2 ∧ Below w0.heap.size w0 w' ∧ KeepBut w w' g none := by
 have HI0 := Aside0.mk hI
 have HK := Aside0.mk (KeepBut.refl w g none)
 have HL := Aside0.mk hB.size
 clear hI
 have HW0 := Aside0.mk hB.size
 have HB := Aside0.mk hB
 clear hB
 have H : (if a1 < 1 then (spec_l30Rd_pick.j0 k a1 true s0_0 (wrap64 (s0_1 + 1))) else (spec_l30Rd_pick.j0 k a1 ((s0_0.length : Int) == 0) s0_0 (wrap64 (s0_1 + 1)))) = some (r1, r2) := h
 clear h
 have HC3 := Aside0.mk H
 clear H
 obtain ⟨ASz4_0, cSz4_0, HGz4, hgz4, HSz4_0⟩ := HI0.out
 have hcz4_0 := cellS112_0 HGz4
 have hcz4_1 := cellS112_1 HGz4
 have hfz4_1 := blk_frozen HGz4 1
 clear HGz4 hgz4
 go_enter Try.func74, Try.ntmps74
 go_upto_region 2 with (fail)
 repeat (go_quiet (fail); go_upto_region 2 with (fail))
 go_cut [24] (fun v24 wc => ∃ (kq : Nat) (p3 : Bool), v24 = .bool p3 ∧ Aside0 (spec_l30Rd_pick.j0 kq a1 p3 s0_0 (wrap64 (s0_1 + 1)) = some (r1, r2)) ∧ Aside0 (kq ≤ k) ∧ Aside0 (IsS112 w0 wc g s0_0 (wrap64 (s0_1 + 1))) ∧ Aside0 (KeepBut w wc g none) ∧ Aside0 (Below w0.heap.size w0 wc))
 case first =>
  have H := HC3.out
  clear HC3
  by_cases c5 : a1 < 1
  ·rw [if_pos c5] at H
   have c5b0 : decide (a1 < 1) = true := decide_eq_true c5
   clear c5
   (first | rw [c5b0] | (simp only [i64_w, i32_w]; rw [c5b0]) | skip)
   have H' := Aside0.mk H
   clear H
   go_wp2
   repeat (go_quiet (fail); try go_wp2)
   go_meet
   case rel => exact ⟨_, (true), (by first | rfl | (simp; done) | (simp [*]; done)), H', ⟨by first | omega | exact Nat.le_refl _⟩, ⟨by repeat (first | (with_reducible first | exact HI0.out | apply IsS112.alloc | apply IsS112.drewN | apply IsS112.drew | apply IsS112.set_1) | exact HI0.out)⟩, ⟨by repeat (first | (with_reducible first | exact HK.out | apply KeepBut.set_ | apply keep_drewN | apply keep_drew | apply keep_alloc) | exact HK.out)⟩, ⟨by repeat (first | (with_reducible first | exact HB.out | apply below_alloc | apply pw_below_drewN | apply below_drew1 | refine below_set ?_ (IsS112.ge HI0.out)) | exact HB.out)⟩⟩
  ·rw [if_neg c5] at H
   have c5b0 : decide (a1 < 1) = false := decide_eq_false c5
   clear c5
   (first | rw [c5b0] | (simp only [i64_w, i32_w]; rw [c5b0]) | skip)
   have H' := Aside0.mk H
   clear H
   obtain ⟨ASz6_0, cSz6_0, HGz6, hgz6, HSz6_0⟩ := HI0.out
   have hcz6_0 := cellS112_0 HGz6
   have hcz6_1 := cellS112_1 HGz6
   have hfz6_1 := blk_frozen HGz6 1
   clear HGz6 hgz6
   go_wp2
   repeat (go_quiet (fail); try go_wp2)
   go_meet
   case rel => exact ⟨_, (((s0_0.length : Int) == 0)), (by first | rfl | (simp; done) | (simp [*]; done)), H', ⟨by first | omega | exact Nat.le_refl _⟩, ⟨by repeat (first | (with_reducible first | exact HI0.out | apply IsS112.alloc | apply IsS112.drewN | apply IsS112.drew | apply IsS112.set_1) | exact HI0.out)⟩, ⟨by repeat (first | (with_reducible first | exact HK.out | apply KeepBut.set_ | apply keep_drewN | apply keep_drew | apply keep_alloc) | exact HK.out)⟩, ⟨by repeat (first | (with_reducible first | exact HB.out | apply below_alloc | apply pw_below_drewN | apply below_drew1 | refine below_set ?_ (IsS112.ge HI0.out)) | exact HB.out)⟩⟩
 case rest =>
  clear HC3
  try clear p2
  try clear c5
  try clear c5b0
  try clear p6
  try clear hcz4_0
  try clear hcz4_1
  try clear hcz6_0
  try clear hcz6_1
  try clear hfz4_1
  try clear hfz6_1
  obtain ⟨kq, p3, rfl, HA, HJ2, HI0, HK, HB⟩ := hcut
  cases kq with
  | zero => exact absurd HA.out (by simp [spec_l30Rd_pick.j0])
  | succ kj2 =>
   have H := HA.out
   clear HA
   simp only [spec_l30Rd_pick.j0] at H
   by_cases c7 : p3 = true
   ·subst c7
    have H1 : (some (0, (wrap64 (s0_1 + 1)))) = some (r1, r2) := by rw [if_pos rfl] at H; exact H
    clear H
    have H := H1
    clear H1
    simp only [Option.some.injEq, Prod.mk.injEq] at H
    obtain ⟨rfl, rfl⟩ := H
    go_wp2
    repeat (go_quiet (fail); try go_wp2)
    go_ret
    exact ⟨by first | rfl | (simp [errW_none, errW_some] <;> rfl) | (simp [*, errW_none, errW_some] <;> rfl), by repeat (first | (with_reducible first | exact HI0.out | apply IsS112.alloc | apply IsS112.drewN | apply IsS112.drew | apply IsS112.set_1) | exact HI0.out), by repeat (first | (with_reducible first | exact HB.out | apply below_alloc | apply pw_below_drewN | apply below_drew1 | refine below_set ?_ (IsS112.ge HI0.out)) | exact HB.out), by repeat (first | (with_reducible first | exact HK.out | apply KeepBut.set_ | apply keep_drewN | apply keep_drew | apply keep_alloc) | exact HK.out)⟩
   ·replace c7 := Bool.eq_false_iff.mpr c7
    subst c7
    have H1 : (if (wrap64 ((wrap64 (s0_1 + 1)) - 1)) < (s0_0.length : Int) then (if 0 ≤ (wrap64 ((wrap64 (s0_1 + 1)) - 1)) then (if a1 = 0 then (none) else (some (Int.tmod (wrap64 (rd s0_0 (wrap64 ((wrap64 (s0_1 + 1)) - 1)))) a1, (wrap64 (s0_1 + 1))))) else (none)) else (if (s0_0.length : Int) = 0 then (none) else (if 0 ≤ (Int.tmod (wrap64 ((wrap64 (s0_1 + 1)) - 1)) (s0_0.length : Int)) then (if (Int.tmod (wrap64 ((wrap64 (s0_1 + 1)) - 1)) (s0_0.length : Int)) < (s0_0.length : Int) then (if 0 ≤ (Int.tmod (wrap64 ((wrap64 ((wrap64 ((wrap64 (s0_1 + 1)) - 1)) * 7)) + 3)) (s0_0.length : Int)) then (if (Int.tmod (wrap64 ((wrap64 ((wrap64 ((wrap64 (s0_1 + 1)) - 1)) * 7)) + 3)) (s0_0.length : Int)) < (s0_0.length : Int) then (if a1 = 0 then (none) else (some (Int.tmod (Go.bits .xor .i64 (wrap64 ((wrap64 ((wrap64 ((wrap64 ((wrap64 (rd s0_0 (Int.tmod (wrap64 ((wrap64 (s0_1 + 1)) - 1)) (s0_0.length : Int)))) * 131)) + (wrap64 ((wrap64 (rd s0_0 (Int.tmod (wrap64 ((wrap64 ((wrap64 ((wrap64 (s0_1 + 1)) - 1)) * 7)) + 3)) (s0_0.length : Int)))) * 1117)))) + (wrap64 ((wrap64 ((wrap64 (s0_1 + 1)) - 1)) * 29)))) + (wrap64 ((wrap64 (Int.tdiv (wrap64 ((wrap64 (s0_1 + 1)) - 1)) (s0_0.length : Int))) * 53)))) (wrap64 (Int.tdiv (wrap64 ((wrap64 ((wrap64 ((wrap64 ((wrap64 (rd s0_0 (Int.tmod (wrap64 ((wrap64 (s0_1 + 1)) - 1)) (s0_0.length : Int)))) * 131)) + (wrap64 ((wrap64 (rd s0_0 (Int.tmod (wrap64 ((wrap64 ((wrap64 ((wrap64 (s0_1 + 1)) - 1)) * 7)) + 3)) (s0_0.length : Int)))) * 1117)))) + (wrap64 ((wrap64 ((wrap64 (s0_1 + 1)) - 1)) * 29)))) + (wrap64 ((wrap64 (Int.tdiv (wrap64 ((wrap64 (s0_1 + 1)) - 1)) (s0_0.length : Int))) * 53)))) 64))) a1, (wrap64 (s0_1 + 1))))) else (none)) else (none)) else (none)) else (none)))) = some (r1, r2) := by rw [if_neg (show ¬ (false = true) by decide)] at H; exact H
    clear H
    have H := H1
    clear H1
    by_cases c8 : (wrap64 ((wrap64 (s0_1 + 1)) - 1)) < (s0_0.length : Int)
    ·rw [if_pos c8] at H
     have c8b0 : decide ((wrap64 ((wrap64 (s0_1 + 1)) - 1)) < (s0_0.length : Int)) = true := decide_eq_true c8
     clear c8
     obtain ⟨ji9, hji9⟩ : ∃ j_ : Int, (wrap64 ((wrap64 (s0_1 + 1)) - 1)) = j_ := ⟨_, rfl⟩
     replace H : (if 0 ≤ (ji9) then (if a1 = 0 then (none) else (some (Int.tmod (wrap64 (rd s0_0 (ji9))) a1, (wrap64 (s0_1 + 1))))) else (none)) = some (r1, r2) := by first | (rw [hji9] at H; exact H) | (simp only [hji9] at H ⊢; exact H)
     (try rw [hji9] at c8b0)
     have hji9w : (IntKind.i64.wrap ((wrap64 (s0_1 + 1)) - 1)) = ji9 := (i64_w _).trans hji9
     by_cases c10 : 0 ≤ (ji9)
     ·rw [if_pos c10] at H
      have c10b0 : decide (0 ≤ (ji9)) = true := decide_eq_true c10
      clear c10
      by_cases c11 : a1 = 0
      ·rw [if_pos c11] at H
       exact absurd H (by simp)
      ·rw [if_neg c11] at H
       have c11b0 : (a1 == 0) = false := beq_eq_false_iff_ne.mpr c11
       have c11b1 : (a1 != 0) = true := bne_iff_ne.mpr c11
       simp only [Option.some.injEq, Prod.mk.injEq] at H
       obtain ⟨rfl, rfl⟩ := H
       obtain ⟨ASz12_0, cSz12_0, HGz12, hgz12, HSz12_0⟩ := HI0.out
       have hcz12_0 := cellS112_0 HGz12
       have hcz12_1 := cellS112_1 HGz12
       have hfz12_1 := blk_frozen HGz12 1
       clear HGz12 hgz12
       have p201 : 0 ≤ ((ji9) : Int) := of_decide_eq_true (by first | (with_reducible assumption) | assumption)
       have q201 : (ji9) < (s0_0.length : Int) := of_decide_eq_true (by first | (with_reducible assumption) | assumption)
       obtain ⟨ad201, e201, p4⟩ := Kd.at_int HSz12_0 (ji9) p201 q201
       cases e201
       replace p4 := pw_cell_below HB.out p4
       replace p201 := eq_true p201
       replace q201 := eq_true q201
       go_wp2
       repeat (go_quiet (fail); try go_wp2)
       go_ret
       exact ⟨by first | rfl | (simp [errW_none, errW_some] <;> rfl) | (simp only [← hji9]; first | rfl | (simp [errW_none, errW_some] <;> rfl)) | (simp [*, errW_none, errW_some] <;> rfl), by repeat (first | (with_reducible first | exact HI0.out | apply IsS112.alloc | apply IsS112.drewN | apply IsS112.drew | apply IsS112.set_1) | exact HI0.out), by repeat (first | (with_reducible first | exact HB.out | apply below_alloc | apply pw_below_drewN | apply below_drew1 | refine below_set ?_ (IsS112.ge HI0.out)) | exact HB.out), by repeat (first | (with_reducible first | exact HK.out | apply KeepBut.set_ | apply keep_drewN | apply keep_drew | apply keep_alloc) | exact HK.out)⟩
     ·rw [if_neg c10] at H
      exact absurd H (by simp)
    ·rw [if_neg c8] at H
     have c8b0 : decide ((wrap64 ((wrap64 (s0_1 + 1)) - 1)) < (s0_0.length : Int)) = false := decide_eq_false c8
     clear c8
     by_cases c13 : (s0_0.length : Int) = 0
     ·rw [if_pos c13] at H
      exact absurd H (by simp)
     ·rw [if_neg c13] at H
      have c13b0 : ((s0_0.length : Int) == 0) = false := beq_eq_false_iff_ne.mpr c13
      have c13b1 : ((s0_0.length : Int) != 0) = true := bne_iff_ne.mpr c13
      have c13b2 : ¬ (s0_0 = []) := fun h_ => c13 (by rw [h_]; rfl)
      obtain ⟨ji14, hji14⟩ : ∃ j_ : Int, (Int.tmod (wrap64 ((wrap64 (s0_1 + 1)) - 1)) (s0_0.length : Int)) = j_ := ⟨_, rfl⟩
      replace H : (if 0 ≤ (ji14) then (if (ji14) < (s0_0.length : Int) then (if 0 ≤ (Int.tmod (wrap64 ((wrap64 ((wrap64 ((wrap64 (s0_1 + 1)) - 1)) * 7)) + 3)) (s0_0.length : Int)) then (if (Int.tmod (wrap64 ((wrap64 ((wrap64 ((wrap64 (s0_1 + 1)) - 1)) * 7)) + 3)) (s0_0.length : Int)) < (s0_0.length : Int) then (if a1 = 0 then (none) else (some (Int.tmod (Go.bits .xor .i64 (wrap64 ((wrap64 ((wrap64 ((wrap64 ((wrap64 (rd s0_0 (ji14))) * 131)) + (wrap64 ((wrap64 (rd s0_0 (Int.tmod (wrap64 ((wrap64 ((wrap64 ((wrap64 (s0_1 + 1)) - 1)) * 7)) + 3)) (s0_0.length : Int)))) * 1117)))) + (wrap64 ((wrap64 ((wrap64 (s0_1 + 1)) - 1)) * 29)))) + (wrap64 ((wrap64 (Int.tdiv (wrap64 ((wrap64 (s0_1 + 1)) - 1)) (s0_0.length : Int))) * 53)))) (wrap64 (Int.tdiv (wrap64 ((wrap64 ((wrap64 ((wrap64 ((wrap64 (rd s0_0 (ji14))) * 131)) + (wrap64 ((wrap64 (rd s0_0 (Int.tmod (wrap64 ((wrap64 ((wrap64 ((wrap64 (s0_1 + 1)) - 1)) * 7)) + 3)) (s0_0.length : Int)))) * 1117)))) + (wrap64 ((wrap64 ((wrap64 (s0_1 + 1)) - 1)) * 29)))) + (wrap64 ((wrap64 (Int.tdiv (wrap64 ((wrap64 (s0_1 + 1)) - 1)) (s0_0.length : Int))) * 53)))) 64))) a1, (wrap64 (s0_1 + 1))))) else (none)) else (none)) else (none)) else (none)) = some (r1, r2) := by first | (rw [hji14] at H; exact H) | (simp only [hji14] at H ⊢; exact H)
      by_cases c15 : 0 ≤ (ji14)
      ·rw [if_pos c15] at H
       have c15b0 : decide (0 ≤ (ji14)) = true := decide_eq_true c15
       clear c15
       by_cases c16 : (ji14) < (s0_0.length : Int)
       ·rw [if_pos c16] at H
        have c16b0 : decide ((ji14) < (s0_0.length : Int)) = true := decide_eq_true c16
        clear c16
        obtain ⟨ji17, hji17⟩ : ∃ j_ : Int, (Int.tmod (wrap64 ((wrap64 ((wrap64 ((wrap64 (s0_1 + 1)) - 1)) * 7)) + 3)) (s0_0.length : Int)) = j_ := ⟨_, rfl⟩
        replace H : (if 0 ≤ (ji17) then (if (ji17) < (s0_0.length : Int) then (if a1 = 0 then (none) else (some (Int.tmod (Go.bits .xor .i64 (wrap64 ((wrap64 ((wrap64 ((wrap64 ((wrap64 (rd s0_0 (ji14))) * 131)) + (wrap64 ((wrap64 (rd s0_0 (ji17))) * 1117)))) + (wrap64 ((wrap64 ((wrap64 (s0_1 + 1)) - 1)) * 29)))) + (wrap64 ((wrap64 (Int.tdiv (wrap64 ((wrap64 (s0_1 + 1)) - 1)) (s0_0.length : Int))) * 53)))) (wrap64 (Int.tdiv (wrap64 ((wrap64 ((wrap64 ((wrap64 ((wrap64 (rd s0_0 (ji14))) * 131)) + (wrap64 ((wrap64 (rd s0_0 (ji17))) * 1117)))) + (wrap64 ((wrap64 ((wrap64 (s0_1 + 1)) - 1)) * 29)))) + (wrap64 ((wrap64 (Int.tdiv (wrap64 ((wrap64 (s0_1 + 1)) - 1)) (s0_0.length : Int))) * 53)))) 64))) a1, (wrap64 (s0_1 + 1))))) else (none)) else (none)) = some (r1, r2) := by first | (rw [hji17] at H; exact H) | (simp only [hji17] at H ⊢; exact H)
        by_cases c18 : 0 ≤ (ji17)
        ·rw [if_pos c18] at H
         have c18b0 : decide (0 ≤ (ji17)) = true := decide_eq_true c18
         clear c18
         by_cases c19 : (ji17) < (s0_0.length : Int)
         ·rw [if_pos c19] at H
          have c19b0 : decide ((ji17) < (s0_0.length : Int)) = true := decide_eq_true c19
          clear c19
          by_cases c20 : a1 = 0
          ·rw [if_pos c20] at H
           exact absurd H (by simp)
          ·rw [if_neg c20] at H
           have c20b0 : (a1 == 0) = false := beq_eq_false_iff_ne.mpr c20
           have c20b1 : (a1 != 0) = true := bne_iff_ne.mpr c20
           simp only [Option.some.injEq, Prod.mk.injEq] at H
           obtain ⟨rfl, rfl⟩ := H
           obtain ⟨ASz21_0, cSz21_0, HGz21, hgz21, HSz21_0⟩ := HI0.out
           have hcz21_0 := cellS112_0 HGz21
           have hcz21_1 := cellS112_1 HGz21
           have hfz21_1 := blk_frozen HGz21 1
           clear HGz21 hgz21
           have p202 : 0 ≤ ((ji14) : Int) := of_decide_eq_true (by first | (with_reducible assumption) | assumption)
           have q202 : (ji14) < (s0_0.length : Int) := of_decide_eq_true (by first | (with_reducible assumption) | assumption)
           obtain ⟨ad202, e202, p5⟩ := Kd.at_int HSz21_0 (ji14) p202 q202
           cases e202
           replace p5 := pw_cell_below HB.out p5
           replace p202 := eq_true p202
           replace q202 := eq_true q202
           have p203 : 0 ≤ ((ji17) : Int) := of_decide_eq_true (by first | (with_reducible assumption) | assumption)
           have q203 : (ji17) < (s0_0.length : Int) := of_decide_eq_true (by first | (with_reducible assumption) | assumption)
           obtain ⟨ad203, e203, p7⟩ := Kd.at_int HSz21_0 (ji17) p203 q203
           obtain rfl : ad202 = ad203 := (by injection e203)
           replace p7 := pw_cell_below HB.out p7
           replace p203 := eq_true p203
           replace q203 := eq_true q203
           go_wp2
           repeat (go_quiet (fail); try go_wp2)
           go_ret
           exact ⟨by first | rfl | (simp [errW_none, errW_some] <;> rfl) | (simp only [← hji14, ← hji17]; first | rfl | (simp [errW_none, errW_some] <;> rfl)) | (simp [*, errW_none, errW_some] <;> rfl), by repeat (first | (with_reducible first | exact HI0.out | apply IsS112.alloc | apply IsS112.drewN | apply IsS112.drew | apply IsS112.set_1) | exact HI0.out), by repeat (first | (with_reducible first | exact HB.out | apply below_alloc | apply pw_below_drewN | apply below_drew1 | refine below_set ?_ (IsS112.ge HI0.out)) | exact HB.out), by repeat (first | (with_reducible first | exact HK.out | apply KeepBut.set_ | apply keep_drewN | apply keep_drew | apply keep_alloc) | exact HK.out)⟩
         ·rw [if_neg c19] at H
          exact absurd H (by simp)
        ·rw [if_neg c18] at H
         exact absurd H (by simp)
       ·rw [if_neg c16] at H
        exact absurd H (by simp)
      ·rw [if_neg c15] at H
       exact absurd H (by simp)
end Go.Proofs.Ytmabopomecdidaa.Pr
end
section
namespace Go.Proofs.Ytmabopomecdidaa.Pr
open Go.RowKit Go.Proofs.YtmabopomecdidaaW.PrintWords Go.Proofs.YtmabopomecdidaaW.PrintLast Go.Proofs.YtmabopomecdidaaW.PrintMore
attribute [local go_sem] max2_int min2_int max_two min_two max_three min_three max_four min_four
set_option linter.unusedVariables false
set_option linter.unusedSimpArgs false
def spec_l30Rd_one.f (k : Nat) (s0_0 : List Int) (s0_1 : Int) (l1 : List Int) : Option (Int × Int) := (spec_l30Rd_pick.f k s0_0 s0_1 (l1.length : Int)).bind fun bt204 => (if 0 ≤ bt204.1 then (if bt204.1 < (l1.length : Int) then (some (rd l1 bt204.1, bt204.2)) else (none)) else (none))
set_option maxHeartbeats 8000000 in
set_option maxRecDepth 100000 in
theorem spec_l30Rd_one.calls (k : Nat) (g : Nat) (s0_0 : List Int) (s0_1 : Int) (A1 : Option Addr) (c1 : Nat) (l1 : List Int) (r1 : Int) (r2 : Int) (w0 w : World) (hI : IsS112 w0 w g s0_0 s0_1) (hB : Below w0.heap.size w0 w) (hr1 : Kd.C (Kd.int .i64) w A1 l1.length l1) (hc1 : l1.length ≤ c1) (hf1 : ∀ ad, A1 = some ad → 0 < l1.length → ad.block ≠ g) (h : spec_l30Rd_one.f k s0_0 s0_1 l1 = some (r1, r2)) :
  Calls Try.prog 75 #[.pointer (some ⟨g, 0, none⟩), .slice A1 l1.length c1] w fun e w' => e = .returned (.int .i64 r1) ∧ IsS112 w0 w' g s0_0 r2 ∧ Below w0.heap.size w0 w' ∧ KeepBut w w' g none := by
 have HR1 := Aside0.mk hr1
 have HC1 := Aside0.mk hc1
 clear hr1 hc1
 have HI0 := Aside0.mk hI
 have HK := Aside0.mk (KeepBut.refl w g none)
 have HL := Aside0.mk hB.size
 clear hI
 have HW0 := Aside0.mk hB.size
 have HB := Aside0.mk hB
 clear hB
 have H : ((spec_l30Rd_pick.f k s0_0 s0_1 (l1.length : Int)).bind fun bt204 => (if 0 ≤ bt204.1 then (if bt204.1 < (l1.length : Int) then (some (rd l1 bt204.1, bt204.2)) else (none)) else (none))) = some (r1, r2) := h
 clear h
 replace H := Option.bind_eq_some_iff.mp H
 obtain ⟨⟨t204, t205⟩, A30, H⟩ := H
 replace H : (if 0 ≤ t204 then (if t204 < (l1.length : Int) then (some (rd l1 t204, t205)) else (none)) else (none)) = some (r1, r2) := H
 have A3 := Aside0.mk A30
 clear A30
 by_cases c4 : 0 ≤ t204
 ·rw [if_pos c4] at H
  have c4b0 : decide (0 ≤ t204) = true := decide_eq_true c4
  clear c4
  by_cases c5 : t204 < (l1.length : Int)
  ·rw [if_pos c5] at H
   have c5b0 : decide (t204 < (l1.length : Int)) = true := decide_eq_true c5
   clear c5
   simp only [Option.some.injEq, Prod.mk.injEq] at H
   obtain ⟨rfl, rfl⟩ := H
   go_enter Try.func75, Try.ntmps75
   go_wp2_with (first | ((with_reducible refine gate_callee (f := 74) rfl ?_); refine goesL_ (some 9) rfl rfl Try.func74 (by kernel_rfl) rfl #[.pointer (some ⟨g, 0, none⟩), .int .i64 (l1.length : Int)] rfl (by (try simp only [List.map_toArray, List.map_cons, List.map_nil]); first | done | rfl | (simp only [List.length_drop, List.length_take]; rfl)) ?_; (with_reducible refine (spec_l30Rd_pick.calls k g s0_0 s0_1 (l1.length : Int) t204 t205 w0 _ ?side1 ?side2 A3.out).mono ?_); (case side1 => repeat (first | (with_reducible first | exact HI0.out | apply IsS112.alloc | apply IsS112.drewN | apply IsS112.drew | apply IsS112.set_1) | exact HI0.out)); (case side2 => repeat (first | (with_reducible first | exact HB.out | apply below_alloc | apply pw_below_drewN | apply below_drew1 | refine below_set ?_ (IsS112.ge HI0.out)) | exact HB.out)); rintro e w6 ⟨rfl, hi, hb, hk⟩; refine ⟨_, rfl, ?_⟩; have n0_ := Aside0.mk (KeepBut.trans (by repeat (first | (with_reducible first | exact HK.out | apply KeepBut.set_ | apply keep_drewN | apply keep_drew | apply keep_alloc) | exact HK.out)) hk (.inl rfl)); have n1_ := Aside0.mk (hb); have n2_ := Aside0.mk (hi); clear HK; clear HB; clear HI0; have HK := n0_; have HB := n1_; have HI0 := n2_; clear n0_ n1_ n2_; (try clear hb); (try clear hb2); (try clear hk); (try clear hi); have p206 : 0 ≤ (t204 : Int) := of_decide_eq_true (by first | (with_reducible assumption) | assumption); have q206 : t204 < (l1.length : Int) := of_decide_eq_true (by first | (with_reducible assumption) | assumption); obtain ⟨ad206, e206, hx206_0⟩ := Kd.at_int HR1.out t204 p206 q206; cases e206; replace hx206_0 := keep_cell HK.out hx206_0 (by first | (rw [add_block]; exact hf1 _ rfl (by omega)) | exact hf1 _ rfl (by omega) | exact hf1 ad206 rfl (by omega)); replace p206 := eq_true p206; replace q206 := eq_true q206))
   go_ret
   exact ⟨by first | rfl | (simp [errW_none, errW_some] <;> rfl) | (simp [*, errW_none, errW_some] <;> rfl), by repeat (first | (with_reducible first | exact HI0.out | apply IsS112.alloc | apply IsS112.drewN | apply IsS112.drew | apply IsS112.set_1) | exact HI0.out), by repeat (first | (with_reducible first | exact HB.out | apply below_alloc | apply pw_below_drewN | apply below_drew1 | refine below_set ?_ (IsS112.ge HI0.out)) | exact HB.out), by repeat (first | (with_reducible first | exact HK.out | apply KeepBut.set_ | apply keep_drewN | apply keep_drew | apply keep_alloc) | exact HK.out)⟩
  ·rw [if_neg c5] at H
   exact absurd H (by simp)
 ·rw [if_neg c4] at H
  exact absurd H (by simp)
end Go.Proofs.Ytmabopomecdidaa.Pr
end
section
namespace Go.Proofs.Ytmabopomecdidaa.Pr
open Go.RowKit Go.Proofs.YtmabopomecdidaaW.PrintWords Go.Proofs.YtmabopomecdidaaW.PrintLast Go.Proofs.YtmabopomecdidaaW.PrintMore
attribute [local go_sem] max2_int min2_int max_two min_two max_three min_three max_four min_four
set_option linter.unusedVariables false
set_option linter.unusedSimpArgs false
abbrev Y30 := true
abbrev N30 := false
def spec_l30Net.l0 : Nat → Int → List Int → Int → Int → List (S45) → Option (Int × (List (S45)) × Int)
 | 0, _, _, _, _, _ => none
 | k + 1, x4, v0, x1001, u3, u4 => if x4 > 0 then ((spec_l30Rd_pick.f k v0 x1001 u3).bind fun bt213 => ((spec_l30Rd_pick.f k v0 bt213.2 u3).bind fun bt215 => ((spec_l30Rd_pick.f k v0 bt215.2 100).bind fun bt217 => ((spec_l30Rd_one.f k v0 bt217.2 (([0, 1, 2, 5, 9, bt217.1] : List Int))).bind fun bt222 => ((spec_l30Rd_one.f k v0 bt222.2 (([0, 0, 3, 8] : List Int))).bind fun bt227 => ((spec_l30Rd_pick.f k v0 bt227.2 10).bind fun bt229 => (if bt213.1 = bt215.1 then (if u3 = 0 then (none) else (if u4.length < 3518437208883 then (spec_l30Net.l0 k (wrap64 (x4 - 1)) v0 bt229.2 u3 (u4 ++ [(⟨bt213.1, Int.tmod (wrap64 (bt215.1 + 1)) u3, bt222.1, bt227.1, bt229.1⟩ : S45)])) else (none))) else (if u4.length < 3518437208883 then (spec_l30Net.l0 k (wrap64 (x4 - 1)) v0 bt229.2 u3 (u4 ++ [(⟨bt213.1, bt215.1, bt222.1, bt227.1, bt229.1⟩ : S45)])) else (none))))))))) else (some (u3, u4, x1001))
def spec_l30Net.f (k : Nat) (s0_0 : List Int) (s0_1 : Int) : Option (Int × (List (S45)) × Int) := (spec_l30Rd_pick.f k s0_0 s0_1 5).bind fun bt208 => ((spec_l30Rd_pick.f k s0_0 bt208.2 14).bind fun bt211 => (spec_l30Net.l0 k bt211.1 s0_0 bt211.2 (wrap64 (2 + bt208.1)) ([] : List (S45))))
def spec_l30Net.T5 : Bool × List (List Nat × List Nat) := (true, [([], []), ([], []), ([1], [1]), ([0, 2], [0, 2]), ([], []), ([], []), ([5], [5]), ([4, 6, 3], [4, 6]), ([], []), ([], []), ([9, 7], [9]), ([10], [10]), ([8, 11, 10], [8, 11]), ([], []), ([], []), ([13, 14, 12], [13, 14]), ([], []), ([16, 15], [16]), ([3, 7, 12, 15, 17], [3, 7, 12, 15, 17]), ([], []), ([19, 18, 17, 0, 1, 2, 3, 4, 5, 6, 7, 8, 9, 10, 11, 12, 13, 14, 15, 16, 17, 18, 19], [18, 19])])
def spec_l30Net.B5 : List Nat := [0, 0, 2, 7, 0, 0, 32, 127, 0, 0, 767, 1791, 4095, 0, 0, 32767, 0, 131071, 262143, 0, 1048575]
theorem spec_l30Net.tab5 : rtab .any (opsOf Try.f115 5) = spec_l30Net.T5 := by kernel_rfl
theorem spec_l30Net.bits5 : waitsOk spec_l30Net.T5.2 spec_l30Net.B5 = true := by kernel_rfl
set_option maxHeartbeats 8000000 in
set_option maxRecDepth 100000 in
theorem spec_l30Net.calls (k : Nat) (g : Nat) (s0_0 : List Int) (s0_1 : Int) (r1 : Int) (r2 : List (S45)) (r3 : Int) (w0 w : World) (hI : IsS112 w0 w g s0_0 s0_1) (hB : Below w0.heap.size w0 w) (h : spec_l30Net.f k s0_0 s0_1 = some (r1, r2, r3)) :
  Calls Try.prog 115 #[.pointer (some ⟨g, 0, none⟩)] w fun e w' => ∃ v1_ : Value, e = .returned (.agg #[.int .i64 r1, v1_]) ∧ Kd.R k45 45 w' w.heap.size (fun _ => True) v1_ r2 ∧ IsS112 w0 w' g s0_0 r3 ∧ Below w0.heap.size w0 w' ∧ KeepBut w w' g none := by
 have hu38 := Try.underlying38
 have hu45 := Try.underlying45
 have HI0 := Aside0.mk hI
 have HLTg := Aside0.mk (IsS112.lt hI)
 have HK := Aside0.mk (KeepBut.refl w g none)
 have HL := Aside0.mk hB.size
 clear hI
 have HW0 := Aside0.mk hB.size
 have HB := Aside0.mk hB
 clear hB
 have H : ((spec_l30Rd_pick.f k s0_0 s0_1 5).bind fun bt208 => ((spec_l30Rd_pick.f k s0_0 bt208.2 14).bind fun bt211 => (spec_l30Net.l0 k bt211.1 s0_0 bt211.2 (wrap64 (2 + bt208.1)) ([] : List (S45))))) = some (r1, r2, r3) := h
 clear h
 replace H := Option.bind_eq_some_iff.mp H
 obtain ⟨⟨t208, t209⟩, A20, H⟩ := H
 replace H : ((spec_l30Rd_pick.f k s0_0 t209 14).bind fun bt211 => (spec_l30Net.l0 k bt211.1 s0_0 bt211.2 (wrap64 (2 + t208)) ([] : List (S45)))) = some (r1, r2, r3) := H
 have A2 := Aside0.mk A20
 clear A20
 replace H := Option.bind_eq_some_iff.mp H
 obtain ⟨⟨t211, t212⟩, A30, H⟩ := H
 replace H : (spec_l30Net.l0 k t211 s0_0 t212 (wrap64 (2 + t208)) ([] : List (S45))) = some (r1, r2, r3) := H
 have A3 := Aside0.mk A30
 clear A30
 have H' := Aside0.mk H
 clear H
 go_enter Try.func115, Try.ntmps115
 go_wp2_with (first | ((with_reducible refine gate_dst (N := 2) rfl ?_); refine box_event ?hg (N := 2) ?hd (cs := #[.int .i64 0, .slice none 0 0]) (t := 38) ?hr ?_; (case hd => rfl); (case hg => rfl); (case hr => first | (go_simp; done) | (go_simp; rfl)); intro t0 hg w4 hbox hb; have n0_ := Aside0.mk (IsS112.below HI0.out hb); have n1_ := Aside0.mk (KeepBut.trans HK.out (KeepBut.of_below hb g none) (.inl rfl)); have n2_ := Aside0.mk (below_step HB.out hb); have n3_ := Aside0.mk (hbox); have n4_ := Aside0.mk ((by rw [hg]; exact (keep_size (w := w) (g := g) (row := none) HK.out) : w.heap.size ≤ t0)); have n5_ := Aside0.mk ((Nat.le_trans HW0.out (by rw [hg]; exact (keep_size (w := w) (g := g) (row := none) HK.out) : w.heap.size ≤ t0) : w0.heap.size ≤ t0)); have n6_ := Aside0.mk ((by rw [hg]; exact Nat.ne_of_lt (IsS112.lt (show IsS112 w0 _ g s0_0 s0_1 from by repeat (first | (with_reducible first | exact HI0.out | apply IsS112.alloc | apply IsS112.drewN | apply IsS112.drew | apply IsS112.set_1) | exact HI0.out))) : g ≠ t0)); have n7_ := Aside0.mk ((by rw [hg]; exact Nat.ne_of_gt (IsS112.lt (show IsS112 w0 _ g s0_0 s0_1 from by repeat (first | (with_reducible first | exact HI0.out | apply IsS112.alloc | apply IsS112.drewN | apply IsS112.drew | apply IsS112.set_1) | exact HI0.out))) : t0 ≠ g)); clear HI0; clear HK; clear HB; have HI0 := n0_; have HK := n1_; have HB := n2_; have p5 := n3_; have v1 := n4_; have v5 := n5_; have q7 := n6_; have u1 := n7_; clear n0_ n1_ n2_ n3_ n4_ n5_ n6_ n7_; clear hb hbox hg) | ((with_reducible refine gate_callee (f := 74) rfl ?_); refine goesL_ (some 7) rfl rfl Try.func74 (by kernel_rfl) rfl #[.pointer (some ⟨g, 0, none⟩), .int .i64 5] rfl (by (try simp only [List.map_toArray, List.map_cons, List.map_nil]); first | done | rfl | (simp only [List.length_drop, List.length_take]; rfl)) ?_; (with_reducible refine (spec_l30Rd_pick.calls k g s0_0 s0_1 5 t208 t209 w0 _ ?side1 ?side2 A2.out).mono ?_); (case side1 => exact HI0.out); (case side2 => exact HB.out); rintro e w5 ⟨rfl, hi, hb, hk⟩; refine ⟨_, rfl, ?_⟩; have n0_ := Aside0.mk (KeepBut.blk hk (g' := t0) (o := .cells #[.int .i64 0, .slice none 0 0] 38 (0, 0)) p5.out u1.out (by simp)); have n1_ := Aside0.mk (KeepBut.trans HK.out hk (.inl rfl)); have n2_ := Aside0.mk (hb); have n3_ := Aside0.mk (hi); clear p5; clear HK; clear HB; clear HI0; have p5 := n0_; have HK := n1_; have HB := n2_; have HI0 := n3_; clear n0_ n1_ n2_ n3_; (try clear hb); (try clear hb2); (try clear hk); (try clear hi)) | ((with_reducible refine gate_dst (N := 3) rfl ?_); refine box_event ?hg (N := 3) ?hd (cs := #[.int .i64 0, .slice none 0 0]) (t := 38) ?hr ?_; (case hd => rfl); (case hg => rfl); (case hr => first | (go_simp; done) | (go_simp; rfl)); intro s0 hg w6 hbox hb; have n0_ := Aside0.mk (IsS112.below HI0.out hb); have n1_ := Aside0.mk (blk_below (g := t0) (o := .cells #[.int .i64 0, .slice none 0 0] 38 (0, 0)) p5.out hb); have n2_ := Aside0.mk (KeepBut.trans HK.out (KeepBut.of_below hb g none) (.inl rfl)); have n3_ := Aside0.mk (below_step HB.out hb); have n4_ := Aside0.mk (hbox); have n5_ := Aside0.mk ((by rw [hg]; exact (keep_size (w := w) (g := g) (row := none) HK.out) : w.heap.size ≤ s0)); have n6_ := Aside0.mk ((Nat.le_trans HW0.out (by rw [hg]; exact (keep_size (w := w) (g := g) (row := none) HK.out) : w.heap.size ≤ s0) : w0.heap.size ≤ s0)); have n7_ := Aside0.mk ((by rw [hg]; exact Nat.ne_of_lt (blk_lt (g := t0) (o := .cells #[.int .i64 0, .slice none 0 0] 38 (0, 0)) p5.out) : t0 ≠ s0)); have n8_ := Aside0.mk ((by rw [hg]; exact Nat.ne_of_gt (blk_lt (g := t0) (o := .cells #[.int .i64 0, .slice none 0 0] 38 (0, 0)) p5.out) : s0 ≠ t0)); have n9_ := Aside0.mk ((by rw [hg]; exact Nat.ne_of_lt (IsS112.lt (show IsS112 w0 _ g s0_0 t209 from by repeat (first | (with_reducible first | exact HI0.out | apply IsS112.alloc | apply IsS112.drewN | apply IsS112.drew | apply IsS112.set_1 | refine IsS112.far ?_ q7.out _) | exact HI0.out))) : g ≠ s0)); have n10_ := Aside0.mk ((by rw [hg]; exact Nat.ne_of_gt (IsS112.lt (show IsS112 w0 _ g s0_0 t209 from by repeat (first | (with_reducible first | exact HI0.out | apply IsS112.alloc | apply IsS112.drewN | apply IsS112.drew | apply IsS112.set_1 | refine IsS112.far ?_ q7.out _) | exact HI0.out))) : s0 ≠ g)); clear HI0; clear p5; clear HK; clear HB; have HI0 := n0_; have p5 := n1_; have HK := n2_; have HB := n3_; have p4 := n4_; have v2 := n5_; have v6 := n6_; have t8 := n7_; have u7 := n8_; have q8 := n9_; have t9 := n10_; clear n0_ n1_ n2_ n3_ n4_ n5_ n6_ n7_ n8_ n9_ n10_; clear hb hbox hg; have hnb7 := u7.out; have hnc7 := t8.out; have hnb8 := t9.out; have hnc8 := q8.out; have hcz9_0 : w6.cell? ⟨s0, 0, none⟩ = some (.int .i64 0) := (blk_cell p4.out 0).trans rfl; have hcz9_1 : w6.cell? ⟨s0, 1, none⟩ = some (.slice none 0 0) := (blk_cell p4.out 1).trans rfl; have hfz9_0 := blk_frozen p4.out 0; have hfz9_1 := blk_frozen p4.out 1) | ((with_reducible refine gate_callee (f := 74) rfl ?_); refine goesL_ (some 11) rfl rfl Try.func74 (by kernel_rfl) rfl #[.pointer (some ⟨g, 0, none⟩), .int .i64 14] rfl (by (try simp only [List.map_toArray, List.map_cons, List.map_nil]); first | done | rfl | (simp only [List.length_drop, List.length_take]; rfl)) ?_; (with_reducible refine (spec_l30Rd_pick.calls k g s0_0 t209 14 t211 t212 w0 _ ?side1 ?side2 A3.out).mono ?_); (case side1 => repeat (first | (with_reducible first | exact HI0.out | apply IsS112.alloc | apply IsS112.drewN | apply IsS112.drew | apply IsS112.set_1 | refine IsS112.far ?_ q7.out _ | refine IsS112.far ?_ q8.out _) | exact HI0.out)); (case side2 => repeat (first | (with_reducible first | exact HB.out | apply below_alloc | apply pw_below_drewN | apply below_drew1 | refine below_set ?_ (IsS112.ge HI0.out) | refine below_set ?_ v5.out | refine below_set ?_ v6.out) | exact HB.out)); rintro e w10 ⟨rfl, hi, hb, hk⟩; refine ⟨_, rfl, ?_⟩; have n0_ := Aside0.mk (KeepBut.blk hk (g' := t0) (o := .cells #[.int .i64 0, .slice none 0 0] 38 (0, 0)) (by (with_reducible repeat (first | refine blk_drewN ?_ _ | refine blk_drew ?_ | refine blk_alloc ?_ _)); refine blk_far ?_ t8.out _; (with_reducible repeat (first | refine blk_drewN ?_ _ | refine blk_drew ?_ | refine blk_alloc ?_ _)); refine blk_far ?_ t8.out _; (with_reducible repeat (first | refine blk_drewN ?_ _ | refine blk_drew ?_ | refine blk_alloc ?_ _)); exact p5.out) u1.out (by simp)); have n1_ := Aside0.mk (KeepBut.blk hk (g' := s0) (o := .cells #[.int .i64 (wrap64 (2 + t208)), .slice none 0 0] 38 (0, 0)) (by (with_reducible repeat (first | refine blk_drewN ?_ _ | refine blk_drew ?_ | refine blk_alloc ?_ _)); refine blk_put (cs := #[.int .i64 (wrap64 (2 + t208)), .slice none 0 0]) ?_ 1 _ rfl; (with_reducible repeat (first | refine blk_drewN ?_ _ | refine blk_drew ?_ | refine blk_alloc ?_ _)); refine blk_put (cs := #[.int .i64 0, .slice none 0 0]) ?_ 0 _ rfl; (with_reducible repeat (first | refine blk_drewN ?_ _ | refine blk_drew ?_ | refine blk_alloc ?_ _)); exact p4.out) t9.out (by simp)); have n2_ := Aside0.mk (KeepBut.trans (by repeat (first | (with_reducible first | exact HK.out | apply KeepBut.set_ | apply keep_drewN | apply keep_drew | apply keep_alloc | refine keep_far ?_ v1.out _ | refine keep_far ?_ v2.out _) | exact HK.out)) hk (.inl rfl)); have n3_ := Aside0.mk (hb); have n4_ := Aside0.mk (hi); clear p5; clear p4; clear HK; clear HB; clear HI0; have p5 := n0_; have p4 := n1_; have HK := n2_; have HB := n3_; have HI0 := n4_; clear n0_ n1_ n2_ n3_ n4_; (try clear hb); (try clear hb2); (try clear hk); (try clear hi)))
 go_loopg [4] k (fun kq v4 w' => ∃ (x4_1 : Int) (u0 : Int) (p0 : List (S45)) (q4 : Value), v4 = .int .i64 x4_1 ∧ Aside0 (spec_l30Net.l0 kq x4_1 s0_0 u0 (wrap64 (2 + t208)) p0 = some (r1, r2, r3)) ∧ Aside0 (kq ≤ k) ∧ Aside0 (Kd.R k45 45 w' w.heap.size (fun _ => True) q4 p0) ∧ Aside0 (w'.heap[t0]? = some (.cells #[.int .i64 0, (.slice none 0 0)] 38 (0, 0))) ∧ Aside0 (w'.heap[s0]? = some (.cells #[.int .i64 (wrap64 (2 + t208)), q4] 38 (0, 0))) ∧ Aside0 (IsS112 w0 w' g s0_0 u0) ∧ Aside0 (KeepBut w w' g none) ∧ Aside0 (Below w0.heap.size w0 w'))
 case atStart => exact ⟨(t211), (t212), (([] : List (S45))), (.slice none 0 0), (by first | rfl | (simp; done) | (simp [*]; done)), H', ⟨Nat.le_refl _⟩, ⟨by first | exact Kd.R_nil _ _ _ _ _ | exact Kd.N_nil _ _ _ _ _ | exact Kd.V_nil _ _ _ _ _ | exact Kd.Q_nil _ _ _ _ _ | exact Kd.S_nil _ _ _ _ _⟩, ⟨by (with_reducible repeat (first | refine blk_drewN ?_ _ | refine blk_drew ?_ | refine blk_alloc ?_ _)); exact p5.out⟩, ⟨by (with_reducible repeat (first | refine blk_drewN ?_ _ | refine blk_drew ?_ | refine blk_alloc ?_ _)); exact p4.out⟩, ⟨by repeat (first | (with_reducible first | exact HI0.out | apply IsS112.alloc | apply IsS112.drewN | apply IsS112.drew | apply IsS112.set_1 | refine IsS112.far ?_ q7.out _ | refine IsS112.far ?_ q8.out _) | exact HI0.out)⟩, ⟨by repeat (first | (with_reducible first | exact HK.out | apply KeepBut.set_ | apply keep_drewN | apply keep_drew | apply keep_alloc | refine keep_far ?_ v1.out _ | refine keep_far ?_ v2.out _) | exact HK.out)⟩, ⟨by repeat (first | (with_reducible first | exact HB.out | apply below_alloc | apply pw_below_drewN | apply below_drew1 | refine below_set ?_ (IsS112.ge HI0.out) | refine below_set ?_ v5.out | refine below_set ?_ v6.out) | exact HB.out)⟩⟩
 case round =>
  clear H'
  try clear c1
  try clear p2
  try clear p6
  try clear c7
  try clear c8
  try clear hcz9_0
  try clear hcz9_1
  try clear hfz9_0
  try clear hfz9_1
  obtain ⟨x4_1, u0, p0, q4, rfl, HA, HK1, p8, p5, p4, HI0, HK, HB⟩ := hrel
  cases gk with
  | zero => exact absurd HA.out (by simp [spec_l30Net.l0])
  | succ k1 =>
   have H := HA.out
   clear HA
   simp only [spec_l30Net.l0] at H
   by_cases c11 : x4_1 > 0
   ·rw [if_pos c11] at H
    have c11b0 : decide (0 < x4_1) = true := decide_eq_true c11
    clear c11
    replace H := Option.bind_eq_some_iff.mp H
    obtain ⟨⟨t213, t214⟩, A120, H⟩ := H
    replace H : ((spec_l30Rd_pick.f k1 s0_0 t214 (wrap64 (2 + t208))).bind fun bt215 => ((spec_l30Rd_pick.f k1 s0_0 bt215.2 100).bind fun bt217 => ((spec_l30Rd_one.f k1 s0_0 bt217.2 (([0, 1, 2, 5, 9, bt217.1] : List Int))).bind fun bt222 => ((spec_l30Rd_one.f k1 s0_0 bt222.2 (([0, 0, 3, 8] : List Int))).bind fun bt227 => ((spec_l30Rd_pick.f k1 s0_0 bt227.2 10).bind fun bt229 => (if t213 = bt215.1 then (if (wrap64 (2 + t208)) = 0 then (none) else (if p0.length < 3518437208883 then (spec_l30Net.l0 k1 (wrap64 (x4_1 - 1)) s0_0 bt229.2 (wrap64 (2 + t208)) (p0 ++ [(⟨t213, Int.tmod (wrap64 (bt215.1 + 1)) (wrap64 (2 + t208)), bt222.1, bt227.1, bt229.1⟩ : S45)])) else (none))) else (if p0.length < 3518437208883 then (spec_l30Net.l0 k1 (wrap64 (x4_1 - 1)) s0_0 bt229.2 (wrap64 (2 + t208)) (p0 ++ [(⟨t213, bt215.1, bt222.1, bt227.1, bt229.1⟩ : S45)])) else (none)))))))) = some (r1, r2, r3) := H
    have A12 := Aside0.mk A120
    clear A120
    replace H := Option.bind_eq_some_iff.mp H
    obtain ⟨⟨t215, t216⟩, A130, H⟩ := H
    replace H : ((spec_l30Rd_pick.f k1 s0_0 t216 100).bind fun bt217 => ((spec_l30Rd_one.f k1 s0_0 bt217.2 (([0, 1, 2, 5, 9, bt217.1] : List Int))).bind fun bt222 => ((spec_l30Rd_one.f k1 s0_0 bt222.2 (([0, 0, 3, 8] : List Int))).bind fun bt227 => ((spec_l30Rd_pick.f k1 s0_0 bt227.2 10).bind fun bt229 => (if t213 = t215 then (if (wrap64 (2 + t208)) = 0 then (none) else (if p0.length < 3518437208883 then (spec_l30Net.l0 k1 (wrap64 (x4_1 - 1)) s0_0 bt229.2 (wrap64 (2 + t208)) (p0 ++ [(⟨t213, Int.tmod (wrap64 (t215 + 1)) (wrap64 (2 + t208)), bt222.1, bt227.1, bt229.1⟩ : S45)])) else (none))) else (if p0.length < 3518437208883 then (spec_l30Net.l0 k1 (wrap64 (x4_1 - 1)) s0_0 bt229.2 (wrap64 (2 + t208)) (p0 ++ [(⟨t213, t215, bt222.1, bt227.1, bt229.1⟩ : S45)])) else (none))))))) = some (r1, r2, r3) := H
    have A13 := Aside0.mk A130
    clear A130
    replace H := Option.bind_eq_some_iff.mp H
    obtain ⟨⟨t217, t218⟩, A140, H⟩ := H
    replace H : ((spec_l30Rd_one.f k1 s0_0 t218 (([0, 1, 2, 5, 9, t217] : List Int))).bind fun bt222 => ((spec_l30Rd_one.f k1 s0_0 bt222.2 (([0, 0, 3, 8] : List Int))).bind fun bt227 => ((spec_l30Rd_pick.f k1 s0_0 bt227.2 10).bind fun bt229 => (if t213 = t215 then (if (wrap64 (2 + t208)) = 0 then (none) else (if p0.length < 3518437208883 then (spec_l30Net.l0 k1 (wrap64 (x4_1 - 1)) s0_0 bt229.2 (wrap64 (2 + t208)) (p0 ++ [(⟨t213, Int.tmod (wrap64 (t215 + 1)) (wrap64 (2 + t208)), bt222.1, bt227.1, bt229.1⟩ : S45)])) else (none))) else (if p0.length < 3518437208883 then (spec_l30Net.l0 k1 (wrap64 (x4_1 - 1)) s0_0 bt229.2 (wrap64 (2 + t208)) (p0 ++ [(⟨t213, t215, bt222.1, bt227.1, bt229.1⟩ : S45)])) else (none)))))) = some (r1, r2, r3) := H
    have A14 := Aside0.mk A140
    clear A140
    obtain ⟨y219, hy219⟩ : ∃ y_ : List Int, y_ = (([0, 1, 2, 5, 9, t217] : List Int)) := ⟨_, rfl⟩
    replace H : ((spec_l30Rd_one.f k1 s0_0 t218 y219).bind fun bt222 => ((spec_l30Rd_one.f k1 s0_0 bt222.2 (([0, 0, 3, 8] : List Int))).bind fun bt227 => ((spec_l30Rd_pick.f k1 s0_0 bt227.2 10).bind fun bt229 => (if t213 = t215 then (if (wrap64 (2 + t208)) = 0 then (none) else (if p0.length < 3518437208883 then (spec_l30Net.l0 k1 (wrap64 (x4_1 - 1)) s0_0 bt229.2 (wrap64 (2 + t208)) (p0 ++ [(⟨t213, Int.tmod (wrap64 (t215 + 1)) (wrap64 (2 + t208)), bt222.1, bt227.1, bt229.1⟩ : S45)])) else (none))) else (if p0.length < 3518437208883 then (spec_l30Net.l0 k1 (wrap64 (x4_1 - 1)) s0_0 bt229.2 (wrap64 (2 + t208)) (p0 ++ [(⟨t213, t215, bt222.1, bt227.1, bt229.1⟩ : S45)])) else (none)))))) = some (r1, r2, r3) := by first | (rw [hy219]; with_reducible exact H) | (have H2_ := (Option.bind_some _ _).symm.trans H; rw [hy219]; with_reducible exact H2_) | (have H2_ := (Option.bind_some _ _).symm.trans H; with_reducible exact H2_) | with_reducible exact H | (rw [hy219]; exact H) | exact H
    have Ny219 := Aside0.mk hy219
    clear hy219
    replace H := Option.bind_eq_some_iff.mp H
    obtain ⟨⟨t222, t223⟩, A150, H⟩ := H
    replace H : ((spec_l30Rd_one.f k1 s0_0 t223 (([0, 0, 3, 8] : List Int))).bind fun bt227 => ((spec_l30Rd_pick.f k1 s0_0 bt227.2 10).bind fun bt229 => (if t213 = t215 then (if (wrap64 (2 + t208)) = 0 then (none) else (if p0.length < 3518437208883 then (spec_l30Net.l0 k1 (wrap64 (x4_1 - 1)) s0_0 bt229.2 (wrap64 (2 + t208)) (p0 ++ [(⟨t213, Int.tmod (wrap64 (t215 + 1)) (wrap64 (2 + t208)), t222, bt227.1, bt229.1⟩ : S45)])) else (none))) else (if p0.length < 3518437208883 then (spec_l30Net.l0 k1 (wrap64 (x4_1 - 1)) s0_0 bt229.2 (wrap64 (2 + t208)) (p0 ++ [(⟨t213, t215, t222, bt227.1, bt229.1⟩ : S45)])) else (none))))) = some (r1, r2, r3) := H
    have A15 := Aside0.mk A150
    clear A150
    obtain ⟨y224, hy224⟩ : ∃ y_ : List Int, y_ = (([0, 0, 3, 8] : List Int)) := ⟨_, rfl⟩
    replace H : ((spec_l30Rd_one.f k1 s0_0 t223 y224).bind fun bt227 => ((spec_l30Rd_pick.f k1 s0_0 bt227.2 10).bind fun bt229 => (if t213 = t215 then (if (wrap64 (2 + t208)) = 0 then (none) else (if p0.length < 3518437208883 then (spec_l30Net.l0 k1 (wrap64 (x4_1 - 1)) s0_0 bt229.2 (wrap64 (2 + t208)) (p0 ++ [(⟨t213, Int.tmod (wrap64 (t215 + 1)) (wrap64 (2 + t208)), t222, bt227.1, bt229.1⟩ : S45)])) else (none))) else (if p0.length < 3518437208883 then (spec_l30Net.l0 k1 (wrap64 (x4_1 - 1)) s0_0 bt229.2 (wrap64 (2 + t208)) (p0 ++ [(⟨t213, t215, t222, bt227.1, bt229.1⟩ : S45)])) else (none))))) = some (r1, r2, r3) := by first | (rw [hy224]; with_reducible exact H) | (have H2_ := (Option.bind_some _ _).symm.trans H; rw [hy224]; with_reducible exact H2_) | (have H2_ := (Option.bind_some _ _).symm.trans H; with_reducible exact H2_) | with_reducible exact H | (rw [hy224]; exact H) | exact H
    have Ny224 := Aside0.mk hy224
    clear hy224
    replace H := Option.bind_eq_some_iff.mp H
    obtain ⟨⟨t227, t228⟩, A160, H⟩ := H
    replace H : ((spec_l30Rd_pick.f k1 s0_0 t228 10).bind fun bt229 => (if t213 = t215 then (if (wrap64 (2 + t208)) = 0 then (none) else (if p0.length < 3518437208883 then (spec_l30Net.l0 k1 (wrap64 (x4_1 - 1)) s0_0 bt229.2 (wrap64 (2 + t208)) (p0 ++ [(⟨t213, Int.tmod (wrap64 (t215 + 1)) (wrap64 (2 + t208)), t222, t227, bt229.1⟩ : S45)])) else (none))) else (if p0.length < 3518437208883 then (spec_l30Net.l0 k1 (wrap64 (x4_1 - 1)) s0_0 bt229.2 (wrap64 (2 + t208)) (p0 ++ [(⟨t213, t215, t222, t227, bt229.1⟩ : S45)])) else (none)))) = some (r1, r2, r3) := H
    have A16 := Aside0.mk A160
    clear A160
    replace H := Option.bind_eq_some_iff.mp H
    obtain ⟨⟨t229, t230⟩, A170, H⟩ := H
    replace H : (if t213 = t215 then (if (wrap64 (2 + t208)) = 0 then (none) else (if p0.length < 3518437208883 then (spec_l30Net.l0 k1 (wrap64 (x4_1 - 1)) s0_0 t230 (wrap64 (2 + t208)) (p0 ++ [(⟨t213, Int.tmod (wrap64 (t215 + 1)) (wrap64 (2 + t208)), t222, t227, t229⟩ : S45)])) else (none))) else (if p0.length < 3518437208883 then (spec_l30Net.l0 k1 (wrap64 (x4_1 - 1)) s0_0 t230 (wrap64 (2 + t208)) (p0 ++ [(⟨t213, t215, t222, t227, t229⟩ : S45)])) else (none))) = some (r1, r2, r3) := H
    have A17 := Aside0.mk A170
    clear A170
    have HH_ := Aside0.mk H
    clear H
    try go_wp2
    have n0_ := Aside0.mk (Kd.R_drew p8.out)
    have n1_ := Aside0.mk (blk_drew p5.out)
    have n2_ := Aside0.mk (blk_drew p4.out)
    have n3_ := Aside0.mk (IsS112.drew HI0.out)
    have n4_ := Aside0.mk (keep_drew HK.out)
    have n5_ := Aside0.mk (below_drew1 HB.out)
    clear p8
    clear p5
    clear p4
    clear HI0
    clear HK
    clear HB
    have p8 := n0_
    have p5 := n1_
    have p4 := n2_
    have HI0 := n3_
    have HK := n4_
    have HB := n5_
    clear n0_ n1_ n2_ n3_ n4_ n5_
    refine start_ (n := 21) (S := fun w' => True) (ds := []) #[N30,N30,N30,N30,N30,N30,N30,N30,N30,N30,N30,N30,N30,N30,N30,N30,N30,N30,N30,N30,N30] (by kernel_rfl) rfl rfl trivial (fun hHeld => ?_); refine with_tabW spec_l30Net.tab5 spec_l30Net.bits5 (fun HT_ HW_ => ?_)
    generalize wr.drew = w21 at p8 p5 p4 HI0 HK HB hHeld ⊢
    refine pure_ (i := 0) (N := some 16) (v := ?_) (a' := ?_) #[Y30,N30,N30,N30,N30,N30,N30,N30,N30,N30,N30,N30,N30,N30,N30,N30,N30,N30,N30,N30,N30] rfl rfl (any_of HT_.out (by kernel_rfl)) (fun _ _ _ h => h) (Or.inl ⟨by rfl, ?_⟩) ?_ ?_
    rotate_left
    ·intro w'
     go_simp
     with_reducible rfl
    rotate_left
    ·simp only [Act.put, List.setIfInBounds_toArray, List.set_cons_zero, List.set_cons_succ, i64_w, i32_w]
     rfl
    refine pure_ (i := 1) (N := some 17) (v := ?_) (a' := ?_) #[Y30,Y30,N30,N30,N30,N30,N30,N30,N30,N30,N30,N30,N30,N30,N30,N30,N30,N30,N30,N30,N30] rfl rfl (any_of HT_.out (by kernel_rfl)) (fun _ _ _ h => h) (Or.inl ⟨by rfl, ?_⟩) ?_ ?_
    rotate_left
    ·intro w'
     go_simp
     with_reducible rfl
    rotate_left
    ·simp only [Act.put, List.setIfInBounds_toArray, List.set_cons_zero, List.set_cons_succ, i64_w, i32_w]
     rfl
    refine pure_ (i := 4) (N := some 20) (v := ?_) (a' := ?_) #[Y30,Y30,N30,N30,Y30,N30,N30,N30,N30,N30,N30,N30,N30,N30,N30,N30,N30,N30,N30,N30,N30] rfl rfl (any_of HT_.out (by kernel_rfl)) (fun _ _ _ h => h) (Or.inl ⟨by rfl, ?_⟩) ?_ ?_
    rotate_left
    ·intro w'
     go_simp
     with_reducible rfl
    rotate_left
    ·simp only [Act.put, List.setIfInBounds_toArray, List.set_cons_zero, List.set_cons_succ, i64_w, i32_w]
     rfl
    refine pure_ (i := 5) (N := some 21) (v := ?_) (a' := ?_) #[Y30,Y30,N30,N30,Y30,Y30,N30,N30,N30,N30,N30,N30,N30,N30,N30,N30,N30,N30,N30,N30,N30] rfl rfl (any_of HT_.out (by kernel_rfl)) (fun _ _ _ h => h) (Or.inl ⟨by rfl, ?_⟩) ?_ ?_
    rotate_left
    ·intro w'
     go_simp
     with_reducible rfl
    rotate_left
    ·simp only [Act.put, List.setIfInBounds_toArray, List.set_cons_zero, List.set_cons_succ, i64_w, i32_w]
     rfl
    refine pure_ (i := 8) (N := some 24) (v := ?_) (a' := ?_) #[Y30,Y30,N30,N30,Y30,Y30,N30,N30,Y30,N30,N30,N30,N30,N30,N30,N30,N30,N30,N30,N30,N30] rfl rfl (any_of HT_.out (by kernel_rfl)) (fun _ _ _ h => h) (Or.inl ⟨by rfl, ?_⟩) ?_ ?_
    rotate_left
    ·intro w'
     go_simp
     with_reducible rfl
    rotate_left
    ·simp only [Act.put, List.setIfInBounds_toArray, List.set_cons_zero, List.set_cons_succ, i64_w, i32_w]
     rfl
    refine pure_ (i := 9) (N := some 25) (v := ?_) (a' := ?_) #[Y30,Y30,N30,N30,Y30,Y30,N30,N30,Y30,Y30,N30,N30,N30,N30,N30,N30,N30,N30,N30,N30,N30] rfl rfl (any_of HT_.out (by kernel_rfl)) (fun _ _ _ h => h) (Or.inl ⟨by rfl, ?_⟩) ?_ ?_
    rotate_left
    ·intro w'
     go_simp
     with_reducible rfl
    rotate_left
    ·simp only [Act.put, List.setIfInBounds_toArray, List.set_cons_zero, List.set_cons_succ, i64_w, i32_w]
     rfl
    refine pure_ (i := 13) (N := some 29) (v := ?_) (a' := ?_) #[Y30,Y30,N30,N30,Y30,Y30,N30,N30,Y30,Y30,N30,N30,N30,Y30,N30,N30,N30,N30,N30,N30,N30] rfl rfl (any_of HT_.out (by kernel_rfl)) (fun _ _ _ h => h) (Or.inl ⟨by rfl, ?_⟩) ?_ ?_
    rotate_left
    ·intro w'
     go_simp
     with_reducible rfl
    rotate_left
    ·simp only [Act.put, List.setIfInBounds_toArray, List.set_cons_zero, List.set_cons_succ, i64_w, i32_w]
     rfl
    refine pure_ (i := 16) (N := some 32) (v := ?_) (a' := ?_) #[Y30,Y30,N30,N30,Y30,Y30,N30,N30,Y30,Y30,N30,N30,N30,Y30,N30,N30,Y30,N30,N30,N30,N30] rfl rfl (any_of HT_.out (by kernel_rfl)) (fun _ _ _ h => h) (Or.inl ⟨by rfl, ?_⟩) ?_ ?_
    rotate_left
    ·intro w'
     go_simp
     with_reducible rfl
    rotate_left
    ·simp only [Act.put, List.setIfInBounds_toArray, List.set_cons_zero, List.set_cons_succ, i64_w, i32_w]
     rfl
    refine inv_at [2, 3, 6, 7, 10, 11, 12, 14, 15, 17, 18, 19, 20] (fun a0_ b a w' => ∃ (v220 : Value) (v225 : Value) (p3 : Nat) (m19_ : Value), a = putSel a0_ b [(2, 18, .int .i64 (wrap64 (2 + t208))), (3, 19, .int .i64 t213), (6, 22, .int .i64 (wrap64 (2 + t208))), (7, 23, .int .i64 t215), (10, 26, .int .i64 t217), (11, 27, v220), (12, 28, .int .i64 t222), (14, 30, v225), (15, 31, .int .i64 t227), (17, 33, .int .i64 t229), (18, 34, .agg #[.int .i64 t213, .int .i64 t215, .int .i64 t222, .int .i64 t227, .int .i64 t229]), (19, 5, m19_)] ∧ (b 19 = false → Kd.R k45 45 w' w.heap.size (fun _ => True) q4 p0) ∧ (w'.heap[t0]? = some (.cells #[.int .i64 0, .slice none 0 0] 38 (0, 0))) ∧ (w'.heap[s0]? = some (.cells #[.int .i64 (wrap64 (2 + t208)), q4] 38 (0, 0))) ∧ (b 3 = false → IsS112 w0 w' g s0_0 u0) ∧ (KeepBut w w' g none) ∧ (Below w0.heap.size w0 w') ∧ (b 3 = true → b 7 = false → IsS112 w0 w' g s0_0 t214) ∧ (b 7 = true → b 10 = false → IsS112 w0 w' g s0_0 t216) ∧ (b 10 = true → b 12 = false → IsS112 w0 w' g s0_0 t218) ∧ (b 11 = true → Kd.R (Kd.int .i64) 3 w' w.heap.size (fun _ => True) v220 y219) ∧ (b 12 = true → b 15 = false → IsS112 w0 w' g s0_0 t223) ∧ (b 14 = true → Kd.R (Kd.int .i64) 3 w' w.heap.size (fun _ => True) v225 y224) ∧ (b 15 = true → b 17 = false → IsS112 w0 w' g s0_0 t228) ∧ (b 17 = true → IsS112 w0 w' g s0_0 t230) ∧ (b 19 = true → Kd.R k45 45 w' w.heap.size (fun k_ => k_ ≠ p3) q4 p0) ∧ (b 19 = true → b 20 = false → w'.heap[p3]? = some (.cells #[.int .i64 0, .int .i64 0, .int .i64 0, .int .i64 0, .int .i64 0] 45 (0, 0))) ∧ (b 19 = true → w.heap.size ≤ p3) ∧ (b 19 = true → w0.heap.size ≤ p3) ∧ (b 19 = true → g ≠ p3) ∧ (b 19 = true → p3 ≠ g) ∧ (b 19 = true → t0 ≠ p3) ∧ (b 19 = true → p3 ≠ t0) ∧ (b 19 = true → s0 ≠ p3) ∧ (b 19 = true → p3 ≠ s0) ∧ (b 20 = true → w'.heap[p3]? = some (.cells #[.int .i64 t213, .int .i64 t215, .int .i64 t222, .int .i64 t227, .int .i64 t229] 45 (0, 0))) ∧ (b 19 = true → (m19_ : Value) = .pointer (some ⟨p3, 0, none⟩))) HT_.out HW_.out (by kernel_rfl) (by kernel_rfl) ?_ ?_ ?_
    ·exact ⟨.bool false, .bool false, 0, .bool false, by simp only [putSel, Bool.false_eq_true, if_false], fun _ => p8.out, p5.out, p4.out, fun _ => HI0.out, HK.out, HB.out, fun h_ => absurd h_ (by decide), fun h_ => absurd h_ (by decide), fun h_ => absurd h_ (by decide), fun h_ => absurd h_ (by decide), fun h_ => absurd h_ (by decide), fun h_ => absurd h_ (by decide), fun h_ => absurd h_ (by decide), fun h_ => absurd h_ (by decide), fun h_ => absurd h_ (by decide), fun h_ => absurd h_ (by decide), fun h_ => absurd h_ (by decide), fun h_ => absurd h_ (by decide), fun h_ => absurd h_ (by decide), fun h_ => absurd h_ (by decide), fun h_ => absurd h_ (by decide), fun h_ => absurd h_ (by decide), fun h_ => absurd h_ (by decide), fun h_ => absurd h_ (by decide), fun h_ => absurd h_ (by decide), fun h_ => absurd h_ (by decide)⟩
    ·skip
     clear p5 p4 HB HI0 HK p8
     refine steps_cons ?_ ?_
     ·rintro b a w' ⟨v220, v225, p3, m19_, ha, p7, q9, r0, t6, Q_HK, Q_HB, s8, t2, s2, s3, s4, r4, s5, r7, p1, s1, r8, r9, q6, q3, p9, q0, q1, q2, r5, s9⟩ hb_ hon hoff
      refine ⟨_, rfl, fun K hK => ?_⟩
      have e17 : a.tmps[17]? = some (.pointer (some ⟨s0, 0, none⟩)) := by rw [ha]; exact (putSel_off rfl).trans rfl
      replace ha := Aside0.mk ha
      have p5 := Aside0.mk q9
      have p4 := Aside0.mk r0
      have HI0 := Aside0.mk (t6 (hoff 3 (by kernel_rfl)))
      have HK := Aside0.mk Q_HK
      have HB := Aside0.mk Q_HB
      have hc0_ : w'.cell? ⟨s0, 0, none⟩ = some (.int .i64 (wrap64 (2 + t208))) := (blk_cell p4.out 0).trans rfl
      have hc1_ : w'.cell? ⟨s0, 1, none⟩ = some (q4) := (blk_cell p4.out 1).trans rfl
      refine value_ (w1 := w') (v := .int .i64 (wrap64 (2 + t208))) (by rfl) rfl ?_ ?_
      ·go_simp
       (try simp only [i64_w])
       try rfl
      refine hK.out _ _ ⟨v220, v225, p3, m19_, (by rw [ha.out]; exact putSel_upk 0 hb_ rfl rfl rfl), p7, q9, r0, t6, Q_HK, Q_HB, fun h0_ _ => absurd ((hoff 3 (by kernel_rfl)).symm.trans h0_) (by decide), fun h0_ _ => absurd ((hoff 7 (by kernel_rfl)).symm.trans h0_) (by decide), fun h0_ _ => absurd ((hoff 10 (by kernel_rfl)).symm.trans h0_) (by decide), fun h0_ => absurd ((hoff 11 (by kernel_rfl)).symm.trans h0_) (by decide), fun h0_ _ => absurd ((hoff 12 (by kernel_rfl)).symm.trans h0_) (by decide), r4, fun h0_ _ => absurd ((hoff 15 (by kernel_rfl)).symm.trans h0_) (by decide), fun h0_ => absurd ((hoff 17 (by kernel_rfl)).symm.trans h0_) (by decide), p1, s1, r8, r9, q6, q3, p9, q0, q1, q2, fun h0_ => absurd ((hoff 20 (by kernel_rfl)).symm.trans h0_) (by decide), s9⟩
     refine steps_cons ?_ ?_
     ·rintro b a w' ⟨v220, v225, p3, m19_, ha, p7, q9, r0, t6, Q_HK, Q_HB, s8, t2, s2, s3, s4, r4, s5, r7, p1, s1, r8, r9, q6, q3, p9, q0, q1, q2, r5, s9⟩ hb_ hon hoff
      refine ⟨_, rfl, fun K hK => ?_⟩
      have e16 : a.tmps[16]? = some (.pointer (some ⟨g, 0, none⟩)) := by rw [ha]; exact (putSel_off rfl).trans rfl
      have e18 : a.tmps[18]? = some (.int .i64 (wrap64 (2 + t208))) := by rw [ha]; exact putSel_on (e := (2, 18, .int .i64 (wrap64 (2 + t208)))) 0 rfl rfl (hon 2 (by kernel_rfl)) rfl
      replace ha := Aside0.mk ha
      have p5 := Aside0.mk q9
      have p4 := Aside0.mk r0
      have HI0 := Aside0.mk (t6 hb_)
      have HK := Aside0.mk Q_HK
      have HB := Aside0.mk Q_HB
      refine goes_ Try.func74 (by kernel_rfl) rfl #[.pointer (some ⟨g, 0, none⟩), .int .i64 (wrap64 (2 + t208))] (by rfl) rfl rfl (by first | (simp only [List.map_toArray, List.map_cons, List.map_nil, Act.eval, Array.getD_eq_getD_getElem?, Option.getD_some, e16, e18]; done) | (simp only [List.map_toArray, List.map_cons, List.map_nil, Act.eval, Array.getD_eq_getD_getElem?, Option.getD_some, e16, e18]; rfl)) ?_
      with_reducible refine (spec_l30Rd_pick.calls k1 g s0_0 u0 (wrap64 (2 + t208)) t213 t214 w0 _ ?side1 ?side2 A12.out).mono ?_
      (case side1 => exact HI0.out)
      (case side2 => exact HB.out)
      rintro e w22 ⟨rfl, hi, hb, hk⟩
      refine ⟨_, rfl, ?_⟩
      have n1_ := Aside0.mk (KeepBut.blk hk (g' := t0) (o := .cells #[.int .i64 0, .slice none 0 0] 38 (0, 0)) p5.out u1.out (by simp))
      have n2_ := Aside0.mk (KeepBut.blk hk (g' := s0) (o := .cells #[.int .i64 (wrap64 (2 + t208)), q4] 38 (0, 0)) p4.out t9.out (by simp))
      have n3_ := Aside0.mk (KeepBut.trans HK.out hk (.inl rfl))
      have n4_ := Aside0.mk (hb)
      have n5_ := Aside0.mk (hi)
      have r6 := fun (h0_ : b 19 = false) => (show Kd.R k45 45 w22 w.heap.size (fun _ => True) q4 p0 from by exact Kd.R_mono (Kd.R_mono (Kd.R_keep (IsS112.apart (show IsS112 w0 _ g s0_0 u0 from by repeat (first | (with_reducible first | exact HI0.out | apply IsS112.alloc | apply IsS112.drewN | apply IsS112.drew | apply IsS112.set_1 | refine IsS112.far ?_ q7.out _ | refine IsS112.far ?_ q8.out _) | exact HI0.out)) (p7 h0_) (by decide)) hk (fun _ h => h.2)) (fun _ h => h.1)) (fun _ h_ => by first | trivial | exact h_ | exact h_.1))
      have t7 := fun (h0_ : b 14 = true) => (show Kd.R (Kd.int .i64) 3 w22 w.heap.size (fun _ => True) v225 y224 from by exact Kd.R_mono (Kd.R_mono (Kd.R_keep (IsS112.apart (show IsS112 w0 _ g s0_0 u0 from by repeat (first | (with_reducible first | exact HI0.out | apply IsS112.alloc | apply IsS112.drewN | apply IsS112.drew | apply IsS112.set_1 | refine IsS112.far ?_ q7.out _ | refine IsS112.far ?_ q8.out _) | exact HI0.out)) (r4 h0_) (by decide)) hk (fun _ h => h.2)) (fun _ h => h.1)) (fun _ h_ => by first | trivial | exact h_ | exact h_.1))
      have q5 := fun (h0_ : b 19 = true) => (show Kd.R k45 45 w22 w.heap.size (fun k_ => k_ ≠ p3) q4 p0 from by exact Kd.R_mono (Kd.R_mono (Kd.R_keep (IsS112.apart (show IsS112 w0 _ g s0_0 u0 from by repeat (first | (with_reducible first | exact HI0.out | apply IsS112.alloc | apply IsS112.drewN | apply IsS112.drew | apply IsS112.set_1 | refine IsS112.far ?_ q7.out _ | refine IsS112.far ?_ q8.out _) | exact HI0.out)) (p1 h0_) (by decide)) hk (fun _ h => h.2)) (fun _ h => h.1)) (fun _ h_ => by first | trivial | exact h_ | exact h_.1))
      have t3 := fun (h0_ : b 19 = true) (h1_ : b 20 = false) => (show w22.heap[p3]? = some (.cells #[.int .i64 0, .int .i64 0, .int .i64 0, .int .i64 0, .int .i64 0] 45 (0, 0)) from by first | exact (KeepBut.blk hk (g' := p3) (o := .cells #[.int .i64 0, .int .i64 0, .int .i64 0, .int .i64 0, .int .i64 0] 45 (0, 0)) (s1 h0_ h1_) (q3 h0_) (by simp)))
      clear p5
      clear p4
      clear HK
      clear HB
      clear HI0
      have p5 := n1_
      have p4 := n2_
      have HK := n3_
      have HB := n4_
      have HI0 := n5_
      clear n1_ n2_ n3_ n4_ n5_
      (try clear hb)
      (try clear hb2)
      (try clear hk)
      (try clear hi)
      refine hK.out _ _ ⟨v220, v225, p3, m19_, (by rw [ha.out]; exact putSel_upk 1 hb_ rfl rfl rfl), r6, p5.out, p4.out, fun h0_ => absurd ((up_self b 3).symm.trans h0_) (by decide), HK.out, HB.out, fun _ _ => HI0.out, fun h0_ _ => absurd ((hoff 7 (by kernel_rfl)).symm.trans h0_) (by decide), fun h0_ _ => absurd ((hoff 10 (by kernel_rfl)).symm.trans h0_) (by decide), fun h0_ => absurd ((hoff 11 (by kernel_rfl)).symm.trans h0_) (by decide), fun h0_ _ => absurd ((hoff 12 (by kernel_rfl)).symm.trans h0_) (by decide), t7, fun h0_ _ => absurd ((hoff 15 (by kernel_rfl)).symm.trans h0_) (by decide), fun h0_ => absurd ((hoff 17 (by kernel_rfl)).symm.trans h0_) (by decide), q5, t3, r8, r9, q6, q3, p9, q0, q1, q2, fun h0_ => absurd ((hoff 20 (by kernel_rfl)).symm.trans h0_) (by decide), s9⟩
     refine steps_cons ?_ ?_
     ·rintro b a w' ⟨v220, v225, p3, m19_, ha, p7, q9, r0, t6, Q_HK, Q_HB, s8, t2, s2, s3, s4, r4, s5, r7, p1, s1, r8, r9, q6, q3, p9, q0, q1, q2, r5, s9⟩ hb_ hon hoff
      refine ⟨_, rfl, fun K hK => ?_⟩
      have e21 : a.tmps[21]? = some (.pointer (some ⟨s0, 0, none⟩)) := by rw [ha]; exact (putSel_off rfl).trans rfl
      replace ha := Aside0.mk ha
      have p5 := Aside0.mk q9
      have p4 := Aside0.mk r0
      have HK := Aside0.mk Q_HK
      have HB := Aside0.mk Q_HB
      have hc0_ : w'.cell? ⟨s0, 0, none⟩ = some (.int .i64 (wrap64 (2 + t208))) := (blk_cell p4.out 0).trans rfl
      have hc1_ : w'.cell? ⟨s0, 1, none⟩ = some (q4) := (blk_cell p4.out 1).trans rfl
      refine value_ (w1 := w') (v := .int .i64 (wrap64 (2 + t208))) (by rfl) rfl ?_ ?_
      ·go_simp
       (try simp only [i64_w])
       try rfl
      refine hK.out _ _ ⟨v220, v225, p3, m19_, (by rw [ha.out]; exact putSel_upk 2 hb_ rfl rfl rfl), p7, q9, r0, t6, Q_HK, Q_HB, s8, fun h0_ _ => absurd ((hoff 7 (by kernel_rfl)).symm.trans h0_) (by decide), fun h0_ _ => absurd ((hoff 10 (by kernel_rfl)).symm.trans h0_) (by decide), fun h0_ => absurd ((hoff 11 (by kernel_rfl)).symm.trans h0_) (by decide), fun h0_ _ => absurd ((hoff 12 (by kernel_rfl)).symm.trans h0_) (by decide), r4, fun h0_ _ => absurd ((hoff 15 (by kernel_rfl)).symm.trans h0_) (by decide), fun h0_ => absurd ((hoff 17 (by kernel_rfl)).symm.trans h0_) (by decide), p1, s1, r8, r9, q6, q3, p9, q0, q1, q2, fun h0_ => absurd ((hoff 20 (by kernel_rfl)).symm.trans h0_) (by decide), s9⟩
     refine steps_cons ?_ ?_
     ·rintro b a w' ⟨v220, v225, p3, m19_, ha, p7, q9, r0, t6, Q_HK, Q_HB, s8, t2, s2, s3, s4, r4, s5, r7, p1, s1, r8, r9, q6, q3, p9, q0, q1, q2, r5, s9⟩ hb_ hon hoff
      refine ⟨_, rfl, fun K hK => ?_⟩
      have e20 : a.tmps[20]? = some (.pointer (some ⟨g, 0, none⟩)) := by rw [ha]; exact (putSel_off rfl).trans rfl
      have e22 : a.tmps[22]? = some (.int .i64 (wrap64 (2 + t208))) := by rw [ha]; exact putSel_on (e := (6, 22, .int .i64 (wrap64 (2 + t208)))) 2 rfl rfl (hon 6 (by kernel_rfl)) rfl
      replace ha := Aside0.mk ha
      have p5 := Aside0.mk q9
      have p4 := Aside0.mk r0
      have HK := Aside0.mk Q_HK
      have HB := Aside0.mk Q_HB
      have HI0 := Aside0.mk (s8 (hon 3 (by kernel_rfl)) hb_)
      refine goes_ Try.func74 (by kernel_rfl) rfl #[.pointer (some ⟨g, 0, none⟩), .int .i64 (wrap64 (2 + t208))] (by rfl) rfl rfl (by first | (simp only [List.map_toArray, List.map_cons, List.map_nil, Act.eval, Array.getD_eq_getD_getElem?, Option.getD_some, e20, e22]; done) | (simp only [List.map_toArray, List.map_cons, List.map_nil, Act.eval, Array.getD_eq_getD_getElem?, Option.getD_some, e20, e22]; rfl)) ?_
      with_reducible refine (spec_l30Rd_pick.calls k1 g s0_0 t214 (wrap64 (2 + t208)) t215 t216 w0 _ ?side1 ?side2 A13.out).mono ?_
      (case side1 => exact HI0.out)
      (case side2 => exact HB.out)
      rintro e w24 ⟨rfl, hi, hb, hk⟩
      refine ⟨_, rfl, ?_⟩
      have n1_ := Aside0.mk (KeepBut.blk hk (g' := t0) (o := .cells #[.int .i64 0, .slice none 0 0] 38 (0, 0)) p5.out u1.out (by simp))
      have n2_ := Aside0.mk (KeepBut.blk hk (g' := s0) (o := .cells #[.int .i64 (wrap64 (2 + t208)), q4] 38 (0, 0)) p4.out t9.out (by simp))
      have n3_ := Aside0.mk (KeepBut.trans HK.out hk (.inl rfl))
      have n4_ := Aside0.mk (hb)
      have n5_ := Aside0.mk (hi)
      have r6 := fun (h0_ : b 19 = false) => (show Kd.R k45 45 w24 w.heap.size (fun _ => True) q4 p0 from by exact Kd.R_mono (Kd.R_mono (Kd.R_keep (IsS112.apart (show IsS112 w0 _ g s0_0 t214 from by repeat (first | (with_reducible first | exact HI0.out | apply IsS112.alloc | apply IsS112.drewN | apply IsS112.drew | apply IsS112.set_1 | refine IsS112.far ?_ q7.out _ | refine IsS112.far ?_ q8.out _) | exact HI0.out)) (p7 h0_) (by decide)) hk (fun _ h => h.2)) (fun _ h => h.1)) (fun _ h_ => by first | trivial | exact h_ | exact h_.1))
      have t7 := fun (h0_ : b 14 = true) => (show Kd.R (Kd.int .i64) 3 w24 w.heap.size (fun _ => True) v225 y224 from by exact Kd.R_mono (Kd.R_mono (Kd.R_keep (IsS112.apart (show IsS112 w0 _ g s0_0 t214 from by repeat (first | (with_reducible first | exact HI0.out | apply IsS112.alloc | apply IsS112.drewN | apply IsS112.drew | apply IsS112.set_1 | refine IsS112.far ?_ q7.out _ | refine IsS112.far ?_ q8.out _) | exact HI0.out)) (r4 h0_) (by decide)) hk (fun _ h => h.2)) (fun _ h => h.1)) (fun _ h_ => by first | trivial | exact h_ | exact h_.1))
      have q5 := fun (h0_ : b 19 = true) => (show Kd.R k45 45 w24 w.heap.size (fun k_ => k_ ≠ p3) q4 p0 from by exact Kd.R_mono (Kd.R_mono (Kd.R_keep (IsS112.apart (show IsS112 w0 _ g s0_0 t214 from by repeat (first | (with_reducible first | exact HI0.out | apply IsS112.alloc | apply IsS112.drewN | apply IsS112.drew | apply IsS112.set_1 | refine IsS112.far ?_ q7.out _ | refine IsS112.far ?_ q8.out _) | exact HI0.out)) (p1 h0_) (by decide)) hk (fun _ h => h.2)) (fun _ h => h.1)) (fun _ h_ => by first | trivial | exact h_ | exact h_.1))
      have t3 := fun (h0_ : b 19 = true) (h1_ : b 20 = false) => (show w24.heap[p3]? = some (.cells #[.int .i64 0, .int .i64 0, .int .i64 0, .int .i64 0, .int .i64 0] 45 (0, 0)) from by first | exact (KeepBut.blk hk (g' := p3) (o := .cells #[.int .i64 0, .int .i64 0, .int .i64 0, .int .i64 0, .int .i64 0] 45 (0, 0)) (s1 h0_ h1_) (q3 h0_) (by simp)))
      clear p5
      clear p4
      clear HK
      clear HB
      clear HI0
      have p5 := n1_
      have p4 := n2_
      have HK := n3_
      have HB := n4_
      have HI0 := n5_
      clear n1_ n2_ n3_ n4_ n5_
      (try clear hb)
      (try clear hb2)
      (try clear hk)
      (try clear hi)
      refine hK.out _ _ ⟨v220, v225, p3, m19_, (by rw [ha.out]; exact putSel_upk 3 hb_ rfl rfl rfl), r6, p5.out, p4.out, fun h0_ => absurd ((hon 3 (by kernel_rfl)).symm.trans h0_) (by decide), HK.out, HB.out, fun _ h1_ => absurd ((up_self b 7).symm.trans h1_) (by decide), fun _ _ => HI0.out, fun h0_ _ => absurd ((hoff 10 (by kernel_rfl)).symm.trans h0_) (by decide), fun h0_ => absurd ((hoff 11 (by kernel_rfl)).symm.trans h0_) (by decide), fun h0_ _ => absurd ((hoff 12 (by kernel_rfl)).symm.trans h0_) (by decide), t7, fun h0_ _ => absurd ((hoff 15 (by kernel_rfl)).symm.trans h0_) (by decide), fun h0_ => absurd ((hoff 17 (by kernel_rfl)).symm.trans h0_) (by decide), q5, t3, r8, r9, q6, q3, p9, q0, q1, q2, fun h0_ => absurd ((hoff 20 (by kernel_rfl)).symm.trans h0_) (by decide), s9⟩
     refine steps_cons ?_ ?_
     ·rintro b a w' ⟨v220, v225, p3, m19_, ha, p7, q9, r0, t6, Q_HK, Q_HB, s8, t2, s2, s3, s4, r4, s5, r7, p1, s1, r8, r9, q6, q3, p9, q0, q1, q2, r5, s9⟩ hb_ hon hoff
      refine ⟨_, rfl, fun K hK => ?_⟩
      have e25 : a.tmps[25]? = some (.pointer (some ⟨g, 0, none⟩)) := by rw [ha]; exact (putSel_off rfl).trans rfl
      replace ha := Aside0.mk ha
      have p5 := Aside0.mk q9
      have p4 := Aside0.mk r0
      have HK := Aside0.mk Q_HK
      have HB := Aside0.mk Q_HB
      have HI0 := Aside0.mk (t2 (hon 7 (by kernel_rfl)) hb_)
      refine goes_ Try.func74 (by kernel_rfl) rfl #[.pointer (some ⟨g, 0, none⟩), .int .i64 100] (by rfl) rfl rfl (by first | (simp only [List.map_toArray, List.map_cons, List.map_nil, Act.eval, Array.getD_eq_getD_getElem?, Option.getD_some, e25]; done) | (simp only [List.map_toArray, List.map_cons, List.map_nil, Act.eval, Array.getD_eq_getD_getElem?, Option.getD_some, e25]; rfl)) ?_
      with_reducible refine (spec_l30Rd_pick.calls k1 g s0_0 t216 100 t217 t218 w0 _ ?side1 ?side2 A14.out).mono ?_
      (case side1 => exact HI0.out)
      (case side2 => exact HB.out)
      rintro e w25 ⟨rfl, hi, hb, hk⟩
      refine ⟨_, rfl, ?_⟩
      have n1_ := Aside0.mk (KeepBut.blk hk (g' := t0) (o := .cells #[.int .i64 0, .slice none 0 0] 38 (0, 0)) p5.out u1.out (by simp))
      have n2_ := Aside0.mk (KeepBut.blk hk (g' := s0) (o := .cells #[.int .i64 (wrap64 (2 + t208)), q4] 38 (0, 0)) p4.out t9.out (by simp))
      have n3_ := Aside0.mk (KeepBut.trans HK.out hk (.inl rfl))
      have n4_ := Aside0.mk (hb)
      have n5_ := Aside0.mk (hi)
      have r6 := fun (h0_ : b 19 = false) => (show Kd.R k45 45 w25 w.heap.size (fun _ => True) q4 p0 from by exact Kd.R_mono (Kd.R_mono (Kd.R_keep (IsS112.apart (show IsS112 w0 _ g s0_0 t216 from by repeat (first | (with_reducible first | exact HI0.out | apply IsS112.alloc | apply IsS112.drewN | apply IsS112.drew | apply IsS112.set_1 | refine IsS112.far ?_ q7.out _ | refine IsS112.far ?_ q8.out _) | exact HI0.out)) (p7 h0_) (by decide)) hk (fun _ h => h.2)) (fun _ h => h.1)) (fun _ h_ => by first | trivial | exact h_ | exact h_.1))
      have t7 := fun (h0_ : b 14 = true) => (show Kd.R (Kd.int .i64) 3 w25 w.heap.size (fun _ => True) v225 y224 from by exact Kd.R_mono (Kd.R_mono (Kd.R_keep (IsS112.apart (show IsS112 w0 _ g s0_0 t216 from by repeat (first | (with_reducible first | exact HI0.out | apply IsS112.alloc | apply IsS112.drewN | apply IsS112.drew | apply IsS112.set_1 | refine IsS112.far ?_ q7.out _ | refine IsS112.far ?_ q8.out _) | exact HI0.out)) (r4 h0_) (by decide)) hk (fun _ h => h.2)) (fun _ h => h.1)) (fun _ h_ => by first | trivial | exact h_ | exact h_.1))
      have q5 := fun (h0_ : b 19 = true) => (show Kd.R k45 45 w25 w.heap.size (fun k_ => k_ ≠ p3) q4 p0 from by exact Kd.R_mono (Kd.R_mono (Kd.R_keep (IsS112.apart (show IsS112 w0 _ g s0_0 t216 from by repeat (first | (with_reducible first | exact HI0.out | apply IsS112.alloc | apply IsS112.drewN | apply IsS112.drew | apply IsS112.set_1 | refine IsS112.far ?_ q7.out _ | refine IsS112.far ?_ q8.out _) | exact HI0.out)) (p1 h0_) (by decide)) hk (fun _ h => h.2)) (fun _ h => h.1)) (fun _ h_ => by first | trivial | exact h_ | exact h_.1))
      have t3 := fun (h0_ : b 19 = true) (h1_ : b 20 = false) => (show w25.heap[p3]? = some (.cells #[.int .i64 0, .int .i64 0, .int .i64 0, .int .i64 0, .int .i64 0] 45 (0, 0)) from by first | exact (KeepBut.blk hk (g' := p3) (o := .cells #[.int .i64 0, .int .i64 0, .int .i64 0, .int .i64 0, .int .i64 0] 45 (0, 0)) (s1 h0_ h1_) (q3 h0_) (by simp)))
      clear p5
      clear p4
      clear HK
      clear HB
      clear HI0
      have p5 := n1_
      have p4 := n2_
      have HK := n3_
      have HB := n4_
      have HI0 := n5_
      clear n1_ n2_ n3_ n4_ n5_
      (try clear hb)
      (try clear hb2)
      (try clear hk)
      (try clear hi)
      refine hK.out _ _ ⟨v220, v225, p3, m19_, (by rw [ha.out]; exact putSel_upk 4 hb_ rfl rfl rfl), r6, p5.out, p4.out, fun h0_ => absurd ((hon 3 (by kernel_rfl)).symm.trans h0_) (by decide), HK.out, HB.out, fun _ h1_ => absurd ((hon 7 (by kernel_rfl)).symm.trans h1_) (by decide), fun _ h1_ => absurd ((up_self b 10).symm.trans h1_) (by decide), fun _ _ => HI0.out, fun h0_ => absurd ((hoff 11 (by kernel_rfl)).symm.trans h0_) (by decide), fun h0_ _ => absurd ((hoff 12 (by kernel_rfl)).symm.trans h0_) (by decide), t7, fun h0_ _ => absurd ((hoff 15 (by kernel_rfl)).symm.trans h0_) (by decide), fun h0_ => absurd ((hoff 17 (by kernel_rfl)).symm.trans h0_) (by decide), q5, t3, r8, r9, q6, q3, p9, q0, q1, q2, fun h0_ => absurd ((hoff 20 (by kernel_rfl)).symm.trans h0_) (by decide), s9⟩
     refine steps_cons ?_ ?_
     ·rintro b a w' ⟨v220, v225, p3, m19_, ha, p7, q9, r0, t6, Q_HK, Q_HB, s8, t2, s2, s3, s4, r4, s5, r7, p1, s1, r8, r9, q6, q3, p9, q0, q1, q2, r5, s9⟩ hb_ hon hoff
      refine ⟨_, rfl, fun K hK => ?_⟩
      have e26 : a.tmps[26]? = some (.int .i64 t217) := by rw [ha]; exact putSel_on (e := (10, 26, .int .i64 t217)) 4 rfl rfl (hon 10 (by kernel_rfl)) rfl
      replace ha := Aside0.mk ha
      have p5 := Aside0.mk q9
      have p4 := Aside0.mk r0
      have HK := Aside0.mk Q_HK
      have HB := Aside0.mk Q_HB
      have HI0 := Aside0.mk (s2 (hon 10 (by kernel_rfl)) (hoff 12 (by kernel_rfl)))
      refine Kd.R_lit_step (Kd.int .i64) _ 3 ?hg (N := 27) ?hd (xs := ([0, 1, 2, 5, 9, t217] : List Int)) (inner := [.int .i64 0, .int .i64 1, .int .i64 2, .int .i64 5, .int .i64 9, .int .i64 t217]) (ok := fun _ => True) (okp := fun _ => True) ?hr ?hp (fun _ hk => hk) trivial (Below.refl _ _) (Nat.le_refl _) (by simp) ?_; (case hd => rfl); (case hg => rfl); (case hr => first | (go_simp; done) | (go_simp; rfl)); (case hp => exact (Reps.one (show Kd.M (Kd.int .i64) _ _ _ 0 [.int .i64 0] from rfl) (Reps.one (show Kd.M (Kd.int .i64) _ _ _ 1 [.int .i64 1] from rfl) (Reps.one (show Kd.M (Kd.int .i64) _ _ _ 2 [.int .i64 2] from rfl) (Reps.one (show Kd.M (Kd.int .i64) _ _ _ 5 [.int .i64 5] from rfl) (Reps.one (show Kd.M (Kd.int .i64) _ _ _ 9 [.int .i64 9] from rfl) (Reps.one (show Kd.M (Kd.int .i64) _ _ _ t217 [.int .i64 t217] from rfl) (Reps.none _ _))))))))
      intro v220 w26 ho27 hb hg_ hnew_
      clear hg_ hnew_
      (first | rw [← Ny219.out] at ho27 | (simp only [Int.reduceToNat] at ho27; rw [← Ny219.out] at ho27))
      have n1_ := Aside0.mk (Kd.R_lower ho27 (keep_size (w := w) (g := g) (row := none) HK.out))
      have n2_ := Aside0.mk (blk_below (g := t0) (o := .cells #[.int .i64 0, .slice none 0 0] 38 (0, 0)) p5.out hb)
      have n3_ := Aside0.mk (blk_below (g := s0) (o := .cells #[.int .i64 (wrap64 (2 + t208)), q4] 38 (0, 0)) p4.out hb)
      have n4_ := Aside0.mk (IsS112.below HI0.out hb)
      have n5_ := Aside0.mk (KeepBut.trans HK.out (KeepBut.of_below hb g none) (.inl rfl))
      have n6_ := Aside0.mk (below_step HB.out hb)
      have r6 := fun (h0_ : b 19 = false) => (show Kd.R k45 45 w26 w.heap.size (fun _ => True) q4 p0 from by first | exact (Kd.R_below (p7 h0_) hb) | exact Kd.R_mono (Kd.R_below (p7 h0_) hb) (fun _ h_ => by first | trivial | exact h_ | exact h_.1))
      have t7 := fun (h0_ : b 14 = true) => (show Kd.R (Kd.int .i64) 3 w26 w.heap.size (fun _ => True) v225 y224 from by first | exact (Kd.R_elder' (r4 h0_) (Kd.R_base ho27) hb) | exact Kd.R_mono (Kd.R_elder' (r4 h0_) (Kd.R_base ho27) hb) (fun _ h_ => by first | trivial | exact h_ | exact h_.1))
      have q5 := fun (h0_ : b 19 = true) => (show Kd.R k45 45 w26 w.heap.size (fun k_ => k_ ≠ p3) q4 p0 from by first | exact (Kd.R_below (p1 h0_) hb) | exact Kd.R_mono (Kd.R_below (p1 h0_) hb) (fun _ h_ => by first | trivial | exact h_ | exact h_.1))
      have t3 := fun (h0_ : b 19 = true) (h1_ : b 20 = false) => (show w26.heap[p3]? = some (.cells #[.int .i64 0, .int .i64 0, .int .i64 0, .int .i64 0, .int .i64 0] 45 (0, 0)) from by first | exact (blk_below (g := p3) (o := .cells #[.int .i64 0, .int .i64 0, .int .i64 0, .int .i64 0, .int .i64 0] 45 (0, 0)) (s1 h0_ h1_) hb))
      clear p5
      clear p4
      clear HI0
      clear HK
      clear HB
      have HO221 := n1_
      have p5 := n2_
      have p4 := n3_
      have HI0 := n4_
      have HK := n5_
      have HB := n6_
      clear n1_ n2_ n3_ n4_ n5_ n6_
      clear hb ho27
      refine hK.out _ _ ⟨v220, v225, p3, m19_, (by rw [ha.out]; exact putSel_upk 5 hb_ rfl rfl rfl), r6, p5.out, p4.out, fun h0_ => absurd ((hon 3 (by kernel_rfl)).symm.trans h0_) (by decide), HK.out, HB.out, fun _ h1_ => absurd ((hon 7 (by kernel_rfl)).symm.trans h1_) (by decide), fun _ h1_ => absurd ((hon 10 (by kernel_rfl)).symm.trans h1_) (by decide), fun _ _ => HI0.out, fun _ => HO221.out, fun h0_ _ => absurd ((hoff 12 (by kernel_rfl)).symm.trans h0_) (by decide), t7, fun h0_ _ => absurd ((hoff 15 (by kernel_rfl)).symm.trans h0_) (by decide), fun h0_ => absurd ((hoff 17 (by kernel_rfl)).symm.trans h0_) (by decide), q5, t3, r8, r9, q6, q3, p9, q0, q1, q2, fun h0_ => absurd ((hoff 20 (by kernel_rfl)).symm.trans h0_) (by decide), s9⟩
     refine steps_cons ?_ ?_
     ·rintro b a w' ⟨v220, v225, p3, m19_, ha, p7, q9, r0, t6, Q_HK, Q_HB, s8, t2, s2, s3, s4, r4, s5, r7, p1, s1, r8, r9, q6, q3, p9, q0, q1, q2, r5, s9⟩ hb_ hon hoff
      refine ⟨_, rfl, fun K hK => ?_⟩
      have e24 : a.tmps[24]? = some (.pointer (some ⟨g, 0, none⟩)) := by rw [ha]; exact (putSel_off rfl).trans rfl
      have e27 : a.tmps[27]? = some (v220) := by rw [ha]; exact putSel_on (e := (11, 27, v220)) 5 rfl rfl (hon 11 (by kernel_rfl)) rfl
      replace ha := Aside0.mk ha
      have p5 := Aside0.mk q9
      have p4 := Aside0.mk r0
      have HK := Aside0.mk Q_HK
      have HB := Aside0.mk Q_HB
      have HI0 := Aside0.mk (s2 (hon 10 (by kernel_rfl)) hb_)
      have HO221 := Aside0.mk (s3 (hon 11 (by kernel_rfl)))
      obtain ⟨Ao28, co28, eo28⟩ := Kd.R_slice HO221.out
      (first | subst eo28 | (injection eo28 with f1_ f2_ f3_; have f4_ := f1_.symm; have f5_ := f3_.symm; clear f1_ f2_ f3_; subst f4_; subst f5_))
      refine goes_ Try.func75 (by kernel_rfl) rfl #[.pointer (some ⟨g, 0, none⟩), .slice Ao28 y219.length co28] (by rfl) rfl rfl (by first | (simp only [List.map_toArray, List.map_cons, List.map_nil, Act.eval, Array.getD_eq_getD_getElem?, Option.getD_some, e24, e27]; done) | (simp only [List.map_toArray, List.map_cons, List.map_nil, Act.eval, Array.getD_eq_getD_getElem?, Option.getD_some, e24, e27]; rfl)) ?_
      with_reducible refine (spec_l30Rd_one.calls k1 g s0_0 t218 _ _ y219 t222 t223 w0 _ ?side1 ?side2 ?side3 ?side4 ?side5 A15.out).mono ?_
      (case side1 => exact HI0.out)
      (case side2 => exact HB.out)
      (case side3 => repeat (first | exact (Kd.R_reads' HO221.out).2.2 | (with_reducible refine Kd.C_alloc ?_ _) | (with_reducible refine Kd.C_drewN ?_ _) | (with_reducible refine Kd.C_drew ?_)))
      (case side4 => exact (Kd.R_reads' HO221.out).2.1)
      (case side5 => exact far_slice (IsS112.own_ne HI0.out HO221.out (by decide)))
      rintro e w29 ⟨rfl, hi, hb, hk⟩
      refine ⟨_, rfl, ?_⟩
      have n1_ := Aside0.mk (KeepBut.blk hk (g' := t0) (o := .cells #[.int .i64 0, .slice none 0 0] 38 (0, 0)) p5.out u1.out (by simp))
      have n2_ := Aside0.mk (KeepBut.blk hk (g' := s0) (o := .cells #[.int .i64 (wrap64 (2 + t208)), q4] 38 (0, 0)) p4.out t9.out (by simp))
      have n3_ := Aside0.mk (Kd.R_mono (Kd.R_keep (IsS112.apart (show IsS112 w0 _ g s0_0 t218 from by repeat (first | (with_reducible first | exact HI0.out | apply IsS112.alloc | apply IsS112.drewN | apply IsS112.drew | apply IsS112.set_1 | refine IsS112.far ?_ q7.out _ | refine IsS112.far ?_ q8.out _) | exact HI0.out)) HO221.out (by decide)) hk (fun _ h => h.2)) (fun _ h => h.1))
      have n4_ := Aside0.mk (KeepBut.trans HK.out hk (.inl rfl))
      have n5_ := Aside0.mk (hb)
      have n6_ := Aside0.mk (hi)
      have r6 := fun (h0_ : b 19 = false) => (show Kd.R k45 45 w29 w.heap.size (fun _ => True) q4 p0 from by exact Kd.R_mono (Kd.R_mono (Kd.R_keep (IsS112.apart (show IsS112 w0 _ g s0_0 t218 from by repeat (first | (with_reducible first | exact HI0.out | apply IsS112.alloc | apply IsS112.drewN | apply IsS112.drew | apply IsS112.set_1 | refine IsS112.far ?_ q7.out _ | refine IsS112.far ?_ q8.out _) | exact HI0.out)) (p7 h0_) (by decide)) hk (fun _ h => h.2)) (fun _ h => h.1)) (fun _ h_ => by first | trivial | exact h_ | exact h_.1))
      have t7 := fun (h0_ : b 14 = true) => (show Kd.R (Kd.int .i64) 3 w29 w.heap.size (fun _ => True) v225 y224 from by exact Kd.R_mono (Kd.R_mono (Kd.R_keep (IsS112.apart (show IsS112 w0 _ g s0_0 t218 from by repeat (first | (with_reducible first | exact HI0.out | apply IsS112.alloc | apply IsS112.drewN | apply IsS112.drew | apply IsS112.set_1 | refine IsS112.far ?_ q7.out _ | refine IsS112.far ?_ q8.out _) | exact HI0.out)) (r4 h0_) (by decide)) hk (fun _ h => h.2)) (fun _ h => h.1)) (fun _ h_ => by first | trivial | exact h_ | exact h_.1))
      have q5 := fun (h0_ : b 19 = true) => (show Kd.R k45 45 w29 w.heap.size (fun k_ => k_ ≠ p3) q4 p0 from by exact Kd.R_mono (Kd.R_mono (Kd.R_keep (IsS112.apart (show IsS112 w0 _ g s0_0 t218 from by repeat (first | (with_reducible first | exact HI0.out | apply IsS112.alloc | apply IsS112.drewN | apply IsS112.drew | apply IsS112.set_1 | refine IsS112.far ?_ q7.out _ | refine IsS112.far ?_ q8.out _) | exact HI0.out)) (p1 h0_) (by decide)) hk (fun _ h => h.2)) (fun _ h => h.1)) (fun _ h_ => by first | trivial | exact h_ | exact h_.1))
      have t3 := fun (h0_ : b 19 = true) (h1_ : b 20 = false) => (show w29.heap[p3]? = some (.cells #[.int .i64 0, .int .i64 0, .int .i64 0, .int .i64 0, .int .i64 0] 45 (0, 0)) from by first | exact (KeepBut.blk hk (g' := p3) (o := .cells #[.int .i64 0, .int .i64 0, .int .i64 0, .int .i64 0, .int .i64 0] 45 (0, 0)) (s1 h0_ h1_) (q3 h0_) (by simp)))
      clear p5
      clear p4
      clear HO221
      clear HK
      clear HB
      clear HI0
      have p5 := n1_
      have p4 := n2_
      have HO221 := n3_
      have HK := n4_
      have HB := n5_
      have HI0 := n6_
      clear n1_ n2_ n3_ n4_ n5_ n6_
      (try clear hb)
      (try clear hb2)
      (try clear hk)
      (try clear hi)
      refine hK.out _ _ ⟨.slice Ao28 y219.length co28, v225, p3, m19_, (by rw [ha.out]; exact putSel_upk 6 hb_ rfl rfl rfl), r6, p5.out, p4.out, fun h0_ => absurd ((hon 3 (by kernel_rfl)).symm.trans h0_) (by decide), HK.out, HB.out, fun _ h1_ => absurd ((hon 7 (by kernel_rfl)).symm.trans h1_) (by decide), fun _ h1_ => absurd ((hon 10 (by kernel_rfl)).symm.trans h1_) (by decide), fun _ h1_ => absurd ((up_self b 12).symm.trans h1_) (by decide), fun _ => HO221.out, fun _ _ => HI0.out, t7, fun h0_ _ => absurd ((hoff 15 (by kernel_rfl)).symm.trans h0_) (by decide), fun h0_ => absurd ((hoff 17 (by kernel_rfl)).symm.trans h0_) (by decide), q5, t3, r8, r9, q6, q3, p9, q0, q1, q2, fun h0_ => absurd ((hoff 20 (by kernel_rfl)).symm.trans h0_) (by decide), s9⟩
     refine steps_cons ?_ ?_
     ·rintro b a w' ⟨v220, v225, p3, m19_, ha, p7, q9, r0, t6, Q_HK, Q_HB, s8, t2, s2, s3, s4, r4, s5, r7, p1, s1, r8, r9, q6, q3, p9, q0, q1, q2, r5, s9⟩ hb_ hon hoff
      refine ⟨_, rfl, fun K hK => ?_⟩
      replace ha := Aside0.mk ha
      have p5 := Aside0.mk q9
      have p4 := Aside0.mk r0
      have HK := Aside0.mk Q_HK
      have HB := Aside0.mk Q_HB
      refine Kd.R_lit_step (Kd.int .i64) _ 3 ?hg (N := 30) ?hd (xs := ([0, 0, 3, 8] : List Int)) (inner := [.int .i64 0, .int .i64 0, .int .i64 3, .int .i64 8]) (ok := fun _ => True) (okp := fun _ => True) ?hr ?hp (fun _ hk => hk) trivial (Below.refl _ _) (Nat.le_refl _) (by simp) ?_; (case hd => rfl); (case hg => rfl); (case hr => first | (go_simp; done) | (go_simp; rfl)); (case hp => exact (Reps.one (show Kd.M (Kd.int .i64) _ _ _ 0 [.int .i64 0] from rfl) (Reps.one (show Kd.M (Kd.int .i64) _ _ _ 0 [.int .i64 0] from rfl) (Reps.one (show Kd.M (Kd.int .i64) _ _ _ 3 [.int .i64 3] from rfl) (Reps.one (show Kd.M (Kd.int .i64) _ _ _ 8 [.int .i64 8] from rfl) (Reps.none _ _))))))
      intro v225 w22 ho23 hb hg_ hnew_
      clear hg_ hnew_
      (first | rw [← Ny224.out] at ho23 | (simp only [Int.reduceToNat] at ho23; rw [← Ny224.out] at ho23))
      have n1_ := Aside0.mk (Kd.R_lower ho23 (keep_size (w := w) (g := g) (row := none) HK.out))
      have n2_ := Aside0.mk (blk_below (g := t0) (o := .cells #[.int .i64 0, .slice none 0 0] 38 (0, 0)) p5.out hb)
      have n3_ := Aside0.mk (blk_below (g := s0) (o := .cells #[.int .i64 (wrap64 (2 + t208)), q4] 38 (0, 0)) p4.out hb)
      have n5_ := Aside0.mk (KeepBut.trans HK.out (KeepBut.of_below hb g none) (.inl rfl))
      have n6_ := Aside0.mk (below_step HB.out hb)
      have r6 := fun (h0_ : b 19 = false) => (show Kd.R k45 45 w22 w.heap.size (fun _ => True) q4 p0 from by first | exact (Kd.R_below (p7 h0_) hb) | exact Kd.R_mono (Kd.R_below (p7 h0_) hb) (fun _ h_ => by first | trivial | exact h_ | exact h_.1))
      have y7 := fun (h0_ : b 3 = false) => (show IsS112 w0 w22 g s0_0 u0 from by first | exact (IsS112.below (t6 h0_) hb))
      have v7 := fun (h0_ : b 3 = true) (h1_ : b 7 = false) => (show IsS112 w0 w22 g s0_0 t214 from by first | exact (IsS112.below (s8 h0_ h1_) hb))
      have v8 := fun (h0_ : b 7 = true) (h1_ : b 10 = false) => (show IsS112 w0 w22 g s0_0 t216 from by first | exact (IsS112.below (t2 h0_ h1_) hb))
      have u8 := fun (h0_ : b 10 = true) (h1_ : b 12 = false) => (show IsS112 w0 w22 g s0_0 t218 from by first | exact (IsS112.below (s2 h0_ h1_) hb))
      have v9 := fun (h0_ : b 11 = true) => (show Kd.R (Kd.int .i64) 3 w22 w.heap.size (fun _ => True) v220 y219 from by first | exact (Kd.R_elder' (s3 h0_) (Kd.R_base ho23) hb) | exact Kd.R_mono (Kd.R_elder' (s3 h0_) (Kd.R_base ho23) hb) (fun _ h_ => by first | trivial | exact h_ | exact h_.1))
      have u9 := fun (h0_ : b 12 = true) (h1_ : b 15 = false) => (show IsS112 w0 w22 g s0_0 t223 from by first | exact (IsS112.below (s4 h0_ h1_) hb))
      have q5 := fun (h0_ : b 19 = true) => (show Kd.R k45 45 w22 w.heap.size (fun k_ => k_ ≠ p3) q4 p0 from by first | exact (Kd.R_below (p1 h0_) hb) | exact Kd.R_mono (Kd.R_below (p1 h0_) hb) (fun _ h_ => by first | trivial | exact h_ | exact h_.1))
      have t3 := fun (h0_ : b 19 = true) (h1_ : b 20 = false) => (show w22.heap[p3]? = some (.cells #[.int .i64 0, .int .i64 0, .int .i64 0, .int .i64 0, .int .i64 0] 45 (0, 0)) from by first | exact (blk_below (g := p3) (o := .cells #[.int .i64 0, .int .i64 0, .int .i64 0, .int .i64 0, .int .i64 0] 45 (0, 0)) (s1 h0_ h1_) hb))
      clear p5
      clear p4
      clear HK
      clear HB
      have HO226 := n1_
      have p5 := n2_
      have p4 := n3_
      have HK := n5_
      have HB := n6_
      clear n1_ n2_ n3_ n5_ n6_
      clear hb ho23
      refine hK.out _ _ ⟨v220, v225, p3, m19_, (by rw [ha.out]; exact putSel_upk 7 hb_ rfl rfl rfl), r6, p5.out, p4.out, y7, HK.out, HB.out, v7, v8, u8, v9, u9, fun _ => HO226.out, fun h0_ _ => absurd ((hoff 15 (by kernel_rfl)).symm.trans h0_) (by decide), fun h0_ => absurd ((hoff 17 (by kernel_rfl)).symm.trans h0_) (by decide), q5, t3, r8, r9, q6, q3, p9, q0, q1, q2, fun h0_ => absurd ((hoff 20 (by kernel_rfl)).symm.trans h0_) (by decide), s9⟩
     refine steps_cons ?_ ?_
     ·rintro b a w' ⟨v220, v225, p3, m19_, ha, p7, q9, r0, t6, Q_HK, Q_HB, s8, t2, s2, s3, s4, r4, s5, r7, p1, s1, r8, r9, q6, q3, p9, q0, q1, q2, r5, s9⟩ hb_ hon hoff
      refine ⟨_, rfl, fun K hK => ?_⟩
      have e29 : a.tmps[29]? = some (.pointer (some ⟨g, 0, none⟩)) := by rw [ha]; exact (putSel_off rfl).trans rfl
      have e30 : a.tmps[30]? = some (v225) := by rw [ha]; exact putSel_on (e := (14, 30, v225)) 7 rfl rfl (hon 14 (by kernel_rfl)) rfl
      replace ha := Aside0.mk ha
      have p5 := Aside0.mk q9
      have p4 := Aside0.mk r0
      have HK := Aside0.mk Q_HK
      have HB := Aside0.mk Q_HB
      have HO221 := Aside0.mk (s3 (hon 11 (by kernel_rfl)))
      have HI0 := Aside0.mk (s4 (hon 12 (by kernel_rfl)) hb_)
      have HO226 := Aside0.mk (r4 (hon 14 (by kernel_rfl)))
      obtain ⟨Ao32, co32, eo32⟩ := Kd.R_slice HO226.out
      (first | subst eo32 | (injection eo32 with f1_ f2_ f3_; have f4_ := f1_.symm; have f5_ := f3_.symm; clear f1_ f2_ f3_; subst f4_; subst f5_))
      refine goes_ Try.func75 (by kernel_rfl) rfl #[.pointer (some ⟨g, 0, none⟩), .slice Ao32 y224.length co32] (by rfl) rfl rfl (by first | (simp only [List.map_toArray, List.map_cons, List.map_nil, Act.eval, Array.getD_eq_getD_getElem?, Option.getD_some, e29, e30]; done) | (simp only [List.map_toArray, List.map_cons, List.map_nil, Act.eval, Array.getD_eq_getD_getElem?, Option.getD_some, e29, e30]; rfl)) ?_
      with_reducible refine (spec_l30Rd_one.calls k1 g s0_0 t223 _ _ y224 t227 t228 w0 _ ?side1 ?side2 ?side3 ?side4 ?side5 A16.out).mono ?_
      (case side1 => exact HI0.out)
      (case side2 => exact HB.out)
      (case side3 => repeat (first | exact (Kd.R_reads' HO226.out).2.2 | (with_reducible refine Kd.C_alloc ?_ _) | (with_reducible refine Kd.C_drewN ?_ _) | (with_reducible refine Kd.C_drew ?_)))
      (case side4 => exact (Kd.R_reads' HO226.out).2.1)
      (case side5 => exact far_slice (IsS112.own_ne HI0.out HO226.out (by decide)))
      rintro e w33 ⟨rfl, hi, hb, hk⟩
      refine ⟨_, rfl, ?_⟩
      have n1_ := Aside0.mk (KeepBut.blk hk (g' := t0) (o := .cells #[.int .i64 0, .slice none 0 0] 38 (0, 0)) p5.out u1.out (by simp))
      have n2_ := Aside0.mk (KeepBut.blk hk (g' := s0) (o := .cells #[.int .i64 (wrap64 (2 + t208)), q4] 38 (0, 0)) p4.out t9.out (by simp))
      have n3_ := Aside0.mk (Kd.R_mono (Kd.R_keep (IsS112.apart (show IsS112 w0 _ g s0_0 t223 from by repeat (first | (with_reducible first | exact HI0.out | apply IsS112.alloc | apply IsS112.drewN | apply IsS112.drew | apply IsS112.set_1 | refine IsS112.far ?_ q7.out _ | refine IsS112.far ?_ q8.out _) | exact HI0.out)) HO221.out (by decide)) hk (fun _ h => h.2)) (fun _ h => h.1))
      have n4_ := Aside0.mk (Kd.R_mono (Kd.R_keep (IsS112.apart (show IsS112 w0 _ g s0_0 t223 from by repeat (first | (with_reducible first | exact HI0.out | apply IsS112.alloc | apply IsS112.drewN | apply IsS112.drew | apply IsS112.set_1 | refine IsS112.far ?_ q7.out _ | refine IsS112.far ?_ q8.out _) | exact HI0.out)) HO226.out (by decide)) hk (fun _ h => h.2)) (fun _ h => h.1))
      have n5_ := Aside0.mk (KeepBut.trans HK.out hk (.inl rfl))
      have n6_ := Aside0.mk (hb)
      have n7_ := Aside0.mk (hi)
      have r6 := fun (h0_ : b 19 = false) => (show Kd.R k45 45 w33 w.heap.size (fun _ => True) q4 p0 from by exact Kd.R_mono (Kd.R_mono (Kd.R_keep (IsS112.apart (show IsS112 w0 _ g s0_0 t223 from by repeat (first | (with_reducible first | exact HI0.out | apply IsS112.alloc | apply IsS112.drewN | apply IsS112.drew | apply IsS112.set_1 | refine IsS112.far ?_ q7.out _ | refine IsS112.far ?_ q8.out _) | exact HI0.out)) (p7 h0_) (by decide)) hk (fun _ h => h.2)) (fun _ h => h.1)) (fun _ h_ => by first | trivial | exact h_ | exact h_.1))
      have q5 := fun (h0_ : b 19 = true) => (show Kd.R k45 45 w33 w.heap.size (fun k_ => k_ ≠ p3) q4 p0 from by exact Kd.R_mono (Kd.R_mono (Kd.R_keep (IsS112.apart (show IsS112 w0 _ g s0_0 t223 from by repeat (first | (with_reducible first | exact HI0.out | apply IsS112.alloc | apply IsS112.drewN | apply IsS112.drew | apply IsS112.set_1 | refine IsS112.far ?_ q7.out _ | refine IsS112.far ?_ q8.out _) | exact HI0.out)) (p1 h0_) (by decide)) hk (fun _ h => h.2)) (fun _ h => h.1)) (fun _ h_ => by first | trivial | exact h_ | exact h_.1))
      have t3 := fun (h0_ : b 19 = true) (h1_ : b 20 = false) => (show w33.heap[p3]? = some (.cells #[.int .i64 0, .int .i64 0, .int .i64 0, .int .i64 0, .int .i64 0] 45 (0, 0)) from by first | exact (KeepBut.blk hk (g' := p3) (o := .cells #[.int .i64 0, .int .i64 0, .int .i64 0, .int .i64 0, .int .i64 0] 45 (0, 0)) (s1 h0_ h1_) (q3 h0_) (by simp)))
      clear p5
      clear p4
      clear HO221
      clear HO226
      clear HK
      clear HB
      clear HI0
      have p5 := n1_
      have p4 := n2_
      have HO221 := n3_
      have HO226 := n4_
      have HK := n5_
      have HB := n6_
      have HI0 := n7_
      clear n1_ n2_ n3_ n4_ n5_ n6_ n7_
      (try clear hb)
      (try clear hb2)
      (try clear hk)
      (try clear hi)
      refine hK.out _ _ ⟨v220, .slice Ao32 y224.length co32, p3, m19_, (by rw [ha.out]; exact putSel_upk 8 hb_ rfl rfl rfl), r6, p5.out, p4.out, fun h0_ => absurd ((hon 3 (by kernel_rfl)).symm.trans h0_) (by decide), HK.out, HB.out, fun _ h1_ => absurd ((hon 7 (by kernel_rfl)).symm.trans h1_) (by decide), fun _ h1_ => absurd ((hon 10 (by kernel_rfl)).symm.trans h1_) (by decide), fun _ h1_ => absurd ((hon 12 (by kernel_rfl)).symm.trans h1_) (by decide), fun _ => HO221.out, fun _ h1_ => absurd ((up_self b 15).symm.trans h1_) (by decide), fun _ => HO226.out, fun _ _ => HI0.out, fun h0_ => absurd ((hoff 17 (by kernel_rfl)).symm.trans h0_) (by decide), q5, t3, r8, r9, q6, q3, p9, q0, q1, q2, fun h0_ => absurd ((hoff 20 (by kernel_rfl)).symm.trans h0_) (by decide), s9⟩
     refine steps_cons ?_ ?_
     ·rintro b a w' ⟨v220, v225, p3, m19_, ha, p7, q9, r0, t6, Q_HK, Q_HB, s8, t2, s2, s3, s4, r4, s5, r7, p1, s1, r8, r9, q6, q3, p9, q0, q1, q2, r5, s9⟩ hb_ hon hoff
      refine ⟨_, rfl, fun K hK => ?_⟩
      have e32 : a.tmps[32]? = some (.pointer (some ⟨g, 0, none⟩)) := by rw [ha]; exact (putSel_off rfl).trans rfl
      replace ha := Aside0.mk ha
      have p5 := Aside0.mk q9
      have p4 := Aside0.mk r0
      have HK := Aside0.mk Q_HK
      have HB := Aside0.mk Q_HB
      have HO221 := Aside0.mk (s3 (hon 11 (by kernel_rfl)))
      have HO226 := Aside0.mk (r4 (hon 14 (by kernel_rfl)))
      have HI0 := Aside0.mk (s5 (hon 15 (by kernel_rfl)) hb_)
      refine goes_ Try.func74 (by kernel_rfl) rfl #[.pointer (some ⟨g, 0, none⟩), .int .i64 10] (by rfl) rfl rfl (by first | (simp only [List.map_toArray, List.map_cons, List.map_nil, Act.eval, Array.getD_eq_getD_getElem?, Option.getD_some, e32]; done) | (simp only [List.map_toArray, List.map_cons, List.map_nil, Act.eval, Array.getD_eq_getD_getElem?, Option.getD_some, e32]; rfl)) ?_
      with_reducible refine (spec_l30Rd_pick.calls k1 g s0_0 t228 10 t229 t230 w0 _ ?side1 ?side2 A17.out).mono ?_
      (case side1 => exact HI0.out)
      (case side2 => exact HB.out)
      rintro e w34 ⟨rfl, hi, hb, hk⟩
      refine ⟨_, rfl, ?_⟩
      have n1_ := Aside0.mk (KeepBut.blk hk (g' := t0) (o := .cells #[.int .i64 0, .slice none 0 0] 38 (0, 0)) p5.out u1.out (by simp))
      have n2_ := Aside0.mk (KeepBut.blk hk (g' := s0) (o := .cells #[.int .i64 (wrap64 (2 + t208)), q4] 38 (0, 0)) p4.out t9.out (by simp))
      have n3_ := Aside0.mk (Kd.R_mono (Kd.R_keep (IsS112.apart (show IsS112 w0 _ g s0_0 t228 from by repeat (first | (with_reducible first | exact HI0.out | apply IsS112.alloc | apply IsS112.drewN | apply IsS112.drew | apply IsS112.set_1 | refine IsS112.far ?_ q7.out _ | refine IsS112.far ?_ q8.out _) | exact HI0.out)) HO221.out (by decide)) hk (fun _ h => h.2)) (fun _ h => h.1))
      have n4_ := Aside0.mk (Kd.R_mono (Kd.R_keep (IsS112.apart (show IsS112 w0 _ g s0_0 t228 from by repeat (first | (with_reducible first | exact HI0.out | apply IsS112.alloc | apply IsS112.drewN | apply IsS112.drew | apply IsS112.set_1 | refine IsS112.far ?_ q7.out _ | refine IsS112.far ?_ q8.out _) | exact HI0.out)) HO226.out (by decide)) hk (fun _ h => h.2)) (fun _ h => h.1))
      have n5_ := Aside0.mk (KeepBut.trans HK.out hk (.inl rfl))
      have n6_ := Aside0.mk (hb)
      have n7_ := Aside0.mk (hi)
      have r6 := fun (h0_ : b 19 = false) => (show Kd.R k45 45 w34 w.heap.size (fun _ => True) q4 p0 from by exact Kd.R_mono (Kd.R_mono (Kd.R_keep (IsS112.apart (show IsS112 w0 _ g s0_0 t228 from by repeat (first | (with_reducible first | exact HI0.out | apply IsS112.alloc | apply IsS112.drewN | apply IsS112.drew | apply IsS112.set_1 | refine IsS112.far ?_ q7.out _ | refine IsS112.far ?_ q8.out _) | exact HI0.out)) (p7 h0_) (by decide)) hk (fun _ h => h.2)) (fun _ h => h.1)) (fun _ h_ => by first | trivial | exact h_ | exact h_.1))
      have q5 := fun (h0_ : b 19 = true) => (show Kd.R k45 45 w34 w.heap.size (fun k_ => k_ ≠ p3) q4 p0 from by exact Kd.R_mono (Kd.R_mono (Kd.R_keep (IsS112.apart (show IsS112 w0 _ g s0_0 t228 from by repeat (first | (with_reducible first | exact HI0.out | apply IsS112.alloc | apply IsS112.drewN | apply IsS112.drew | apply IsS112.set_1 | refine IsS112.far ?_ q7.out _ | refine IsS112.far ?_ q8.out _) | exact HI0.out)) (p1 h0_) (by decide)) hk (fun _ h => h.2)) (fun _ h => h.1)) (fun _ h_ => by first | trivial | exact h_ | exact h_.1))
      have t3 := fun (h0_ : b 19 = true) (h1_ : b 20 = false) => (show w34.heap[p3]? = some (.cells #[.int .i64 0, .int .i64 0, .int .i64 0, .int .i64 0, .int .i64 0] 45 (0, 0)) from by first | exact (KeepBut.blk hk (g' := p3) (o := .cells #[.int .i64 0, .int .i64 0, .int .i64 0, .int .i64 0, .int .i64 0] 45 (0, 0)) (s1 h0_ h1_) (q3 h0_) (by simp)))
      clear p5
      clear p4
      clear HO221
      clear HO226
      clear HK
      clear HB
      clear HI0
      have p5 := n1_
      have p4 := n2_
      have HO221 := n3_
      have HO226 := n4_
      have HK := n5_
      have HB := n6_
      have HI0 := n7_
      clear n1_ n2_ n3_ n4_ n5_ n6_ n7_
      (try clear hb)
      (try clear hb2)
      (try clear hk)
      (try clear hi)
      refine hK.out _ _ ⟨v220, v225, p3, m19_, (by rw [ha.out]; exact putSel_upk 9 hb_ rfl rfl rfl), r6, p5.out, p4.out, fun h0_ => absurd ((hon 3 (by kernel_rfl)).symm.trans h0_) (by decide), HK.out, HB.out, fun _ h1_ => absurd ((hon 7 (by kernel_rfl)).symm.trans h1_) (by decide), fun _ h1_ => absurd ((hon 10 (by kernel_rfl)).symm.trans h1_) (by decide), fun _ h1_ => absurd ((hon 12 (by kernel_rfl)).symm.trans h1_) (by decide), fun _ => HO221.out, fun _ h1_ => absurd ((hon 15 (by kernel_rfl)).symm.trans h1_) (by decide), fun _ => HO226.out, fun _ h1_ => absurd ((up_self b 17).symm.trans h1_) (by decide), fun _ => HI0.out, q5, t3, r8, r9, q6, q3, p9, q0, q1, q2, fun h0_ => absurd ((hoff 20 (by kernel_rfl)).symm.trans h0_) (by decide), s9⟩
     refine steps_cons ?_ ?_
     ·rintro b a w' ⟨v220, v225, p3, m19_, ha, p7, q9, r0, t6, Q_HK, Q_HB, s8, t2, s2, s3, s4, r4, s5, r7, p1, s1, r8, r9, q6, q3, p9, q0, q1, q2, r5, s9⟩ hb_ hon hoff
      refine ⟨_, rfl, fun K hK => ?_⟩
      have e19 : a.tmps[19]? = some (.int .i64 t213) := by rw [ha]; exact putSel_on (e := (3, 19, .int .i64 t213)) 1 rfl rfl (hon 3 (by kernel_rfl)) rfl
      have e23 : a.tmps[23]? = some (.int .i64 t215) := by rw [ha]; exact putSel_on (e := (7, 23, .int .i64 t215)) 3 rfl rfl (hon 7 (by kernel_rfl)) rfl
      have e28 : a.tmps[28]? = some (.int .i64 t222) := by rw [ha]; exact putSel_on (e := (12, 28, .int .i64 t222)) 6 rfl rfl (hon 12 (by kernel_rfl)) rfl
      have e31 : a.tmps[31]? = some (.int .i64 t227) := by rw [ha]; exact putSel_on (e := (15, 31, .int .i64 t227)) 8 rfl rfl (hon 15 (by kernel_rfl)) rfl
      have e33 : a.tmps[33]? = some (.int .i64 t229) := by rw [ha]; exact putSel_on (e := (17, 33, .int .i64 t229)) 9 rfl rfl (hon 17 (by kernel_rfl)) rfl
      replace ha := Aside0.mk ha
      have p5 := Aside0.mk q9
      have p4 := Aside0.mk r0
      have HK := Aside0.mk Q_HK
      have HB := Aside0.mk Q_HB
      have HO221 := Aside0.mk (s3 (hon 11 (by kernel_rfl)))
      have HO226 := Aside0.mk (r4 (hon 14 (by kernel_rfl)))
      have HI0 := Aside0.mk (r7 (hon 17 (by kernel_rfl)))
      refine value_ (w1 := w') (v := .agg #[.int .i64 t213, .int .i64 t215, .int .i64 t222, .int .i64 t227, .int .i64 t229]) (by rfl) rfl ?_ ?_
      ·go_simp
       (try simp only [i64_w])
       try rfl
      refine hK.out _ _ ⟨v220, v225, p3, m19_, (by rw [ha.out]; exact putSel_upk 10 hb_ rfl rfl rfl), p7, q9, r0, fun h0_ => absurd ((hon 3 (by kernel_rfl)).symm.trans h0_) (by decide), Q_HK, Q_HB, fun _ h1_ => absurd ((hon 7 (by kernel_rfl)).symm.trans h1_) (by decide), fun _ h1_ => absurd ((hon 10 (by kernel_rfl)).symm.trans h1_) (by decide), fun _ h1_ => absurd ((hon 12 (by kernel_rfl)).symm.trans h1_) (by decide), s3, fun _ h1_ => absurd ((hon 15 (by kernel_rfl)).symm.trans h1_) (by decide), r4, fun _ h1_ => absurd ((hon 17 (by kernel_rfl)).symm.trans h1_) (by decide), r7, p1, s1, r8, r9, q6, q3, p9, q0, q1, q2, fun h0_ => absurd ((hoff 20 (by kernel_rfl)).symm.trans h0_) (by decide), s9⟩
     refine steps_cons ?_ ?_
     ·rintro b a w' ⟨v220, v225, p3, m19_, ha, p7, q9, r0, t6, Q_HK, Q_HB, s8, t2, s2, s3, s4, r4, s5, r7, p1, s1, r8, r9, q6, q3, p9, q0, q1, q2, r5, s9⟩ hb_ hon hoff
      refine ⟨_, rfl, fun K hK => ?_⟩
      replace ha := Aside0.mk ha
      have p8 := Aside0.mk (p7 hb_)
      have p5 := Aside0.mk q9
      have p4 := Aside0.mk r0
      have HK := Aside0.mk Q_HK
      have HB := Aside0.mk Q_HB
      refine box_step ?hg (N := 5) ?hd (cs := #[.int .i64 0, .int .i64 0, .int .i64 0, .int .i64 0, .int .i64 0]) (t := 45) ?hr ?_; (case hd => rfl); (case hg => rfl); (case hr => first | (go_simp; done) | (go_simp; rfl))
      intro p3 hg w22 hbox hb
      have n0_ := Aside0.mk (Kd.R_below (Kd.R_elderB p8.out p3 (Nat.le_of_eq hg.symm)) hb)
      have n1_ := Aside0.mk (blk_below (g := t0) (o := .cells #[.int .i64 0, .slice none 0 0] 38 (0, 0)) p5.out hb)
      have n2_ := Aside0.mk (blk_below (g := s0) (o := .cells #[.int .i64 (wrap64 (2 + t208)), q4] 38 (0, 0)) p4.out hb)
      have n4_ := Aside0.mk (KeepBut.trans HK.out (KeepBut.of_below hb g none) (.inl rfl))
      have n5_ := Aside0.mk (below_step HB.out hb)
      have n6_ := Aside0.mk (hbox)
      have n7_ := Aside0.mk ((by rw [hg]; exact (keep_size (w := w) (g := g) (row := none) HK.out) : w.heap.size ≤ p3))
      have n8_ := Aside0.mk ((Nat.le_trans HW0.out (by rw [hg]; exact (keep_size (w := w) (g := g) (row := none) HK.out) : w.heap.size ≤ p3) : w0.heap.size ≤ p3))
      have n9_ := Aside0.mk ((by rw [hg]; exact Nat.ne_of_lt (blk_lt (g := t0) (o := .cells #[.int .i64 0, .slice none 0 0] 38 (0, 0)) p5.out) : t0 ≠ p3))
      have n10_ := Aside0.mk ((by rw [hg]; exact Nat.ne_of_gt (blk_lt (g := t0) (o := .cells #[.int .i64 0, .slice none 0 0] 38 (0, 0)) p5.out) : p3 ≠ t0))
      have n11_ := Aside0.mk ((by rw [hg]; exact Nat.ne_of_lt (blk_lt (g := s0) (o := .cells #[.int .i64 (wrap64 (2 + t208)), q4] 38 (0, 0)) p4.out) : s0 ≠ p3))
      have n12_ := Aside0.mk ((by rw [hg]; exact Nat.ne_of_gt (blk_lt (g := s0) (o := .cells #[.int .i64 (wrap64 (2 + t208)), q4] 38 (0, 0)) p4.out) : p3 ≠ s0))
      have n13_ := Aside0.mk ((by rw [hg]; exact Nat.ne_of_lt (Nat.lt_of_lt_of_le HLTg.out (by first | exact HK.out.1 | (have := HK.out.1; simp; omega))) : g ≠ p3))
      have n14_ := Aside0.mk ((by rw [hg]; exact Nat.ne_of_gt (Nat.lt_of_lt_of_le HLTg.out (by first | exact HK.out.1 | (have := HK.out.1; simp; omega))) : p3 ≠ g))
      have y7 := fun (h0_ : b 3 = false) => (show IsS112 w0 w22 g s0_0 u0 from by first | exact (IsS112.below (t6 h0_) hb))
      have v7 := fun (h0_ : b 3 = true) (h1_ : b 7 = false) => (show IsS112 w0 w22 g s0_0 t214 from by first | exact (IsS112.below (s8 h0_ h1_) hb))
      have v8 := fun (h0_ : b 7 = true) (h1_ : b 10 = false) => (show IsS112 w0 w22 g s0_0 t216 from by first | exact (IsS112.below (t2 h0_ h1_) hb))
      have u8 := fun (h0_ : b 10 = true) (h1_ : b 12 = false) => (show IsS112 w0 w22 g s0_0 t218 from by first | exact (IsS112.below (s2 h0_ h1_) hb))
      have v9 := fun (h0_ : b 11 = true) => (show Kd.R (Kd.int .i64) 3 w22 w.heap.size (fun _ => True) v220 y219 from by first | exact (Kd.R_below (s3 h0_) hb) | exact Kd.R_mono (Kd.R_below (s3 h0_) hb) (fun _ h_ => by first | trivial | exact h_ | exact h_.1))
      have u9 := fun (h0_ : b 12 = true) (h1_ : b 15 = false) => (show IsS112 w0 w22 g s0_0 t223 from by first | exact (IsS112.below (s4 h0_ h1_) hb))
      have t7 := fun (h0_ : b 14 = true) => (show Kd.R (Kd.int .i64) 3 w22 w.heap.size (fun _ => True) v225 y224 from by first | exact (Kd.R_below (r4 h0_) hb) | exact Kd.R_mono (Kd.R_below (r4 h0_) hb) (fun _ h_ => by first | trivial | exact h_ | exact h_.1))
      have y5 := fun (h0_ : b 15 = true) (h1_ : b 17 = false) => (show IsS112 w0 w22 g s0_0 t228 from by first | exact (IsS112.below (s5 h0_ h1_) hb))
      have y6 := fun (h0_ : b 17 = true) => (show IsS112 w0 w22 g s0_0 t230 from by first | exact (IsS112.below (r7 h0_) hb))
      clear p8
      clear p5
      clear p4
      clear HK
      clear HB
      have p8 := n0_
      have p5 := n1_
      have p4 := n2_
      have HK := n4_
      have HB := n5_
      have t1 := n6_
      have u5 := n7_
      have v3 := n8_
      have s6 := n9_
      have t4 := n10_
      have s7 := n11_
      have t5 := n12_
      have u2 := n13_
      have u6 := n14_
      clear n0_ n1_ n2_ n4_ n5_ n6_ n7_ n8_ n9_ n10_ n11_ n12_ n13_ n14_
      clear hb hbox hg
      refine hK.out _ _ ⟨v220, v225, p3, (.pointer (some ⟨p3, 0, none⟩)), (by rw [ha.out]; exact putSel_upk 11 hb_ rfl rfl rfl), fun h0_ => absurd ((up_self b 19).symm.trans h0_) (by decide), p5.out, p4.out, y7, HK.out, HB.out, v7, v8, u8, v9, u9, t7, y5, y6, fun _ => (Kd.R_mono p8.out (fun _ hk => hk.2)), fun _ _ => t1.out, fun _ => u5.out, fun _ => v3.out, fun _ => u2.out, fun _ => u6.out, fun _ => s6.out, fun _ => t4.out, fun _ => s7.out, fun _ => t5.out, fun h0_ => absurd ((hoff 20 (by kernel_rfl)).symm.trans h0_) (by decide), fun _ => rfl⟩
     refine steps_cons ?_ ?_
     ·rintro b a w' ⟨v220, v225, p3, m19_, ha, p7, q9, r0, t6, Q_HK, Q_HB, s8, t2, s2, s3, s4, r4, s5, r7, p1, s1, r8, r9, q6, q3, p9, q0, q1, q2, r5, s9⟩ hb_ hon hoff
      refine ⟨_, rfl, fun K hK => ?_⟩
      have e5 : a.tmps[5]? = some (m19_) := by rw [ha]; exact putSel_on (e := (19, 5, m19_)) 11 rfl rfl (hon 19 (by kernel_rfl)) rfl
      rw [s9 (hon 19 (by kernel_rfl))] at e5
      have e34 : a.tmps[34]? = some (.agg #[.int .i64 t213, .int .i64 t215, .int .i64 t222, .int .i64 t227, .int .i64 t229]) := by rw [ha]; exact putSel_on (e := (18, 34, .agg #[.int .i64 t213, .int .i64 t215, .int .i64 t222, .int .i64 t227, .int .i64 t229])) 10 rfl rfl (hon 18 (by kernel_rfl)) rfl
      replace ha := Aside0.mk ha
      have p5 := Aside0.mk q9
      have p4 := Aside0.mk r0
      have HK := Aside0.mk Q_HK
      have HB := Aside0.mk Q_HB
      have HO221 := Aside0.mk (s3 (hon 11 (by kernel_rfl)))
      have HO226 := Aside0.mk (r4 (hon 14 (by kernel_rfl)))
      have HI0 := Aside0.mk (r7 (hon 17 (by kernel_rfl)))
      have p8 := Aside0.mk (p1 (hon 19 (by kernel_rfl)))
      have t1 := Aside0.mk (s1 (hon 19 (by kernel_rfl)) hb_)
      have u5 := Aside0.mk (r8 (hon 19 (by kernel_rfl)))
      have v3 := Aside0.mk (r9 (hon 19 (by kernel_rfl)))
      have u2 := Aside0.mk (q6 (hon 19 (by kernel_rfl)))
      have u6 := Aside0.mk (q3 (hon 19 (by kernel_rfl)))
      have s6 := Aside0.mk (p9 (hon 19 (by kernel_rfl)))
      have t4 := Aside0.mk (q0 (hon 19 (by kernel_rfl)))
      have s7 := Aside0.mk (q1 (hon 19 (by kernel_rfl)))
      have t5 := Aside0.mk (q2 (hon 19 (by kernel_rfl)))
      have hs36 : w'.cell? ⟨p3, 0, none⟩ = some (.int .i64 0) := (blk_cell t1.out 0).trans rfl
      have hfs36 := blk_frozen t1.out 0
      have hns36_0 := s6.out
      have hns36_1 := s7.out
      have hms36_0 := t4.out
      have hms36_1 := t5.out
      have hs37 : w'.cell? ⟨p3, 1, none⟩ = some (.int .i64 0) := (blk_cell t1.out 1).trans rfl
      have hfs37 := blk_frozen t1.out 1
      have hns37_0 := s6.out
      have hns37_1 := s7.out
      have hms37_0 := t4.out
      have hms37_1 := t5.out
      have hs38 : w'.cell? ⟨p3, 2, none⟩ = some (.int .i64 0) := (blk_cell t1.out 2).trans rfl
      have hfs38 := blk_frozen t1.out 2
      have hns38_0 := s6.out
      have hns38_1 := s7.out
      have hms38_0 := t4.out
      have hms38_1 := t5.out
      have hs39 : w'.cell? ⟨p3, 3, none⟩ = some (.int .i64 0) := (blk_cell t1.out 3).trans rfl
      have hfs39 := blk_frozen t1.out 3
      have hns39_0 := s6.out
      have hns39_1 := s7.out
      have hms39_0 := t4.out
      have hms39_1 := t5.out
      have hs40 : w'.cell? ⟨p3, 4, none⟩ = some (.int .i64 0) := (blk_cell t1.out 4).trans rfl
      have hfs40 := blk_frozen t1.out 4
      have hns40_0 := s6.out
      have hns40_1 := s7.out
      have hms40_0 := t4.out
      have hms40_1 := t5.out
      refine skip_ (w1 := ?_) (by rfl) rfl ?_ ?_
      rotate_left
      ·go_simp
       rfl
      refine hK.out _ _ ⟨v220, v225, p3, m19_, (by rw [ha.out]; exact putSel_none (v := undef) rfl), fun h0_ => absurd ((hon 19 (by kernel_rfl)).symm.trans h0_) (by decide), (by (with_reducible repeat (first | refine blk_drewN ?_ _ | refine blk_drew ?_ | refine blk_alloc ?_ _)); refine blk_far ?_ s6.out _; (with_reducible repeat (first | refine blk_drewN ?_ _ | refine blk_drew ?_ | refine blk_alloc ?_ _)); refine blk_far ?_ s6.out _; (with_reducible repeat (first | refine blk_drewN ?_ _ | refine blk_drew ?_ | refine blk_alloc ?_ _)); refine blk_far ?_ s6.out _; (with_reducible repeat (first | refine blk_drewN ?_ _ | refine blk_drew ?_ | refine blk_alloc ?_ _)); refine blk_far ?_ s6.out _; (with_reducible repeat (first | refine blk_drewN ?_ _ | refine blk_drew ?_ | refine blk_alloc ?_ _)); refine blk_far ?_ s6.out _; (with_reducible repeat (first | refine blk_drewN ?_ _ | refine blk_drew ?_ | refine blk_alloc ?_ _)); exact p5.out), (by (with_reducible repeat (first | refine blk_drewN ?_ _ | refine blk_drew ?_ | refine blk_alloc ?_ _)); refine blk_far ?_ s7.out _; (with_reducible repeat (first | refine blk_drewN ?_ _ | refine blk_drew ?_ | refine blk_alloc ?_ _)); refine blk_far ?_ s7.out _; (with_reducible repeat (first | refine blk_drewN ?_ _ | refine blk_drew ?_ | refine blk_alloc ?_ _)); refine blk_far ?_ s7.out _; (with_reducible repeat (first | refine blk_drewN ?_ _ | refine blk_drew ?_ | refine blk_alloc ?_ _)); refine blk_far ?_ s7.out _; (with_reducible repeat (first | refine blk_drewN ?_ _ | refine blk_drew ?_ | refine blk_alloc ?_ _)); refine blk_far ?_ s7.out _; (with_reducible repeat (first | refine blk_drewN ?_ _ | refine blk_drew ?_ | refine blk_alloc ?_ _)); exact p4.out), fun h0_ => absurd ((hon 3 (by kernel_rfl)).symm.trans h0_) (by decide), (by repeat (first | (with_reducible first | exact HK.out | apply KeepBut.set_ | apply keep_drewN | apply keep_drew | apply keep_alloc | refine keep_far ?_ v1.out _ | refine keep_far ?_ v2.out _ | refine keep_far ?_ u5.out _) | exact HK.out)), (by repeat (first | (with_reducible first | exact HB.out | apply below_alloc | apply pw_below_drewN | apply below_drew1 | refine below_set ?_ (IsS112.ge HI0.out) | refine below_set ?_ v5.out | refine below_set ?_ v6.out | refine below_set ?_ v3.out) | exact HB.out)), fun _ h1_ => absurd ((hon 7 (by kernel_rfl)).symm.trans h1_) (by decide), fun _ h1_ => absurd ((hon 10 (by kernel_rfl)).symm.trans h1_) (by decide), fun _ h1_ => absurd ((hon 12 (by kernel_rfl)).symm.trans h1_) (by decide), fun _ => (Kd.R_mono (Kd.R_far (p := ⟨p3, 4, none⟩) (Kd.R_far (p := ⟨p3, 3, none⟩) (Kd.R_far (p := ⟨p3, 2, none⟩) (Kd.R_far (p := ⟨p3, 1, none⟩) (Kd.R_far (p := ⟨p3, 0, none⟩) (Kd.R_types HO221.out t1.out (by decide)) (fun _ hk => hk.2) (.int .i64 t213)) (fun _ hk => hk.2) (.int .i64 t215)) (fun _ hk => hk.2) (.int .i64 t222)) (fun _ hk => hk.2) (.int .i64 t227)) (fun _ hk => hk.2) (.int .i64 t229)) (fun _ hk => hk.1)), fun _ h1_ => absurd ((hon 15 (by kernel_rfl)).symm.trans h1_) (by decide), fun _ => (Kd.R_mono (Kd.R_far (p := ⟨p3, 4, none⟩) (Kd.R_far (p := ⟨p3, 3, none⟩) (Kd.R_far (p := ⟨p3, 2, none⟩) (Kd.R_far (p := ⟨p3, 1, none⟩) (Kd.R_far (p := ⟨p3, 0, none⟩) (Kd.R_types HO226.out t1.out (by decide)) (fun _ hk => hk.2) (.int .i64 t213)) (fun _ hk => hk.2) (.int .i64 t215)) (fun _ hk => hk.2) (.int .i64 t222)) (fun _ hk => hk.2) (.int .i64 t227)) (fun _ hk => hk.2) (.int .i64 t229)) (fun _ hk => hk.1)), fun _ h1_ => absurd ((hon 17 (by kernel_rfl)).symm.trans h1_) (by decide), fun _ => (by repeat (first | (with_reducible first | exact HI0.out | apply IsS112.alloc | apply IsS112.drewN | apply IsS112.drew | apply IsS112.set_1 | refine IsS112.far ?_ q7.out _ | refine IsS112.far ?_ q8.out _ | refine IsS112.far ?_ u2.out _) | exact HI0.out)), fun _ => (Kd.R_mono (Kd.R_far (p := ⟨p3, 4, none⟩) (Kd.R_far (p := ⟨p3, 3, none⟩) (Kd.R_far (p := ⟨p3, 2, none⟩) (Kd.R_far (p := ⟨p3, 1, none⟩) (Kd.R_far (p := ⟨p3, 0, none⟩) (Kd.R_mono p8.out (fun k_ hk => (⟨hk, hk⟩ : _ ∧ k_ ≠ p3))) (fun _ hk => hk.2) (.int .i64 t213)) (fun _ hk => hk.2) (.int .i64 t215)) (fun _ hk => hk.2) (.int .i64 t222)) (fun _ hk => hk.2) (.int .i64 t227)) (fun _ hk => hk.2) (.int .i64 t229)) (fun _ hk => hk.1)), fun _ h1_ => absurd ((up_self b 20).symm.trans h1_) (by decide), fun _ => u5.out, fun _ => v3.out, fun _ => u2.out, fun _ => u6.out, fun _ => s6.out, fun _ => t4.out, fun _ => s7.out, fun _ => t5.out, fun _ => (by (with_reducible repeat (first | refine blk_drewN ?_ _ | refine blk_drew ?_ | refine blk_alloc ?_ _)); refine blk_put (cs := #[.int .i64 t213, .int .i64 t215, .int .i64 t222, .int .i64 t227, .int .i64 0]) ?_ 4 _ rfl; (with_reducible repeat (first | refine blk_drewN ?_ _ | refine blk_drew ?_ | refine blk_alloc ?_ _)); refine blk_put (cs := #[.int .i64 t213, .int .i64 t215, .int .i64 t222, .int .i64 0, .int .i64 0]) ?_ 3 _ rfl; (with_reducible repeat (first | refine blk_drewN ?_ _ | refine blk_drew ?_ | refine blk_alloc ?_ _)); refine blk_put (cs := #[.int .i64 t213, .int .i64 t215, .int .i64 0, .int .i64 0, .int .i64 0]) ?_ 2 _ rfl; (with_reducible repeat (first | refine blk_drewN ?_ _ | refine blk_drew ?_ | refine blk_alloc ?_ _)); refine blk_put (cs := #[.int .i64 t213, .int .i64 0, .int .i64 0, .int .i64 0, .int .i64 0]) ?_ 1 _ rfl; (with_reducible repeat (first | refine blk_drewN ?_ _ | refine blk_drew ?_ | refine blk_alloc ?_ _)); refine blk_put (cs := #[.int .i64 0, .int .i64 0, .int .i64 0, .int .i64 0, .int .i64 0]) ?_ 0 _ rfl; (with_reducible repeat (first | refine blk_drewN ?_ _ | refine blk_drew ?_ | refine blk_alloc ?_ _)); exact t1.out), s9⟩
     exact steps_nil
    rintro b a w40 hall ⟨v220, v225, p3, m19_, ha, p7, q9, r0, t6, Q_HK, Q_HB, s8, t2, s2, s3, s4, r4, s5, r7, p1, s1, r8, r9, q6, q3, p9, q0, q1, q2, r5, s9⟩
    clear p5 p4 HB HI0 HK p8
    have hb2_ := hall 2 (by kernel_rfl)
    have hb3_ := hall 3 (by kernel_rfl)
    have hb6_ := hall 6 (by kernel_rfl)
    have hb7_ := hall 7 (by kernel_rfl)
    have hb10_ := hall 10 (by kernel_rfl)
    have hb11_ := hall 11 (by kernel_rfl)
    have hb12_ := hall 12 (by kernel_rfl)
    have hb14_ := hall 14 (by kernel_rfl)
    have hb15_ := hall 15 (by kernel_rfl)
    have hb17_ := hall 17 (by kernel_rfl)
    have hb18_ := hall 18 (by kernel_rfl)
    have hb19_ := hall 19 (by kernel_rfl)
    have hb20_ := hall 20 (by kernel_rfl)
    subst ha
    obtain rfl := s9 hb19_
    simp only [putSel, hb2_, hb3_, hb6_, hb7_, hb10_, hb11_, hb12_, hb14_, hb15_, hb17_, hb18_, hb19_, hb20_, if_true, Act.put, List.setIfInBounds_toArray, List.set_cons_zero, List.set_cons_succ]
    clear p7
    have p5 := Aside0.mk q9
    clear q9
    have p4 := Aside0.mk r0
    clear r0
    clear t6
    have HK := Aside0.mk Q_HK
    clear Q_HK
    have HB := Aside0.mk Q_HB
    clear Q_HB
    clear s8
    clear t2
    clear s2
    have HO221 := Aside0.mk (s3 hb11_)
    clear s3
    clear s4
    have HO226 := Aside0.mk (r4 hb14_)
    clear r4
    clear s5
    have HI0 := Aside0.mk (r7 hb17_)
    clear r7
    have p8 := Aside0.mk (p1 hb19_)
    clear p1
    clear s1
    have u5 := Aside0.mk (r8 hb19_)
    clear r8
    have v3 := Aside0.mk (r9 hb19_)
    clear r9
    have u2 := Aside0.mk (q6 hb19_)
    clear q6
    have u6 := Aside0.mk (q3 hb19_)
    clear q3
    have s6 := Aside0.mk (p9 hb19_)
    clear p9
    have t4 := Aside0.mk (q0 hb19_)
    clear q0
    have s7 := Aside0.mk (q1 hb19_)
    clear q1
    have t5 := Aside0.mk (q2 hb19_)
    clear q2
    have t1 := Aside0.mk (r5 hb20_)
    clear r5
    clear hall hb2_ hb3_ hb6_ hb7_ hb10_ hb11_ hb12_ hb14_ hb15_ hb17_ hb18_ hb19_ hb20_
    have hnb41 := t4.out
    have hnc41 := s6.out
    have hnb42 := t5.out
    have hnc42 := s7.out
    have hnb43 := u6.out
    have hnc43 := u2.out
    have hcz44_0 : w40.cell? ⟨p3, 0, none⟩ = some (.int .i64 t213) := (blk_cell t1.out 0).trans rfl
    have hcz44_1 : w40.cell? ⟨p3, 1, none⟩ = some (.int .i64 t215) := (blk_cell t1.out 1).trans rfl
    have hcz44_2 : w40.cell? ⟨p3, 2, none⟩ = some (.int .i64 t222) := (blk_cell t1.out 2).trans rfl
    have hcz44_3 : w40.cell? ⟨p3, 3, none⟩ = some (.int .i64 t227) := (blk_cell t1.out 3).trans rfl
    have hcz44_4 : w40.cell? ⟨p3, 4, none⟩ = some (.int .i64 t229) := (blk_cell t1.out 4).trans rfl
    have hfz44_0 := blk_frozen t1.out 0
    have hfz44_1 := blk_frozen t1.out 1
    have hfz44_2 := blk_frozen t1.out 2
    have hfz44_3 := blk_frozen t1.out 3
    have hfz44_4 := blk_frozen t1.out 4
    have hnb45 := u7.out
    have hnc45 := t8.out
    have hnb46 := t9.out
    have hnc46 := q8.out
    have hcz47_0 : w40.cell? ⟨s0, 0, none⟩ = some (.int .i64 (wrap64 (2 + t208))) := (blk_cell p4.out 0).trans rfl
    have hcz47_1 : w40.cell? ⟨s0, 1, none⟩ = some (q4) := (blk_cell p4.out 1).trans rfl
    have hfz47_0 := blk_frozen p4.out 0
    have hfz47_1 := blk_frozen p4.out 1
    have H := HH_.out
    clear HH_
    by_cases c18 : t213 = t215
    ·rw [if_pos c18] at H
     have c18b0 : (t213 == t215) = true := beq_iff_eq.mpr c18
     have c18b1 : (t213 != t215) = false := bne_eq_false_iff_eq.mpr c18
     clear c18
     by_cases c19 : (wrap64 (2 + t208)) = 0
     ·rw [if_pos c19] at H
      exact absurd H (by simp)
     ·rw [if_neg c19] at H
      have c19b0 : ((wrap64 (2 + t208)) == 0) = false := beq_eq_false_iff_ne.mpr c19
      have c19b1 : ((wrap64 (2 + t208)) != 0) = true := bne_iff_ne.mpr c19
      by_cases c20 : p0.length < 3518437208883
      ·rw [if_pos c20] at H
       have LMc20 := Aside0.mk c20
       clear c20
       obtain ⟨y232, hy232⟩ : ∃ y_ : List (S45), y_ = (p0 ++ [(⟨t213, Int.tmod (wrap64 (t215 + 1)) (wrap64 (2 + t208)), t222, t227, t229⟩ : S45)]) := ⟨_, rfl⟩
       replace H : (spec_l30Net.l0 k1 (wrap64 (x4_1 - 1)) s0_0 t230 (wrap64 (2 + t208)) y232) = some (r1, r2, r3) := by first | (rw [hy232]; with_reducible exact H) | (have H2_ := (Option.bind_some _ _).symm.trans H; rw [hy232]; with_reducible exact H2_) | (have H2_ := (Option.bind_some _ _).symm.trans H; with_reducible exact H2_) | with_reducible exact H | (rw [hy232]; exact H) | exact H
       have Ny232 := Aside0.mk hy232
       clear hy232
       have H' := Aside0.mk H
       clear H
       try go_wp2_with (first | ((with_reducible refine gate_builtin (b := .append) (xs := #[.tmp 48, .tmp 50]) rfl ?_); at_builtin; refine Kd.R_append k45 w.heap.size rfl (.tmp 48) (.tmp 50) 36 45 (.agg #[(.int .i64 0), (.int .i64 0), (.int .i64 0), (.int .i64 0), (.int .i64 0)]) 40 rfl Try.underlying36 info45 rfl (by decide) (by omega) q4 p0 (⟨t213, Int.tmod (wrap64 (t215 + 1)) (wrap64 (2 + t208)), t222, t227, t229⟩ : S45) [.int .i64 t213, .int .i64 (Int.tmod (wrap64 (t215 + 1)) (wrap64 (2 + t208))), .int .i64 t222, .int .i64 t227, .int .i64 t229] (fun k_ => k_ ≠ p3) (fun _ => False) rfl (by first | (go_simp; done) | (go_simp; rfl)) ?aP (fun _ hk => hk.elim) ?aF ?aO (Below.refl _ _) ?aS ?aL ?_; (case aP => exact k45_mkM _ _ _ (⟨t213, Int.tmod (wrap64 (t215 + 1)) (wrap64 (2 + t208)), t222, t227, t229⟩ : S45)); (case aF => exact (fun k_ hk => Kd.freshB (g := p3) (o := .cells #[.int .i64 t213, .int .i64 (Int.tmod (wrap64 (t215 + 1)) (wrap64 (2 + t208))), .int .i64 t222, .int .i64 t227, .int .i64 t229] 45 (0, 0)) (by (with_reducible repeat (first | refine blk_drewN ?_ _ | refine blk_drew ?_ | refine blk_alloc ?_ _)); refine blk_put (cs := #[.int .i64 t213, .int .i64 t215, .int .i64 t222, .int .i64 t227, .int .i64 t229]) ?_ 1 _ rfl; (with_reducible repeat (first | refine blk_drewN ?_ _ | refine blk_drew ?_ | refine blk_alloc ?_ _)); exact t1.out) k_ hk)); (case aO => exact (Kd.R_mono (Kd.R_far (p := ⟨p3, 1, none⟩) (Kd.R_mono p8.out (fun k_ hk => (⟨hk, hk⟩ : _ ∧ k_ ≠ p3))) (fun _ hk => hk.2) (.int .i64 (Int.tmod (wrap64 (t215 + 1)) (wrap64 (2 + t208))))) (fun _ hk => hk.1))); (case aS => exact (keep_size (w := w) (g := g) (row := none) (by repeat (first | (with_reducible first | exact HK.out | apply KeepBut.set_ | apply keep_drewN | apply keep_drew | apply keep_alloc | refine keep_far ?_ v1.out _ | refine keep_far ?_ v2.out _ | refine keep_far ?_ u5.out _) | exact HK.out)))); (case aL => have := LMc20.out; omega); intro v233 w48 ho hb hg hat; rw [← Ny232.out] at ho; have n0_ := Aside0.mk (blk_grown (g := t0) (o := .cells #[.int .i64 0, .slice none 0 0] 38 (0, 0)) (by (with_reducible repeat (first | refine blk_drewN ?_ _ | refine blk_drew ?_ | refine blk_alloc ?_ _)); refine blk_far ?_ s6.out _; (with_reducible repeat (first | refine blk_drewN ?_ _ | refine blk_drew ?_ | refine blk_alloc ?_ _)); exact p5.out) hg (Kd.R_ne p8.out p5.out (by decide))); have n1_ := Aside0.mk (blk_grown (g := s0) (o := .cells #[.int .i64 (wrap64 (2 + t208)), q4] 38 (0, 0)) (by (with_reducible repeat (first | refine blk_drewN ?_ _ | refine blk_drew ?_ | refine blk_alloc ?_ _)); refine blk_far ?_ s7.out _; (with_reducible repeat (first | refine blk_drewN ?_ _ | refine blk_drew ?_ | refine blk_alloc ?_ _)); exact p4.out) hg (Kd.R_ne p8.out p4.out (by decide))); have n2_ := Aside0.mk (IsS112.grown2 HI0.out (by repeat (first | (with_reducible first | exact HI0.out | apply IsS112.alloc | apply IsS112.drewN | apply IsS112.drew | apply IsS112.set_1 | refine IsS112.far ?_ q7.out _ | refine IsS112.far ?_ q8.out _ | refine IsS112.far ?_ u2.out _) | exact HI0.out)) hg (IsS112.own_ne HI0.out p8.out (by decide))); have n3_ := Aside0.mk (Kd.R_over' (Kd.R_mono (Kd.R_far (p := ⟨p3, 1, none⟩) (Kd.R_types HO221.out t1.out (by decide)) (fun _ hk => hk.2) (.int .i64 (Int.tmod (wrap64 (t215 + 1)) (wrap64 (2 + t208))))) (fun _ h_ => h_.1)) (Kd.R_typed (Kd.R_mono (Kd.R_far (p := ⟨p3, 1, none⟩) (Kd.R_mono p8.out (fun k_ hk => (⟨hk, hk⟩ : _ ∧ k_ ≠ p3))) (fun _ hk => hk.2) (.int .i64 (Int.tmod (wrap64 (t215 + 1)) (wrap64 (2 + t208))))) (fun _ h_ => h_.1))) (by decide) hg); have n4_ := Aside0.mk (Kd.R_over' (Kd.R_mono (Kd.R_far (p := ⟨p3, 1, none⟩) (Kd.R_types HO226.out t1.out (by decide)) (fun _ hk => hk.2) (.int .i64 (Int.tmod (wrap64 (t215 + 1)) (wrap64 (2 + t208))))) (fun _ h_ => h_.1)) (Kd.R_typed (Kd.R_mono (Kd.R_far (p := ⟨p3, 1, none⟩) (Kd.R_mono p8.out (fun k_ hk => (⟨hk, hk⟩ : _ ∧ k_ ≠ p3))) (fun _ hk => hk.2) (.int .i64 (Int.tmod (wrap64 (t215 + 1)) (wrap64 (2 + t208))))) (fun _ h_ => h_.1))) (by decide) hg); have n5_ := Aside0.mk (blk_grown (g := p3) (o := .cells #[.int .i64 t213, .int .i64 (Int.tmod (wrap64 (t215 + 1)) (wrap64 (2 + t208))), .int .i64 t222, .int .i64 t227, .int .i64 t229] 45 (0, 0)) (by (with_reducible repeat (first | refine blk_drewN ?_ _ | refine blk_drew ?_ | refine blk_alloc ?_ _)); refine blk_put (cs := #[.int .i64 t213, .int .i64 t215, .int .i64 t222, .int .i64 t227, .int .i64 t229]) ?_ 1 _ rfl; (with_reducible repeat (first | refine blk_drewN ?_ _ | refine blk_drew ?_ | refine blk_alloc ?_ _)); exact t1.out) hg (Kd.R_away p8.out (fun _ hk => hk))); have n6_ := Aside0.mk (below_weaken (by repeat (first | (with_reducible first | exact HB.out | apply below_alloc | apply pw_below_drewN | apply below_drew1 | refine below_set ?_ (IsS112.ge HI0.out) | refine below_set ?_ v5.out | refine below_set ?_ v6.out | refine below_set ?_ v3.out) | exact HB.out)) HL.out hb); have n7_ := Aside0.mk (KeepBut.trans (by repeat (first | (with_reducible first | exact HK.out | apply KeepBut.set_ | apply keep_drewN | apply keep_drew | apply keep_alloc | refine keep_far ?_ v1.out _ | refine keep_far ?_ v2.out _ | refine keep_far ?_ u5.out _) | exact HK.out)) (KeepBut.of_grown hg g) (Kd.R_base2 p8.out)); have n8_ := Aside0.mk (ho); clear p5; clear p4; clear HI0; clear HO221; clear HO226; clear t1; clear HB; clear HK; clear p8; have p5 := n0_; have p4 := n1_; have HI0 := n2_; have HO221 := n3_; have HO226 := n4_; have t1 := n5_; have HB := n6_; have HK := n7_; have HO234 := n8_; clear n0_ n1_ n2_ n3_ n4_ n5_ n6_ n7_ n8_; clear ho hb hg hat; obtain ⟨Ao49, co49, eo49⟩ := Kd.R_slice HO234.out; subst eo49; have hcz50_0 : w48.cell? ⟨s0, 0, none⟩ = some (.int .i64 (wrap64 (2 + t208))) := (blk_cell p4.out 0).trans rfl; have hcz50_1 : w48.cell? ⟨s0, 1, none⟩ = some (q4) := (blk_cell p4.out 1).trans rfl; have hfz50_0 := blk_frozen p4.out 0; have hfz50_1 := blk_frozen p4.out 1))
       go_roundg k1
       case measure => have := HK1.out; omega
       case rel => exact ⟨(wrap64 (x4_1 - 1)), (t230), (y232), (.slice Ao49 y232.length co49), (by first | rfl | (simp; done) | (simp [*]; done)), H', ⟨by have := HK1.out; omega⟩, ⟨by (with_reducible repeat (first | apply Kd.R_alloc | apply Kd.R_drewN | apply Kd.R_drew)); exact Kd.R_mono (Kd.R_far (p := ⟨s0, 1, none⟩) (Kd.R_types HO234.out p4.out (by decide)) (fun _ hk => hk.2) (.slice Ao49 y232.length co49)) (fun _ hk => trivial)⟩, ⟨by (with_reducible repeat (first | refine blk_drewN ?_ _ | refine blk_drew ?_ | refine blk_alloc ?_ _)); refine blk_far ?_ t8.out _; (with_reducible repeat (first | refine blk_drewN ?_ _ | refine blk_drew ?_ | refine blk_alloc ?_ _)); exact p5.out⟩, ⟨by (with_reducible repeat (first | refine blk_drewN ?_ _ | refine blk_drew ?_ | refine blk_alloc ?_ _)); refine blk_put (cs := #[.int .i64 (wrap64 (2 + t208)), q4]) ?_ 1 _ rfl; (with_reducible repeat (first | refine blk_drewN ?_ _ | refine blk_drew ?_ | refine blk_alloc ?_ _)); exact p4.out⟩, ⟨by repeat (first | (with_reducible first | exact HI0.out | apply IsS112.alloc | apply IsS112.drewN | apply IsS112.drew | apply IsS112.set_1 | refine IsS112.far ?_ q7.out _ | refine IsS112.far ?_ q8.out _ | refine IsS112.far ?_ u2.out _) | exact HI0.out)⟩, ⟨by repeat (first | (with_reducible first | exact HK.out | apply KeepBut.set_ | apply keep_drewN | apply keep_drew | apply keep_alloc | refine keep_far ?_ v1.out _ | refine keep_far ?_ v2.out _ | refine keep_far ?_ u5.out _) | exact HK.out)⟩, ⟨by repeat (first | (with_reducible first | exact HB.out | apply below_alloc | apply pw_below_drewN | apply below_drew1 | refine below_set ?_ (IsS112.ge HI0.out) | refine below_set ?_ v5.out | refine below_set ?_ v6.out | refine below_set ?_ v3.out) | exact HB.out)⟩⟩
      ·rw [if_neg c20] at H
       exact absurd H (by simp)
    ·rw [if_neg c18] at H
     have c18b0 : (t213 == t215) = false := beq_eq_false_iff_ne.mpr c18
     have c18b1 : (t213 != t215) = true := bne_iff_ne.mpr c18
     by_cases c51 : p0.length < 3518437208883
     ·rw [if_pos c51] at H
      have LMc51 := Aside0.mk c51
      clear c51
      obtain ⟨y235, hy235⟩ : ∃ y_ : List (S45), y_ = (p0 ++ [(⟨t213, t215, t222, t227, t229⟩ : S45)]) := ⟨_, rfl⟩
      replace H : (spec_l30Net.l0 k1 (wrap64 (x4_1 - 1)) s0_0 t230 (wrap64 (2 + t208)) y235) = some (r1, r2, r3) := by first | (rw [hy235]; with_reducible exact H) | (have H2_ := (Option.bind_some _ _).symm.trans H; rw [hy235]; with_reducible exact H2_) | (have H2_ := (Option.bind_some _ _).symm.trans H; with_reducible exact H2_) | with_reducible exact H | (rw [hy235]; exact H) | exact H
      have Ny235 := Aside0.mk hy235
      clear hy235
      have H' := Aside0.mk H
      clear H
      try go_wp2_with (first | ((with_reducible refine gate_builtin (b := .append) (xs := #[.tmp 48, .tmp 50]) rfl ?_); at_builtin; refine Kd.R_append k45 w.heap.size rfl (.tmp 48) (.tmp 50) 36 45 (.agg #[(.int .i64 0), (.int .i64 0), (.int .i64 0), (.int .i64 0), (.int .i64 0)]) 40 rfl Try.underlying36 info45 rfl (by decide) (by omega) q4 p0 (⟨t213, t215, t222, t227, t229⟩ : S45) [.int .i64 t213, .int .i64 t215, .int .i64 t222, .int .i64 t227, .int .i64 t229] (fun k_ => k_ ≠ p3) (fun _ => False) rfl rfl ?aP (fun _ hk => hk.elim) ?aF ?aO (Below.refl _ _) ?aS ?aL ?_; (case aP => exact k45_mkM _ _ _ (⟨t213, t215, t222, t227, t229⟩ : S45)); (case aF => exact (fun k_ hk => Kd.freshB (g := p3) (o := .cells #[.int .i64 t213, .int .i64 t215, .int .i64 t222, .int .i64 t227, .int .i64 t229] 45 (0, 0)) t1.out k_ hk)); (case aO => exact p8.out); (case aS => exact (keep_size (w := w) (g := g) (row := none) HK.out)); (case aL => have := LMc51.out; omega); intro v236 w79 ho hb hg hat; rw [← Ny235.out] at ho; have n0_ := Aside0.mk (blk_grown (g := t0) (o := .cells #[.int .i64 0, .slice none 0 0] 38 (0, 0)) p5.out hg (Kd.R_ne p8.out p5.out (by decide))); have n1_ := Aside0.mk (blk_grown (g := s0) (o := .cells #[.int .i64 (wrap64 (2 + t208)), q4] 38 (0, 0)) p4.out hg (Kd.R_ne p8.out p4.out (by decide))); have n2_ := Aside0.mk (IsS112.grown2 HI0.out HI0.out hg (IsS112.own_ne HI0.out p8.out (by decide))); have n3_ := Aside0.mk (Kd.R_over' HO221.out (Kd.R_typed p8.out) (by decide) hg); have n4_ := Aside0.mk (Kd.R_over' HO226.out (Kd.R_typed p8.out) (by decide) hg); have n5_ := Aside0.mk (blk_grown (g := p3) (o := .cells #[.int .i64 t213, .int .i64 t215, .int .i64 t222, .int .i64 t227, .int .i64 t229] 45 (0, 0)) t1.out hg (Kd.R_away p8.out (fun _ hk => hk))); have n6_ := Aside0.mk (below_weaken HB.out HL.out hb); have n7_ := Aside0.mk (KeepBut.trans HK.out (KeepBut.of_grown hg g) (Kd.R_base2 p8.out)); have n8_ := Aside0.mk (ho); clear p5; clear p4; clear HI0; clear HO221; clear HO226; clear t1; clear HB; clear HK; clear p8; have p5 := n0_; have p4 := n1_; have HI0 := n2_; have HO221 := n3_; have HO226 := n4_; have t1 := n5_; have HB := n6_; have HK := n7_; have HO237 := n8_; clear n0_ n1_ n2_ n3_ n4_ n5_ n6_ n7_ n8_; clear ho hb hg hat; obtain ⟨Ao80, co80, eo80⟩ := Kd.R_slice HO237.out; subst eo80; have hcz81_0 : w79.cell? ⟨s0, 0, none⟩ = some (.int .i64 (wrap64 (2 + t208))) := (blk_cell p4.out 0).trans rfl; have hcz81_1 : w79.cell? ⟨s0, 1, none⟩ = some (q4) := (blk_cell p4.out 1).trans rfl; have hfz81_0 := blk_frozen p4.out 0; have hfz81_1 := blk_frozen p4.out 1))
      go_roundg k1
      case measure => have := HK1.out; omega
      case rel => exact ⟨(wrap64 (x4_1 - 1)), (t230), (y235), (.slice Ao80 y235.length co80), (by first | rfl | (simp; done) | (simp [*]; done)), H', ⟨by have := HK1.out; omega⟩, ⟨by (with_reducible repeat (first | apply Kd.R_alloc | apply Kd.R_drewN | apply Kd.R_drew)); exact Kd.R_mono (Kd.R_far (p := ⟨s0, 1, none⟩) (Kd.R_types HO237.out p4.out (by decide)) (fun _ hk => hk.2) (.slice Ao80 y235.length co80)) (fun _ hk => trivial)⟩, ⟨by (with_reducible repeat (first | refine blk_drewN ?_ _ | refine blk_drew ?_ | refine blk_alloc ?_ _)); refine blk_far ?_ t8.out _; (with_reducible repeat (first | refine blk_drewN ?_ _ | refine blk_drew ?_ | refine blk_alloc ?_ _)); exact p5.out⟩, ⟨by (with_reducible repeat (first | refine blk_drewN ?_ _ | refine blk_drew ?_ | refine blk_alloc ?_ _)); refine blk_put (cs := #[.int .i64 (wrap64 (2 + t208)), q4]) ?_ 1 _ rfl; (with_reducible repeat (first | refine blk_drewN ?_ _ | refine blk_drew ?_ | refine blk_alloc ?_ _)); exact p4.out⟩, ⟨by repeat (first | (with_reducible first | exact HI0.out | apply IsS112.alloc | apply IsS112.drewN | apply IsS112.drew | apply IsS112.set_1 | refine IsS112.far ?_ q7.out _ | refine IsS112.far ?_ q8.out _ | refine IsS112.far ?_ u2.out _) | exact HI0.out)⟩, ⟨by repeat (first | (with_reducible first | exact HK.out | apply KeepBut.set_ | apply keep_drewN | apply keep_drew | apply keep_alloc | refine keep_far ?_ v1.out _ | refine keep_far ?_ v2.out _ | refine keep_far ?_ u5.out _) | exact HK.out)⟩, ⟨by repeat (first | (with_reducible first | exact HB.out | apply below_alloc | apply pw_below_drewN | apply below_drew1 | refine below_set ?_ (IsS112.ge HI0.out) | refine below_set ?_ v5.out | refine below_set ?_ v6.out | refine below_set ?_ v3.out) | exact HB.out)⟩⟩
     ·rw [if_neg c51] at H
      exact absurd H (by simp)
   ·rw [if_neg c11] at H
    have c11b0 : decide (0 < x4_1) = false := decide_eq_false c11
    clear c11
    simp only [Option.some.injEq, Prod.mk.injEq] at H
    obtain ⟨rfl, rfl, rfl⟩ := H
    have hnb82 := u7.out
    have hnc82 := t8.out
    have hnb83 := t9.out
    have hnc83 := q8.out
    have hcz84_0 : wr.cell? ⟨s0, 0, none⟩ = some (.int .i64 (wrap64 (2 + t208))) := (blk_cell p4.out 0).trans rfl
    have hcz84_1 : wr.cell? ⟨s0, 1, none⟩ = some (q4) := (blk_cell p4.out 1).trans rfl
    have hfz84_0 := blk_frozen p4.out 0
    have hfz84_1 := blk_frozen p4.out 1
    have hnb85 := u1.out
    have hnc85 := q7.out
    have hcz86_0 : wr.cell? ⟨t0, 0, none⟩ = some (.int .i64 0) := (blk_cell p5.out 0).trans rfl
    have hcz86_1 : wr.cell? ⟨t0, 1, none⟩ = some (.slice none 0 0) := (blk_cell p5.out 1).trans rfl
    have hfz86_0 := blk_frozen p5.out 0
    have hfz86_1 := blk_frozen p5.out 1
    obtain ⟨Ao87, co87, eo87⟩ := Kd.R_slice p8.out
    subst eo87
    go_wp2
    refine bodyPost_ret (results_cell_row rfl _ _ t0 38 #[.int .i64 (wrap64 (2 + t208)), .slice Ao87 p0.length co87] (0, 0) _ rfl (by (with_reducible repeat (first | refine blk_drewN ?_ _ | refine blk_drew ?_ | refine blk_alloc ?_ _)); refine blk_put (cs := #[.int .i64 (wrap64 (2 + t208)), .slice none 0 0]) ?_ 1 _ rfl; (with_reducible repeat (first | refine blk_drewN ?_ _ | refine blk_drew ?_ | refine blk_alloc ?_ _)); refine blk_put (cs := #[.int .i64 0, .slice none 0 0]) ?_ 0 _ rfl; (with_reducible repeat (first | refine blk_drewN ?_ _ | refine blk_drew ?_ | refine blk_alloc ?_ _)); exact p5.out) Try.underlying38 rfl (by kernel_rfl)) rfl ?_
    exact ⟨_, by first | rfl | (simp [errW_none, errW_some] <;> rfl) | (simp [*, errW_none, errW_some] <;> rfl), by (with_reducible repeat (first | apply Kd.R_alloc | apply Kd.R_drewN | apply Kd.R_drew)); exact Kd.R_mono (Kd.R_far (p := ⟨t0, 1, none⟩) (Kd.R_far (p := ⟨t0, 0, none⟩) (Kd.R_types p8.out p5.out (by decide)) (fun _ hk => hk.2) (.int .i64 (wrap64 (2 + t208)))) (fun _ hk => hk.2) (.slice Ao87 p0.length co87)) (fun _ hk => trivial), by repeat (first | (with_reducible first | exact HI0.out | apply IsS112.alloc | apply IsS112.drewN | apply IsS112.drew | apply IsS112.set_1 | refine IsS112.far ?_ q7.out _ | refine IsS112.far ?_ q8.out _) | exact HI0.out), by repeat (first | (with_reducible first | exact HB.out | apply below_alloc | apply pw_below_drewN | apply below_drew1 | refine below_set ?_ (IsS112.ge HI0.out) | refine below_set ?_ v5.out | refine below_set ?_ v6.out) | exact HB.out), by repeat (first | (with_reducible first | exact HK.out | apply KeepBut.set_ | apply keep_drewN | apply keep_drew | apply keep_alloc | refine keep_far ?_ v1.out _ | refine keep_far ?_ v2.out _) | exact HK.out)⟩
end Go.Proofs.Ytmabopomecdidaa.Pr
end
