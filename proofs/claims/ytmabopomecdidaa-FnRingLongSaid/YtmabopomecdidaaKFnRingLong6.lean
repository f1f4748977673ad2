/- For the statement FnRingLong of this seat: it is proved here, with no further conditions (part 7 of its texts: words, walks of the functions, the plain law, the row). -/
import Derived.Test.YtmabopomecdidaaKFnRingLong5
section
namespace Go.Proofs.Ytmabopomecdidaa.Pr
open Go.RowKit Go.Proofs.YtmabopomecdidaaW.PrintWords Go.Proofs.YtmabopomecdidaaW.PrintLast Go.Proofs.YtmabopomecdidaaW.PrintMore
attribute [local go_sem] max2_int min2_int max_two min_two max_three min_three max_four min_four
set_option linter.unusedVariables false
set_option linter.unusedSimpArgs false
abbrev Y92 := true
abbrev N92 := false
mutual
def impl_WalkOk.j0 : Nat → List Int → Bool → Int → List (S45) → Option (Bool)
 | 0, _, _, _, _ => none
 | k + 1, x1, x14, q9, p6 => if x14 = true then (some false) else (impl_WalkOk.l0 k x1 x1 (x1.length : Int) 0 q9 p6)
def impl_WalkOk.l0 : Nat → List Int → List Int → Int → Int → Int → List (S45) → Option (Bool)
 | 0, _, _, _, _, _, _ => none
 | k + 1, x1, x15, x16, x17, q9, p6 => if x17 < x16 then (if 0 ≤ x17 then (if x17 < (x15.length : Int) then ((impl_within.f (rd x15 x17) 0 (wrap64 ((p6.length : Int) - 1))).bind fun t863 => (if t863 = true then (if x17 > 0 then (if 0 ≤ (wrap64 (x17 - 1)) then (if (wrap64 (x17 - 1)) < (x1.length : Int) then (if 0 ≤ (rd x1 (wrap64 (x17 - 1))) then (if (rd x1 (wrap64 (x17 - 1))) < (p6.length : Int) then (if 0 ≤ (rd x15 x17) then (if (rd x15 x17) < (p6.length : Int) then (if ((rd_T45 p6 (rd x1 (wrap64 (x17 - 1)))).f1) = ((rd_T45 p6 (rd x15 x17)).f0) then (impl_WalkOk.l0 k x1 x15 x16 (wrap64 (x17 + 1)) q9 p6) else (some false)) else (none)) else (none)) else (none)) else (none)) else (none)) else (none)) else (impl_WalkOk.l0 k x1 x15 x16 (wrap64 (x17 + 1)) q9 p6)) else (some false))) else (none)) else (none)) else (some true)
end
def impl_WalkOk.f (k : Nat) (a0_0 : Int) (l0_1 : List (S45)) (l1 : List Int) : Option (Bool) := (impl_NetOk.f a0_0 l0_1).bind fun t861 => (if t861 = true then (impl_WalkOk.j0 k l1 (decide ((l1.length : Int) > 20)) a0_0 l0_1) else (impl_WalkOk.j0 k l1 true a0_0 l0_1))
def impl_WalkOk.T6 : Bool × List (List Nat × List Nat) := (true, [([], []), ([], []), ([1], [1]), ([2], [2]), ([3], [3]), ([0, 4], [0, 4]), ([5], [5]), ([6, 5], [6]), ([7], [7]), ([8, 7], [7, 8]), ([9, 7, 7], [7, 9]), ([10], [10]), ([11, 10], [10, 11]), ([10], [10]), ([10], [10]), ([14, 10], [10, 14]), ([13, 15, 10], [10, 13, 15]), ([16, 10], [10, 16]), ([12, 17, 10], [10, 12, 17]), ([18, 10], [10, 18]), ([19, 10], [10, 19]), ([10], [10]), ([21, 10], [10, 21]), ([10], [10]), ([22, 23, 10], [10, 22, 23]), ([24, 10], [10, 24]), ([25, 10], [10, 25]), ([20, 26, 10], [10, 20, 26]), ([10, 27, 7], [7, 10, 27]), ([7, 28], [7, 28])])
def impl_WalkOk.B6 : List Nat := [0, 0, 2, 6, 14, 31, 63, 127, 255, 511, 1023, 2047, 4095, 2047, 2047, 18431, 59391, 124927, 262143, 524287, 1048575, 2047, 2099199, 2047, 14682111, 31459327, 65013759, 134217727, 268435455, 536870911]
theorem impl_WalkOk.tab6 : rtab .any (opsOf Try.f93 6) = impl_WalkOk.T6 := by kernel_rfl
theorem impl_WalkOk.bits6 : waitsOk impl_WalkOk.T6.2 impl_WalkOk.B6 = true := by kernel_rfl
set_option maxHeartbeats 8000000 in
set_option maxRecDepth 100000 in
theorem impl_WalkOk.calls (k : Nat) (a0_0 : Int) (A0_1 : Option Addr) (c0_1 : Nat) (l0_1 : List (S45)) (A1 : Option Addr) (c1 : Nat) (l1 : List Int) (r : Bool) (w : World) (hr0_1 : Kd.C k45 w A0_1 l0_1.length l0_1) (hc0_1 : l0_1.length ≤ c0_1) (hr1 : Kd.C (Kd.int .i64) w A1 l1.length l1) (hc1 : l1.length ≤ c1) (h : impl_WalkOk.f k a0_0 l0_1 l1 = some r) :
  Calls Try.prog 93 #[.agg #[.int .i64 a0_0, .slice A0_1 l0_1.length c0_1], .slice A1 l1.length c1] w fun e w' => e = .returned (.bool r) ∧ Below w.heap.size w w' := by
 have hu38 := Try.underlying38
 have t1 := Aside0.mk hr0_1
 have HC0_1 := Aside0.mk hc0_1
 clear hr0_1 hc0_1
 have HR1 := Aside0.mk hr1
 have HC1 := Aside0.mk hc1
 clear hr1 hc1
 have HB := Aside0.mk (Below.refl w.heap.size w)
 have H : ((impl_NetOk.f a0_0 l0_1).bind fun t861 => (if t861 = true then (impl_WalkOk.j0 k l1 (decide ((l1.length : Int) > 20)) a0_0 l0_1) else (impl_WalkOk.j0 k l1 true a0_0 l0_1))) = some r := h
 clear h
 have HC3 := Aside0.mk H
 clear H
 go_enter Try.func93, Try.ntmps93
 go_upto_region 1 with (first | ((with_reducible refine gate_dst (N := 2) rfl ?_); (try (refine gate_guard (by rfl) ?_; dsimp only)); refine box_event ?hg (N := 2) ?hd (cs := #[.int .i64 a0_0, .slice A0_1 l0_1.length c0_1]) (t := 38) ?hr ?_; (case hd => rfl); (case hg => rfl); (case hr => first | (go_simp; done) | (go_simp; rfl)); intro p5 hg w4 hbox hb; have n0_ := Aside0.mk (below_step HB.out hb); have n1_ := Aside0.mk (hbox); have n2_ := Aside0.mk ((by rw [hg]; exact (below_size HB.out) : w.heap.size ≤ p5)); have n3_ := Aside0.mk ((by rw [hg]; exact (below_size HB.out) : w.heap.size ≤ p5)); clear HB; have HB := n0_; have p1 := n1_; have GW860 := n2_; have p7 := n3_; clear n0_ n1_ n2_ n3_; clear hb hbox hg))
 (try simp only [Act.put, List.setIfInBounds_toArray, List.set_cons_zero, List.set_cons_succ])
 go_cut [14] (fun v14 wc => ∃ (kq : Nat) (t2 : Bool), v14 = .bool t2 ∧ Aside0 (impl_WalkOk.j0 kq l1 t2 a0_0 l0_1 = some r) ∧ Aside0 (kq ≤ k) ∧ Aside0 (wc.heap[p5]? = some (.cells #[.int .i64 a0_0, (.slice A0_1 l0_1.length c0_1)] 38 (0, 0))) ∧ Aside0 (Below w.heap.size w wc))
 case first =>
  have H := HC3.out
  clear HC3
  replace H := Option.bind_eq_some_iff.mp H
  obtain ⟨t861, A50, H⟩ := H
  replace H : (if t861 = true then (impl_WalkOk.j0 k l1 (decide ((l1.length : Int) > 20)) a0_0 l0_1) else (impl_WalkOk.j0 k l1 true a0_0 l0_1)) = some r := H
  have A5 := Aside0.mk A50
  clear A50
  by_cases c6 : t861 = true
  ·subst c6
   have H1 : (impl_WalkOk.j0 k l1 (decide ((l1.length : Int) > 20)) a0_0 l0_1) = some r := by rw [if_pos rfl] at H; exact H
   clear H
   have H := H1
   clear H1
   have H' := Aside0.mk H
   clear H
   have t4 : w4.cell? ⟨p5, 0, none⟩ = some (.int .i64 a0_0) := (blk_cell p1.out 0).trans rfl
   have t5 : w4.cell? ⟨p5, 1, none⟩ = some (.slice A0_1 l0_1.length c0_1) := (blk_cell p1.out 1).trans rfl
   have t6 := blk_frozen p1.out 0
   have t7 := blk_frozen p1.out 1
   go_wp2_with (first | ((with_reducible refine gate_callee (f := 67) rfl ?_); refine goesL_ (some 8) rfl rfl Try.func67 (by kernel_rfl) rfl #[.agg #[.int .i64 a0_0, .slice A0_1 l0_1.length c0_1]] rfl (by (try simp only [List.map_toArray, List.map_cons, List.map_nil]); first | done | rfl | (simp only [List.length_drop, List.length_take]; rfl)) ?_; (with_reducible refine (impl_NetOk.calls a0_0 _ _ l0_1 true _ ?side1 ?side2 A5.out).mono ?_); (case side1 => repeat (first | exact (Kd.C_below t1.out HB.out) | (with_reducible refine Kd.C_alloc ?_ _) | (with_reducible refine Kd.C_drewN ?_ _) | (with_reducible refine Kd.C_drew ?_))); (case side2 => exact HC0_1.out); rintro e w8 ⟨rfl, hb⟩; refine ⟨_, rfl, ?_⟩; have n0_ := Aside0.mk (blk_below (g := p5) (o := .cells #[.int .i64 a0_0, .slice A0_1 l0_1.length c0_1] 38 (0, 0)) p1.out hb); have n1_ := Aside0.mk (below_step HB.out hb); clear p1; clear HB; have p1 := n0_; have HB := n1_; clear n0_ n1_; (try clear hb); (try clear hb2); (try clear hk); (try clear hi)))
   go_meet
   case rel => exact ⟨_, (decide ((l1.length : Int) > 20)), (by first | rfl | (simp; done) | (simp [*]; done)), H', ⟨by first | omega | exact Nat.le_refl _⟩, ⟨by (with_reducible repeat (first | refine blk_drewN ?_ _ | refine blk_drew ?_ | refine blk_alloc ?_ _)); exact p1.out⟩, ⟨by repeat (first | (with_reducible first | exact HB.out | apply below_alloc | apply pw_below_drewN | apply below_drew1 | refine below_set ?_ p7.out) | exact HB.out)⟩⟩
  ·replace c6 := Bool.eq_false_iff.mpr c6
   subst c6
   have H1 : (impl_WalkOk.j0 k l1 true a0_0 l0_1) = some r := by rw [if_neg (show ¬ (false = true) by decide)] at H; exact H
   clear H
   have H := H1
   clear H1
   have H' := Aside0.mk H
   clear H
   have t8 : w4.cell? ⟨p5, 0, none⟩ = some (.int .i64 a0_0) := (blk_cell p1.out 0).trans rfl
   have t9 : w4.cell? ⟨p5, 1, none⟩ = some (.slice A0_1 l0_1.length c0_1) := (blk_cell p1.out 1).trans rfl
   have u0 := blk_frozen p1.out 0
   have u1 := blk_frozen p1.out 1
   go_wp2_with (first | ((with_reducible refine gate_callee (f := 67) rfl ?_); refine goesL_ (some 8) rfl rfl Try.func67 (by kernel_rfl) rfl #[.agg #[.int .i64 a0_0, .slice A0_1 l0_1.length c0_1]] rfl (by (try simp only [List.map_toArray, List.map_cons, List.map_nil]); first | done | rfl | (simp only [List.length_drop, List.length_take]; rfl)) ?_; (with_reducible refine (impl_NetOk.calls a0_0 _ _ l0_1 false _ ?side1 ?side2 A5.out).mono ?_); (case side1 => repeat (first | exact (Kd.C_below t1.out HB.out) | (with_reducible refine Kd.C_alloc ?_ _) | (with_reducible refine Kd.C_drewN ?_ _) | (with_reducible refine Kd.C_drew ?_))); (case side2 => exact HC0_1.out); rintro e w10 ⟨rfl, hb⟩; refine ⟨_, rfl, ?_⟩; have n0_ := Aside0.mk (blk_below (g := p5) (o := .cells #[.int .i64 a0_0, .slice A0_1 l0_1.length c0_1] 38 (0, 0)) p1.out hb); have n1_ := Aside0.mk (below_step HB.out hb); clear p1; clear HB; have p1 := n0_; have HB := n1_; clear n0_ n1_; (try clear hb); (try clear hb2); (try clear hk); (try clear hi)))
   go_meet
   case rel => exact ⟨_, (true), (by first | rfl | (simp; done) | (simp [*]; done)), H', ⟨by first | omega | exact Nat.le_refl _⟩, ⟨by (with_reducible repeat (first | refine blk_drewN ?_ _ | refine blk_drew ?_ | refine blk_alloc ?_ _)); exact p1.out⟩, ⟨by repeat (first | (with_reducible first | exact HB.out | apply below_alloc | apply pw_below_drewN | apply below_drew1 | refine below_set ?_ p7.out) | exact HB.out)⟩⟩
 case rest =>
  clear HC3
  try clear c1
  try clear p2
  try clear c6
  try clear c9
  try clear t4
  try clear t5
  try clear t8
  try clear t9
  try clear t6
  try clear t7
  try clear u0
  try clear u1
  obtain ⟨kq, t2, rfl, HA, HJ2, p1, HB⟩ := hcut
  cases kq with
  | zero => exact absurd HA.out (by simp [impl_WalkOk.j0])
  | succ kj2 =>
   have H := HA.out
   clear HA
   simp only [impl_WalkOk.j0] at H
   by_cases c11 : t2 = true
   ·subst c11
    have H1 : (some false) = some r := by rw [if_pos rfl] at H; exact H
    clear H
    have H := H1
    clear H1
    obtain rfl := Option.some.inj H
    go_wp2
    go_ret
    exact ⟨by first | rfl | (simp [errW_none, errW_some] <;> rfl) | (simp [*, errW_none, errW_some] <;> rfl), by repeat (first | (with_reducible first | exact HB.out | apply below_alloc | apply pw_below_drewN | apply below_drew1 | refine below_set ?_ p7.out) | exact HB.out)⟩
   ·replace c11 := Bool.eq_false_iff.mpr c11
    subst c11
    have H1 : (impl_WalkOk.l0 kj2 l1 l1 (l1.length : Int) 0 a0_0 l0_1) = some r := by rw [if_neg (show ¬ (false = true) by decide)] at H; exact H
    clear H
    have H := H1
    clear H1
    have H' := Aside0.mk H
    clear H
    go_wp2
    go_loopg [17] kj2 (fun kq v17 w' => ∃ (p0 : Int), v17 = .int .i64 p0 ∧ Aside0 (impl_WalkOk.l0 kq l1 l1 (l1.length : Int) p0 a0_0 l0_1 = some r) ∧ Aside0 (kq ≤ kj2) ∧ Aside0 (w'.heap[p5]? = some (.cells #[.int .i64 a0_0, (.slice A0_1 l0_1.length c0_1)] 38 (0, 0))) ∧ Aside0 (Below w.heap.size w w'))
    case atStart => exact ⟨(0), (by first | rfl | (simp; done) | (simp [*]; done)), H', ⟨Nat.le_refl _⟩, ⟨by (with_reducible repeat (first | refine blk_drewN ?_ _ | refine blk_drew ?_ | refine blk_alloc ?_ _)); exact p1.out⟩, ⟨by repeat (first | (with_reducible first | exact HB.out | apply below_alloc | apply pw_below_drewN | apply below_drew1 | refine below_set ?_ p7.out) | exact HB.out)⟩⟩
    case round =>
     clear H'
     try clear c1
     try clear p2
     try clear c6
     try clear c9
     try clear c11
     try clear t4
     try clear t5
     try clear t8
     try clear t9
     try clear t6
     try clear t7
     try clear u0
     try clear u1
     try clear p2
     obtain ⟨p0, rfl, HA, HK2, p1, HB⟩ := hrel
     cases gk with
     | zero => exact absurd HA.out (by simp [impl_WalkOk.l0])
     | succ k2 =>
      have H := HA.out
      clear HA
      simp only [impl_WalkOk.l0] at H
      by_cases c12 : p0 < (l1.length : Int)
      ·rw [if_pos c12] at H
       have c12b0 : decide (p0 < (l1.length : Int)) = true := decide_eq_true c12
       clear c12
       by_cases c13 : 0 ≤ p0
       ·rw [if_pos c13] at H
        have c13b0 : decide (0 ≤ p0) = true := decide_eq_true c13
        clear c13
        by_cases c14 : p0 < (l1.length : Int)
        ·rw [if_pos c14] at H
         have c14b0 : decide (p0 < (l1.length : Int)) = true := decide_eq_true c14
         clear c14
         replace H := Option.bind_eq_some_iff.mp H
         obtain ⟨t863, A150, H⟩ := H
         replace H : (if t863 = true then (if p0 > 0 then (if 0 ≤ (wrap64 (p0 - 1)) then (if (wrap64 (p0 - 1)) < (l1.length : Int) then (if 0 ≤ (rd l1 (wrap64 (p0 - 1))) then (if (rd l1 (wrap64 (p0 - 1))) < (l0_1.length : Int) then (if 0 ≤ (rd l1 p0) then (if (rd l1 p0) < (l0_1.length : Int) then (if ((rd_T45 l0_1 (rd l1 (wrap64 (p0 - 1)))).f1) = ((rd_T45 l0_1 (rd l1 p0)).f0) then (impl_WalkOk.l0 k2 l1 l1 (l1.length : Int) (wrap64 (p0 + 1)) a0_0 l0_1) else (some false)) else (none)) else (none)) else (none)) else (none)) else (none)) else (none)) else (impl_WalkOk.l0 k2 l1 l1 (l1.length : Int) (wrap64 (p0 + 1)) a0_0 l0_1)) else (some false)) = some r := H
         have A15 := Aside0.mk A150
         clear A150
         by_cases c16 : t863 = true
         ·subst c16
          have H1 : (if p0 > 0 then (if 0 ≤ (wrap64 (p0 - 1)) then (if (wrap64 (p0 - 1)) < (l1.length : Int) then (if 0 ≤ (rd l1 (wrap64 (p0 - 1))) then (if (rd l1 (wrap64 (p0 - 1))) < (l0_1.length : Int) then (if 0 ≤ (rd l1 p0) then (if (rd l1 p0) < (l0_1.length : Int) then (if ((rd_T45 l0_1 (rd l1 (wrap64 (p0 - 1)))).f1) = ((rd_T45 l0_1 (rd l1 p0)).f0) then (impl_WalkOk.l0 k2 l1 l1 (l1.length : Int) (wrap64 (p0 + 1)) a0_0 l0_1) else (some false)) else (none)) else (none)) else (none)) else (none)) else (none)) else (none)) else (impl_WalkOk.l0 k2 l1 l1 (l1.length : Int) (wrap64 (p0 + 1)) a0_0 l0_1)) = some r := by rw [if_pos rfl] at H; exact H
          clear H
          have H := H1
          clear H1
          by_cases c17 : p0 > 0
          ·rw [if_pos c17] at H
           have c17b0 : decide (0 < p0) = true := decide_eq_true c17
           clear c17
           obtain ⟨ji18, hji18⟩ : ∃ j_ : Int, (wrap64 (p0 - 1)) = j_ := ⟨_, rfl⟩
           replace H : (if 0 ≤ (ji18) then (if (ji18) < (l1.length : Int) then (if 0 ≤ (rd l1 (ji18)) then (if (rd l1 (ji18)) < (l0_1.length : Int) then (if 0 ≤ (rd l1 p0) then (if (rd l1 p0) < (l0_1.length : Int) then (if ((rd_T45 l0_1 (rd l1 (ji18))).f1) = ((rd_T45 l0_1 (rd l1 p0)).f0) then (impl_WalkOk.l0 k2 l1 l1 (l1.length : Int) (wrap64 (p0 + 1)) a0_0 l0_1) else (some false)) else (none)) else (none)) else (none)) else (none)) else (none)) else (none)) = some r := by first | (rw [hji18] at H; exact H) | (simp only [hji18] at H ⊢; exact H)
           (try rw [hji18] at A15)
           have hji18w : (IntKind.i64.wrap (p0 - 1)) = ji18 := (i64_w _).trans hji18
           by_cases c19 : 0 ≤ (ji18)
           ·rw [if_pos c19] at H
            have c19b0 : decide (0 ≤ (ji18)) = true := decide_eq_true c19
            clear c19
            by_cases c20 : (ji18) < (l1.length : Int)
            ·rw [if_pos c20] at H
             have c20b0 : decide ((ji18) < (l1.length : Int)) = true := decide_eq_true c20
             clear c20
             by_cases c21 : 0 ≤ (rd l1 (ji18))
             ·rw [if_pos c21] at H
              have c21b0 : decide (0 ≤ (rd l1 (ji18))) = true := decide_eq_true c21
              clear c21
              by_cases c22 : (rd l1 (ji18)) < (l0_1.length : Int)
              ·rw [if_pos c22] at H
               have c22b0 : decide ((rd l1 (ji18)) < (l0_1.length : Int)) = true := decide_eq_true c22
               clear c22
               by_cases c23 : 0 ≤ (rd l1 p0)
               ·rw [if_pos c23] at H
                have c23b0 : decide (0 ≤ (rd l1 p0)) = true := decide_eq_true c23
                clear c23
                by_cases c24 : (rd l1 p0) < (l0_1.length : Int)
                ·rw [if_pos c24] at H
                 have c24b0 : decide ((rd l1 p0) < (l0_1.length : Int)) = true := decide_eq_true c24
                 clear c24
                 have HH_ := Aside0.mk H
                 clear H
                 have p862 : 0 ≤ (p0 : Int) := of_decide_eq_true (by first | (with_reducible assumption) | assumption)
                 have q862 : p0 < (l1.length : Int) := of_decide_eq_true (by first | (with_reducible assumption) | assumption)
                 obtain ⟨t3, e862, p4⟩ := Kd.at_int HR1.out p0 p862 q862
                 cases e862
                 replace p4 := (HB.out.cell (World.block_lt_of_cell? w _ p4)).trans p4
                 replace p862 := eq_true p862
                 replace q862 := eq_true q862
                 try go_wp2
                 have n0_ := Aside0.mk (blk_drew p1.out)
                 have n1_ := Aside0.mk (below_drew1 HB.out)
                 clear p1
                 clear HB
                 have p1 := n0_
                 have HB := n1_
                 clear n0_ n1_
                 have p864 : 0 ≤ ((ji18) : Int) := of_decide_eq_true (by first | (with_reducible assumption) | assumption)
                 have q864 : (ji18) < (l1.length : Int) := of_decide_eq_true (by first | (with_reducible assumption) | assumption)
                 obtain ⟨ad864, e864, p8⟩ := Kd.at_int HR1.out (ji18) p864 q864
                 have r0 := p8
                 obtain rfl : t3 = ad864 := (by injection e864)
                 replace p8 := (HB.out.cell (World.block_lt_of_cell? w _ p8)).trans p8
                 replace p864 := eq_true p864
                 replace q864 := eq_true q864
                 have p865 : 0 ≤ ((rd l1 (ji18)) : Int) := of_decide_eq_true (by first | (with_reducible assumption) | assumption)
                 have q865 : (rd l1 (ji18)) < (l0_1.length : Int) := of_decide_eq_true (by first | (with_reducible assumption) | assumption)
                 obtain ⟨p3, e865, p9, q0, q1, q2, q3⟩ := at_T45 t1.out (rd l1 (ji18)) p865 q865
                 have r1 := q3
                 have r2 := q2
                 have r3 := q1
                 have r4 := q0
                 have r5 := p9
                 cases e865
                 replace p9 := (HB.out.cell (World.block_lt_of_cell? w _ p9)).trans p9
                 replace q0 := (HB.out.cell (World.block_lt_of_cell? w _ q0)).trans q0
                 replace q1 := (HB.out.cell (World.block_lt_of_cell? w _ q1)).trans q1
                 replace q2 := (HB.out.cell (World.block_lt_of_cell? w _ q2)).trans q2
                 replace q3 := (HB.out.cell (World.block_lt_of_cell? w _ q3)).trans q3
                 replace p865 := eq_true p865
                 replace q865 := eq_true q865
                 have p866 : 0 ≤ ((rd l1 p0) : Int) := of_decide_eq_true (by first | (with_reducible assumption) | assumption)
                 have q866 : (rd l1 p0) < (l0_1.length : Int) := of_decide_eq_true (by first | (with_reducible assumption) | assumption)
                 obtain ⟨ad866, e866, q4, q5, q6, q7, q8⟩ := at_T45 t1.out (rd l1 p0) p866 q866
                 have r6 := q8
                 have r7 := q7
                 have r8 := q6
                 have r9 := q5
                 have t0 := q4
                 obtain rfl : p3 = ad866 := (by injection e866)
                 replace q4 := (HB.out.cell (World.block_lt_of_cell? w _ q4)).trans q4
                 replace q5 := (HB.out.cell (World.block_lt_of_cell? w _ q5)).trans q5
                 replace q6 := (HB.out.cell (World.block_lt_of_cell? w _ q6)).trans q6
                 replace q7 := (HB.out.cell (World.block_lt_of_cell? w _ q7)).trans q7
                 replace q8 := (HB.out.cell (World.block_lt_of_cell? w _ q8)).trans q8
                 replace p866 := eq_true p866
                 replace q866 := eq_true q866
                 refine start_ (n := 30) (S := fun w' => w'.cell? ⟨p5, 0, none⟩ = some (.int .i64 a0_0) ∧ w'.cell? ⟨p5, 1, none⟩ = some (.slice (some p3) l0_1.length c0_1) ∧ w'.cell? (t3.add ((ji18)).toNat) = some (.int .i64 (rd l1 (ji18))) ∧ w'.cell? (p3.add (((rd l1 (ji18))).toNat * 5)) = some (.int .i64 ((rd_T45 l0_1 (rd l1 (ji18))).f0)) ∧ w'.cell? ⟨(p3.add (((rd l1 (ji18))).toNat * 5)).block, (p3.add (((rd l1 (ji18))).toNat * 5)).off + 1, none⟩ = some (.int .i64 ((rd_T45 l0_1 (rd l1 (ji18))).f1)) ∧ w'.cell? ⟨(p3.add (((rd l1 (ji18))).toNat * 5)).block, (p3.add (((rd l1 (ji18))).toNat * 5)).off + 2, none⟩ = some (.int .i64 ((rd_T45 l0_1 (rd l1 (ji18))).f2)) ∧ w'.cell? ⟨(p3.add (((rd l1 (ji18))).toNat * 5)).block, (p3.add (((rd l1 (ji18))).toNat * 5)).off + 3, none⟩ = some (.int .i64 ((rd_T45 l0_1 (rd l1 (ji18))).f3)) ∧ w'.cell? ⟨(p3.add (((rd l1 (ji18))).toNat * 5)).block, (p3.add (((rd l1 (ji18))).toNat * 5)).off + 4, none⟩ = some (.int .i64 ((rd_T45 l0_1 (rd l1 (ji18))).f4)) ∧ w'.cell? (p3.add (((rd l1 p0)).toNat * 5)) = some (.int .i64 ((rd_T45 l0_1 (rd l1 p0)).f0)) ∧ w'.cell? ⟨(p3.add (((rd l1 p0)).toNat * 5)).block, (p3.add (((rd l1 p0)).toNat * 5)).off + 1, none⟩ = some (.int .i64 ((rd_T45 l0_1 (rd l1 p0)).f1)) ∧ w'.cell? ⟨(p3.add (((rd l1 p0)).toNat * 5)).block, (p3.add (((rd l1 p0)).toNat * 5)).off + 2, none⟩ = some (.int .i64 ((rd_T45 l0_1 (rd l1 p0)).f2)) ∧ w'.cell? ⟨(p3.add (((rd l1 p0)).toNat * 5)).block, (p3.add (((rd l1 p0)).toNat * 5)).off + 3, none⟩ = some (.int .i64 ((rd_T45 l0_1 (rd l1 p0)).f3)) ∧ w'.cell? ⟨(p3.add (((rd l1 p0)).toNat * 5)).block, (p3.add (((rd l1 p0)).toNat * 5)).off + 4, none⟩ = some (.int .i64 ((rd_T45 l0_1 (rd l1 p0)).f4))) (ds := []) #[N92,N92,N92,N92,N92,N92,N92,N92,N92,N92,N92,N92,N92,N92,N92,N92,N92,N92,N92,N92,N92,N92,N92,N92,N92,N92,N92,N92,N92,N92] (by kernel_rfl) rfl rfl ⟨(blk_cell p1.out 0).trans rfl, (blk_cell p1.out 1).trans rfl, ((HB.out.cell (World.block_lt_of_cell? w _ r0)).trans r0), ((HB.out.cell (World.block_lt_of_cell? w _ r5)).trans r5), ((HB.out.cell (World.block_lt_of_cell? w _ r4)).trans r4), ((HB.out.cell (World.block_lt_of_cell? w _ r3)).trans r3), ((HB.out.cell (World.block_lt_of_cell? w _ r2)).trans r2), ((HB.out.cell (World.block_lt_of_cell? w _ r1)).trans r1), ((HB.out.cell (World.block_lt_of_cell? w _ t0)).trans t0), ((HB.out.cell (World.block_lt_of_cell? w _ r9)).trans r9), ((HB.out.cell (World.block_lt_of_cell? w _ r8)).trans r8), ((HB.out.cell (World.block_lt_of_cell? w _ r7)).trans r7), ((HB.out.cell (World.block_lt_of_cell? w _ r6)).trans r6)⟩ (fun hHeld => ?_); refine with_tabW impl_WalkOk.tab6 impl_WalkOk.bits6 (fun HT_ HW_ => ?_)
                 generalize wr.drew = w26 at p1 HB p8 p9 q0 q1 q2 q3 q4 q5 q6 q7 q8 hHeld ⊢
                 refine pure_ (i := 0) (N := some 22) (v := ?_) (a' := ?_) #[Y92,N92,N92,N92,N92,N92,N92,N92,N92,N92,N92,N92,N92,N92,N92,N92,N92,N92,N92,N92,N92,N92,N92,N92,N92,N92,N92,N92,N92,N92] rfl rfl (any_of HT_.out (by kernel_rfl)) (fun _ _ _ h => h) (Or.inl ⟨by rfl, ?_⟩) ?_ ?_
                 rotate_left
                 ·intro w'
                  go_simp
                  with_reducible rfl
                 rotate_left
                 ·simp only [Act.put, List.setIfInBounds_toArray, List.set_cons_zero, List.set_cons_succ, i64_w, i32_w]
                  rfl
                 refine pure_ (i := 1) (N := some 23) (v := ?_) (a' := ?_) #[Y92,Y92,N92,N92,N92,N92,N92,N92,N92,N92,N92,N92,N92,N92,N92,N92,N92,N92,N92,N92,N92,N92,N92,N92,N92,N92,N92,N92,N92,N92] rfl rfl (any_of HT_.out (by kernel_rfl)) (fun _ _ _ h => h) (Or.inl ⟨by rfl, ?_⟩) ?_ ?_
                 rotate_left
                 ·intro w'
                  go_simp
                  with_reducible rfl
                 rotate_left
                 ·simp only [Act.put, List.setIfInBounds_toArray, List.set_cons_zero, List.set_cons_succ, i64_w, i32_w]
                  rfl
                 refine take_ (i := 2) (N := some 24) (v := ?_) (a' := ?_) #[Y92,Y92,Y92,N92,N92,N92,N92,N92,N92,N92,N92,N92,N92,N92,N92,N92,N92,N92,N92,N92,N92,N92,N92,N92,N92,N92,N92,N92,N92,N92] rfl rfl (take_ofW HT_.out HW_.out (by kernel_rfl)) (fun _ _ _ h => h) (Or.inl ⟨by rfl, ?_⟩) hHeld ?_ ?_
                 rotate_left
                 ·rintro w' ⟨s0, s1, s2, s3, s4, s5, s6, s7, s8, s9, s10, s11, s12⟩
                  go_simp
                  with_reducible rfl
                 rotate_left
                 ·simp only [Act.put, List.setIfInBounds_toArray, List.set_cons_zero, List.set_cons_succ, i64_w, i32_w]
                  rfl
                 refine pure_ (i := 3) (N := some 25) (v := ?_) (a' := ?_) #[Y92,Y92,Y92,Y92,N92,N92,N92,N92,N92,N92,N92,N92,N92,N92,N92,N92,N92,N92,N92,N92,N92,N92,N92,N92,N92,N92,N92,N92,N92,N92] rfl rfl (any_of HT_.out (by kernel_rfl)) (fun _ _ _ h => h) (Or.inl ⟨by rfl, ?_⟩) ?_ ?_
                 rotate_left
                 ·intro w'
                  go_simp
                  with_reducible rfl
                 rotate_left
                 ·simp only [Act.put, List.setIfInBounds_toArray, List.set_cons_zero, List.set_cons_succ, i64_w, i32_w]
                  rfl
                 refine pure_ (i := 4) (N := some 26) (v := ?_) (a' := ?_) #[Y92,Y92,Y92,Y92,Y92,N92,N92,N92,N92,N92,N92,N92,N92,N92,N92,N92,N92,N92,N92,N92,N92,N92,N92,N92,N92,N92,N92,N92,N92,N92] rfl rfl (any_of HT_.out (by kernel_rfl)) (fun _ _ _ h => h) (Or.inl ⟨by rfl, ?_⟩) ?_ ?_
                 rotate_left
                 ·intro w'
                  go_simp
                  with_reducible rfl
                 rotate_left
                 ·simp only [Act.put, List.setIfInBounds_toArray, List.set_cons_zero, List.set_cons_succ, i64_w, i32_w]
                  rfl
                 refine one_ (i := 5) (N := some 27) #[Y92,Y92,Y92,Y92,Y92,Y92,N92,N92,N92,N92,N92,N92,N92,N92,N92,N92,N92,N92,N92,N92,N92,N92,N92,N92,N92,N92,N92,N92,N92,N92] rfl rfl (one_of HT_.out (by kernel_rfl)) (by decide) (fun K hK => ?_)
                 refine goes_ Try.func77 (by kernel_rfl) rfl #[.int .i64 (rd l1 p0), .int .i64 0, .int .i64 (wrap64 ((l0_1.length : Int) - 1))] (by rfl) rfl rfl (by (try simp only [List.map_toArray, List.map_cons, List.map_nil]); first | done | rfl | (simp only [List.length_drop, List.length_take]; rfl)) ?_
                 with_reducible refine (impl_within.calls (rd l1 p0) 0 (wrap64 ((l0_1.length : Int) - 1)) true _ A15.out).mono ?_
                 rintro e w' ⟨rfl, ⟨nd, rfl⟩⟩
                 refine ⟨_, rfl, ?_⟩
                 refine hK.out _ _ ⟨(blk_cell p1.out 0).trans rfl, (blk_cell p1.out 1).trans rfl, ((HB.out.cell (World.block_lt_of_cell? w _ r0)).trans r0), ((HB.out.cell (World.block_lt_of_cell? w _ r5)).trans r5), ((HB.out.cell (World.block_lt_of_cell? w _ r4)).trans r4), ((HB.out.cell (World.block_lt_of_cell? w _ r3)).trans r3), ((HB.out.cell (World.block_lt_of_cell? w _ r2)).trans r2), ((HB.out.cell (World.block_lt_of_cell? w _ r1)).trans r1), ((HB.out.cell (World.block_lt_of_cell? w _ t0)).trans t0), ((HB.out.cell (World.block_lt_of_cell? w _ r9)).trans r9), ((HB.out.cell (World.block_lt_of_cell? w _ r8)).trans r8), ((HB.out.cell (World.block_lt_of_cell? w _ r7)).trans r7), ((HB.out.cell (World.block_lt_of_cell? w _ r6)).trans r6)⟩ (fun hHeld => ?_)
                 clear hK K
                 refine norm_ (a' := ?_) ?_ ?_
                 rotate_left
                 ·show Act.put _ (some 27) _ = _
                  simp only [Act.put, List.setIfInBounds_toArray, List.set_cons_zero, List.set_cons_succ, i64_w, i32_w]
                  rfl
                 refine pure_ (i := 6) (N := some 28) (v := ?_) (a' := ?_) #[Y92,Y92,Y92,Y92,Y92,Y92,Y92,N92,N92,N92,N92,N92,N92,N92,N92,N92,N92,N92,N92,N92,N92,N92,N92,N92,N92,N92,N92,N92,N92,N92] rfl rfl (any_of HT_.out (by kernel_rfl)) (fun _ _ _ h => h) (Or.inl ⟨by rfl, ?_⟩) ?_ ?_
                 rotate_left
                 ·intro w'
                  go_simp
                  with_reducible rfl
                 rotate_left
                 ·simp only [Act.put, List.setIfInBounds_toArray, List.set_cons_zero, List.set_cons_succ, i64_w, i32_w]
                  rfl
                 refine pure_ (i := 7) (N := some 29) (v := ?_) (a' := ?_) #[Y92,Y92,Y92,Y92,Y92,Y92,Y92,Y92,N92,N92,N92,N92,N92,N92,N92,N92,N92,N92,N92,N92,N92,N92,N92,N92,N92,N92,N92,N92,N92,N92] rfl rfl (any_of HT_.out (by kernel_rfl)) (fun _ _ _ h => h) (Or.inl ⟨by rfl, ?_⟩) ?_ ?_
                 rotate_left
                 ·intro w'
                  go_simp
                  with_reducible rfl
                 rotate_left
                 ·simp only [Act.put, List.setIfInBounds_toArray, List.set_cons_zero, List.set_cons_succ, i64_w, i32_w]
                  rfl
                 refine pure_ (i := 8) (N := some 30) (v := ?_) (a' := ?_) #[Y92,Y92,Y92,Y92,Y92,Y92,Y92,Y92,Y92,N92,N92,N92,N92,N92,N92,N92,N92,N92,N92,N92,N92,N92,N92,N92,N92,N92,N92,N92,N92,N92] rfl rfl (any_of HT_.out (by kernel_rfl)) (fun _ _ _ h => h) (Or.inl ⟨by rfl, ?_⟩) ?_ ?_
                 rotate_left
                 ·intro w'
                  go_simp
                  with_reducible rfl
                 rotate_left
                 ·simp only [Act.put, List.setIfInBounds_toArray, List.set_cons_zero, List.set_cons_succ, i64_w, i32_w]
                  rfl
                 refine pure_ (i := 9) (N := some 31) (v := ?_) (a' := ?_) #[Y92,Y92,Y92,Y92,Y92,Y92,Y92,Y92,Y92,Y92,N92,N92,N92,N92,N92,N92,N92,N92,N92,N92,N92,N92,N92,N92,N92,N92,N92,N92,N92,N92] rfl rfl (any_of HT_.out (by kernel_rfl)) (fun _ _ _ h => h) (Or.inl ⟨by rfl, ?_⟩) ?_ ?_
                 rotate_left
                 ·intro w'
                  go_simp
                  with_reducible rfl
                 rotate_left
                 ·simp only [Act.put, List.setIfInBounds_toArray, List.set_cons_zero, List.set_cons_succ, i64_w, i32_w]
                  rfl
                 refine pure_ (i := 10) (N := some 32) (v := ?_) (a' := ?_) #[Y92,Y92,Y92,Y92,Y92,Y92,Y92,Y92,Y92,Y92,Y92,N92,N92,N92,N92,N92,N92,N92,N92,N92,N92,N92,N92,N92,N92,N92,N92,N92,N92,N92] rfl rfl (any_of HT_.out (by kernel_rfl)) (fun _ _ _ h => h) (Or.inl ⟨by rfl, ?_⟩) ?_ ?_
                 rotate_left
                 ·intro w'
                  go_simp
                  with_reducible rfl
                 rotate_left
                 ·simp only [Act.put, List.setIfInBounds_toArray, List.set_cons_zero, List.set_cons_succ, i64_w, i32_w]
                  rfl
                 refine pure_ (i := 11) (N := some 33) (v := ?_) (a' := ?_) #[Y92,Y92,Y92,Y92,Y92,Y92,Y92,Y92,Y92,Y92,Y92,Y92,N92,N92,N92,N92,N92,N92,N92,N92,N92,N92,N92,N92,N92,N92,N92,N92,N92,N92] rfl rfl (any_of HT_.out (by kernel_rfl)) (fun _ _ _ h => h) (Or.inl ⟨by rfl, ?_⟩) ?_ ?_
                 rotate_left
                 ·intro w'
                  go_simp
                  with_reducible rfl
                 rotate_left
                 ·simp only [Act.put, List.setIfInBounds_toArray, List.set_cons_zero, List.set_cons_succ, i64_w, i32_w]
                  rfl
                 refine pure_ (i := 13) (N := some 35) (v := ?_) (a' := ?_) #[Y92,Y92,Y92,Y92,Y92,Y92,Y92,Y92,Y92,Y92,Y92,Y92,N92,Y92,N92,N92,N92,N92,N92,N92,N92,N92,N92,N92,N92,N92,N92,N92,N92,N92] rfl rfl (any_of HT_.out (by kernel_rfl)) (fun _ _ _ h => h) (Or.inl ⟨by rfl, ?_⟩) ?_ ?_
                 rotate_left
                 ·intro w'
                  go_simp
                  with_reducible rfl
                 rotate_left
                 ·simp only [Act.put, List.setIfInBounds_toArray, List.set_cons_zero, List.set_cons_succ, i64_w, i32_w]
                  rfl
                 refine pure_ (i := 14) (N := some 36) (v := ?_) (a' := ?_) #[Y92,Y92,Y92,Y92,Y92,Y92,Y92,Y92,Y92,Y92,Y92,Y92,N92,Y92,Y92,N92,N92,N92,N92,N92,N92,N92,N92,N92,N92,N92,N92,N92,N92,N92] rfl rfl (any_of HT_.out (by kernel_rfl)) (fun _ _ _ h => h) (Or.inl ⟨by rfl, ?_⟩) ?_ ?_
                 rotate_left
                 ·intro w'
                  go_simp
                  with_reducible rfl
                 rotate_left
                 ·simp only [Act.put, List.setIfInBounds_toArray, List.set_cons_zero, List.set_cons_succ, i64_w, i32_w]
                  rfl
                 refine pure_ (i := 15) (N := some 37) (v := ?_) (a' := ?_) #[Y92,Y92,Y92,Y92,Y92,Y92,Y92,Y92,Y92,Y92,Y92,Y92,N92,Y92,Y92,Y92,N92,N92,N92,N92,N92,N92,N92,N92,N92,N92,N92,N92,N92,N92] rfl rfl (any_of HT_.out (by kernel_rfl)) (fun _ _ _ h => h) (Or.inl ⟨by rfl, ?_⟩) ?_ ?_
                 rotate_left
                 ·intro w'
                  go_simp
                  with_reducible rfl
                 rotate_left
                 ·simp only [Act.put, List.setIfInBounds_toArray, List.set_cons_zero, List.set_cons_succ, i64_w, i32_w]
                  rfl
                 refine pure_ (i := 16) (N := some 38) (v := ?_) (a' := ?_) #[Y92,Y92,Y92,Y92,Y92,Y92,Y92,Y92,Y92,Y92,Y92,Y92,N92,Y92,Y92,Y92,Y92,N92,N92,N92,N92,N92,N92,N92,N92,N92,N92,N92,N92,N92] rfl rfl (any_of HT_.out (by kernel_rfl)) (fun _ _ _ h => h) (Or.inl ⟨by rfl, ?_⟩) ?_ ?_
                 rotate_left
                 ·intro w'
                  go_simp
                  with_reducible rfl
                 rotate_left
                 ·simp only [Act.put, List.setIfInBounds_toArray, List.set_cons_zero, List.set_cons_succ, i64_w, i32_w]
                  rfl
                 refine pure_ (i := 21) (N := some 43) (v := ?_) (a' := ?_) #[Y92,Y92,Y92,Y92,Y92,Y92,Y92,Y92,Y92,Y92,Y92,Y92,N92,Y92,Y92,Y92,Y92,N92,N92,N92,N92,Y92,N92,N92,N92,N92,N92,N92,N92,N92] rfl rfl (any_of HT_.out (by kernel_rfl)) (fun _ _ _ h => h) (Or.inl ⟨by rfl, ?_⟩) ?_ ?_
                 rotate_left
                 ·intro w'
                  go_simp
                  with_reducible rfl
                 rotate_left
                 ·simp only [Act.put, List.setIfInBounds_toArray, List.set_cons_zero, List.set_cons_succ, i64_w, i32_w]
                  rfl
                 refine pure_ (i := 23) (N := some 45) (v := ?_) (a' := ?_) #[Y92,Y92,Y92,Y92,Y92,Y92,Y92,Y92,Y92,Y92,Y92,Y92,N92,Y92,Y92,Y92,Y92,N92,N92,N92,N92,Y92,N92,Y92,N92,N92,N92,N92,N92,N92] rfl rfl (any_of HT_.out (by kernel_rfl)) (fun _ _ _ h => h) (Or.inl ⟨by rfl, ?_⟩) ?_ ?_
                 rotate_left
                 ·intro w'
                  go_simp
                  with_reducible rfl
                 rotate_left
                 ·simp only [Act.put, List.setIfInBounds_toArray, List.set_cons_zero, List.set_cons_succ, i64_w, i32_w]
                  rfl
                 refine take_ (i := 12) (N := some 34) (v := ?_) (a' := ?_) #[Y92,Y92,Y92,Y92,Y92,Y92,Y92,Y92,Y92,Y92,Y92,Y92,Y92,Y92,Y92,Y92,Y92,N92,N92,N92,N92,Y92,N92,Y92,N92,N92,N92,N92,N92,N92] rfl rfl (take_ofW HT_.out HW_.out (by kernel_rfl)) (fun _ _ _ h => h) (Or.inl ⟨by rfl, ?_⟩) hHeld ?_ ?_
                 rotate_left
                 ·rintro w' ⟨s0, s1, s2, s3, s4, s5, s6, s7, s8, s9, s10, s11, s12⟩
                  go_simp
                  with_reducible rfl
                 rotate_left
                 ·simp only [Act.put, List.setIfInBounds_toArray, List.set_cons_zero, List.set_cons_succ, i64_w, i32_w]
                  rfl
                 refine take_ (i := 17) (N := some 39) (v := ?_) (a' := ?_) #[Y92,Y92,Y92,Y92,Y92,Y92,Y92,Y92,Y92,Y92,Y92,Y92,Y92,Y92,Y92,Y92,Y92,Y92,N92,N92,N92,Y92,N92,Y92,N92,N92,N92,N92,N92,N92] rfl rfl (take_ofW HT_.out HW_.out (by kernel_rfl)) (fun _ _ _ h => h) (Or.inl ⟨by rfl, ?_⟩) hHeld ?_ ?_
                 rotate_left
                 ·rintro w' ⟨s0, s1, s2, s3, s4, s5, s6, s7, s8, s9, s10, s11, s12⟩
                  go_simp
                  with_reducible rfl
                 rotate_left
                 ·simp only [Act.put, List.setIfInBounds_toArray, List.set_cons_zero, List.set_cons_succ, i64_w, i32_w]
                  rfl
                 refine pure_ (i := 18) (N := some 40) (v := ?_) (a' := ?_) #[Y92,Y92,Y92,Y92,Y92,Y92,Y92,Y92,Y92,Y92,Y92,Y92,Y92,Y92,Y92,Y92,Y92,Y92,Y92,N92,N92,Y92,N92,Y92,N92,N92,N92,N92,N92,N92] rfl rfl (any_of HT_.out (by kernel_rfl)) (fun _ _ _ h => h) (Or.inl ⟨by rfl, ?_⟩) ?_ ?_
                 rotate_left
                 ·intro w'
                  go_simp
                  with_reducible rfl
                 rotate_left
                 ·simp only [Act.put, List.setIfInBounds_toArray, List.set_cons_zero, List.set_cons_succ, i64_w, i32_w]
                  rfl
                 refine pure_ (i := 19) (N := some 41) (v := ?_) (a' := ?_) #[Y92,Y92,Y92,Y92,Y92,Y92,Y92,Y92,Y92,Y92,Y92,Y92,Y92,Y92,Y92,Y92,Y92,Y92,Y92,Y92,N92,Y92,N92,Y92,N92,N92,N92,N92,N92,N92] rfl rfl (any_of HT_.out (by kernel_rfl)) (fun _ _ _ h => h) (Or.inl ⟨by rfl, ?_⟩) ?_ ?_
                 rotate_left
                 ·intro w'
                  go_simp
                  with_reducible rfl
                 rotate_left
                 ·simp only [Act.put, List.setIfInBounds_toArray, List.set_cons_zero, List.set_cons_succ, i64_w, i32_w]
                  rfl
                 refine take_ (i := 20) (N := some 42) (v := ?_) (a' := ?_) #[Y92,Y92,Y92,Y92,Y92,Y92,Y92,Y92,Y92,Y92,Y92,Y92,Y92,Y92,Y92,Y92,Y92,Y92,Y92,Y92,Y92,Y92,N92,Y92,N92,N92,N92,N92,N92,N92] rfl rfl (take_ofW HT_.out HW_.out (by kernel_rfl)) (fun _ _ _ h => h) (Or.inl ⟨by rfl, ?_⟩) hHeld ?_ ?_
                 rotate_left
                 ·rintro w' ⟨s0, s1, s2, s3, s4, s5, s6, s7, s8, s9, s10, s11, s12⟩
                  go_simp
                  with_reducible rfl
                 rotate_left
                 ·simp only [Act.put, List.setIfInBounds_toArray, List.set_cons_zero, List.set_cons_succ, i64_w, i32_w]
                  rfl
                 refine take_ (i := 22) (N := some 44) (v := ?_) (a' := ?_) #[Y92,Y92,Y92,Y92,Y92,Y92,Y92,Y92,Y92,Y92,Y92,Y92,Y92,Y92,Y92,Y92,Y92,Y92,Y92,Y92,Y92,Y92,Y92,Y92,N92,N92,N92,N92,N92,N92] rfl rfl (take_ofW HT_.out HW_.out (by kernel_rfl)) (fun _ _ _ h => h) (Or.inl ⟨by rfl, ?_⟩) hHeld ?_ ?_
                 rotate_left
                 ·rintro w' ⟨s0, s1, s2, s3, s4, s5, s6, s7, s8, s9, s10, s11, s12⟩
                  go_simp
                  with_reducible rfl
                 rotate_left
                 ·simp only [Act.put, List.setIfInBounds_toArray, List.set_cons_zero, List.set_cons_succ, i64_w, i32_w]
                  rfl
                 refine pure_ (i := 24) (N := some 46) (v := ?_) (a' := ?_) #[Y92,Y92,Y92,Y92,Y92,Y92,Y92,Y92,Y92,Y92,Y92,Y92,Y92,Y92,Y92,Y92,Y92,Y92,Y92,Y92,Y92,Y92,Y92,Y92,Y92,N92,N92,N92,N92,N92] rfl rfl (any_of HT_.out (by kernel_rfl)) (fun _ _ _ h => h) (Or.inl ⟨by rfl, ?_⟩) ?_ ?_
                 rotate_left
                 ·intro w'
                  go_simp
                  with_reducible rfl
                 rotate_left
                 ·simp only [Act.put, List.setIfInBounds_toArray, List.set_cons_zero, List.set_cons_succ, i64_w, i32_w]
                  rfl
                 refine pure_ (i := 25) (N := some 47) (v := ?_) (a' := ?_) #[Y92,Y92,Y92,Y92,Y92,Y92,Y92,Y92,Y92,Y92,Y92,Y92,Y92,Y92,Y92,Y92,Y92,Y92,Y92,Y92,Y92,Y92,Y92,Y92,Y92,Y92,N92,N92,N92,N92] rfl rfl (any_of HT_.out (by kernel_rfl)) (fun _ _ _ h => h) (Or.inl ⟨by rfl, ?_⟩) ?_ ?_
                 rotate_left
                 ·intro w'
                  go_simp
                  with_reducible rfl
                 rotate_left
                 ·simp only [Act.put, List.setIfInBounds_toArray, List.set_cons_zero, List.set_cons_succ, i64_w, i32_w]
                  rfl
                 refine take_ (i := 26) (N := some 48) (v := ?_) (a' := ?_) #[Y92,Y92,Y92,Y92,Y92,Y92,Y92,Y92,Y92,Y92,Y92,Y92,Y92,Y92,Y92,Y92,Y92,Y92,Y92,Y92,Y92,Y92,Y92,Y92,Y92,Y92,Y92,N92,N92,N92] rfl rfl (take_ofW HT_.out HW_.out (by kernel_rfl)) (fun _ _ _ h => h) (Or.inl ⟨by rfl, ?_⟩) hHeld ?_ ?_
                 rotate_left
                 ·rintro w' ⟨s0, s1, s2, s3, s4, s5, s6, s7, s8, s9, s10, s11, s12⟩
                  go_simp
                  with_reducible rfl
                 rotate_left
                 ·simp only [Act.put, List.setIfInBounds_toArray, List.set_cons_zero, List.set_cons_succ, i64_w, i32_w]
                  rfl
                 refine pure_ (i := 27) (N := some 49) (v := ?_) (a' := ?_) #[Y92,Y92,Y92,Y92,Y92,Y92,Y92,Y92,Y92,Y92,Y92,Y92,Y92,Y92,Y92,Y92,Y92,Y92,Y92,Y92,Y92,Y92,Y92,Y92,Y92,Y92,Y92,Y92,N92,N92] rfl rfl (any_of HT_.out (by kernel_rfl)) (fun _ _ _ h => h) (Or.inl ⟨by rfl, ?_⟩) ?_ ?_
                 rotate_left
                 ·intro w'
                  go_simp
                  with_reducible rfl
                 rotate_left
                 ·simp only [Act.put, List.setIfInBounds_toArray, List.set_cons_zero, List.set_cons_succ, i64_w, i32_w]
                  rfl
                 refine pure_ (i := 28) (N := some 50) (v := ?_) (a' := ?_) #[Y92,Y92,Y92,Y92,Y92,Y92,Y92,Y92,Y92,Y92,Y92,Y92,Y92,Y92,Y92,Y92,Y92,Y92,Y92,Y92,Y92,Y92,Y92,Y92,Y92,Y92,Y92,Y92,Y92,N92] rfl rfl (any_of HT_.out (by kernel_rfl)) (fun _ _ _ h => h) (Or.inl ⟨by rfl, ?_⟩) ?_ ?_
                 rotate_left
                 ·intro w'
                  go_simp
                  with_reducible rfl
                 rotate_left
                 ·simp only [Act.put, List.setIfInBounds_toArray, List.set_cons_zero, List.set_cons_succ, i64_w, i32_w]
                  rfl
                 refine pure_ (i := 29) (N := some 51) (v := ?_) (a' := ?_) #[Y92,Y92,Y92,Y92,Y92,Y92,Y92,Y92,Y92,Y92,Y92,Y92,Y92,Y92,Y92,Y92,Y92,Y92,Y92,Y92,Y92,Y92,Y92,Y92,Y92,Y92,Y92,Y92,Y92,Y92] rfl rfl (any_of HT_.out (by kernel_rfl)) (fun _ _ _ h => h) (Or.inl ⟨by rfl, ?_⟩) ?_ ?_
                 rotate_left
                 ·intro w'
                  go_simp
                  with_reducible rfl
                 rotate_left
                 ·simp only [Act.put, List.setIfInBounds_toArray, List.set_cons_zero, List.set_cons_succ, i64_w, i32_w]
                  rfl
                 refine done_ (done_of HT_.out (by kernel_rfl)) ?_
                 have H := HH_.out
                 clear HH_
                 by_cases c25 : ((rd_T45 l0_1 (rd l1 (ji18))).f1) = ((rd_T45 l0_1 (rd l1 p0)).f0)
                 ·rw [if_pos c25] at H
                  have c25b0 : (((rd_T45 l0_1 (rd l1 (ji18))).f1) == ((rd_T45 l0_1 (rd l1 p0)).f0)) = true := beq_iff_eq.mpr c25
                  have c25b1 : (((rd_T45 l0_1 (rd l1 (ji18))).f1) != ((rd_T45 l0_1 (rd l1 p0)).f0)) = false := bne_eq_false_iff_eq.mpr c25
                  clear c25
                  have H' := Aside0.mk H
                  clear H
                  try go_wp2
                  go_roundg k2
                  case measure => have := HJ2.out; have := HK2.out; omega
                  case rel => exact ⟨(wrap64 (p0 + 1)), (by first | rfl | (simp; done) | (simp [*]; done)), H', ⟨by have := HJ2.out; have := HK2.out; omega⟩, ⟨by (with_reducible repeat (first | refine blk_drewN ?_ _ | refine blk_drew ?_ | refine blk_alloc ?_ _)); exact p1.out⟩, ⟨by repeat (first | (with_reducible first | exact HB.out | apply below_alloc | apply pw_below_drewN | apply below_drew1 | refine below_set ?_ p7.out) | exact HB.out)⟩⟩
                 ·rw [if_neg c25] at H
                  have c25b0 : (((rd_T45 l0_1 (rd l1 (ji18))).f1) == ((rd_T45 l0_1 (rd l1 p0)).f0)) = false := beq_eq_false_iff_ne.mpr c25
                  have c25b1 : (((rd_T45 l0_1 (rd l1 (ji18))).f1) != ((rd_T45 l0_1 (rd l1 p0)).f0)) = true := bne_iff_ne.mpr c25
                  obtain rfl := Option.some.inj H
                  try go_wp2
                  go_ret
                  exact ⟨by first | rfl | (simp [errW_none, errW_some] <;> rfl) | (simp only [← hji18]; first | rfl | (simp [errW_none, errW_some] <;> rfl)) | (simp [*, errW_none, errW_some] <;> rfl), by repeat (first | (with_reducible first | exact HB.out | apply below_alloc | apply pw_below_drewN | apply below_drew1 | refine below_set ?_ p7.out) | exact HB.out)⟩
                ·rw [if_neg c24] at H
                 exact absurd H (by simp)
               ·rw [if_neg c23] at H
                exact absurd H (by simp)
              ·rw [if_neg c22] at H
               exact absurd H (by simp)
             ·rw [if_neg c21] at H
              exact absurd H (by simp)
            ·rw [if_neg c20] at H
             exact absurd H (by simp)
           ·rw [if_neg c19] at H
            exact absurd H (by simp)
          ·rw [if_neg c17] at H
           have c17b0 : decide (0 < p0) = false := decide_eq_false c17
           clear c17
           have H' := Aside0.mk H
           clear H
           have p862 : 0 ≤ (p0 : Int) := of_decide_eq_true (by first | (with_reducible assumption) | assumption)
           have q862 : p0 < (l1.length : Int) := of_decide_eq_true (by first | (with_reducible assumption) | assumption)
           obtain ⟨t3, e862, p4⟩ := Kd.at_int HR1.out p0 p862 q862
           cases e862
           replace p4 := (HB.out.cell (World.block_lt_of_cell? w _ p4)).trans p4
           replace p862 := eq_true p862
           replace q862 := eq_true q862
           try go_wp2
           have n0_ := Aside0.mk (blk_drew p1.out)
           have n1_ := Aside0.mk (below_drew1 HB.out)
           clear p1
           clear HB
           have p1 := n0_
           have HB := n1_
           clear n0_ n1_
           refine start_ (n := 30) (S := fun w' => w'.cell? ⟨p5, 0, none⟩ = some (.int .i64 a0_0) ∧ w'.cell? ⟨p5, 1, none⟩ = some (.slice A0_1 l0_1.length c0_1)) (ds := []) #[N92,N92,N92,N92,N92,N92,N92,N92,N92,N92,N92,N92,N92,N92,N92,N92,N92,N92,N92,N92,N92,N92,N92,N92,N92,N92,N92,N92,N92,N92] (by kernel_rfl) rfl rfl ⟨(blk_cell p1.out 0).trans rfl, (blk_cell p1.out 1).trans rfl⟩ (fun hHeld => ?_); refine with_tabW impl_WalkOk.tab6 impl_WalkOk.bits6 (fun HT_ HW_ => ?_)
           generalize wr.drew = w28 at p1 HB hHeld ⊢
           refine pure_ (i := 0) (N := some 22) (v := ?_) (a' := ?_) #[Y92,N92,N92,N92,N92,N92,N92,N92,N92,N92,N92,N92,N92,N92,N92,N92,N92,N92,N92,N92,N92,N92,N92,N92,N92,N92,N92,N92,N92,N92] rfl rfl (any_of HT_.out (by kernel_rfl)) (fun _ _ _ h => h) (Or.inl ⟨by rfl, ?_⟩) ?_ ?_
           rotate_left
           ·intro w'
            go_simp
            with_reducible rfl
           rotate_left
           ·simp only [Act.put, List.setIfInBounds_toArray, List.set_cons_zero, List.set_cons_succ, i64_w, i32_w]
            rfl
           refine pure_ (i := 1) (N := some 23) (v := ?_) (a' := ?_) #[Y92,Y92,N92,N92,N92,N92,N92,N92,N92,N92,N92,N92,N92,N92,N92,N92,N92,N92,N92,N92,N92,N92,N92,N92,N92,N92,N92,N92,N92,N92] rfl rfl (any_of HT_.out (by kernel_rfl)) (fun _ _ _ h => h) (Or.inl ⟨by rfl, ?_⟩) ?_ ?_
           rotate_left
           ·intro w'
            go_simp
            with_reducible rfl
           rotate_left
           ·simp only [Act.put, List.setIfInBounds_toArray, List.set_cons_zero, List.set_cons_succ, i64_w, i32_w]
            rfl
           refine take_ (i := 2) (N := some 24) (v := ?_) (a' := ?_) #[Y92,Y92,Y92,N92,N92,N92,N92,N92,N92,N92,N92,N92,N92,N92,N92,N92,N92,N92,N92,N92,N92,N92,N92,N92,N92,N92,N92,N92,N92,N92] rfl rfl (take_ofW HT_.out HW_.out (by kernel_rfl)) (fun _ _ _ h => h) (Or.inl ⟨by rfl, ?_⟩) hHeld ?_ ?_
           rotate_left
           ·rintro w' ⟨s0, s1⟩
            go_simp
            with_reducible rfl
           rotate_left
           ·simp only [Act.put, List.setIfInBounds_toArray, List.set_cons_zero, List.set_cons_succ, i64_w, i32_w]
            rfl
           refine pure_ (i := 3) (N := some 25) (v := ?_) (a' := ?_) #[Y92,Y92,Y92,Y92,N92,N92,N92,N92,N92,N92,N92,N92,N92,N92,N92,N92,N92,N92,N92,N92,N92,N92,N92,N92,N92,N92,N92,N92,N92,N92] rfl rfl (any_of HT_.out (by kernel_rfl)) (fun _ _ _ h => h) (Or.inl ⟨by rfl, ?_⟩) ?_ ?_
           rotate_left
           ·intro w'
            go_simp
            with_reducible rfl
           rotate_left
           ·simp only [Act.put, List.setIfInBounds_toArray, List.set_cons_zero, List.set_cons_succ, i64_w, i32_w]
            rfl
           refine pure_ (i := 4) (N := some 26) (v := ?_) (a' := ?_) #[Y92,Y92,Y92,Y92,Y92,N92,N92,N92,N92,N92,N92,N92,N92,N92,N92,N92,N92,N92,N92,N92,N92,N92,N92,N92,N92,N92,N92,N92,N92,N92] rfl rfl (any_of HT_.out (by kernel_rfl)) (fun _ _ _ h => h) (Or.inl ⟨by rfl, ?_⟩) ?_ ?_
           rotate_left
           ·intro w'
            go_simp
            with_reducible rfl
           rotate_left
           ·simp only [Act.put, List.setIfInBounds_toArray, List.set_cons_zero, List.set_cons_succ, i64_w, i32_w]
            rfl
           refine one_ (i := 5) (N := some 27) #[Y92,Y92,Y92,Y92,Y92,Y92,N92,N92,N92,N92,N92,N92,N92,N92,N92,N92,N92,N92,N92,N92,N92,N92,N92,N92,N92,N92,N92,N92,N92,N92] rfl rfl (one_of HT_.out (by kernel_rfl)) (by decide) (fun K hK => ?_)
           refine goes_ Try.func77 (by kernel_rfl) rfl #[.int .i64 (rd l1 p0), .int .i64 0, .int .i64 (wrap64 ((l0_1.length : Int) - 1))] (by rfl) rfl rfl (by (try simp only [List.map_toArray, List.map_cons, List.map_nil]); first | done | rfl | (simp only [List.length_drop, List.length_take]; rfl)) ?_
           with_reducible refine (impl_within.calls (rd l1 p0) 0 (wrap64 ((l0_1.length : Int) - 1)) true _ A15.out).mono ?_
           rintro e w' ⟨rfl, ⟨nd, rfl⟩⟩
           refine ⟨_, rfl, ?_⟩
           refine hK.out _ _ ⟨(blk_cell p1.out 0).trans rfl, (blk_cell p1.out 1).trans rfl⟩ (fun hHeld => ?_)
           clear hK K
           refine norm_ (a' := ?_) ?_ ?_
           rotate_left
           ·show Act.put _ (some 27) _ = _
            simp only [Act.put, List.setIfInBounds_toArray, List.set_cons_zero, List.set_cons_succ, i64_w, i32_w]
            rfl
           refine pure_ (i := 6) (N := some 28) (v := ?_) (a' := ?_) #[Y92,Y92,Y92,Y92,Y92,Y92,Y92,N92,N92,N92,N92,N92,N92,N92,N92,N92,N92,N92,N92,N92,N92,N92,N92,N92,N92,N92,N92,N92,N92,N92] rfl rfl (any_of HT_.out (by kernel_rfl)) (fun _ _ _ h => h) (Or.inl ⟨by rfl, ?_⟩) ?_ ?_
           rotate_left
           ·intro w'
            go_simp
            with_reducible rfl
           rotate_left
           ·simp only [Act.put, List.setIfInBounds_toArray, List.set_cons_zero, List.set_cons_succ, i64_w, i32_w]
            rfl
           refine pure_ (i := 7) (N := some 29) (v := ?_) (a' := ?_) #[Y92,Y92,Y92,Y92,Y92,Y92,Y92,Y92,N92,N92,N92,N92,N92,N92,N92,N92,N92,N92,N92,N92,N92,N92,N92,N92,N92,N92,N92,N92,N92,N92] rfl rfl (any_of HT_.out (by kernel_rfl)) (fun _ _ _ h => h) (Or.inl ⟨by rfl, ?_⟩) ?_ ?_
           rotate_left
           ·intro w'
            go_simp
            with_reducible rfl
           rotate_left
           ·simp only [Act.put, List.setIfInBounds_toArray, List.set_cons_zero, List.set_cons_succ, i64_w, i32_w]
            rfl
           refine pure_ (i := 8) (N := some 30) (v := ?_) (a' := ?_) #[Y92,Y92,Y92,Y92,Y92,Y92,Y92,Y92,Y92,N92,N92,N92,N92,N92,N92,N92,N92,N92,N92,N92,N92,N92,N92,N92,N92,N92,N92,N92,N92,N92] rfl rfl (any_of HT_.out (by kernel_rfl)) (fun _ _ _ h => h) (Or.inl ⟨by rfl, ?_⟩) ?_ ?_
           rotate_left
           ·intro w'
            go_simp
            with_reducible rfl
           rotate_left
           ·simp only [Act.put, List.setIfInBounds_toArray, List.set_cons_zero, List.set_cons_succ, i64_w, i32_w]
            rfl
           refine pure_ (i := 9) (N := some 31) (v := ?_) (a' := ?_) #[Y92,Y92,Y92,Y92,Y92,Y92,Y92,Y92,Y92,Y92,N92,N92,N92,N92,N92,N92,N92,N92,N92,N92,N92,N92,N92,N92,N92,N92,N92,N92,N92,N92] rfl rfl (any_of HT_.out (by kernel_rfl)) (fun _ _ _ h => h) (Or.inl ⟨by rfl, ?_⟩) ?_ ?_
           rotate_left
           ·intro w'
            go_simp
            with_reducible rfl
           rotate_left
           ·simp only [Act.put, List.setIfInBounds_toArray, List.set_cons_zero, List.set_cons_succ, i64_w, i32_w]
            rfl
           refine pure_ (i := 10) (N := some 32) (v := ?_) (a' := ?_) #[Y92,Y92,Y92,Y92,Y92,Y92,Y92,Y92,Y92,Y92,Y92,N92,N92,N92,N92,N92,N92,N92,N92,N92,N92,N92,N92,N92,N92,N92,N92,N92,N92,N92] rfl rfl (any_of HT_.out (by kernel_rfl)) (fun _ _ _ h => h) (Or.inl ⟨by rfl, ?_⟩) ?_ ?_
           rotate_left
           ·intro w'
            go_simp
            with_reducible rfl
           rotate_left
           ·simp only [Act.put, List.setIfInBounds_toArray, List.set_cons_zero, List.set_cons_succ, i64_w, i32_w]
            rfl
           refine pure_ (i := 11) (N := some 33) (v := undef) (a' := ?_) #[Y92,Y92,Y92,Y92,Y92,Y92,Y92,Y92,Y92,Y92,Y92,Y92,N92,N92,N92,N92,N92,N92,N92,N92,N92,N92,N92,N92,N92,N92,N92,N92,N92,N92] rfl rfl (any_of HT_.out (by kernel_rfl)) (fun _ _ _ h => h) (Or.inr ⟨by rfl, rfl⟩) ?_ ?_
           rotate_left
           ·simp only [Act.put, List.setIfInBounds_toArray, List.set_cons_zero, List.set_cons_succ, i64_w, i32_w]
            rfl
           refine pure_ (i := 12) (N := some 34) (v := undef) (a' := ?_) #[Y92,Y92,Y92,Y92,Y92,Y92,Y92,Y92,Y92,Y92,Y92,Y92,Y92,N92,N92,N92,N92,N92,N92,N92,N92,N92,N92,N92,N92,N92,N92,N92,N92,N92] rfl rfl (any_of HT_.out (by kernel_rfl)) (fun _ _ _ h => h) (Or.inr ⟨by rfl, rfl⟩) ?_ ?_
           rotate_left
           ·simp only [Act.put, List.setIfInBounds_toArray, List.set_cons_zero, List.set_cons_succ, i64_w, i32_w]
            rfl
           refine pure_ (i := 13) (N := some 35) (v := undef) (a' := ?_) #[Y92,Y92,Y92,Y92,Y92,Y92,Y92,Y92,Y92,Y92,Y92,Y92,Y92,Y92,N92,N92,N92,N92,N92,N92,N92,N92,N92,N92,N92,N92,N92,N92,N92,N92] rfl rfl (any_of HT_.out (by kernel_rfl)) (fun _ _ _ h => h) (Or.inr ⟨by rfl, rfl⟩) ?_ ?_
           rotate_left
           ·simp only [Act.put, List.setIfInBounds_toArray, List.set_cons_zero, List.set_cons_succ, i64_w, i32_w]
            rfl
           refine pure_ (i := 14) (N := some 36) (v := undef) (a' := ?_) #[Y92,Y92,Y92,Y92,Y92,Y92,Y92,Y92,Y92,Y92,Y92,Y92,Y92,Y92,Y92,N92,N92,N92,N92,N92,N92,N92,N92,N92,N92,N92,N92,N92,N92,N92] rfl rfl (any_of HT_.out (by kernel_rfl)) (fun _ _ _ h => h) (Or.inr ⟨by rfl, rfl⟩) ?_ ?_
           rotate_left
           ·simp only [Act.put, List.setIfInBounds_toArray, List.set_cons_zero, List.set_cons_succ, i64_w, i32_w]
            rfl
           refine pure_ (i := 15) (N := some 37) (v := undef) (a' := ?_) #[Y92,Y92,Y92,Y92,Y92,Y92,Y92,Y92,Y92,Y92,Y92,Y92,Y92,Y92,Y92,Y92,N92,N92,N92,N92,N92,N92,N92,N92,N92,N92,N92,N92,N92,N92] rfl rfl (any_of HT_.out (by kernel_rfl)) (fun _ _ _ h => h) (Or.inr ⟨by rfl, rfl⟩) ?_ ?_
           rotate_left
           ·simp only [Act.put, List.setIfInBounds_toArray, List.set_cons_zero, List.set_cons_succ, i64_w, i32_w]
            rfl
           refine pure_ (i := 16) (N := some 38) (v := undef) (a' := ?_) #[Y92,Y92,Y92,Y92,Y92,Y92,Y92,Y92,Y92,Y92,Y92,Y92,Y92,Y92,Y92,Y92,Y92,N92,N92,N92,N92,N92,N92,N92,N92,N92,N92,N92,N92,N92] rfl rfl (any_of HT_.out (by kernel_rfl)) (fun _ _ _ h => h) (Or.inr ⟨by rfl, rfl⟩) ?_ ?_
           rotate_left
           ·simp only [Act.put, List.setIfInBounds_toArray, List.set_cons_zero, List.set_cons_succ, i64_w, i32_w]
            rfl
           refine pure_ (i := 17) (N := some 39) (v := undef) (a' := ?_) #[Y92,Y92,Y92,Y92,Y92,Y92,Y92,Y92,Y92,Y92,Y92,Y92,Y92,Y92,Y92,Y92,Y92,Y92,N92,N92,N92,N92,N92,N92,N92,N92,N92,N92,N92,N92] rfl rfl (any_of HT_.out (by kernel_rfl)) (fun _ _ _ h => h) (Or.inr ⟨by rfl, rfl⟩) ?_ ?_
           rotate_left
           ·simp only [Act.put, List.setIfInBounds_toArray, List.set_cons_zero, List.set_cons_succ, i64_w, i32_w]
            rfl
           refine pure_ (i := 18) (N := some 40) (v := undef) (a' := ?_) #[Y92,Y92,Y92,Y92,Y92,Y92,Y92,Y92,Y92,Y92,Y92,Y92,Y92,Y92,Y92,Y92,Y92,Y92,Y92,N92,N92,N92,N92,N92,N92,N92,N92,N92,N92,N92] rfl rfl (any_of HT_.out (by kernel_rfl)) (fun _ _ _ h => h) (Or.inr ⟨by rfl, rfl⟩) ?_ ?_
           rotate_left
           ·simp only [Act.put, List.setIfInBounds_toArray, List.set_cons_zero, List.set_cons_succ, i64_w, i32_w]
            rfl
           refine pure_ (i := 19) (N := some 41) (v := undef) (a' := ?_) #[Y92,Y92,Y92,Y92,Y92,Y92,Y92,Y92,Y92,Y92,Y92,Y92,Y92,Y92,Y92,Y92,Y92,Y92,Y92,Y92,N92,N92,N92,N92,N92,N92,N92,N92,N92,N92] rfl rfl (any_of HT_.out (by kernel_rfl)) (fun _ _ _ h => h) (Or.inr ⟨by rfl, rfl⟩) ?_ ?_
           rotate_left
           ·simp only [Act.put, List.setIfInBounds_toArray, List.set_cons_zero, List.set_cons_succ, i64_w, i32_w]
            rfl
           refine pure_ (i := 20) (N := some 42) (v := undef) (a' := ?_) #[Y92,Y92,Y92,Y92,Y92,Y92,Y92,Y92,Y92,Y92,Y92,Y92,Y92,Y92,Y92,Y92,Y92,Y92,Y92,Y92,Y92,N92,N92,N92,N92,N92,N92,N92,N92,N92] rfl rfl (any_of HT_.out (by kernel_rfl)) (fun _ _ _ h => h) (Or.inr ⟨by rfl, rfl⟩) ?_ ?_
           rotate_left
           ·simp only [Act.put, List.setIfInBounds_toArray, List.set_cons_zero, List.set_cons_succ, i64_w, i32_w]
            rfl
           refine pure_ (i := 21) (N := some 43) (v := undef) (a' := ?_) #[Y92,Y92,Y92,Y92,Y92,Y92,Y92,Y92,Y92,Y92,Y92,Y92,Y92,Y92,Y92,Y92,Y92,Y92,Y92,Y92,Y92,Y92,N92,N92,N92,N92,N92,N92,N92,N92] rfl rfl (any_of HT_.out (by kernel_rfl)) (fun _ _ _ h => h) (Or.inr ⟨by rfl, rfl⟩) ?_ ?_
           rotate_left
           ·simp only [Act.put, List.setIfInBounds_toArray, List.set_cons_zero, List.set_cons_succ, i64_w, i32_w]
            rfl
           refine pure_ (i := 22) (N := some 44) (v := undef) (a' := ?_) #[Y92,Y92,Y92,Y92,Y92,Y92,Y92,Y92,Y92,Y92,Y92,Y92,Y92,Y92,Y92,Y92,Y92,Y92,Y92,Y92,Y92,Y92,Y92,N92,N92,N92,N92,N92,N92,N92] rfl rfl (any_of HT_.out (by kernel_rfl)) (fun _ _ _ h => h) (Or.inr ⟨by rfl, rfl⟩) ?_ ?_
           rotate_left
           ·simp only [Act.put, List.setIfInBounds_toArray, List.set_cons_zero, List.set_cons_succ, i64_w, i32_w]
            rfl
           refine pure_ (i := 23) (N := some 45) (v := undef) (a' := ?_) #[Y92,Y92,Y92,Y92,Y92,Y92,Y92,Y92,Y92,Y92,Y92,Y92,Y92,Y92,Y92,Y92,Y92,Y92,Y92,Y92,Y92,Y92,Y92,Y92,N92,N92,N92,N92,N92,N92] rfl rfl (any_of HT_.out (by kernel_rfl)) (fun _ _ _ h => h) (Or.inr ⟨by rfl, rfl⟩) ?_ ?_
           rotate_left
           ·simp only [Act.put, List.setIfInBounds_toArray, List.set_cons_zero, List.set_cons_succ, i64_w, i32_w]
            rfl
           refine pure_ (i := 24) (N := some 46) (v := undef) (a' := ?_) #[Y92,Y92,Y92,Y92,Y92,Y92,Y92,Y92,Y92,Y92,Y92,Y92,Y92,Y92,Y92,Y92,Y92,Y92,Y92,Y92,Y92,Y92,Y92,Y92,Y92,N92,N92,N92,N92,N92] rfl rfl (any_of HT_.out (by kernel_rfl)) (fun _ _ _ h => h) (Or.inr ⟨by rfl, rfl⟩) ?_ ?_
           rotate_left
           ·simp only [Act.put, List.setIfInBounds_toArray, List.set_cons_zero, List.set_cons_succ, i64_w, i32_w]
            rfl
           refine pure_ (i := 25) (N := some 47) (v := undef) (a' := ?_) #[Y92,Y92,Y92,Y92,Y92,Y92,Y92,Y92,Y92,Y92,Y92,Y92,Y92,Y92,Y92,Y92,Y92,Y92,Y92,Y92,Y92,Y92,Y92,Y92,Y92,Y92,N92,N92,N92,N92] rfl rfl (any_of HT_.out (by kernel_rfl)) (fun _ _ _ h => h) (Or.inr ⟨by rfl, rfl⟩) ?_ ?_
           rotate_left
           ·simp only [Act.put, List.setIfInBounds_toArray, List.set_cons_zero, List.set_cons_succ, i64_w, i32_w]
            rfl
           refine pure_ (i := 26) (N := some 48) (v := undef) (a' := ?_) #[Y92,Y92,Y92,Y92,Y92,Y92,Y92,Y92,Y92,Y92,Y92,Y92,Y92,Y92,Y92,Y92,Y92,Y92,Y92,Y92,Y92,Y92,Y92,Y92,Y92,Y92,Y92,N92,N92,N92] rfl rfl (any_of HT_.out (by kernel_rfl)) (fun _ _ _ h => h) (Or.inr ⟨by rfl, rfl⟩) ?_ ?_
           rotate_left
           ·simp only [Act.put, List.setIfInBounds_toArray, List.set_cons_zero, List.set_cons_succ, i64_w, i32_w]
            rfl
           refine pure_ (i := 27) (N := some 49) (v := undef) (a' := ?_) #[Y92,Y92,Y92,Y92,Y92,Y92,Y92,Y92,Y92,Y92,Y92,Y92,Y92,Y92,Y92,Y92,Y92,Y92,Y92,Y92,Y92,Y92,Y92,Y92,Y92,Y92,Y92,Y92,N92,N92] rfl rfl (any_of HT_.out (by kernel_rfl)) (fun _ _ _ h => h) (Or.inr ⟨by rfl, rfl⟩) ?_ ?_
           rotate_left
           ·simp only [Act.put, List.setIfInBounds_toArray, List.set_cons_zero, List.set_cons_succ, i64_w, i32_w]
            rfl
           refine pure_ (i := 28) (N := some 50) (v := ?_) (a' := ?_) #[Y92,Y92,Y92,Y92,Y92,Y92,Y92,Y92,Y92,Y92,Y92,Y92,Y92,Y92,Y92,Y92,Y92,Y92,Y92,Y92,Y92,Y92,Y92,Y92,Y92,Y92,Y92,Y92,Y92,N92] rfl rfl (any_of HT_.out (by kernel_rfl)) (fun _ _ _ h => h) (Or.inl ⟨by rfl, ?_⟩) ?_ ?_
           rotate_left
           ·intro w'
            go_simp
            with_reducible rfl
           rotate_left
           ·simp only [Act.put, List.setIfInBounds_toArray, List.set_cons_zero, List.set_cons_succ, i64_w, i32_w]
            rfl
           refine pure_ (i := 29) (N := some 51) (v := ?_) (a' := ?_) #[Y92,Y92,Y92,Y92,Y92,Y92,Y92,Y92,Y92,Y92,Y92,Y92,Y92,Y92,Y92,Y92,Y92,Y92,Y92,Y92,Y92,Y92,Y92,Y92,Y92,Y92,Y92,Y92,Y92,Y92] rfl rfl (any_of HT_.out (by kernel_rfl)) (fun _ _ _ h => h) (Or.inl ⟨by rfl, ?_⟩) ?_ ?_
           rotate_left
           ·intro w'
            go_simp
            with_reducible rfl
           rotate_left
           ·simp only [Act.put, List.setIfInBounds_toArray, List.set_cons_zero, List.set_cons_succ, i64_w, i32_w]
            rfl
           refine done_ (done_of HT_.out (by kernel_rfl)) ?_
           try go_wp2
           go_roundg k2
           case measure => have := HJ2.out; have := HK2.out; omega
           case rel => exact ⟨(wrap64 (p0 + 1)), (by first | rfl | (simp; done) | (simp [*]; done)), H', ⟨by have := HJ2.out; have := HK2.out; omega⟩, ⟨by (with_reducible repeat (first | refine blk_drewN ?_ _ | refine blk_drew ?_ | refine blk_alloc ?_ _)); exact p1.out⟩, ⟨by repeat (first | (with_reducible first | exact HB.out | apply below_alloc | apply pw_below_drewN | apply below_drew1 | refine below_set ?_ p7.out) | exact HB.out)⟩⟩
         ·replace c16 := Bool.eq_false_iff.mpr c16
          subst c16
          have H1 : (some false) = some r := by rw [if_neg (show ¬ (false = true) by decide)] at H; exact H
          clear H
          have H := H1
          clear H1
          obtain rfl := Option.some.inj H
          have p862 : 0 ≤ (p0 : Int) := of_decide_eq_true (by first | (with_reducible assumption) | assumption)
          have q862 : p0 < (l1.length : Int) := of_decide_eq_true (by first | (with_reducible assumption) | assumption)
          obtain ⟨t3, e862, p4⟩ := Kd.at_int HR1.out p0 p862 q862
          cases e862
          replace p4 := (HB.out.cell (World.block_lt_of_cell? w _ p4)).trans p4
          replace p862 := eq_true p862
          replace q862 := eq_true q862
          try go_wp2
          have n0_ := Aside0.mk (blk_drew p1.out)
          have n1_ := Aside0.mk (below_drew1 HB.out)
          clear p1
          clear HB
          have p1 := n0_
          have HB := n1_
          clear n0_ n1_
          refine start_ (n := 30) (S := fun w' => w'.cell? ⟨p5, 0, none⟩ = some (.int .i64 a0_0) ∧ w'.cell? ⟨p5, 1, none⟩ = some (.slice A0_1 l0_1.length c0_1)) (ds := []) #[N92,N92,N92,N92,N92,N92,N92,N92,N92,N92,N92,N92,N92,N92,N92,N92,N92,N92,N92,N92,N92,N92,N92,N92,N92,N92,N92,N92,N92,N92] (by kernel_rfl) rfl rfl ⟨(blk_cell p1.out 0).trans rfl, (blk_cell p1.out 1).trans rfl⟩ (fun hHeld => ?_); refine with_tabW impl_WalkOk.tab6 impl_WalkOk.bits6 (fun HT_ HW_ => ?_)
          generalize wr.drew = w29 at p1 HB hHeld ⊢
          refine pure_ (i := 0) (N := some 22) (v := ?_) (a' := ?_) #[Y92,N92,N92,N92,N92,N92,N92,N92,N92,N92,N92,N92,N92,N92,N92,N92,N92,N92,N92,N92,N92,N92,N92,N92,N92,N92,N92,N92,N92,N92] rfl rfl (any_of HT_.out (by kernel_rfl)) (fun _ _ _ h => h) (Or.inl ⟨by rfl, ?_⟩) ?_ ?_
          rotate_left
          ·intro w'
           go_simp
           with_reducible rfl
          rotate_left
          ·simp only [Act.put, List.setIfInBounds_toArray, List.set_cons_zero, List.set_cons_succ, i64_w, i32_w]
           rfl
          refine pure_ (i := 1) (N := some 23) (v := ?_) (a' := ?_) #[Y92,Y92,N92,N92,N92,N92,N92,N92,N92,N92,N92,N92,N92,N92,N92,N92,N92,N92,N92,N92,N92,N92,N92,N92,N92,N92,N92,N92,N92,N92] rfl rfl (any_of HT_.out (by kernel_rfl)) (fun _ _ _ h => h) (Or.inl ⟨by rfl, ?_⟩) ?_ ?_
          rotate_left
          ·intro w'
           go_simp
           with_reducible rfl
          rotate_left
          ·simp only [Act.put, List.setIfInBounds_toArray, List.set_cons_zero, List.set_cons_succ, i64_w, i32_w]
           rfl
          refine take_ (i := 2) (N := some 24) (v := ?_) (a' := ?_) #[Y92,Y92,Y92,N92,N92,N92,N92,N92,N92,N92,N92,N92,N92,N92,N92,N92,N92,N92,N92,N92,N92,N92,N92,N92,N92,N92,N92,N92,N92,N92] rfl rfl (take_ofW HT_.out HW_.out (by kernel_rfl)) (fun _ _ _ h => h) (Or.inl ⟨by rfl, ?_⟩) hHeld ?_ ?_
          rotate_left
          ·rintro w' ⟨s0, s1⟩
           go_simp
           with_reducible rfl
          rotate_left
          ·simp only [Act.put, List.setIfInBounds_toArray, List.set_cons_zero, List.set_cons_succ, i64_w, i32_w]
           rfl
          refine pure_ (i := 3) (N := some 25) (v := ?_) (a' := ?_) #[Y92,Y92,Y92,Y92,N92,N92,N92,N92,N92,N92,N92,N92,N92,N92,N92,N92,N92,N92,N92,N92,N92,N92,N92,N92,N92,N92,N92,N92,N92,N92] rfl rfl (any_of HT_.out (by kernel_rfl)) (fun _ _ _ h => h) (Or.inl ⟨by rfl, ?_⟩) ?_ ?_
          rotate_left
          ·intro w'
           go_simp
           with_reducible rfl
          rotate_left
          ·simp only [Act.put, List.setIfInBounds_toArray, List.set_cons_zero, List.set_cons_succ, i64_w, i32_w]
           rfl
          refine pure_ (i := 4) (N := some 26) (v := ?_) (a' := ?_) #[Y92,Y92,Y92,Y92,Y92,N92,N92,N92,N92,N92,N92,N92,N92,N92,N92,N92,N92,N92,N92,N92,N92,N92,N92,N92,N92,N92,N92,N92,N92,N92] rfl rfl (any_of HT_.out (by kernel_rfl)) (fun _ _ _ h => h) (Or.inl ⟨by rfl, ?_⟩) ?_ ?_
          rotate_left
          ·intro w'
           go_simp
           with_reducible rfl
          rotate_left
          ·simp only [Act.put, List.setIfInBounds_toArray, List.set_cons_zero, List.set_cons_succ, i64_w, i32_w]
           rfl
          refine one_ (i := 5) (N := some 27) #[Y92,Y92,Y92,Y92,Y92,Y92,N92,N92,N92,N92,N92,N92,N92,N92,N92,N92,N92,N92,N92,N92,N92,N92,N92,N92,N92,N92,N92,N92,N92,N92] rfl rfl (one_of HT_.out (by kernel_rfl)) (by decide) (fun K hK => ?_)
          refine goes_ Try.func77 (by kernel_rfl) rfl #[.int .i64 (rd l1 p0), .int .i64 0, .int .i64 (wrap64 ((l0_1.length : Int) - 1))] (by rfl) rfl rfl (by (try simp only [List.map_toArray, List.map_cons, List.map_nil]); first | done | rfl | (simp only [List.length_drop, List.length_take]; rfl)) ?_
          with_reducible refine (impl_within.calls (rd l1 p0) 0 (wrap64 ((l0_1.length : Int) - 1)) false _ A15.out).mono ?_
          rintro e w' ⟨rfl, ⟨nd, rfl⟩⟩
          refine ⟨_, rfl, ?_⟩
          refine hK.out _ _ ⟨(blk_cell p1.out 0).trans rfl, (blk_cell p1.out 1).trans rfl⟩ (fun hHeld => ?_)
          clear hK K
          refine norm_ (a' := ?_) ?_ ?_
          rotate_left
          ·show Act.put _ (some 27) _ = _
           simp only [Act.put, List.setIfInBounds_toArray, List.set_cons_zero, List.set_cons_succ, i64_w, i32_w]
           rfl
          refine pure_ (i := 6) (N := some 28) (v := ?_) (a' := ?_) #[Y92,Y92,Y92,Y92,Y92,Y92,Y92,N92,N92,N92,N92,N92,N92,N92,N92,N92,N92,N92,N92,N92,N92,N92,N92,N92,N92,N92,N92,N92,N92,N92] rfl rfl (any_of HT_.out (by kernel_rfl)) (fun _ _ _ h => h) (Or.inl ⟨by rfl, ?_⟩) ?_ ?_
          rotate_left
          ·intro w'
           go_simp
           with_reducible rfl
          rotate_left
          ·simp only [Act.put, List.setIfInBounds_toArray, List.set_cons_zero, List.set_cons_succ, i64_w, i32_w]
           rfl
          refine pure_ (i := 7) (N := some 29) (v := ?_) (a' := ?_) #[Y92,Y92,Y92,Y92,Y92,Y92,Y92,Y92,N92,N92,N92,N92,N92,N92,N92,N92,N92,N92,N92,N92,N92,N92,N92,N92,N92,N92,N92,N92,N92,N92] rfl rfl (any_of HT_.out (by kernel_rfl)) (fun _ _ _ h => h) (Or.inl ⟨by rfl, ?_⟩) ?_ ?_
          rotate_left
          ·intro w'
           go_simp
           with_reducible rfl
          rotate_left
          ·simp only [Act.put, List.setIfInBounds_toArray, List.set_cons_zero, List.set_cons_succ, i64_w, i32_w]
           rfl
          refine pure_ (i := 8) (N := some 30) (v := undef) (a' := ?_) #[Y92,Y92,Y92,Y92,Y92,Y92,Y92,Y92,Y92,N92,N92,N92,N92,N92,N92,N92,N92,N92,N92,N92,N92,N92,N92,N92,N92,N92,N92,N92,N92,N92] rfl rfl (any_of HT_.out (by kernel_rfl)) (fun _ _ _ h => h) (Or.inr ⟨by rfl, rfl⟩) ?_ ?_
          rotate_left
          ·simp only [Act.put, List.setIfInBounds_toArray, List.set_cons_zero, List.set_cons_succ, i64_w, i32_w]
           rfl
          refine pure_ (i := 9) (N := some 31) (v := undef) (a' := ?_) #[Y92,Y92,Y92,Y92,Y92,Y92,Y92,Y92,Y92,Y92,N92,N92,N92,N92,N92,N92,N92,N92,N92,N92,N92,N92,N92,N92,N92,N92,N92,N92,N92,N92] rfl rfl (any_of HT_.out (by kernel_rfl)) (fun _ _ _ h => h) (Or.inr ⟨by rfl, rfl⟩) ?_ ?_
          rotate_left
          ·simp only [Act.put, List.setIfInBounds_toArray, List.set_cons_zero, List.set_cons_succ, i64_w, i32_w]
           rfl
          refine pure_ (i := 10) (N := some 32) (v := undef) (a' := ?_) #[Y92,Y92,Y92,Y92,Y92,Y92,Y92,Y92,Y92,Y92,Y92,N92,N92,N92,N92,N92,N92,N92,N92,N92,N92,N92,N92,N92,N92,N92,N92,N92,N92,N92] rfl rfl (any_of HT_.out (by kernel_rfl)) (fun _ _ _ h => h) (Or.inr ⟨by rfl, rfl⟩) ?_ ?_
          rotate_left
          ·simp only [Act.put, List.setIfInBounds_toArray, List.set_cons_zero, List.set_cons_succ, i64_w, i32_w]
           rfl
          refine pure_ (i := 11) (N := some 33) (v := undef) (a' := ?_) #[Y92,Y92,Y92,Y92,Y92,Y92,Y92,Y92,Y92,Y92,Y92,Y92,N92,N92,N92,N92,N92,N92,N92,N92,N92,N92,N92,N92,N92,N92,N92,N92,N92,N92] rfl rfl (any_of HT_.out (by kernel_rfl)) (fun _ _ _ h => h) (Or.inr ⟨by rfl, rfl⟩) ?_ ?_
          rotate_left
          ·simp only [Act.put, List.setIfInBounds_toArray, List.set_cons_zero, List.set_cons_succ, i64_w, i32_w]
           rfl
          refine pure_ (i := 12) (N := some 34) (v := undef) (a' := ?_) #[Y92,Y92,Y92,Y92,Y92,Y92,Y92,Y92,Y92,Y92,Y92,Y92,Y92,N92,N92,N92,N92,N92,N92,N92,N92,N92,N92,N92,N92,N92,N92,N92,N92,N92] rfl rfl (any_of HT_.out (by kernel_rfl)) (fun _ _ _ h => h) (Or.inr ⟨by rfl, rfl⟩) ?_ ?_
          rotate_left
          ·simp only [Act.put, List.setIfInBounds_toArray, List.set_cons_zero, List.set_cons_succ, i64_w, i32_w]
           rfl
          refine pure_ (i := 13) (N := some 35) (v := undef) (a' := ?_) #[Y92,Y92,Y92,Y92,Y92,Y92,Y92,Y92,Y92,Y92,Y92,Y92,Y92,Y92,N92,N92,N92,N92,N92,N92,N92,N92,N92,N92,N92,N92,N92,N92,N92,N92] rfl rfl (any_of HT_.out (by kernel_rfl)) (fun _ _ _ h => h) (Or.inr ⟨by rfl, rfl⟩) ?_ ?_
          rotate_left
          ·simp only [Act.put, List.setIfInBounds_toArray, List.set_cons_zero, List.set_cons_succ, i64_w, i32_w]
           rfl
          refine pure_ (i := 14) (N := some 36) (v := undef) (a' := ?_) #[Y92,Y92,Y92,Y92,Y92,Y92,Y92,Y92,Y92,Y92,Y92,Y92,Y92,Y92,Y92,N92,N92,N92,N92,N92,N92,N92,N92,N92,N92,N92,N92,N92,N92,N92] rfl rfl (any_of HT_.out (by kernel_rfl)) (fun _ _ _ h => h) (Or.inr ⟨by rfl, rfl⟩) ?_ ?_
          rotate_left
          ·simp only [Act.put, List.setIfInBounds_toArray, List.set_cons_zero, List.set_cons_succ, i64_w, i32_w]
           rfl
          refine pure_ (i := 15) (N := some 37) (v := undef) (a' := ?_) #[Y92,Y92,Y92,Y92,Y92,Y92,Y92,Y92,Y92,Y92,Y92,Y92,Y92,Y92,Y92,Y92,N92,N92,N92,N92,N92,N92,N92,N92,N92,N92,N92,N92,N92,N92] rfl rfl (any_of HT_.out (by kernel_rfl)) (fun _ _ _ h => h) (Or.inr ⟨by rfl, rfl⟩) ?_ ?_
          rotate_left
          ·simp only [Act.put, List.setIfInBounds_toArray, List.set_cons_zero, List.set_cons_succ, i64_w, i32_w]
           rfl
          refine pure_ (i := 16) (N := some 38) (v := undef) (a' := ?_) #[Y92,Y92,Y92,Y92,Y92,Y92,Y92,Y92,Y92,Y92,Y92,Y92,Y92,Y92,Y92,Y92,Y92,N92,N92,N92,N92,N92,N92,N92,N92,N92,N92,N92,N92,N92] rfl rfl (any_of HT_.out (by kernel_rfl)) (fun _ _ _ h => h) (Or.inr ⟨by rfl, rfl⟩) ?_ ?_
          rotate_left
          ·simp only [Act.put, List.setIfInBounds_toArray, List.set_cons_zero, List.set_cons_succ, i64_w, i32_w]
           rfl
          refine pure_ (i := 17) (N := some 39) (v := undef) (a' := ?_) #[Y92,Y92,Y92,Y92,Y92,Y92,Y92,Y92,Y92,Y92,Y92,Y92,Y92,Y92,Y92,Y92,Y92,Y92,N92,N92,N92,N92,N92,N92,N92,N92,N92,N92,N92,N92] rfl rfl (any_of HT_.out (by kernel_rfl)) (fun _ _ _ h => h) (Or.inr ⟨by rfl, rfl⟩) ?_ ?_
          rotate_left
          ·simp only [Act.put, List.setIfInBounds_toArray, List.set_cons_zero, List.set_cons_succ, i64_w, i32_w]
           rfl
          refine pure_ (i := 18) (N := some 40) (v := undef) (a' := ?_) #[Y92,Y92,Y92,Y92,Y92,Y92,Y92,Y92,Y92,Y92,Y92,Y92,Y92,Y92,Y92,Y92,Y92,Y92,Y92,N92,N92,N92,N92,N92,N92,N92,N92,N92,N92,N92] rfl rfl (any_of HT_.out (by kernel_rfl)) (fun _ _ _ h => h) (Or.inr ⟨by rfl, rfl⟩) ?_ ?_
          rotate_left
          ·simp only [Act.put, List.setIfInBounds_toArray, List.set_cons_zero, List.set_cons_succ, i64_w, i32_w]
           rfl
          refine pure_ (i := 19) (N := some 41) (v := undef) (a' := ?_) #[Y92,Y92,Y92,Y92,Y92,Y92,Y92,Y92,Y92,Y92,Y92,Y92,Y92,Y92,Y92,Y92,Y92,Y92,Y92,Y92,N92,N92,N92,N92,N92,N92,N92,N92,N92,N92] rfl rfl (any_of HT_.out (by kernel_rfl)) (fun _ _ _ h => h) (Or.inr ⟨by rfl, rfl⟩) ?_ ?_
          rotate_left
          ·simp only [Act.put, List.setIfInBounds_toArray, List.set_cons_zero, List.set_cons_succ, i64_w, i32_w]
           rfl
          refine pure_ (i := 20) (N := some 42) (v := undef) (a' := ?_) #[Y92,Y92,Y92,Y92,Y92,Y92,Y92,Y92,Y92,Y92,Y92,Y92,Y92,Y92,Y92,Y92,Y92,Y92,Y92,Y92,Y92,N92,N92,N92,N92,N92,N92,N92,N92,N92] rfl rfl (any_of HT_.out (by kernel_rfl)) (fun _ _ _ h => h) (Or.inr ⟨by rfl, rfl⟩) ?_ ?_
          rotate_left
          ·simp only [Act.put, List.setIfInBounds_toArray, List.set_cons_zero, List.set_cons_succ, i64_w, i32_w]
           rfl
          refine pure_ (i := 21) (N := some 43) (v := undef) (a' := ?_) #[Y92,Y92,Y92,Y92,Y92,Y92,Y92,Y92,Y92,Y92,Y92,Y92,Y92,Y92,Y92,Y92,Y92,Y92,Y92,Y92,Y92,Y92,N92,N92,N92,N92,N92,N92,N92,N92] rfl rfl (any_of HT_.out (by kernel_rfl)) (fun _ _ _ h => h) (Or.inr ⟨by rfl, rfl⟩) ?_ ?_
          rotate_left
          ·simp only [Act.put, List.setIfInBounds_toArray, List.set_cons_zero, List.set_cons_succ, i64_w, i32_w]
           rfl
          refine pure_ (i := 22) (N := some 44) (v := undef) (a' := ?_) #[Y92,Y92,Y92,Y92,Y92,Y92,Y92,Y92,Y92,Y92,Y92,Y92,Y92,Y92,Y92,Y92,Y92,Y92,Y92,Y92,Y92,Y92,Y92,N92,N92,N92,N92,N92,N92,N92] rfl rfl (any_of HT_.out (by kernel_rfl)) (fun _ _ _ h => h) (Or.inr ⟨by rfl, rfl⟩) ?_ ?_
          rotate_left
          ·simp only [Act.put, List.setIfInBounds_toArray, List.set_cons_zero, List.set_cons_succ, i64_w, i32_w]
           rfl
          refine pure_ (i := 23) (N := some 45) (v := undef) (a' := ?_) #[Y92,Y92,Y92,Y92,Y92,Y92,Y92,Y92,Y92,Y92,Y92,Y92,Y92,Y92,Y92,Y92,Y92,Y92,Y92,Y92,Y92,Y92,Y92,Y92,N92,N92,N92,N92,N92,N92] rfl rfl (any_of HT_.out (by kernel_rfl)) (fun _ _ _ h => h) (Or.inr ⟨by rfl, rfl⟩) ?_ ?_
          rotate_left
          ·simp only [Act.put, List.setIfInBounds_toArray, List.set_cons_zero, List.set_cons_succ, i64_w, i32_w]
           rfl
          refine pure_ (i := 24) (N := some 46) (v := undef) (a' := ?_) #[Y92,Y92,Y92,Y92,Y92,Y92,Y92,Y92,Y92,Y92,Y92,Y92,Y92,Y92,Y92,Y92,Y92,Y92,Y92,Y92,Y92,Y92,Y92,Y92,Y92,N92,N92,N92,N92,N92] rfl rfl (any_of HT_.out (by kernel_rfl)) (fun _ _ _ h => h) (Or.inr ⟨by rfl, rfl⟩) ?_ ?_
          rotate_left
          ·simp only [Act.put, List.setIfInBounds_toArray, List.set_cons_zero, List.set_cons_succ, i64_w, i32_w]
           rfl
          refine pure_ (i := 25) (N := some 47) (v := undef) (a' := ?_) #[Y92,Y92,Y92,Y92,Y92,Y92,Y92,Y92,Y92,Y92,Y92,Y92,Y92,Y92,Y92,Y92,Y92,Y92,Y92,Y92,Y92,Y92,Y92,Y92,Y92,Y92,N92,N92,N92,N92] rfl rfl (any_of HT_.out (by kernel_rfl)) (fun _ _ _ h => h) (Or.inr ⟨by rfl, rfl⟩) ?_ ?_
          rotate_left
          ·simp only [Act.put, List.setIfInBounds_toArray, List.set_cons_zero, List.set_cons_succ, i64_w, i32_w]
           rfl
          refine pure_ (i := 26) (N := some 48) (v := undef) (a' := ?_) #[Y92,Y92,Y92,Y92,Y92,Y92,Y92,Y92,Y92,Y92,Y92,Y92,Y92,Y92,Y92,Y92,Y92,Y92,Y92,Y92,Y92,Y92,Y92,Y92,Y92,Y92,Y92,N92,N92,N92] rfl rfl (any_of HT_.out (by kernel_rfl)) (fun _ _ _ h => h) (Or.inr ⟨by rfl, rfl⟩) ?_ ?_
          rotate_left
          ·simp only [Act.put, List.setIfInBounds_toArray, List.set_cons_zero, List.set_cons_succ, i64_w, i32_w]
           rfl
          refine pure_ (i := 27) (N := some 49) (v := undef) (a' := ?_) #[Y92,Y92,Y92,Y92,Y92,Y92,Y92,Y92,Y92,Y92,Y92,Y92,Y92,Y92,Y92,Y92,Y92,Y92,Y92,Y92,Y92,Y92,Y92,Y92,Y92,Y92,Y92,Y92,N92,N92] rfl rfl (any_of HT_.out (by kernel_rfl)) (fun _ _ _ h => h) (Or.inr ⟨by rfl, rfl⟩) ?_ ?_
          rotate_left
          ·simp only [Act.put, List.setIfInBounds_toArray, List.set_cons_zero, List.set_cons_succ, i64_w, i32_w]
           rfl
          refine pure_ (i := 28) (N := some 50) (v := undef) (a' := ?_) #[Y92,Y92,Y92,Y92,Y92,Y92,Y92,Y92,Y92,Y92,Y92,Y92,Y92,Y92,Y92,Y92,Y92,Y92,Y92,Y92,Y92,Y92,Y92,Y92,Y92,Y92,Y92,Y92,Y92,N92] rfl rfl (any_of HT_.out (by kernel_rfl)) (fun _ _ _ h => h) (Or.inr ⟨by rfl, rfl⟩) ?_ ?_
          rotate_left
          ·simp only [Act.put, List.setIfInBounds_toArray, List.set_cons_zero, List.set_cons_succ, i64_w, i32_w]
           rfl
          refine pure_ (i := 29) (N := some 51) (v := ?_) (a' := ?_) #[Y92,Y92,Y92,Y92,Y92,Y92,Y92,Y92,Y92,Y92,Y92,Y92,Y92,Y92,Y92,Y92,Y92,Y92,Y92,Y92,Y92,Y92,Y92,Y92,Y92,Y92,Y92,Y92,Y92,Y92] rfl rfl (any_of HT_.out (by kernel_rfl)) (fun _ _ _ h => h) (Or.inl ⟨by rfl, ?_⟩) ?_ ?_
          rotate_left
          ·intro w'
           go_simp
           with_reducible rfl
          rotate_left
          ·simp only [Act.put, List.setIfInBounds_toArray, List.set_cons_zero, List.set_cons_succ, i64_w, i32_w]
           rfl
          refine done_ (done_of HT_.out (by kernel_rfl)) ?_
          try go_wp2
          go_ret
          exact ⟨by first | rfl | (simp [errW_none, errW_some] <;> rfl) | (simp [*, errW_none, errW_some] <;> rfl), by repeat (first | (with_reducible first | exact HB.out | apply below_alloc | apply pw_below_drewN | apply below_drew1 | refine below_set ?_ p7.out) | exact HB.out)⟩
        ·rw [if_neg c14] at H
         exact absurd H (by simp)
       ·rw [if_neg c13] at H
        exact absurd H (by simp)
      ·rw [if_neg c12] at H
       have c12b0 : decide (p0 < (l1.length : Int)) = false := decide_eq_false c12
       clear c12
       obtain rfl := Option.some.inj H
       go_wp2
       go_ret
       exact ⟨by first | rfl | (simp [errW_none, errW_some] <;> rfl) | (simp [*, errW_none, errW_some] <;> rfl), by repeat (first | (with_reducible first | exact HB.out | apply below_alloc | apply pw_below_drewN | apply below_drew1 | refine below_set ?_ p7.out) | exact HB.out)⟩
end Go.Proofs.Ytmabopomecdidaa.Pr
end
section
namespace Go.Proofs.Ytmabopomecdidaa.Pr
open Go.RowKit Go.Proofs.YtmabopomecdidaaW.PrintWords Go.Proofs.YtmabopomecdidaaW.PrintLast Go.Proofs.YtmabopomecdidaaW.PrintMore
attribute [local go_sem] max2_int min2_int max_two min_two max_three min_three max_four min_four
set_option linter.unusedVariables false
set_option linter.unusedSimpArgs false
def impl_Net_cost.l0 : Nat → Int → List Int → Int → Int → Int → List (S45) → Option (Int)
 | 0, _, _, _, _, _, _ => none
 | k + 1, x5, x8, x9, x10, q2, p3 => if x10 < x9 then (if 0 ≤ x10 then (if x10 < (x8.length : Int) then (if 0 ≤ (rd x8 x10) then (if (rd x8 x10) < (p3.length : Int) then (impl_Net_cost.l0 k (wrap64 (x5 + ((rd_T45 p3 (rd x8 x10)).f2))) x8 x9 (wrap64 (x10 + 1)) q2 p3) else (none)) else (none)) else (none)) else (none)) else (some x5)
def impl_Net_cost.f (k : Nat) (a0_0 : Int) (l0_1 : List (S45)) (l1 : List Int) : Option (Int) := impl_Net_cost.l0 k 0 l1 (l1.length : Int) 0 a0_0 l0_1
set_option maxHeartbeats 8000000 in
set_option maxRecDepth 100000 in
theorem impl_Net_cost.calls (k : Nat) (a0_0 : Int) (A0_1 : Option Addr) (c0_1 : Nat) (l0_1 : List (S45)) (A1 : Option Addr) (c1 : Nat) (l1 : List Int) (r : Int) (w : World) (hr0_1 : Kd.C k45 w A0_1 l0_1.length l0_1) (hc0_1 : l0_1.length ≤ c0_1) (hr1 : Kd.C (Kd.int .i64) w A1 l1.length l1) (hc1 : l1.length ≤ c1) (h : impl_Net_cost.f k a0_0 l0_1 l1 = some r) :
  Calls Try.prog 108 #[.agg #[.int .i64 a0_0, .slice A0_1 l0_1.length c0_1], .slice A1 l1.length c1] w fun e w' => e = .returned (.int .i64 r) ∧ Below w.heap.size w w' := by
 have hu38 := Try.underlying38
 have HR0_1 := Aside0.mk hr0_1
 have HC0_1 := Aside0.mk hc0_1
 clear hr0_1 hc0_1
 have HR1 := Aside0.mk hr1
 have HC1 := Aside0.mk hc1
 clear hr1 hc1
 have HB := Aside0.mk (Below.refl w.heap.size w)
 have H : (impl_Net_cost.l0 k 0 l1 (l1.length : Int) 0 a0_0 l0_1) = some r := h
 clear h
 have H' := Aside0.mk H
 clear H
 go_enter Try.func108, Try.ntmps108
 go_wp2_with (first | ((with_reducible refine gate_dst (N := 2) rfl ?_); refine box_event ?hg (N := 2) ?hd (cs := #[.int .i64 a0_0, .slice A0_1 l0_1.length c0_1]) (t := 38) ?hr ?_; (case hd => rfl); (case hg => rfl); (case hr => first | (go_simp; done) | (go_simp; rfl)); intro p4 hg w3 hbox hb; have n0_ := Aside0.mk (below_step HB.out hb); have n1_ := Aside0.mk (hbox); have n2_ := Aside0.mk ((by rw [hg]; exact (below_size HB.out) : w.heap.size ≤ p4)); have n3_ := Aside0.mk ((by rw [hg]; exact (below_size HB.out) : w.heap.size ≤ p4)); clear HB; have HB := n0_; have p1 := n1_; have GW1160 := n2_; have q1 := n3_; clear n0_ n1_ n2_ n3_; clear hb hbox hg))
 go_loopg [5, 10] k (fun kq v5 v10 w' => ∃ (x5_1 : Int) (p0 : Int), v5 = .int .i64 x5_1 ∧ v10 = .int .i64 p0 ∧ Aside0 (impl_Net_cost.l0 kq x5_1 l1 (l1.length : Int) p0 a0_0 l0_1 = some r) ∧ Aside0 (kq ≤ k) ∧ Aside0 (w'.heap[p4]? = some (.cells #[.int .i64 a0_0, (.slice A0_1 l0_1.length c0_1)] 38 (0, 0))) ∧ Aside0 (Below w.heap.size w w'))
 case atStart => exact ⟨(0), (0), (by first | rfl | (simp; done) | (simp [*]; done)), (by first | rfl | (simp; done) | (simp [*]; done)), H', ⟨Nat.le_refl _⟩, ⟨by (with_reducible repeat (first | refine blk_drewN ?_ _ | refine blk_drew ?_ | refine blk_alloc ?_ _)); exact p1.out⟩, ⟨by repeat (first | (with_reducible first | exact HB.out | apply below_alloc | apply pw_below_drewN | apply below_drew1 | refine below_set ?_ q1.out) | exact HB.out)⟩⟩
 case round =>
  clear H'
  try clear c1
  try clear p2
  obtain ⟨x5_1, p0, rfl, rfl, HA, HK1, p1, HB⟩ := hrel
  cases gk with
  | zero => exact absurd HA.out (by simp [impl_Net_cost.l0])
  | succ k1 =>
   have H := HA.out
   clear HA
   simp only [impl_Net_cost.l0] at H
   by_cases c4 : p0 < (l1.length : Int)
   ·rw [if_pos c4] at H
    have c4b0 : decide (p0 < (l1.length : Int)) = true := decide_eq_true c4
    clear c4
    by_cases c5 : 0 ≤ p0
    ·rw [if_pos c5] at H
     have c5b0 : decide (0 ≤ p0) = true := decide_eq_true c5
     clear c5
     by_cases c6 : p0 < (l1.length : Int)
     ·rw [if_pos c6] at H
      have c6b0 : decide (p0 < (l1.length : Int)) = true := decide_eq_true c6
      clear c6
      by_cases c7 : 0 ≤ (rd l1 p0)
      ·rw [if_pos c7] at H
       have c7b0 : decide (0 ≤ (rd l1 p0)) = true := decide_eq_true c7
       clear c7
       by_cases c8 : (rd l1 p0) < (l0_1.length : Int)
       ·rw [if_pos c8] at H
        have c8b0 : decide ((rd l1 p0) < (l0_1.length : Int)) = true := decide_eq_true c8
        clear c8
        have H' := Aside0.mk H
        clear H
        have p1161 : 0 ≤ (p0 : Int) := of_decide_eq_true (by first | (with_reducible assumption) | assumption)
        have q1161 : p0 < (l1.length : Int) := of_decide_eq_true (by first | (with_reducible assumption) | assumption)
        obtain ⟨ad1161, e1161, p5⟩ := Kd.at_int HR1.out p0 p1161 q1161
        cases e1161
        replace p5 := (HB.out.cell (World.block_lt_of_cell? w _ p5)).trans p5
        replace p1161 := eq_true p1161
        replace q1161 := eq_true q1161
        have hcz9_0 : wr.cell? ⟨p4, 0, none⟩ = some (.int .i64 a0_0) := (blk_cell p1.out 0).trans rfl
        have hcz9_1 : wr.cell? ⟨p4, 1, none⟩ = some (.slice A0_1 l0_1.length c0_1) := (blk_cell p1.out 1).trans rfl
        have hfz9_0 := blk_frozen p1.out 0
        have hfz9_1 := blk_frozen p1.out 1
        have p1162 : 0 ≤ ((rd l1 p0) : Int) := of_decide_eq_true (by first | (with_reducible assumption) | assumption)
        have q1162 : (rd l1 p0) < (l0_1.length : Int) := of_decide_eq_true (by first | (with_reducible assumption) | assumption)
        obtain ⟨ad1162, e1162, p6, p7, p8, p9, q0⟩ := at_T45 HR0_1.out (rd l1 p0) p1162 q1162
        cases e1162
        replace p6 := (HB.out.cell (World.block_lt_of_cell? w _ p6)).trans p6
        replace p7 := (HB.out.cell (World.block_lt_of_cell? w _ p7)).trans p7
        replace p8 := (HB.out.cell (World.block_lt_of_cell? w _ p8)).trans p8
        replace p9 := (HB.out.cell (World.block_lt_of_cell? w _ p9)).trans p9
        replace q0 := (HB.out.cell (World.block_lt_of_cell? w _ q0)).trans q0
        replace p1162 := eq_true p1162
        replace q1162 := eq_true q1162
        go_wp2
        go_roundg k1
        case measure => have := HK1.out; omega
        case rel => exact ⟨(wrap64 (x5_1 + ((rd_T45 l0_1 (rd l1 p0)).f2))), (wrap64 (p0 + 1)), (by first | rfl | (simp; done) | (simp [*]; done)), (by first | rfl | (simp; done) | (simp [*]; done)), H', ⟨by have := HK1.out; omega⟩, ⟨by (with_reducible repeat (first | refine blk_drewN ?_ _ | refine blk_drew ?_ | refine blk_alloc ?_ _)); exact p1.out⟩, ⟨by repeat (first | (with_reducible first | exact HB.out | apply below_alloc | apply pw_below_drewN | apply below_drew1 | refine below_set ?_ q1.out) | exact HB.out)⟩⟩
       ·rw [if_neg c8] at H
        exact absurd H (by simp)
      ·rw [if_neg c7] at H
       exact absurd H (by simp)
     ·rw [if_neg c6] at H
      exact absurd H (by simp)
    ·rw [if_neg c5] at H
     exact absurd H (by simp)
   ·rw [if_neg c4] at H
    have c4b0 : decide (p0 < (l1.length : Int)) = false := decide_eq_false c4
    clear c4
    obtain rfl := Option.some.inj H
    go_wp2
    go_ret
    exact ⟨by first | rfl | (simp [errW_none, errW_some] <;> rfl) | (simp [*, errW_none, errW_some] <;> rfl), by repeat (first | (with_reducible first | exact HB.out | apply below_alloc | apply pw_below_drewN | apply below_drew1 | refine below_set ?_ q1.out) | exact HB.out)⟩
end Go.Proofs.Ytmabopomecdidaa.Pr
end
section
namespace Go.Proofs.Ytmabopomecdidaa.Pr
open Go.RowKit Go.Proofs.YtmabopomecdidaaW.PrintWords Go.Proofs.YtmabopomecdidaaW.PrintLast Go.Proofs.YtmabopomecdidaaW.PrintMore
attribute [local go_sem] max2_int min2_int max_two min_two max_three min_three max_four min_four
set_option linter.unusedVariables false
set_option linter.unusedSimpArgs false
def impl_WalkCost.f (k : Nat) (a0_0 : Int) (l0_1 : List (S45)) (l1 : List Int) : Option (Int) := (impl_WalkOk.f k a0_0 l0_1 l1).bind fun t1164 => (if t1164 = true then ((impl_Net_cost.f k a0_0 l0_1 l1).bind fun t1165 => (some t1165)) else (some (-1)))
set_option maxHeartbeats 8000000 in
set_option maxRecDepth 100000 in
theorem impl_WalkCost.calls (k : Nat) (a0_0 : Int) (A0_1 : Option Addr) (c0_1 : Nat) (l0_1 : List (S45)) (A1 : Option Addr) (c1 : Nat) (l1 : List Int) (r : Int) (w : World) (hr0_1 : Kd.C k45 w A0_1 l0_1.length l0_1) (hc0_1 : l0_1.length ≤ c0_1) (hr1 : Kd.C (Kd.int .i64) w A1 l1.length l1) (hc1 : l1.length ≤ c1) (h : impl_WalkCost.f k a0_0 l0_1 l1 = some r) :
  Calls Try.prog 58 #[.agg #[.int .i64 a0_0, .slice A0_1 l0_1.length c0_1], .slice A1 l1.length c1] w fun e w' => e = .returned (.int .i64 r) ∧ Below w.heap.size w w' := by
 have hu38 := Try.underlying38
 have p3 := Aside0.mk hr0_1
 have p4 := Aside0.mk hc0_1
 clear hr0_1 hc0_1
 have HR1 := Aside0.mk hr1
 have HC1 := Aside0.mk hc1
 clear hr1 hc1
 have HB := Aside0.mk (Below.refl w.heap.size w)
 have H : ((impl_WalkOk.f k a0_0 l0_1 l1).bind fun t1164 => (if t1164 = true then ((impl_Net_cost.f k a0_0 l0_1 l1).bind fun t1165 => (some t1165)) else (some (-1)))) = some r := h
 clear h
 replace H := Option.bind_eq_some_iff.mp H
 obtain ⟨t1164, A30, H⟩ := H
 replace H : (if t1164 = true then ((impl_Net_cost.f k a0_0 l0_1 l1).bind fun t1165 => (some t1165)) else (some (-1))) = some r := H
 have A3 := Aside0.mk A30
 clear A30
 by_cases c4 : t1164 = true
 ·subst c4
  have H1 : ((impl_Net_cost.f k a0_0 l0_1 l1).bind fun t1165 => (some t1165)) = some r := by rw [if_pos rfl] at H; exact H
  clear H
  have H := H1
  clear H1
  replace H := Option.bind_eq_some_iff.mp H
  obtain ⟨t1165, A50, H⟩ := H
  replace H : (some t1165) = some r := H
  have A5 := Aside0.mk A50
  clear A50
  obtain rfl := Option.some.inj H
  go_enter Try.func58, Try.ntmps58
  go_wp2_with (first | ((with_reducible refine gate_dst (N := 2) rfl ?_); refine box_event ?hg (N := 2) ?hd (cs := #[.int .i64 a0_0, .slice A0_1 l0_1.length c0_1]) (t := 38) ?hr ?_; (case hd => rfl); (case hg => rfl); (case hr => first | (go_simp; done) | (go_simp; rfl)); intro p1 hg w6 hbox hb; have n0_ := Aside0.mk (below_step HB.out hb); have n1_ := Aside0.mk (hbox); have n2_ := Aside0.mk ((by rw [hg]; exact (below_size HB.out) : w.heap.size ≤ p1)); have n3_ := Aside0.mk ((by rw [hg]; exact (below_size HB.out) : w.heap.size ≤ p1)); clear HB; have HB := n0_; have p0 := n1_; have GW1163 := n2_; have p2 := n3_; clear n0_ n1_ n2_ n3_; clear hb hbox hg; have hcz7_0 : w6.cell? ⟨p1, 0, none⟩ = some (.int .i64 a0_0) := (blk_cell p0.out 0).trans rfl; have hcz7_1 : w6.cell? ⟨p1, 1, none⟩ = some (.slice A0_1 l0_1.length c0_1) := (blk_cell p0.out 1).trans rfl; have hfz7_0 := blk_frozen p0.out 0; have hfz7_1 := blk_frozen p0.out 1) | ((with_reducible refine gate_callee (f := 93) rfl ?_); refine goesL_ (some 7) rfl rfl Try.func93 (by kernel_rfl) rfl #[.agg #[.int .i64 a0_0, .slice A0_1 l0_1.length c0_1], .slice A1 l1.length c1] rfl (by (try simp only [List.map_toArray, List.map_cons, List.map_nil]); first | done | rfl | (simp only [List.length_drop, List.length_take]; rfl)) ?_; (with_reducible refine (impl_WalkOk.calls k a0_0 _ _ l0_1 _ _ l1 true _ ?side1 ?side2 ?side3 ?side4 A3.out).mono ?_); (case side1 => repeat (first | exact (Kd.C_below p3.out HB.out) | (with_reducible refine Kd.C_alloc ?_ _) | (with_reducible refine Kd.C_drewN ?_ _) | (with_reducible refine Kd.C_drew ?_))); (case side2 => exact p4.out); (case side3 => repeat (first | exact (Kd.C_below HR1.out HB.out) | (with_reducible refine Kd.C_alloc ?_ _) | (with_reducible refine Kd.C_drewN ?_ _) | (with_reducible refine Kd.C_drew ?_))); (case side4 => exact HC1.out); rintro e w8 ⟨rfl, hb⟩; refine ⟨_, rfl, ?_⟩; have n0_ := Aside0.mk (blk_below (g := p1) (o := .cells #[.int .i64 a0_0, .slice A0_1 l0_1.length c0_1] 38 (0, 0)) p0.out hb); have n1_ := Aside0.mk (below_step HB.out hb); clear p0; clear HB; have p0 := n0_; have HB := n1_; clear n0_ n1_; (try clear hb); (try clear hb2); (try clear hk); (try clear hi); have hcz9_0 : w8.cell? ⟨p1, 0, none⟩ = some (.int .i64 a0_0) := (blk_cell p0.out 0).trans rfl; have hcz9_1 : w8.cell? ⟨p1, 1, none⟩ = some (.slice A0_1 l0_1.length c0_1) := (blk_cell p0.out 1).trans rfl; have hfz9_0 := blk_frozen p0.out 0; have hfz9_1 := blk_frozen p0.out 1) | ((with_reducible refine gate_callee (f := 108) rfl ?_); refine goesL_ (some 11) rfl rfl Try.func108 (by kernel_rfl) rfl #[.agg #[.int .i64 a0_0, .slice A0_1 l0_1.length c0_1], .slice A1 l1.length c1] rfl (by (try simp only [List.map_toArray, List.map_cons, List.map_nil]); first | done | rfl | (simp only [List.length_drop, List.length_take]; rfl)) ?_; (with_reducible refine (impl_Net_cost.calls k a0_0 _ _ l0_1 _ _ l1 t1165 _ ?side1 ?side2 ?side3 ?side4 A5.out).mono ?_); (case side1 => repeat (first | exact (Kd.C_below p3.out HB.out) | (with_reducible refine Kd.C_alloc ?_ _) | (with_reducible refine Kd.C_drewN ?_ _) | (with_reducible refine Kd.C_drew ?_))); (case side2 => exact p4.out); (case side3 => repeat (first | exact (Kd.C_below HR1.out HB.out) | (with_reducible refine Kd.C_alloc ?_ _) | (with_reducible refine Kd.C_drewN ?_ _) | (with_reducible refine Kd.C_drew ?_))); (case side4 => exact HC1.out); rintro e w10 ⟨rfl, hb⟩; refine ⟨_, rfl, ?_⟩; have n0_ := Aside0.mk (blk_below (g := p1) (o := .cells #[.int .i64 a0_0, .slice A0_1 l0_1.length c0_1] 38 (0, 0)) p0.out hb); have n1_ := Aside0.mk (below_step HB.out hb); clear p0; clear HB; have p0 := n0_; have HB := n1_; clear n0_ n1_; (try clear hb); (try clear hb2); (try clear hk); (try clear hi)))
  go_ret
  exact ⟨by first | rfl | (simp [errW_none, errW_some] <;> rfl) | (simp [*, errW_none, errW_some] <;> rfl), by repeat (first | (with_reducible first | exact HB.out | apply below_alloc | apply pw_below_drewN | apply below_drew1 | refine below_set ?_ p2.out) | exact HB.out)⟩
 ·replace c4 := Bool.eq_false_iff.mpr c4
  subst c4
  have H1 : (some (-1)) = some r := by rw [if_neg (show ¬ (false = true) by decide)] at H; exact H
  clear H
  have H := H1
  clear H1
  obtain rfl := Option.some.inj H
  go_enter Try.func58, Try.ntmps58
  go_wp2_with (first | ((with_reducible refine gate_dst (N := 2) rfl ?_); refine box_event ?hg (N := 2) ?hd (cs := #[.int .i64 a0_0, .slice A0_1 l0_1.length c0_1]) (t := 38) ?hr ?_; (case hd => rfl); (case hg => rfl); (case hr => first | (go_simp; done) | (go_simp; rfl)); intro p1 hg w11 hbox hb; have n0_ := Aside0.mk (below_step HB.out hb); have n1_ := Aside0.mk (hbox); have n2_ := Aside0.mk ((by rw [hg]; exact (below_size HB.out) : w.heap.size ≤ p1)); have n3_ := Aside0.mk ((by rw [hg]; exact (below_size HB.out) : w.heap.size ≤ p1)); clear HB; have HB := n0_; have p0 := n1_; have GW1163 := n2_; have p2 := n3_; clear n0_ n1_ n2_ n3_; clear hb hbox hg; have hcz12_0 : w11.cell? ⟨p1, 0, none⟩ = some (.int .i64 a0_0) := (blk_cell p0.out 0).trans rfl; have hcz12_1 : w11.cell? ⟨p1, 1, none⟩ = some (.slice A0_1 l0_1.length c0_1) := (blk_cell p0.out 1).trans rfl; have hfz12_0 := blk_frozen p0.out 0; have hfz12_1 := blk_frozen p0.out 1) | ((with_reducible refine gate_callee (f := 93) rfl ?_); refine goesL_ (some 7) rfl rfl Try.func93 (by kernel_rfl) rfl #[.agg #[.int .i64 a0_0, .slice A0_1 l0_1.length c0_1], .slice A1 l1.length c1] rfl (by (try simp only [List.map_toArray, List.map_cons, List.map_nil]); first | done | rfl | (simp only [List.length_drop, List.length_take]; rfl)) ?_; (with_reducible refine (impl_WalkOk.calls k a0_0 _ _ l0_1 _ _ l1 false _ ?side1 ?side2 ?side3 ?side4 A3.out).mono ?_); (case side1 => repeat (first | exact (Kd.C_below p3.out HB.out) | (with_reducible refine Kd.C_alloc ?_ _) | (with_reducible refine Kd.C_drewN ?_ _) | (with_reducible refine Kd.C_drew ?_))); (case side2 => exact p4.out); (case side3 => repeat (first | exact (Kd.C_below HR1.out HB.out) | (with_reducible refine Kd.C_alloc ?_ _) | (with_reducible refine Kd.C_drewN ?_ _) | (with_reducible refine Kd.C_drew ?_))); (case side4 => exact HC1.out); rintro e w13 ⟨rfl, hb⟩; refine ⟨_, rfl, ?_⟩; have n0_ := Aside0.mk (blk_below (g := p1) (o := .cells #[.int .i64 a0_0, .slice A0_1 l0_1.length c0_1] 38 (0, 0)) p0.out hb); have n1_ := Aside0.mk (below_step HB.out hb); clear p0; clear HB; have p0 := n0_; have HB := n1_; clear n0_ n1_; (try clear hb); (try clear hb2); (try clear hk); (try clear hi)))
  go_ret
  exact ⟨by first | rfl | (simp [errW_none, errW_some] <;> rfl) | (simp [*, errW_none, errW_some] <;> rfl), by repeat (first | (with_reducible first | exact HB.out | apply below_alloc | apply pw_below_drewN | apply below_drew1 | refine below_set ?_ p2.out) | exact HB.out)⟩
end Go.Proofs.Ytmabopomecdidaa.Pr
end
section
namespace Go.Proofs.Ytmabopomecdidaa.Pr
open Go.RowKit Go.Proofs.YtmabopomecdidaaW.PrintWords Go.Proofs.YtmabopomecdidaaW.PrintLast Go.Proofs.YtmabopomecdidaaW.PrintMore
attribute [local go_sem] max2_int min2_int max_two min_two max_three min_three max_four min_four
set_option linter.unusedVariables false
set_option linter.unusedSimpArgs false
def impl_costs.l0 : Nat → List Int → List (S143) → Int → Int → Option (List Int)
 | 0, _, _, _, _ => none
 | k + 1, x3, x9, x10, x11 => if x11 < x10 then (if 0 ≤ x11 then (if x11 < (x9.length : Int) then (if x3.length < 17592186044416 then (impl_costs.l0 k (x3 ++ [(rd_T143 x9 x11).f0]) x9 x10 (wrap64 (x11 + 1))) else (none)) else (none)) else (none)) else (some x3)
def impl_costs.f (k : Nat) (l0 : List (S143)) : Option (List Int) := if 0 ≤ (l0.length : Int) then (if ((l0.length : Int) : Int).toNat ≤ 35184372088832 then (impl_costs.l0 k (([] : List Int)) l0 (l0.length : Int) 0) else (none)) else (none)
set_option maxHeartbeats 8000000 in
set_option maxRecDepth 100000 in
theorem impl_costs.calls (k : Nat) (A0 : Option Addr) (c0 : Nat) (l0 : List (S143)) (r : List Int) (w : World) (hr0 : Kd.C k143 w A0 l0.length l0) (hc0 : l0.length ≤ c0) (h : impl_costs.f k l0 = some r) :
  Calls Try.prog 137 #[.slice A0 l0.length c0] w fun e w' => ∃ v0_ : Value, e = .returned (v0_) ∧ Kd.R (Kd.int .i64) 3 w' w.heap.size (fun _ => True) v0_ r ∧ Below w.heap.size w w' := by
 have hu143 := Try.underlying143
 have HR0 := Aside0.mk hr0
 have HC0 := Aside0.mk hc0
 clear hr0 hc0
 have HB := Aside0.mk (Below.refl w.heap.size w)
 have H : (if 0 ≤ (l0.length : Int) then (if ((l0.length : Int) : Int).toNat ≤ 35184372088832 then (impl_costs.l0 k (([] : List Int)) l0 (l0.length : Int) 0) else (none)) else (none)) = some r := h
 clear h
 by_cases c2 : 0 ≤ (l0.length : Int)
 ·rw [if_pos c2] at H
  have c2b0 := eq_true c2
  have c2b1 : decide (0 ≤ (l0.length : Int)) = true := decide_eq_true c2
  clear c2
  by_cases c3 : ((l0.length : Int) : Int).toNat ≤ 35184372088832
  ·rw [if_pos c3] at H
   have c3b0 := eq_true c3
   have c3b1 : decide (((l0.length : Int) : Int).toNat ≤ 35184372088832) = true := decide_eq_true c3
   clear c3
   obtain ⟨y1062, hy1062⟩ : ∃ y_ : List Int, y_ = (([] : List Int)) := ⟨_, rfl⟩
   replace H : (impl_costs.l0 k y1062 l0 (l0.length : Int) 0) = some r := by first | (rw [hy1062]; with_reducible exact H) | (have H2_ := (Option.bind_some _ _).symm.trans H; rw [hy1062]; with_reducible exact H2_) | (have H2_ := (Option.bind_some _ _).symm.trans H; with_reducible exact H2_) | with_reducible exact H | (rw [hy1062]; exact H) | exact H
   have p7 := Aside0.mk hy1062
   clear hy1062
   have H' := Aside0.mk H
   clear H
   go_enter Try.func137, Try.ntmps137
   go_wp2_with (first | ((with_reducible refine gate_dst (N := 8) rfl ?_); refine Kd.R_make0 (Kd.int .i64) _ 3 rfl (N := 8) rfl 22 _ _ rfl (l0.length : Int) (by first | rfl | (go_simp; done) | (go_simp; rfl)) (by first | rfl | (go_simp; done) | (go_simp; rfl)) Try.underlying22 (.int .i64 0) 8 info3 rfl (by decide) (by omega) 0 (ok := fun _ => True) (okp := fun _ => True) rfl (fun _ hk => hk) trivial (of_decide_eq_true (by first | (with_reducible assumption) | assumption)) (Nat.le_trans (Nat.mul_le_mul_right _ (of_decide_eq_true (by first | (with_reducible assumption) | assumption) : (l0.length : Int).toNat ≤ 35184372088832)) (by omega)) (Below.refl _ _) (Nat.le_refl _) ?_; intro v1063 w4 ho5 hb hg_ hnew_; clear hg_ hnew_; (first | rw [← p7.out] at ho5 | (simp only [Int.reduceToNat] at ho5; rw [← p7.out] at ho5)); have n0_ := Aside0.mk (Kd.R_lower ho5 (below_size HB.out)); have n1_ := Aside0.mk (below_step HB.out hb); clear HB; have HO1064 := n0_; have HB := n1_; clear n0_ n1_; clear hb ho5))
   go_loopg [3, 11] k (fun kq v3 v11 w' => ∃ (x3_1 : List Int) (p0 : Int), v11 = .int .i64 p0 ∧ Aside0 (impl_costs.l0 kq x3_1 l0 (l0.length : Int) p0 = some r) ∧ Aside0 (kq ≤ k) ∧ Aside0 (Kd.R (Kd.int .i64) 3 w' w.heap.size (fun _ => True) v3 x3_1) ∧ Aside0 (Below w.heap.size w w'))
   case atStart => exact ⟨(y1062), (0), (by first | rfl | (simp; done) | (simp [*]; done)), H', ⟨Nat.le_refl _⟩, ⟨by (with_reducible repeat (first | apply Kd.R_alloc | apply Kd.R_drewN | apply Kd.R_drew)); exact HO1064.out⟩, ⟨by repeat (first | (with_reducible first | exact HB.out | apply below_alloc | apply pw_below_drewN | apply below_drew1) | exact HB.out)⟩⟩
   case round =>
    clear H'
    try clear c1
    try clear c2
    try clear c2b0
    try clear c2b1
    try clear p2
    try clear c3
    try clear c3b0
    try clear c3b1
    obtain ⟨x3_1, p0, rfl, HA, HK1, HO_3, HB⟩ := hrel
    cases gk with
    | zero => exact absurd HA.out (by simp [impl_costs.l0])
    | succ k1 =>
     have H := HA.out
     clear HA
     simp only [impl_costs.l0] at H
     by_cases c6 : p0 < (l0.length : Int)
     ·rw [if_pos c6] at H
      have c6b0 : decide (p0 < (l0.length : Int)) = true := decide_eq_true c6
      clear c6
      by_cases c7 : 0 ≤ p0
      ·rw [if_pos c7] at H
       have c7b0 : decide (0 ≤ p0) = true := decide_eq_true c7
       clear c7
       by_cases c8 : p0 < (l0.length : Int)
       ·rw [if_pos c8] at H
        have c8b0 : decide (p0 < (l0.length : Int)) = true := decide_eq_true c8
        clear c8
        by_cases c9 : x3_1.length < 17592186044416
        ·rw [if_pos c9] at H
         have LMc9 := Aside0.mk c9
         clear c9
         obtain ⟨y1067, hy1067⟩ : ∃ y_ : List Int, y_ = (x3_1 ++ [(rd_T143 l0 p0).f0]) := ⟨_, rfl⟩
         replace H : (impl_costs.l0 k1 y1067 l0 (l0.length : Int) (wrap64 (p0 + 1))) = some r := by first | (rw [hy1067]; with_reducible exact H) | (have H2_ := (Option.bind_some _ _).symm.trans H; rw [hy1067]; with_reducible exact H2_) | (have H2_ := (Option.bind_some _ _).symm.trans H; with_reducible exact H2_) | with_reducible exact H | (rw [hy1067]; exact H) | exact H
         have Ny1067 := Aside0.mk hy1067
         clear hy1067
         have H' := Aside0.mk H
         clear H
         have p1065 : 0 ≤ (p0 : Int) := of_decide_eq_true (by first | (with_reducible assumption) | assumption)
         have q1065 : p0 < (l0.length : Int) := of_decide_eq_true (by first | (with_reducible assumption) | assumption)
         obtain ⟨ad1065, e1065, p4, p5⟩ := at_T143 HR0.out p0 p1065 q1065
         cases e1065
         replace p4 := (HB.out.cell (World.block_lt_of_cell? w _ p4)).trans p4
         replace p5 := (HB.out.cell (World.block_lt_of_cell? w _ p5)).trans p5
         replace p1065 := eq_true p1065
         replace q1065 := eq_true q1065
         go_wp2_with (first | ((with_reducible refine gate_dst (N := 5) rfl ?_); refine box_event ?hg (N := 5) ?hd (cs := #[.int .i64 0, .int .i64 0]) (t := 143) ?hr ?_; (case hd => rfl); (case hg => rfl); (case hr => first | (go_simp; done) | (go_simp; rfl)); intro p3 hg w10 hbox hb; have n0_ := Aside0.mk (Kd.R_below HO_3.out hb); have n1_ := Aside0.mk (below_step HB.out hb); have n2_ := Aside0.mk (hbox); have n3_ := Aside0.mk ((by rw [hg]; exact (below_size HB.out) : w.heap.size ≤ p3)); have n4_ := Aside0.mk ((by rw [hg]; exact (below_size HB.out) : w.heap.size ≤ p3)); clear HO_3; clear HB; have HO_3 := n0_; have HB := n1_; have p1 := n2_; have GW1066 := n3_; have p6 := n4_; clear n0_ n1_ n2_ n3_ n4_; clear hb hbox hg; have hcz11_0 : w10.cell? ⟨p3, 0, none⟩ = some (.int .i64 0) := (blk_cell p1.out 0).trans rfl; have hcz11_1 : w10.cell? ⟨p3, 1, none⟩ = some (.int .i64 0) := (blk_cell p1.out 1).trans rfl; have hfz11_0 := blk_frozen p1.out 0; have hfz11_1 := blk_frozen p1.out 1) | ((with_reducible refine gate_builtin (b := .append) (xs := #[.tmp 15, .tmp 18]) rfl ?_); at_builtin; refine Kd.R_append (Kd.int .i64) (w0 := w) w.heap.size rfl (.tmp 15) (.tmp 18) 22 3 (.int .i64 0) 8 rfl Try.underlying22 info3 rfl (by decide) (by omega) u3 x3_1 ((rd_T143 l0 p0).f0) [.int .i64 ((rd_T143 l0 p0).f0)] (fun _ => True) (fun _ => False) rfl (by first | (go_simp; done) | (go_simp; rfl)) ?aP (fun _ hk => hk.elim) ?aF ?aO ?aB ?aS ?aL ?_; (case aP => exact rfl); (case aB => exact (by repeat (first | (with_reducible first | exact HB.out | apply below_alloc | apply pw_below_drewN | apply below_drew1 | refine below_set ?_ p6.out) | exact HB.out))); (case aF => exact (fun _ _ => trivial)); (case aO => exact (Kd.R_mono (Kd.R_far (p := ⟨p3, 1, none⟩) (Kd.R_far (p := ⟨p3, 0, none⟩) (Kd.R_types HO_3.out p1.out (by decide)) (fun _ hk => hk.2) (.int .i64 ((rd_T143 l0 p0).f0))) (fun _ hk => hk.2) (.int .i64 ((rd_T143 l0 p0).f1))) (fun _ hk => trivial))); (case aS => exact (below_size (by repeat (first | (with_reducible first | exact HB.out | apply below_alloc | apply pw_below_drewN | apply below_drew1 | refine below_set ?_ p6.out) | exact HB.out)))); (case aL => have := LMc9.out; omega); intro v1068 w12 ho hb hg hat; rw [← Ny1067.out] at ho; have n0_ := Aside0.mk (blk_grown (g := p3) (o := .cells #[.int .i64 ((rd_T143 l0 p0).f0), .int .i64 ((rd_T143 l0 p0).f1)] 143 (0, 0)) (by (with_reducible repeat (first | refine blk_drewN ?_ _ | refine blk_drew ?_ | refine blk_alloc ?_ _)); refine blk_put (cs := #[.int .i64 ((rd_T143 l0 p0).f0), .int .i64 0]) ?_ 1 _ rfl; (with_reducible repeat (first | refine blk_drewN ?_ _ | refine blk_drew ?_ | refine blk_alloc ?_ _)); refine blk_put (cs := #[.int .i64 0, .int .i64 0]) ?_ 0 _ rfl; (with_reducible repeat (first | refine blk_drewN ?_ _ | refine blk_drew ?_ | refine blk_alloc ?_ _)); exact p1.out) hg (Kd.R_ne HO_3.out p1.out (by decide))); have n1_ := Aside0.mk (hb); have n2_ := Aside0.mk (ho); clear p1; clear HB; clear HO_3; have p1 := n0_; have HB := n1_; have HO1069 := n2_; clear n0_ n1_ n2_; clear ho hb hg hat))
         go_roundg k1
         case measure => have := HK1.out; omega
         case rel => exact ⟨(y1067), (wrap64 (p0 + 1)), (by first | rfl | (simp; done) | (simp [*]; done)), H', ⟨by have := HK1.out; omega⟩, ⟨by (with_reducible repeat (first | apply Kd.R_alloc | apply Kd.R_drewN | apply Kd.R_drew)); exact HO1069.out⟩, ⟨by repeat (first | (with_reducible first | exact HB.out | apply below_alloc | apply pw_below_drewN | apply below_drew1 | refine below_set ?_ p6.out) | exact HB.out)⟩⟩
        ·rw [if_neg c9] at H
         exact absurd H (by simp)
       ·rw [if_neg c8] at H
        exact absurd H (by simp)
      ·rw [if_neg c7] at H
       exact absurd H (by simp)
     ·rw [if_neg c6] at H
      have c6b0 : decide (p0 < (l0.length : Int)) = false := decide_eq_false c6
      clear c6
      obtain rfl := Option.some.inj H
      go_wp2
      go_ret
      exact ⟨_, by first | rfl | (simp [errW_none, errW_some] <;> rfl) | (simp [*, errW_none, errW_some] <;> rfl), by (with_reducible repeat (first | apply Kd.R_alloc | apply Kd.R_drewN | apply Kd.R_drew)); exact HO_3.out, by repeat (first | (with_reducible first | exact HB.out | apply below_alloc | apply pw_below_drewN | apply below_drew1) | exact HB.out)⟩
  ·rw [if_neg c3] at H
   exact absurd H (by simp)
 ·rw [if_neg c2] at H
  exact absurd H (by simp)
end Go.Proofs.Ytmabopomecdidaa.Pr
end
section
namespace Go.Proofs.Ytmabopomecdidaa.Pr
open Go.RowKit Go.Proofs.YtmabopomecdidaaW.PrintWords Go.Proofs.YtmabopomecdidaaW.PrintLast Go.Proofs.YtmabopomecdidaaW.PrintMore
attribute [local go_sem] max2_int min2_int max_two min_two max_three min_three max_four min_four
set_option linter.unusedVariables false
set_option linter.unusedSimpArgs false
def bits_Mul64.f (a0 : Int) (a1 : Int) : Option (Int × Int) := some (IntKind.u64.wrap ((IntKind.u64.wrap ((IntKind.u64.wrap ((a0 / 4294967296) * (a1 / 4294967296))) + ((IntKind.u64.wrap ((IntKind.u64.wrap ((a0 / 4294967296) * (Go.bits .and .u64 a1 4294967295))) + ((IntKind.u64.wrap ((Go.bits .and .u64 a0 4294967295) * (Go.bits .and .u64 a1 4294967295))) / 4294967296))) / 4294967296))) + ((IntKind.u64.wrap ((Go.bits .and .u64 (IntKind.u64.wrap ((IntKind.u64.wrap ((a0 / 4294967296) * (Go.bits .and .u64 a1 4294967295))) + ((IntKind.u64.wrap ((Go.bits .and .u64 a0 4294967295) * (Go.bits .and .u64 a1 4294967295))) / 4294967296))) 4294967295) + (IntKind.u64.wrap ((Go.bits .and .u64 a0 4294967295) * (a1 / 4294967296))))) / 4294967296)), IntKind.u64.wrap (a0 * a1))
set_option maxHeartbeats 8000000 in
set_option maxRecDepth 100000 in
theorem bits_Mul64.calls (a0 : Int) (a1 : Int) (r1 : Int) (r2 : Int) (w : World) (h : bits_Mul64.f a0 a1 = some (r1, r2)) :
  Calls Try.prog 140 #[.int .u64 a0, .int .u64 a1] w fun e w' => e = .returned (.tuple #[.int .u64 r1, .int .u64 r2]) ∧ Drawn0 w w' := by
 have H : (some (IntKind.u64.wrap ((IntKind.u64.wrap ((IntKind.u64.wrap ((a0 / 4294967296) * (a1 / 4294967296))) + ((IntKind.u64.wrap ((IntKind.u64.wrap ((a0 / 4294967296) * (Go.bits .and .u64 a1 4294967295))) + ((IntKind.u64.wrap ((Go.bits .and .u64 a0 4294967295) * (Go.bits .and .u64 a1 4294967295))) / 4294967296))) / 4294967296))) + ((IntKind.u64.wrap ((Go.bits .and .u64 (IntKind.u64.wrap ((IntKind.u64.wrap ((a0 / 4294967296) * (Go.bits .and .u64 a1 4294967295))) + ((IntKind.u64.wrap ((Go.bits .and .u64 a0 4294967295) * (Go.bits .and .u64 a1 4294967295))) / 4294967296))) 4294967295) + (IntKind.u64.wrap ((Go.bits .and .u64 a0 4294967295) * (a1 / 4294967296))))) / 4294967296)), IntKind.u64.wrap (a0 * a1))) = some (r1, r2) := h
 clear h
 simp only [Option.some.injEq, Prod.mk.injEq] at H
 obtain ⟨rfl, rfl⟩ := H
 go_enter Try.func140, Try.ntmps140
 go_wp2
 go_ret2
 exact ⟨by first | rfl | (simp; done) | (simp [*]; done), by repeat (first | exact Drawn0.refl _ | apply Drawn0.step)⟩
end Go.Proofs.Ytmabopomecdidaa.Pr
end
section
namespace Go.Proofs.Ytmabopomecdidaa.Pr
open Go.RowKit Go.Proofs.YtmabopomecdidaaW.PrintWords Go.Proofs.YtmabopomecdidaaW.PrintLast Go.Proofs.YtmabopomecdidaaW.PrintMore
attribute [local go_sem] max2_int min2_int max_two min_two max_three min_three max_four min_four
set_option linter.unusedVariables false
set_option linter.unusedSimpArgs false
def bits_Mul.f (a0 : Int) (a1 : Int) : Option (Int × Int) := (bits_Mul64.f a0 a1).bind fun bt1044 => (some (bt1044.1, bt1044.2))
set_option maxHeartbeats 8000000 in
set_option maxRecDepth 100000 in
theorem bits_Mul.calls (a0 : Int) (a1 : Int) (r1 : Int) (r2 : Int) (w : World) (h : bits_Mul.f a0 a1 = some (r1, r2)) :
  Calls Try.prog 135 #[.int .u64 a0, .int .u64 a1] w fun e w' => e = .returned (.tuple #[.int .u64 r1, .int .u64 r2]) ∧ Drawn0 w w' := by
 have H : ((bits_Mul64.f a0 a1).bind fun bt1044 => (some (bt1044.1, bt1044.2))) = some (r1, r2) := h
 clear h
 replace H := Option.bind_eq_some_iff.mp H
 obtain ⟨⟨t1044, t1045⟩, A30, H⟩ := H
 replace H : (some (t1044, t1045)) = some (r1, r2) := H
 have A3 := Aside0.mk A30
 clear A30
 simp only [Option.some.injEq, Prod.mk.injEq] at H
 obtain ⟨rfl, rfl⟩ := H
 go_enter Try.func135, Try.ntmps135
 go_wp2_with (first | ((with_reducible refine gate_callee (f := 140) rfl ?_); refine goesL_ (some 25) rfl rfl Try.func140 (by kernel_rfl) rfl #[.int .u64 a0, .int .u64 a1] rfl (by (try simp only [List.map_toArray, List.map_cons, List.map_nil]); first | done | rfl | (simp only [List.length_drop, List.length_take]; rfl)) ?_; (with_reducible refine (bits_Mul64.calls a0 a1 t1044 t1045 _ A3.out).mono ?_); rintro e w' ⟨rfl, ⟨nd, rfl⟩⟩; refine ⟨_, rfl, ?_⟩))
 go_ret2
 exact ⟨by first | rfl | (simp; done) | (simp [*]; done), by repeat (first | exact Drawn0.refl _ | apply Drawn0.step)⟩
end Go.Proofs.Ytmabopomecdidaa.Pr
end
section
namespace Go.Proofs.Ytmabopomecdidaa.Pr
open Go.RowKit Go.Proofs.YtmabopomecdidaaW.PrintWords Go.Proofs.YtmabopomecdidaaW.PrintLast Go.Proofs.YtmabopomecdidaaW.PrintMore
attribute [local go_sem] max2_int min2_int max_two min_two max_three min_three max_four min_four
set_option linter.unusedVariables false
set_option linter.unusedSimpArgs false
def impl_measure.f (l0 : List S143) (a1 : Int) : Option (List S143) := if l0.length = 1 then if 0 ≤ a1 then if a1 ≤ 64 then some (List.replicate a1.toNat (l0.getD 0 z143)) else none else none else none
theorem mul1_141 : ∀ n : Fin 65, bits_Mul.f 1 ((n.val : Nat) : Int) = some (0, ((n.val : Nat) : Int)) := by decide +kernel
set_option maxHeartbeats 4000000 in
set_option maxRecDepth 100000 in
theorem rep141 (N : Nat) (hN : N ≤ 64) (x : S143) (A0 : Option Addr) (c0 : Nat) (w : World) (hr0 : Kd.C k143 w A0 1 [x]) (hc0 : 1 ≤ c0) :
  Calls Try.prog 141 #[.slice A0 1 c0, .int .i64 (N : Int)] w fun e w' => ∃ v0_, e = .returned v0_ ∧ Kd.R k143 143 w' w.heap.size (fun _ => True) v0_ (List.replicate N x) ∧ Below w.heap.size w w' := by
 obtain ⟨ad, c, hA, hcl, hK, hcc⟩ := Kd.C_get hr0 x 0 (by omega) (by omega)
 obtain rfl : c = [.int .i64 x.f0, .int .i64 x.f1] := k143_open hK
 subst hA
 replace hcc : ∀ j u, ([.int .i64 x.f0, .int .i64 x.f1] : List Value)[j]? = some u → w.cell? (ad.add j) = some u := fun j u h => by have := hcc j u h; simpa using this
 have hblk : ad.block < w.heap.size := by
  have := World.block_lt_of_cell? w _ (hcc 0 _ rfl)
  simpa [Addr.add] using this
 clear hr0 hcl
 try clear hK
 have HCC := Aside0.mk hcc
 have HBL := Aside0.mk hblk
 clear hcc hblk
 obtain ⟨i0, hi0, hz0, hsz, hby⟩ := info_parts (P := Try.prog) (e := 143) (z := (.agg #[.int .i64 0, .int .i64 0])) (size := 2) (bytes := 16) (by kernel_rfl)
 have hmk : ∀ W : World, (Instr.makeSlice 134 (.int .i64 (N : Int)) (.int .i64 (N : Int))).run Try.prog W = .ok (.slice (some ⟨W.heap.size, 0, none⟩) N N) (W.alloc (.cells (madeCells #[.int .i64 0, .int .i64 0] (N * 2)) 143)) := by
  intro W
  have := run_make (P := Try.prog) W 134 143 i0 (.agg #[.int .i64 0, .int .i64 0]) Try.underlying134 hi0 hz0 .i64 .i64 (N : Int) (N : Int) (by omega) (Int.le_refl _) (by rw [hby]; omega) (by omega)
  rw [hsz] at this
  exact this
 have hmul := fun (W : World) => bits_Mul.calls 1 (N : Int) 0 (N : Int) W (mul1_141 ⟨N, by omega⟩)
 have HMK := Aside0.mk hmk
 have HI := Aside0.mk hi0
 have HSZ := Aside0.mk hsz
 clear hmk hi0 hz0 hsz hby
 have hN1 : (N : Int) ≤ 64 := by omega
 have hN0 : (0 : Int) ≤ N := by omega
 have hN2 : ((N : Int) < 0) = False := eq_false (by omega)
 have hN3 : decide ((9223372036854775807 : Int) < (N : Int)) = false := decide_eq_false (by omega)
 obtain ⟨n0, hn0⟩ : ∃ n0, n0 = if N = 0 then 0 else 1 := ⟨_, rfl⟩
 obtain ⟨cs0, hcs0⟩ : ∃ cs0 : List Value, cs0 = if N = 0 then [] else [.int .i64 x.f0, .int .i64 x.f1] := ⟨_, rfl⟩
 have HN0 := Aside0.mk hn0
 have HCS := Aside0.mk hcs0
 clear hn0 hcs0
 have HN := Aside0.mk hN
 clear hN
 go_enter Try.func141, Try.ntmps141
 go_wp2_with (first | (go_at_call 135; (with_reducible refine (hmul _).mono ?_); rintro e w1 ⟨rfl, ⟨nd, rfl⟩⟩) | ((with_reducible refine gate_dst (N := 30) rfl ?_); refine make_event rfl (n := N) (cs := madeCells #[.int .i64 0, .int .i64 0] (N * 2)) (t := 143) (by have hmk := HMK.out; first | (go_simp; done) | (go_simp; rfl)) ?_; intro g hg w2 hblk hb; have B0 := Aside0.mk (below_step (pw_below_drewN (Below.refl _ _) nd) hb); have G0 := Aside0.mk (show w.heap.size ≤ g by rw [hg]; exact Nat.le_refl _); have K0 := Aside0.mk hblk; clear hg hblk hb) | ((with_reducible refine gate_builtin (b := .copy) (xs := #[.tmp 31, .tmp 32]) rfl ?_); refine copy_event rfl 2 (.tmp 31) (.tmp 32) 134 134 rfl 143 Try.underlying134 (by kernel_rfl) (some ⟨g, 0, none⟩) (some ad) N N 1 c0 rfl rfl g 0 _ _ K0.out cs0 n0 ?cpk ?cpn ?cpp ?cpf ?cpo (by decide) ?_; (case cpk => rw [HN0.out]; by_cases h0 : N = 0; (rw [if_pos h0, h0]; rfl); (rw [if_neg h0]; exact Nat.min_eq_left (by omega))); (case cpn => rw [HN0.out, HCS.out]; by_cases h0 : N = 0; (rw [if_pos h0, if_pos h0]; rfl); (rw [if_neg h0, if_neg h0]; rfl)); (case cpp => intro hp; refine ⟨rfl, ad, rfl, fun j v hj => ?_⟩; rw [HCS.out] at hj; by_cases hz : N = 0; (rw [if_pos hz] at hj; simp at hj); (rw [if_neg hz] at hj; exact pw_cell_below B0.out (HCC.out j v hj))); (case cpf => rw [size_madeCells, HCS.out]; by_cases h0 : N = 0; (rw [if_pos h0]; simp); (rw [if_neg h0]; simp; omega)); (case cpo => intro v hv; rw [HCS.out] at hv; by_cases h0 : N = 0; (rw [if_pos h0] at hv; simp at hv); (rw [if_neg h0] at hv; simp only [List.mem_cons, List.not_mem_nil, or_false] at hv; first | (subst hv; rfl) | (rcases hv with rfl | rfl <;> rfl))); intro w3 hc hg3; have K1 := Aside0.mk hc; have B1 := Aside0.mk (pw_below_grown B0.out _ (B0.out.size) hg3 (fun k hk => by obtain rfl : g = k := Option.some.inj hk; exact G0.out)); clear hc hg3 K0 B0))
 have K2 : Aside0 (∃ cur, w3.heap[g]? = some (.cells cur 143 (0, 0)) ∧ cur.size = N * 2 ∧ cur.toList.take (n0 * 2) = (madeCells #[.int .i64 x.f0, .int .i64 x.f1] (n0 * 2)).toList) := by
  obtain ⟨cur, h1, h2, h3⟩ := K1.out
  refine ⟨⟨cur, h1, by rw [h2, size_madeCells], ?_⟩⟩
  rw [h3, HCS.out, HN0.out]
  by_cases h0 : N = 0
  ·rw [if_pos h0]; simp [madeCells]
  ·rw [if_neg h0, if_neg h0]; simp [madeCells]; try rfl
 clear K1
 have HS : Aside0 (n0 ≤ N ∧ (0 < N → 1 ≤ n0)) := ⟨by rw [HN0.out]; split <;> omega⟩
 go_loopg [8] N (fun gg v8 wr => ∃ n : Nat, v8 = .int .i64 (n : Int) ∧ Aside0 (n ≤ N ∧ (0 < N → 1 ≤ n)) ∧ Aside0 (∃ cur, wr.heap[g]? = some (.cells cur 143 (0, 0)) ∧ cur.size = N * 2 ∧ cur.toList.take (n * 2) = (madeCells #[.int .i64 x.f0, .int .i64 x.f1] (n * 2)).toList) ∧ Aside0 (Below w.heap.size w wr) ∧ Aside0 (N - n ≤ gg))
 case atStart => exact ⟨n0, rfl, HS, K2, B1, ⟨by omega⟩⟩
 case round =>
  clear HS K2 B1
  obtain ⟨n, rfl, HS, K2, B1, HG⟩ := hrel
  by_cases hlt : n < N
  ·have c1 : decide ((n : Int) < (N : Int)) = true := decide_eq_true (by omega)
   have c2 : decide (n < N) = true := decide_eq_true hlt
   obtain ⟨cur, hb, hs, ht⟩ := K2.out
   obtain ⟨m, hm⟩ : ∃ m, Nat.min n (N - n) = m := ⟨_, rfl⟩
   have hm1 : m ≤ n ∧ m ≤ N - n := by rw [← hm]; exact ⟨Nat.min_le_left _ _, Nat.min_le_right _ _⟩
   have hm2 : 1 ≤ m := by
    have := HS.out.2 (by omega)
    rw [← hm]
    exact Nat.le_min.2 ⟨this, by omega⟩
   have hmn : m * 2 ≤ n * 2 := Nat.mul_le_mul_right _ hm1.1
   have h1 : cur.toList.take (m * 2) = (madeCells #[.int .i64 x.f0, .int .i64 x.f1] (m * 2)).toList := by
    rw [← made_take #[.int .i64 x.f0, .int .i64 x.f1] (m * 2) (n * 2) hmn, ← ht, List.take_take, Nat.min_eq_left hmn]
   have HSRC : Aside0 (∀ W : World, W.heap[g]? = some (.cells cur 143 (0, 0)) → ∀ j v, (madeCells #[.int .i64 x.f0, .int .i64 x.f1] (m * 2)).toList[j]? = some v → W.cell? ((⟨g, 0, none⟩ : Addr).add j) = some v) := ⟨by
    intro W hW j v hj
    rw [add_plain, blk_cell hW j, ← Array.getElem?_toList]
    rw [← h1, List.getElem?_take] at hj
    split at hj
    ·exact hj
    ·cases hj⟩
   have HLEN : Aside0 ((madeCells #[.int .i64 x.f0, .int .i64 x.f1] (m * 2)).toList.length = m * 2) := ⟨by rw [Array.length_toList, size_madeCells]⟩
   have HFIT : Aside0 (n * 2 + (madeCells #[.int .i64 x.f0, .int .i64 x.f1] (m * 2)).toList.length ≤ cur.size) := ⟨by rw [HLEN.out, hs]; omega⟩
   have HONE : Aside0 (∀ v ∈ (madeCells #[.int .i64 x.f0, .int .i64 x.f1] (m * 2)).toList, v.oneCell' = true) := ⟨by
    intro v hv
    have h := made_mem #[.int .i64 x.f0, .int .i64 x.f1] (m * 2) (by simp) v hv
    simp only [List.mem_cons, List.not_mem_nil, or_false] at h
    first | (subst h; rfl) | (rcases h with rfl | rfl <;> rfl)⟩
   have hcut1 : ∀ W : World, (Instr.slice 134 (.slice (some ⟨g, 0, none⟩) N N) (some (.int .i64 (n : Int))) none none).run Try.prog W = .ok (.slice (some ⟨g, n * 2, none⟩) (N - n) (N - n)) W := by
    intro W
    have h := cut_from (P := Try.prog) 134 143 .i64 Try.underlying134 HI.out 2 HSZ.out (some ⟨g, 0, none⟩) N N (n : Int) (by omega) (by omega) W
    simp only [Int.toNat_natCast, Option.map_some, add_plain] at h
    rw [if_neg (by omega)] at h
    exact h
   have hcut2 : ∀ W : World, (Instr.slice 134 (.slice (some ⟨g, 0, none⟩) N N) none (some (.int .i64 (n : Int))) none).run Try.prog W = .ok (.slice (some ⟨g, 0, none⟩) n N) W := by
    have h := cut_to (P := Try.prog) 134 143 .i64 Try.underlying134 HI.out (some ⟨g, 0, none⟩) N N (n : Int) (by omega) (by omega) (Nat.le_refl _)
    simpa only [Int.toNat_natCast] using h
   have hw : IntKind.i64.wrap ((n : Int) + (m : Int)) = (n : Int) + (m : Int) := by
    have := HN.out
    rw [i64_w, wrap64]; omega
   have HB := Aside0.mk hb
   have HM := Aside0.mk hm
   have HST := Aside0.mk (And.intro hs (And.intro ht (And.intro hm1 (And.intro hm2 hlt))))
   clear hb hs ht hm hm1 hm2 hmn h1 hlt
   go_wp2
   go_region_law (refine copy_step rfl 2 (.tmp 41) (.tmp 44) 134 134 ?cpo 143 Try.underlying134 (by kernel_rfl) (some ⟨g, n * 2, none⟩) (some ⟨g, 0, none⟩) (N - n) (N - n) n N ?cpd ?cps g (n * 2) cur 143 HB.out (madeCells #[.int .i64 x.f0, .int .i64 x.f1] (m * 2)).toList m HM.out HLEN.out (fun _ => ⟨rfl, _, rfl, HSRC.out _ HB.out⟩) HFIT.out HONE.out (by decide) ?_; (case cpo => rfl); (case cpd => go_simp); (case cps => go_simp); intro w4 hc hg4)
   have K3 : Aside0 (∃ cur', w4.heap[g]? = some (.cells cur' 143 (0, 0)) ∧ cur'.size = N * 2 ∧ cur'.toList.take ((n + m) * 2) = (madeCells #[.int .i64 x.f0, .int .i64 x.f1] ((n + m) * 2)).toList) := by
    obtain ⟨cur', e1, e2, e3⟩ := hc
    obtain ⟨s1, s2, s3, s4, s5⟩ := HST.out
    refine ⟨⟨cur', e1, by rw [e2, s1], ?_⟩⟩
    have hl : (cur.toList.take (n * 2)).length = n * 2 := by rw [s2, Array.length_toList, size_madeCells]
    have e4 : (n + m) * 2 = (cur.toList.take (n * 2) ++ (madeCells #[.int .i64 x.f0, .int .i64 x.f1] (m * 2)).toList).length := by rw [List.length_append, hl, HLEN.out, Nat.add_mul]
    have e5 : cur'.toList.take ((n + m) * 2) = cur.toList.take (n * 2) ++ (madeCells #[.int .i64 x.f0, .int .i64 x.f1] (m * 2)).toList := by
     rw [e3, e4, List.take_left]
    rw [e5, s2]
    exact made_append #[.int .i64 x.f0, .int .i64 x.f1] 2 n m (by simp)
   have B3 : Aside0 (Below w.heap.size w w4) := ⟨pw_below_grown B1.out.drew _ (B1.out.size) hg4 (fun k hk => by obtain rfl : g = k := Option.some.inj hk; exact G0.out)⟩
   have HS3 : Aside0 (n + m ≤ N ∧ (0 < N → 1 ≤ n + m) ∧ n + m ≤ n + m ∧ 1 ≤ m) := ⟨by
    obtain ⟨s1, s2, s3, s4, s5⟩ := HST.out
    exact ⟨by omega, fun _ => by omega, Nat.le_refl _, s4⟩⟩
   have HG3 : Aside0 (N - (n + m) ≤ N - (n + m)) := ⟨Nat.le_refl _⟩
   clear hc hg4
   go_wp2
   go_roundg (N - (n + m))
   case measure => have h1 := HG.out; have h2 := HS3.out; omega
   case rel => exact ⟨n + m, by first | (simp only [hw]; done) | (simp only [hw, Int.natCast_add]; done) | (rw [hw]; rfl), ⟨HS3.out.1, HS3.out.2.1⟩, K3, B3, HG3⟩
  ·have c1 : decide ((n : Int) < (N : Int)) = false := decide_eq_false (by omega)
   have c2 : decide (n < N) = false := decide_eq_false hlt
   have hnN : n = N := by have := HS.out.1; omega
   subst hnN
   have c3 : decide (n < n) = false := decide_eq_false (by omega)
   go_wp2
   go_ret
   obtain ⟨cur, hb, hs, ht⟩ := K2.out
   refine ⟨_, rfl, ⟨fun _ _ => trivial, (madeCells #[.int .i64 x.f0, .int .i64 x.f1] (n * 2)).toList, ⟨by rw [Array.length_toList, size_madeCells, List.length_replicate]; rfl, .inr ⟨g, n, cur, by first | (rw [List.length_replicate]; done) | (rw [List.length_replicate]; rfl), G0.out, hb, by rw [List.length_replicate]; exact Nat.le_refl _, by have := HN.out; simp only [maxLen]; omega, Nat.le_of_eq hs.symm, by rw [List.length_replicate]; exact ht⟩⟩, ?_⟩, B1.out⟩
   exact Kd.reps_made (R := k143.M _ _ _) (z0 := x) (z := (.agg #[.int .i64 x.f0, .int .i64 x.f1])) (size := 2) rfl (by decide) (k143_mkM _ _ _ x) n
theorem impl_measure.calls (A0 : Option Addr) (c0 : Nat) (l0 : List S143) (a1 : Int) (r : List S143) (w : World) (hr0 : Kd.C k143 w A0 l0.length l0) (hc0 : l0.length ≤ c0) (h : impl_measure.f l0 a1 = some r) :
  Calls Try.prog 141 #[.slice A0 l0.length c0, .int .i64 a1] w fun e w' => ∃ v0_, e = .returned v0_ ∧ Kd.R k143 143 w' w.heap.size (fun _ => True) v0_ r ∧ Below w.heap.size w w' := by
 unfold impl_measure.f at h
 by_cases h1 : l0.length = 1
 ·rw [if_pos h1] at h
  by_cases h2 : 0 ≤ a1
  ·rw [if_pos h2] at h
   by_cases h3 : a1 ≤ 64
   ·rw [if_pos h3] at h
    obtain rfl := Option.some.inj h
    obtain ⟨x, rfl⟩ := List.length_eq_one_iff.1 h1
    obtain ⟨N, rfl⟩ := Int.eq_ofNat_of_zero_le h2
    exact rep141 N (by omega) x A0 c0 w hr0 hc0
   ·rw [if_neg h3] at h; cases h
  ·rw [if_neg h2] at h; cases h
 ·rw [if_neg h1] at h; cases h
theorem rep_measure (x : S143) (n : Nat) (h : n ≤ 64) : impl_measure.f [x] (n : Int) = some (List.replicate n x) := by
 unfold impl_measure.f
 rw [if_pos (show ([x] : List _).length = 1 from rfl), if_pos (by omega), if_pos (by omega)]
 simp
end Go.Proofs.Ytmabopomecdidaa.Pr
end
section
namespace Go.Proofs.Ytmabopomecdidaa.Pr
open Go.RowKit Go.Proofs.YtmabopomecdidaaW.PrintWords Go.Proofs.YtmabopomecdidaaW.PrintLast Go.Proofs.YtmabopomecdidaaW.PrintMore
attribute [local go_sem] max2_int min2_int max_two min_two max_three min_three max_four min_four
set_option linter.unusedVariables false
set_option linter.unusedSimpArgs false
def impl_measure_less.f (a0_0 : Int) (a0_1 : Int) (a1_0 : Int) (a1_1 : Int) : Option (Bool) := if a0_0 < a1_0 then (some true) else (if a0_0 = a1_0 then (some (decide (a0_1 < a1_1))) else (some false))
set_option maxHeartbeats 8000000 in
set_option maxRecDepth 100000 in
theorem impl_measure_less.calls (a0_0 : Int) (a0_1 : Int) (a1_0 : Int) (a1_1 : Int) (r : Bool) (w : World) (h : impl_measure_less.f a0_0 a0_1 a1_0 a1_1 = some r) :
  Calls Try.prog 142 #[.agg #[.int .i64 a0_0, .int .i64 a0_1], .agg #[.int .i64 a1_0, .int .i64 a1_1]] w fun e w' => e = .returned (.bool r) ∧ Below w.heap.size w w' := by
 have hu143 := Try.underlying143
 have HB := Aside0.mk (Below.refl w.heap.size w)
 have H : (if a0_0 < a1_0 then (some true) else (if a0_0 = a1_0 then (some (decide (a0_1 < a1_1))) else (some false))) = some r := h
 clear h
 by_cases c3 : a0_0 < a1_0
 ·rw [if_pos c3] at H
  have c3b0 : decide (a0_0 < a1_0) = true := decide_eq_true c3
  clear c3
  obtain rfl := Option.some.inj H
  go_enter Try.func142, Try.ntmps142
  go_wp2_with (first | ((with_reducible refine gate_dst (N := 2) rfl ?_); refine box_event ?hg (N := 2) ?hd (cs := #[.int .i64 a0_0, .int .i64 a0_1]) (t := 143) ?hr ?_; (case hd => rfl); (case hg => rfl); (case hr => first | (go_simp; done) | (go_simp; rfl)); intro p0 hg w4 hbox hb; have n0_ := Aside0.mk (below_step HB.out hb); have n1_ := Aside0.mk (hbox); have n2_ := Aside0.mk ((by rw [hg]; exact (below_size HB.out) : w.heap.size ≤ p0)); have n3_ := Aside0.mk ((by rw [hg]; exact (below_size HB.out) : w.heap.size ≤ p0)); clear HB; have HB := n0_; have p1 := n1_; have p8 := n2_; have p6 := n3_; clear n0_ n1_ n2_ n3_; clear hb hbox hg) | ((with_reducible refine gate_dst (N := 3) rfl ?_); refine box_event ?hg (N := 3) ?hd (cs := #[.int .i64 a1_0, .int .i64 a1_1]) (t := 143) ?hr ?_; (case hd => rfl); (case hg => rfl); (case hr => first | (go_simp; done) | (go_simp; rfl)); intro p2 hg w5 hbox hb; have n0_ := Aside0.mk (blk_below (g := p0) (o := .cells #[.int .i64 a0_0, .int .i64 a0_1] 143 (0, 0)) p1.out hb); have n1_ := Aside0.mk (below_step HB.out hb); have n2_ := Aside0.mk (hbox); have n3_ := Aside0.mk ((by rw [hg]; exact (below_size HB.out) : w.heap.size ≤ p2)); have n4_ := Aside0.mk ((by rw [hg]; exact (below_size HB.out) : w.heap.size ≤ p2)); have n5_ := Aside0.mk ((by rw [hg]; exact Nat.ne_of_lt (blk_lt (g := p0) (o := .cells #[.int .i64 a0_0, .int .i64 a0_1] 143 (0, 0)) p1.out) : p0 ≠ p2)); have n6_ := Aside0.mk ((by rw [hg]; exact Nat.ne_of_gt (blk_lt (g := p0) (o := .cells #[.int .i64 a0_0, .int .i64 a0_1] 143 (0, 0)) p1.out) : p2 ≠ p0)); clear p1; clear HB; have p1 := n0_; have HB := n1_; have p3 := n2_; have p9 := n3_; have p7 := n4_; have p4 := n5_; have p5 := n6_; clear n0_ n1_ n2_ n3_ n4_ n5_ n6_; clear hb hbox hg; have hnb6 := p4.out; have hnc6 := p5.out; have hcz7_0 : w5.cell? ⟨p0, 0, none⟩ = some (.int .i64 a0_0) := (blk_cell p1.out 0).trans rfl; have hcz7_1 : w5.cell? ⟨p0, 1, none⟩ = some (.int .i64 a0_1) := (blk_cell p1.out 1).trans rfl; have hfz7_0 := blk_frozen p1.out 0; have hfz7_1 := blk_frozen p1.out 1; have hcz8_0 : w5.cell? ⟨p2, 0, none⟩ = some (.int .i64 a1_0) := (blk_cell p3.out 0).trans rfl; have hcz8_1 : w5.cell? ⟨p2, 1, none⟩ = some (.int .i64 a1_1) := (blk_cell p3.out 1).trans rfl; have hfz8_0 := blk_frozen p3.out 0; have hfz8_1 := blk_frozen p3.out 1))
  go_ret
  exact ⟨by first | rfl | (simp [errW_none, errW_some] <;> rfl) | (simp [*, errW_none, errW_some] <;> rfl), by repeat (first | (with_reducible first | exact HB.out | apply below_alloc | apply pw_below_drewN | apply below_drew1 | refine below_set ?_ p6.out | refine below_set ?_ p7.out) | exact HB.out)⟩
 ·rw [if_neg c3] at H
  have c3b0 : decide (a0_0 < a1_0) = false := decide_eq_false c3
  clear c3
  by_cases c9 : a0_0 = a1_0
  ·rw [if_pos c9] at H
   have c9b0 : (a0_0 == a1_0) = true := beq_iff_eq.mpr c9
   have c9b1 : (a0_0 != a1_0) = false := bne_eq_false_iff_eq.mpr c9
   clear c9
   obtain rfl := Option.some.inj H
   go_enter Try.func142, Try.ntmps142
   go_wp2_with (first | ((with_reducible refine gate_dst (N := 2) rfl ?_); refine box_event ?hg (N := 2) ?hd (cs := #[.int .i64 a0_0, .int .i64 a0_1]) (t := 143) ?hr ?_; (case hd => rfl); (case hg => rfl); (case hr => first | (go_simp; done) | (go_simp; rfl)); intro p0 hg w10 hbox hb; have n0_ := Aside0.mk (below_step HB.out hb); have n1_ := Aside0.mk (hbox); have n2_ := Aside0.mk ((by rw [hg]; exact (below_size HB.out) : w.heap.size ≤ p0)); have n3_ := Aside0.mk ((by rw [hg]; exact (below_size HB.out) : w.heap.size ≤ p0)); clear HB; have HB := n0_; have p1 := n1_; have p8 := n2_; have p6 := n3_; clear n0_ n1_ n2_ n3_; clear hb hbox hg) | ((with_reducible refine gate_dst (N := 3) rfl ?_); refine box_event ?hg (N := 3) ?hd (cs := #[.int .i64 a1_0, .int .i64 a1_1]) (t := 143) ?hr ?_; (case hd => rfl); (case hg => rfl); (case hr => first | (go_simp; done) | (go_simp; rfl)); intro p2 hg w11 hbox hb; have n0_ := Aside0.mk (blk_below (g := p0) (o := .cells #[.int .i64 a0_0, .int .i64 a0_1] 143 (0, 0)) p1.out hb); have n1_ := Aside0.mk (below_step HB.out hb); have n2_ := Aside0.mk (hbox); have n3_ := Aside0.mk ((by rw [hg]; exact (below_size HB.out) : w.heap.size ≤ p2)); have n4_ := Aside0.mk ((by rw [hg]; exact (below_size HB.out) : w.heap.size ≤ p2)); have n5_ := Aside0.mk ((by rw [hg]; exact Nat.ne_of_lt (blk_lt (g := p0) (o := .cells #[.int .i64 a0_0, .int .i64 a0_1] 143 (0, 0)) p1.out) : p0 ≠ p2)); have n6_ := Aside0.mk ((by rw [hg]; exact Nat.ne_of_gt (blk_lt (g := p0) (o := .cells #[.int .i64 a0_0, .int .i64 a0_1] 143 (0, 0)) p1.out) : p2 ≠ p0)); clear p1; clear HB; have p1 := n0_; have HB := n1_; have p3 := n2_; have p9 := n3_; have p7 := n4_; have p4 := n5_; have p5 := n6_; clear n0_ n1_ n2_ n3_ n4_ n5_ n6_; clear hb hbox hg; have hnb12 := p4.out; have hnc12 := p5.out; have hcz13_0 : w11.cell? ⟨p0, 0, none⟩ = some (.int .i64 a0_0) := (blk_cell p1.out 0).trans rfl; have hcz13_1 : w11.cell? ⟨p0, 1, none⟩ = some (.int .i64 a0_1) := (blk_cell p1.out 1).trans rfl; have hfz13_0 := blk_frozen p1.out 0; have hfz13_1 := blk_frozen p1.out 1; have hcz14_0 : w11.cell? ⟨p2, 0, none⟩ = some (.int .i64 a1_0) := (blk_cell p3.out 0).trans rfl; have hcz14_1 : w11.cell? ⟨p2, 1, none⟩ = some (.int .i64 a1_1) := (blk_cell p3.out 1).trans rfl; have hfz14_0 := blk_frozen p3.out 0; have hfz14_1 := blk_frozen p3.out 1))
   go_ret
   exact ⟨by first | rfl | (simp [errW_none, errW_some] <;> rfl) | (simp [*, errW_none, errW_some] <;> rfl), by repeat (first | (with_reducible first | exact HB.out | apply below_alloc | apply pw_below_drewN | apply below_drew1 | refine below_set ?_ p6.out | refine below_set ?_ p7.out) | exact HB.out)⟩
  ·rw [if_neg c9] at H
   have c9b0 : (a0_0 == a1_0) = false := beq_eq_false_iff_ne.mpr c9
   have c9b1 : (a0_0 != a1_0) = true := bne_iff_ne.mpr c9
   obtain rfl := Option.some.inj H
   go_enter Try.func142, Try.ntmps142
   go_wp2_with (first | ((with_reducible refine gate_dst (N := 2) rfl ?_); refine box_event ?hg (N := 2) ?hd (cs := #[.int .i64 a0_0, .int .i64 a0_1]) (t := 143) ?hr ?_; (case hd => rfl); (case hg => rfl); (case hr => first | (go_simp; done) | (go_simp; rfl)); intro p0 hg w15 hbox hb; have n0_ := Aside0.mk (below_step HB.out hb); have n1_ := Aside0.mk (hbox); have n2_ := Aside0.mk ((by rw [hg]; exact (below_size HB.out) : w.heap.size ≤ p0)); have n3_ := Aside0.mk ((by rw [hg]; exact (below_size HB.out) : w.heap.size ≤ p0)); clear HB; have HB := n0_; have p1 := n1_; have p8 := n2_; have p6 := n3_; clear n0_ n1_ n2_ n3_; clear hb hbox hg) | ((with_reducible refine gate_dst (N := 3) rfl ?_); refine box_event ?hg (N := 3) ?hd (cs := #[.int .i64 a1_0, .int .i64 a1_1]) (t := 143) ?hr ?_; (case hd => rfl); (case hg => rfl); (case hr => first | (go_simp; done) | (go_simp; rfl)); intro p2 hg w16 hbox hb; have n0_ := Aside0.mk (blk_below (g := p0) (o := .cells #[.int .i64 a0_0, .int .i64 a0_1] 143 (0, 0)) p1.out hb); have n1_ := Aside0.mk (below_step HB.out hb); have n2_ := Aside0.mk (hbox); have n3_ := Aside0.mk ((by rw [hg]; exact (below_size HB.out) : w.heap.size ≤ p2)); have n4_ := Aside0.mk ((by rw [hg]; exact (below_size HB.out) : w.heap.size ≤ p2)); have n5_ := Aside0.mk ((by rw [hg]; exact Nat.ne_of_lt (blk_lt (g := p0) (o := .cells #[.int .i64 a0_0, .int .i64 a0_1] 143 (0, 0)) p1.out) : p0 ≠ p2)); have n6_ := Aside0.mk ((by rw [hg]; exact Nat.ne_of_gt (blk_lt (g := p0) (o := .cells #[.int .i64 a0_0, .int .i64 a0_1] 143 (0, 0)) p1.out) : p2 ≠ p0)); clear p1; clear HB; have p1 := n0_; have HB := n1_; have p3 := n2_; have p9 := n3_; have p7 := n4_; have p4 := n5_; have p5 := n6_; clear n0_ n1_ n2_ n3_ n4_ n5_ n6_; clear hb hbox hg; have hnb17 := p4.out; have hnc17 := p5.out; have hcz18_0 : w16.cell? ⟨p0, 0, none⟩ = some (.int .i64 a0_0) := (blk_cell p1.out 0).trans rfl; have hcz18_1 : w16.cell? ⟨p0, 1, none⟩ = some (.int .i64 a0_1) := (blk_cell p1.out 1).trans rfl; have hfz18_0 := blk_frozen p1.out 0; have hfz18_1 := blk_frozen p1.out 1; have hcz19_0 : w16.cell? ⟨p2, 0, none⟩ = some (.int .i64 a1_0) := (blk_cell p3.out 0).trans rfl; have hcz19_1 : w16.cell? ⟨p2, 1, none⟩ = some (.int .i64 a1_1) := (blk_cell p3.out 1).trans rfl; have hfz19_0 := blk_frozen p3.out 0; have hfz19_1 := blk_frozen p3.out 1))
   go_ret
   exact ⟨by first | rfl | (simp [errW_none, errW_some] <;> rfl) | (simp [*, errW_none, errW_some] <;> rfl), by repeat (first | (with_reducible first | exact HB.out | apply below_alloc | apply pw_below_drewN | apply below_drew1 | refine below_set ?_ p6.out | refine below_set ?_ p7.out) | exact HB.out)⟩
end Go.Proofs.Ytmabopomecdidaa.Pr
end
section
namespace Go.Proofs.Ytmabopomecdidaa.Pr
open Go.RowKit Go.Proofs.YtmabopomecdidaaW.PrintWords Go.Proofs.YtmabopomecdidaaW.PrintLast Go.Proofs.YtmabopomecdidaaW.PrintMore
attribute [local go_sem] max2_int min2_int max_two min_two max_three min_three max_four min_four
set_option linter.unusedVariables false
set_option linter.unusedSimpArgs false
mutual
def impl_Net_toward.l0 : Nat → List (S143) → Bool → Int → List (S45) → Option ((List (S143)))
 | 0, _, _, _, _ => none
 | k + 1, x5, x6, t3, s9 => if x6 = true then (impl_Net_toward.l1 k x5 false s9 (s9.length : Int) 0 t3 s9) else (some x5)
def impl_Net_toward.l1 : Nat → List (S143) → Bool → List (S45) → Int → Int → Int → List (S45) → Option ((List (S143)))
 | 0, _, _, _, _, _, _, _ => none
 | k + 1, x5, x6, x21, x22, x23, t3, s9 => if x23 < x22 then (if 0 ≤ x23 then (if x23 < (x21.length : Int) then (if 0 ≤ ((rd_T45 x21 x23).f1) then (if ((rd_T45 x21 x23).f1) < (x5.length : Int) then (if ((rd_T143 x5 ((rd_T45 x21 x23).f1)).f0) = 99999 then (impl_Net_toward.l1 k x5 x6 x21 x22 (wrap64 (x23 + 1)) t3 s9) else (if 0 ≤ ((rd_T45 x21 x23).f0) then (if ((rd_T45 x21 x23).f0) < (x5.length : Int) then ((impl_measure_less.f (wrap64 (((rd_T143 x5 ((rd_T45 x21 x23).f1)).f0) + ((rd_T45 x21 x23).f2))) (wrap64 (((rd_T143 x5 ((rd_T45 x21 x23).f1)).f1) + 1)) ((rd_T143 x5 ((rd_T45 x21 x23).f0)).f0) ((rd_T143 x5 ((rd_T45 x21 x23).f0)).f1)).bind fun t1085 => (if t1085 = true then (impl_Net_toward.l1 k (x5.set (((rd_T45 x21 x23).f0) : Int).toNat (⟨wrap64 (((rd_T143 x5 ((rd_T45 x21 x23).f1)).f0) + ((rd_T45 x21 x23).f2)), wrap64 (((rd_T143 x5 ((rd_T45 x21 x23).f1)).f1) + 1)⟩ : S143)) true x21 x22 (wrap64 (x23 + 1)) t3 s9) else (impl_Net_toward.l1 k x5 x6 x21 x22 (wrap64 (x23 + 1)) t3 s9))) else (none)) else (none))) else (none)) else (none)) else (none)) else (none)) else (impl_Net_toward.l0 k x5 x6 t3 s9)
end
def impl_Net_toward.f (k : Nat) (a0_0 : Int) (l0_1 : List (S45)) (a1 : Int) : Option ((List (S143))) := (impl_measure.f (([(⟨99999, 0⟩ : S143)] : List (S143))) a0_0).bind fun t1076 => (if 0 ≤ a1 then (if a1 < (t1076.length : Int) then (impl_Net_toward.l0 k (t1076.set (a1 : Int).toNat (⟨0, 0⟩ : S143)) true a0_0 l0_1) else (none)) else (none))
set_option maxHeartbeats 8000000 in
set_option maxRecDepth 100000 in
theorem impl_Net_toward.calls (k : Nat) (a0_0 : Int) (A0_1 : Option Addr) (c0_1 : Nat) (l0_1 : List (S45)) (a1 : Int) (r : List (S143)) (w : World) (hr0_1 : Kd.C k45 w A0_1 l0_1.length l0_1) (hc0_1 : l0_1.length ≤ c0_1) (h : impl_Net_toward.f k a0_0 l0_1 a1 = some r) :
  Calls Try.prog 138 #[.agg #[.int .i64 a0_0, .slice A0_1 l0_1.length c0_1], .int .i64 a1] w fun e w' => ∃ v0_ : Value, e = .returned (v0_) ∧ Kd.R k143 143 w' w.heap.size (fun _ => True) v0_ r ∧ Below w.heap.size w w' := by
 have hu38 := Try.underlying38
 have hu143 := Try.underlying143
 have hu45 := Try.underlying45
 have u5 := Aside0.mk hr0_1
 have HC0_1 := Aside0.mk hc0_1
 clear hr0_1 hc0_1
 have HB := Aside0.mk (Below.refl w.heap.size w)
 have H : ((impl_measure.f (([(⟨99999, 0⟩ : S143)] : List (S143))) a0_0).bind fun t1076 => (if 0 ≤ a1 then (if a1 < (t1076.length : Int) then (impl_Net_toward.l0 k (t1076.set (a1 : Int).toNat (⟨0, 0⟩ : S143)) true a0_0 l0_1) else (none)) else (none))) = some r := h
 clear h
 obtain ⟨y1073, hy1073⟩ : ∃ y_ : List (S143), y_ = (([(⟨99999, 0⟩ : S143)] : List (S143))) := ⟨_, rfl⟩
 replace H : ((impl_measure.f y1073 a0_0).bind fun t1076 => (if 0 ≤ a1 then (if a1 < (t1076.length : Int) then (impl_Net_toward.l0 k (t1076.set (a1 : Int).toNat (⟨0, 0⟩ : S143)) true a0_0 l0_1) else (none)) else (none))) = some r := by first | (rw [hy1073]; with_reducible exact H) | (have H2_ := (Option.bind_some _ _).symm.trans H; rw [hy1073]; with_reducible exact H2_) | (have H2_ := (Option.bind_some _ _).symm.trans H; with_reducible exact H2_) | with_reducible exact H | (rw [hy1073]; exact H) | exact H
 have u6 := Aside0.mk hy1073
 clear hy1073
 replace H := Option.bind_eq_some_iff.mp H
 obtain ⟨t1076, A30, H⟩ := H
 replace H : (if 0 ≤ a1 then (if a1 < (t1076.length : Int) then (impl_Net_toward.l0 k (t1076.set (a1 : Int).toNat (⟨0, 0⟩ : S143)) true a0_0 l0_1) else (none)) else (none)) = some r := H
 have A3 := Aside0.mk A30
 clear A30
 by_cases c4 : 0 ≤ a1
 ·rw [if_pos c4] at H
  have c4b0 : decide (0 ≤ a1) = true := decide_eq_true c4
  clear c4
  by_cases c5 : a1 < (t1076.length : Int)
  ·rw [if_pos c5] at H
   have c5b0 : decide (a1 < (t1076.length : Int)) = true := decide_eq_true c5
   clear c5
   obtain ⟨y1079, hy1079⟩ : ∃ y_ : List (S143), y_ = (t1076.set (a1 : Int).toNat (⟨0, 0⟩ : S143)) := ⟨_, rfl⟩
   replace H : (impl_Net_toward.l0 k y1079 true a0_0 l0_1) = some r := by first | (rw [hy1079]; with_reducible exact H) | (have H2_ := (Option.bind_some _ _).symm.trans H; rw [hy1079]; with_reducible exact H2_) | (have H2_ := (Option.bind_some _ _).symm.trans H; with_reducible exact H2_) | with_reducible exact H | (rw [hy1079]; exact H) | exact H
   have Ny1079 := Aside0.mk hy1079
   clear hy1079
   have H' := Aside0.mk H
   clear H
   go_enter Try.func138, Try.ntmps138
   go_wp2_with (first | ((with_reducible refine gate_dst (N := 2) rfl ?_); refine box_event ?hg (N := 2) ?hd (cs := #[.int .i64 a0_0, .slice A0_1 l0_1.length c0_1]) (t := 38) ?hr ?_; (case hd => rfl); (case hg => rfl); (case hr => first | (go_simp; done) | (go_simp; rfl)); intro q1 hg w7 hbox hb; have n0_ := Aside0.mk (below_step HB.out hb); have n1_ := Aside0.mk (hbox); have n2_ := Aside0.mk ((by rw [hg]; exact (below_size HB.out) : w.heap.size ≤ q1)); have n3_ := Aside0.mk ((by rw [hg]; exact (below_size HB.out) : w.heap.size ≤ q1)); clear HB; have HB := n0_; have p7 := n1_; have GW1072 := n2_; have r1 := n3_; clear n0_ n1_ n2_ n3_; clear hb hbox hg) | ((with_reducible refine gate_dst (N := 11) rfl ?_); refine Kd.R_lit k143 _ 143 ?hg (N := 11) ?hd (xs := ([(⟨99999, 0⟩ : S143)] : List (S143))) (inner := [.int .i64 99999, .int .i64 0]) (ok := fun _ => True) (okp := fun _ => True) ?hr ?hp (fun _ hk => hk) trivial (Below.refl _ _) (Nat.le_refl _) (by simp) ?_; (case hd => rfl); (case hg => rfl); (case hr => first | (go_simp; done) | (go_simp; rfl)); (case hp => exact (Reps.c2 (show Kd.M k143 _ _ _ (⟨99999, 0⟩ : S143) [.int .i64 99999, .int .i64 0] from (k143_mkM _ _ _ (⟨99999, 0⟩ : S143) )) (Reps.none _ _))); intro v1074 w8 ho9 hb hg_ hnew_; clear hg_ hnew_; (first | rw [← u6.out] at ho9 | (simp only [Int.reduceToNat] at ho9; rw [← u6.out] at ho9)); have n0_ := Aside0.mk (Kd.R_lower ho9 (below_size HB.out)); have n1_ := Aside0.mk (blk_below (g := q1) (o := .cells #[.int .i64 a0_0, .slice A0_1 l0_1.length c0_1] 38 (0, 0)) p7.out hb); have n2_ := Aside0.mk (below_step HB.out hb); clear p7; clear HB; have HO1075 := n0_; have p7 := n1_; have HB := n2_; clear n0_ n1_ n2_; clear hb ho9; have t9 : w8.cell? ⟨q1, 0, none⟩ = some (.int .i64 a0_0) := (blk_cell p7.out 0).trans rfl; have u0 : w8.cell? ⟨q1, 1, none⟩ = some (.slice A0_1 l0_1.length c0_1) := (blk_cell p7.out 1).trans rfl; have u1 := blk_frozen p7.out 0; have u2 := blk_frozen p7.out 1; obtain ⟨Ao11, co11, eo11⟩ := Kd.R_slice HO1075.out; subst eo11) | ((with_reducible refine gate_callee (f := 141) rfl ?_); refine goesL_ (some 14) rfl rfl Try.func141 (by kernel_rfl) rfl #[.slice Ao11 y1073.length co11, .int .i64 a0_0] rfl (by (try simp only [List.map_toArray, List.map_cons, List.map_nil]); first | done | rfl | (simp only [List.length_drop, List.length_take]; rfl)) ?_; (with_reducible refine (impl_measure.calls _ _ y1073 a0_0 t1076 _ ?side1 ?side2 A3.out).mono ?_); (case side1 => repeat (first | exact (Kd.R_reads' HO1075.out).2.2 | (with_reducible refine Kd.C_alloc ?_ _) | (with_reducible refine Kd.C_drewN ?_ _) | (with_reducible refine Kd.C_drew ?_))); (case side2 => exact (Kd.R_reads' HO1075.out).2.1); rintro e w12 ⟨v1077, rfl, ho0, hb⟩; refine ⟨_, rfl, ?_⟩; have n0_ := Aside0.mk (Kd.R_elder' HO1075.out (Kd.R_base ho0) hb); have n1_ := Aside0.mk (Kd.R_lower (Kd.R_new' ho0 (Kd.R_lt HO1075.out)) (below_size HB.out)); have n2_ := Aside0.mk (blk_below (g := q1) (o := .cells #[.int .i64 a0_0, .slice A0_1 l0_1.length c0_1] 38 (0, 0)) p7.out hb); have n3_ := Aside0.mk (below_step HB.out hb); clear HO1075; clear p7; clear HB; have HO1075 := n0_; have HO1078 := n1_; have p7 := n2_; have HB := n3_; clear n0_ n1_ n2_ n3_; (try clear hb); (try clear hb2); (try clear hk); (try clear hi); (try clear ho0); have p6 : 0 ≤ (a1 : Int) := of_decide_eq_true (by first | (with_reducible assumption) | assumption); have q6 : (a1 : Int) < ((t1076.length : Int) : Int) := of_decide_eq_true (by first | (with_reducible assumption) | assumption); obtain ⟨go6, co6, eo6, gb6, gl6, cl6, HG6⟩ := Kd.R_form HO1078.out (by omega); (first | cases eo6 | (injection eo6 with ea_ en_ ec_; (first | subst ea_ | (injection ea_ with ea_; subst ea_)); subst ec_; clear en_)); have GB6 := Aside0.mk gb6; have GG6 := Aside0.mk HG6; clear gb6 gl6 HG6; obtain ⟨ce6, hcl6, hM6, hcc6, hfr6⟩ := Kd.R_elem HO1078.out z143 (a1 : Int) p6 q6; obtain rfl := k143_openM hM6; have hx6_0 : w12.cell? ⟨go6, (a1 : Int).toNat * 2, none⟩ = some (.int .i64 ((rd_T143 t1076 a1).f0)) := hcc6 0 _ rfl; have hx6_1 : w12.cell? ⟨go6, (a1 : Int).toNat * 2 + 1, none⟩ = some (.int .i64 ((rd_T143 t1076 a1).f1)) := hcc6 1 _ rfl; have hf6_0 : w12.frozen? ⟨go6, (a1 : Int).toNat * 2, none⟩ = false := hfr6 0; have hf6_1 : w12.frozen? ⟨go6, (a1 : Int).toNat * 2 + 1, none⟩ = false := hfr6 1; clear hcl6 hcc6 hfr6; (try clear hM6); replace p6 := eq_true p6; replace q6 := eq_true q6; have n_ := Aside0.mk (Kd.R_mono (ok' := (fun k_ => some k_ ≠ (.slice Ao11 y1073.length co11 : Value).ownBlock)) HO1078.out (fun k_ hk => hk.2)); clear HO1078; have HO1078 := n_; clear n_; have HX13 := Aside0.mk (show Kd.R k143 143 w12 w.heap.size (fun k_ => some k_ ≠ (.slice Ao11 y1073.length co11 : Value).ownBlock) (.slice (some ⟨go6, 0, none⟩) t1076.length co6) t1076 from HO1078.out); obtain ⟨ce13, hcl13, hM13, u3, hfr13⟩ := Kd.R_elem HX13.out z143 (a1 : Int) (of_decide_eq_true (by first | (with_reducible assumption) | assumption)) (by have h_ : (a1 : Int) < ((t1076.length : Int) : Int) := of_decide_eq_true (by first | (with_reducible assumption) | assumption); first | exact h_ | (have e_ := (Kd.R_reads' HO1078.out).1; omega) | simpa using h_); obtain rfl := k143_openM hM13; have HP13 := Kd.R_seg HX13.out (a1 : Int) (of_decide_eq_true (by first | (with_reducible assumption) | assumption)) (by have h_ : (a1 : Int) < ((t1076.length : Int) : Int) := of_decide_eq_true (by first | (with_reducible assumption) | assumption); first | exact h_ | (have e_ := (Kd.R_reads' HO1078.out).1; omega) | simpa using h_) (seg := [.int .i64 0, .int .i64 0]) (j := 0) hcl13 u3 (show 2 ≤ 2 from by decide) (x' := (⟨0, 0⟩ : S143)) (k143_mkM _ _ _ (⟨0, 0⟩ : S143) ) (fun _ hk => hk); have t6 := u3 0 _ rfl; (try simp only [show (k143).sz = 2 from rfl, Nat.mul_one, Nat.add_zero] at t6); have hf13_0 := hfr13 0; (try simp only [show (k143).sz = 2 from rfl, Nat.mul_one, Nat.add_zero] at hf13_0); have t7 := u3 1 _ rfl; (try simp only [show (k143).sz = 2 from rfl, Nat.mul_one, Nat.add_zero] at t7); have hf13_1 := hfr13 1; (try simp only [show (k143).sz = 2 from rfl, Nat.mul_one, Nat.add_zero] at hf13_1); clear hcl13 u3 hfr13; (try clear hM13)) | ((with_reducible refine gate_store (t := 143) (p := 18) rfl ?_); refine store_event (t := 143) (p := 18) (v := ?vo_w14) (w1 := ((w12.setCell ⟨go6, (a1 : Int).toNat * 2, none⟩ (.int .i64 0)).setCell ⟨go6, (a1 : Int).toNat * 2 + 1, none⟩ (.int .i64 0))) ?hg ?ho ?hn ?hr ?_; (case ho => rfl); (case hg => rfl); (case hn => rfl); (case hr => first | (go_simp; done) | (go_simp; rfl)); intro w14 hw; have hg : w12.grownBy w14 (some go6) := (by rw [hw]; exact HP13.2); have hp_ : Kd.R k143 143 w14 w.heap.size (fun k_ => some k_ ≠ (.slice Ao11 y1073.length co11 : Value).ownBlock) (.slice (some ⟨go6, 0, none⟩) t1076.length co6) y1079 := (by rw [hw, Ny1079.out]; exact HP13.1); clear HP13; have n0_ := Aside0.mk (blk_grown (g := q1) (o := .cells #[.int .i64 a0_0, .slice A0_1 l0_1.length c0_1] 38 (0, 0)) p7.out hg (Kd.R_ne HO1078.out p7.out (by decide))); have n1_ := Aside0.mk (Kd.R_after (v := (.slice (some ⟨go6, 0, none⟩) t1076.length co6)) (v1 := (.slice (some ⟨go6, 0, none⟩) t1076.length co6)) (ok := (fun _ => True)) HO1075.out hg (.inl rfl)); have n2_ := Aside0.mk (hp_); have n3_ := Aside0.mk ((by rw [hw]; exact below_set (below_set (HB.out) GB6.out) GB6.out : Below w.heap.size w w14)); clear p7; clear HO1075; clear HO1078; clear HB; have p7 := n0_; have HO1075 := n1_; have HO1078 := n2_; have HB := n3_; clear n0_ n1_ n2_ n3_; clear hg hw hp_))
   go_loopg [6] k (fun kq v6 w' => ∃ (x5_1 : List (S143)) (x6_1 : Bool), v6 = .bool x6_1 ∧ Aside0 (impl_Net_toward.l0 kq x5_1 x6_1 a0_0 l0_1 = some r) ∧ Aside0 (kq ≤ k) ∧ Aside0 (Kd.R k143 143 w' w.heap.size (fun _ => True) (.slice (some ⟨go6, 0, none⟩) t1076.length co6) x5_1) ∧ Aside0 (w'.heap[q1]? = some (.cells #[.int .i64 a0_0, (.slice A0_1 l0_1.length c0_1)] 38 (0, 0))) ∧ Aside0 (Below w.heap.size w w'))
   case atStart => exact ⟨(y1079), (true), (by first | rfl | (simp; done) | (simp [*]; done)), H', ⟨Nat.le_refl _⟩, ⟨by (with_reducible repeat (first | apply Kd.R_alloc | apply Kd.R_drewN | apply Kd.R_drew)); exact Kd.R_mono HO1078.out (fun _ hk => trivial)⟩, ⟨by (with_reducible repeat (first | refine blk_drewN ?_ _ | refine blk_drew ?_ | refine blk_alloc ?_ _)); exact p7.out⟩, ⟨by repeat (first | (with_reducible first | exact HB.out | apply below_alloc | apply pw_below_drewN | apply below_drew1 | refine below_set ?_ r1.out) | exact HB.out)⟩⟩
   case round =>
    clear H'
    try clear c1
    try clear hx1
    try clear c2
    try clear p2
    try clear c4
    try clear c4b0
    try clear c5
    try clear c5b0
    try clear c6
    try clear p6
    try clear q6
    try clear hx6
    try clear hf6
    try clear c13
    try clear hx13
    try clear hf13
    try clear c14
    try clear t9
    try clear u0
    try clear u1
    try clear u2
    try clear t6
    try clear t7
    try clear hx6_0
    try clear hx6_1
    try clear p6
    try clear q6
    obtain ⟨x5_1, x6_1, rfl, HA, HK1, HO_5, p7, HB⟩ := hrel
    have hl5_1 := (Kd.R_reads' HO_5.out).1
    rw [hl5_1] at HO_5
    (try simp only [hl5_1])
    (try simp only [hl5_1] at p7)
    cases gk with
    | zero => exact absurd HA.out (by simp [impl_Net_toward.l0])
    | succ k1 =>
     have H := HA.out
     clear HA
     simp only [impl_Net_toward.l0] at H
     by_cases c15 : x6_1 = true
     ·subst c15
      have H1 : (impl_Net_toward.l1 k1 x5_1 false l0_1 (l0_1.length : Int) 0 a0_0 l0_1) = some r := by rw [if_pos rfl] at H; exact H
      clear H
      have H := H1
      clear H1
      have H' := Aside0.mk H
      clear H
      have v0 : wr.cell? ⟨q1, 0, none⟩ = some (.int .i64 a0_0) := (blk_cell p7.out 0).trans rfl
      have v2 : wr.cell? ⟨q1, 1, none⟩ = some (.slice A0_1 l0_1.length c0_1) := (blk_cell p7.out 1).trans rfl
      have v3 := blk_frozen p7.out 0
      have v4 := blk_frozen p7.out 1
      go_wp2
      go_loopg [6, 23] k1 (fun kq v6 v23 w' => ∃ (x5_2 : List (S143)) (x6_2 : Bool) (p0 : Int), v6 = .bool x6_2 ∧ v23 = .int .i64 p0 ∧ Aside0 (impl_Net_toward.l1 kq x5_2 x6_2 l0_1 (l0_1.length : Int) p0 a0_0 l0_1 = some r) ∧ Aside0 (kq ≤ k1) ∧ Aside0 (Kd.R k143 143 w' w.heap.size (fun _ => True) (.slice (some ⟨go6, 0, none⟩) x5_1.length co6) x5_2) ∧ Aside0 (w'.heap[q1]? = some (.cells #[.int .i64 a0_0, (.slice A0_1 l0_1.length c0_1)] 38 (0, 0))) ∧ Aside0 (Below w.heap.size w w'))
      case atStart => exact ⟨(x5_1), (false), (0), (by first | rfl | (simp; done) | (simp [*]; done)), (by first | rfl | (simp; done) | (simp [*]; done)), H', ⟨Nat.le_refl _⟩, ⟨by (try simp only [hl5_1]); (with_reducible repeat (first | apply Kd.R_alloc | apply Kd.R_drewN | apply Kd.R_drew)); exact HO_5.out⟩, ⟨by (try simp only [hl5_1]); (with_reducible repeat (first | refine blk_drewN ?_ _ | refine blk_drew ?_ | refine blk_alloc ?_ _)); exact p7.out⟩, ⟨by repeat (first | (with_reducible first | exact HB.out | apply below_alloc | apply pw_below_drewN | apply below_drew1 | refine below_set ?_ r1.out) | exact HB.out)⟩⟩
      case round =>
       clear H'
       try clear c1
       try clear hx1
       try clear c2
       try clear p2
       try clear c4
       try clear c4b0
       try clear c5
       try clear c5b0
       try clear c6
       try clear p6
       try clear q6
       try clear hx6
       try clear hf6
       try clear c13
       try clear hx13
       try clear hf13
       try clear c14
       try clear c15
       try clear t9
       try clear u0
       try clear v0
       try clear v2
       try clear u1
       try clear u2
       try clear v3
       try clear v4
       try clear t6
       try clear t7
       try clear hx6_0
       try clear hx6_1
       try clear p2
       try clear p6
       try clear q6
       obtain ⟨x5_2, x6_2, p0, rfl, rfl, HA, HK2, HO_5, p7, HB⟩ := hrel
       have hl5_2 := (Kd.R_reads' HO_5.out).1
       rw [hl5_2] at HO_5
       (try simp only [hl5_2])
       (try simp only [hl5_2] at p7)
       cases gk with
       | zero => exact absurd HA.out (by simp [impl_Net_toward.l1])
       | succ k2 =>
        have H := HA.out
        clear HA
        simp only [impl_Net_toward.l1] at H
        by_cases c17 : p0 < (l0_1.length : Int)
        ·rw [if_pos c17] at H
         have c17b0 : decide (p0 < (l0_1.length : Int)) = true := decide_eq_true c17
         clear c17
         by_cases c18 : 0 ≤ p0
         ·rw [if_pos c18] at H
          have c18b0 : decide (0 ≤ p0) = true := decide_eq_true c18
          clear c18
          by_cases c19 : p0 < (l0_1.length : Int)
          ·rw [if_pos c19] at H
           have c19b0 : decide (p0 < (l0_1.length : Int)) = true := decide_eq_true c19
           clear c19
           by_cases c20 : 0 ≤ ((rd_T45 l0_1 p0).f1)
           ·rw [if_pos c20] at H
            have c20b0 : decide (0 ≤ ((rd_T45 l0_1 p0).f1)) = true := decide_eq_true c20
            clear c20
            by_cases c21 : ((rd_T45 l0_1 p0).f1) < (x5_2.length : Int)
            ·rw [if_pos c21] at H
             have c21b0 : decide (((rd_T45 l0_1 p0).f1) < (x5_2.length : Int)) = true := decide_eq_true c21
             clear c21
             by_cases c22 : ((rd_T143 x5_2 ((rd_T45 l0_1 p0).f1)).f0) = 99999
             ·rw [if_pos c22] at H
              have c22b0 : (((rd_T143 x5_2 ((rd_T45 l0_1 p0).f1)).f0) == 99999) = true := beq_iff_eq.mpr c22
              have c22b1 : (((rd_T143 x5_2 ((rd_T45 l0_1 p0).f1)).f0) != 99999) = false := bne_eq_false_iff_eq.mpr c22
              clear c22
              have H' := Aside0.mk H
              clear H
              have p1080 : 0 ≤ (p0 : Int) := of_decide_eq_true (by first | (with_reducible assumption) | assumption)
              have q1080 : p0 < (l0_1.length : Int) := of_decide_eq_true (by first | (with_reducible assumption) | assumption)
              obtain ⟨r0, e1080, r2, r3, r4, r5, r6⟩ := at_T45 u5.out p0 p1080 q1080
              cases e1080
              replace r2 := (HB.out.cell (World.block_lt_of_cell? w _ r2)).trans r2
              replace r3 := (HB.out.cell (World.block_lt_of_cell? w _ r3)).trans r3
              replace r4 := (HB.out.cell (World.block_lt_of_cell? w _ r4)).trans r4
              replace r5 := (HB.out.cell (World.block_lt_of_cell? w _ r5)).trans r5
              replace r6 := (HB.out.cell (World.block_lt_of_cell? w _ r6)).trans r6
              replace p1080 := eq_true p1080
              replace q1080 := eq_true q1080
              go_wp2_with (first | ((with_reducible refine gate_dst (N := 8) rfl ?_); refine box_event ?hg (N := 8) ?hd (cs := #[.int .i64 0, .int .i64 0, .int .i64 0, .int .i64 0, .int .i64 0]) (t := 45) ?hr ?_; (case hd => rfl); (case hg => rfl); (case hr => first | (go_simp; done) | (go_simp; rfl)); intro p3 hg w23 hbox hb; have n0_ := Aside0.mk (Kd.R_below HO_5.out hb); have n1_ := Aside0.mk (blk_below (g := q1) (o := .cells #[.int .i64 a0_0, .slice (some r0) l0_1.length c0_1] 38 (0, 0)) p7.out hb); have n2_ := Aside0.mk (below_step HB.out hb); have n3_ := Aside0.mk (hbox); have n4_ := Aside0.mk ((by rw [hg]; exact (below_size HB.out) : w.heap.size ≤ p3)); have n5_ := Aside0.mk ((by rw [hg]; exact (below_size HB.out) : w.heap.size ≤ p3)); have n6_ := Aside0.mk ((by rw [hg]; exact Nat.ne_of_lt (blk_lt (g := q1) (o := .cells #[.int .i64 a0_0, .slice (some r0) l0_1.length c0_1] 38 (0, 0)) p7.out) : q1 ≠ p3)); have n7_ := Aside0.mk ((by rw [hg]; exact Nat.ne_of_gt (blk_lt (g := q1) (o := .cells #[.int .i64 a0_0, .slice (some r0) l0_1.length c0_1] 38 (0, 0)) p7.out) : p3 ≠ q1)); clear HO_5; clear p7; clear HB; have HO_5 := n0_; have p7 := n1_; have HB := n2_; have p1 := n3_; have u7 := n4_; have r9 := n5_; have p4 := n6_; have t0 := n7_; clear n0_ n1_ n2_ n3_ n4_ n5_ n6_ n7_; clear hb hbox hg; have hnb24 := t0.out; have hnc24 := p4.out; have hcz25_0 : w23.cell? ⟨p3, 0, none⟩ = some (.int .i64 0) := (blk_cell p1.out 0).trans rfl; have hcz25_1 : w23.cell? ⟨p3, 1, none⟩ = some (.int .i64 0) := (blk_cell p1.out 1).trans rfl; have hcz25_2 : w23.cell? ⟨p3, 2, none⟩ = some (.int .i64 0) := (blk_cell p1.out 2).trans rfl; have hcz25_3 : w23.cell? ⟨p3, 3, none⟩ = some (.int .i64 0) := (blk_cell p1.out 3).trans rfl; have hcz25_4 : w23.cell? ⟨p3, 4, none⟩ = some (.int .i64 0) := (blk_cell p1.out 4).trans rfl; have hfz25_0 := blk_frozen p1.out 0; have hfz25_1 := blk_frozen p1.out 1; have hfz25_2 := blk_frozen p1.out 2; have hfz25_3 := blk_frozen p1.out 3; have hfz25_4 := blk_frozen p1.out 4; have p1082 : 0 ≤ (((rd_T45 l0_1 p0).f1) : Int) := of_decide_eq_true (by first | (with_reducible assumption) | assumption); have q1082 : ((rd_T45 l0_1 p0).f1) < (x5_2.length : Int) := of_decide_eq_true (by first | (with_reducible assumption) | assumption); obtain ⟨t5, e1082, p8, p9⟩ := at_T143 (Kd.R_reads' HO_5.out).2.2 ((rd_T45 l0_1 p0).f1) p1082 q1082; obtain rfl : (⟨go6, 0, none⟩ : Addr) = t5 := (by injection e1082); (first | simp only [add_plain] at p8 | simp only [add_at] at p8 | simp only [Addr.add, Nat.zero_add] at p8 | skip); (first | simp only [add_plain] at p9 | simp only [add_at] at p9 | simp only [Addr.add, Nat.zero_add] at p9 | skip); have q2 : (⟨go6, 0, none⟩ : Addr).block ≠ p3 := Kd.own_blk (Kd.R_ne HO_5.out p1.out (by decide)); have q3 : (⟨go6, 0, none⟩ : Addr).block ≠ p3 := Kd.own_blk (Kd.R_ne HO_5.out p1.out (by decide)); have q4 : (⟨go6, 0, none⟩ : Addr).block ≠ p3 := Kd.own_blk (Kd.R_ne HO_5.out p1.out (by decide)); have q5 : (⟨go6, 0, none⟩ : Addr).block ≠ p3 := Kd.own_blk (Kd.R_ne HO_5.out p1.out (by decide)); have q7 : (⟨go6, 0, none⟩ : Addr).block ≠ p3 := Kd.own_blk (Kd.R_ne HO_5.out p1.out (by decide)); replace p8 := (cell_far (p := ⟨p3, 0, none⟩) (by first | (rw [add_block]; exact q2) | (show (Addr.add _ _).block ≠ _; rw [add_block]; exact q2) | exact q2) (.int .i64 ((rd_T45 l0_1 p0).f0))).trans p8; replace p9 := (cell_far (p := ⟨p3, 0, none⟩) (by first | (rw [add_block]; exact q2) | (show (Addr.add _ _).block ≠ _; rw [add_block]; exact q2) | exact q2) (.int .i64 ((rd_T45 l0_1 p0).f0))).trans p9; replace p8 := (cell_far (p := ⟨p3, 1, none⟩) (by first | (rw [add_block]; exact q3) | (show (Addr.add _ _).block ≠ _; rw [add_block]; exact q3) | exact q3) (.int .i64 ((rd_T45 l0_1 p0).f1))).trans p8; replace p9 := (cell_far (p := ⟨p3, 1, none⟩) (by first | (rw [add_block]; exact q3) | (show (Addr.add _ _).block ≠ _; rw [add_block]; exact q3) | exact q3) (.int .i64 ((rd_T45 l0_1 p0).f1))).trans p9; replace p8 := (cell_far (p := ⟨p3, 2, none⟩) (by first | (rw [add_block]; exact q4) | (show (Addr.add _ _).block ≠ _; rw [add_block]; exact q4) | exact q4) (.int .i64 ((rd_T45 l0_1 p0).f2))).trans p8; replace p9 := (cell_far (p := ⟨p3, 2, none⟩) (by first | (rw [add_block]; exact q4) | (show (Addr.add _ _).block ≠ _; rw [add_block]; exact q4) | exact q4) (.int .i64 ((rd_T45 l0_1 p0).f2))).trans p9; replace p8 := (cell_far (p := ⟨p3, 3, none⟩) (by first | (rw [add_block]; exact q5) | (show (Addr.add _ _).block ≠ _; rw [add_block]; exact q5) | exact q5) (.int .i64 ((rd_T45 l0_1 p0).f3))).trans p8; replace p9 := (cell_far (p := ⟨p3, 3, none⟩) (by first | (rw [add_block]; exact q5) | (show (Addr.add _ _).block ≠ _; rw [add_block]; exact q5) | exact q5) (.int .i64 ((rd_T45 l0_1 p0).f3))).trans p9; replace p8 := (cell_far (p := ⟨p3, 4, none⟩) (by first | (rw [add_block]; exact q7) | (show (Addr.add _ _).block ≠ _; rw [add_block]; exact q7) | exact q7) (.int .i64 ((rd_T45 l0_1 p0).f4))).trans p8; replace p9 := (cell_far (p := ⟨p3, 4, none⟩) (by first | (rw [add_block]; exact q7) | (show (Addr.add _ _).block ≠ _; rw [add_block]; exact q7) | exact q7) (.int .i64 ((rd_T45 l0_1 p0).f4))).trans p9; clear q2; clear q3; clear q4; clear q5; clear q7; replace p1082 := eq_true p1082; replace q1082 := eq_true q1082) | ((with_reducible refine gate_dst (N := 9) rfl ?_); refine box_event ?hg (N := 9) ?hd (cs := #[.int .i64 0, .int .i64 0]) (t := 143) ?hr ?_; (case hd => rfl); (case hg => rfl); (case hr => first | (go_simp; done) | (go_simp; rfl)); intro p5 hg w26 hbox hb; have n0_ := Aside0.mk (Kd.R_below (Kd.R_elderB (Kd.R_mono (Kd.R_far (p := ⟨p3, 4, none⟩) (Kd.R_far (p := ⟨p3, 3, none⟩) (Kd.R_far (p := ⟨p3, 2, none⟩) (Kd.R_far (p := ⟨p3, 1, none⟩) (Kd.R_far (p := ⟨p3, 0, none⟩) (Kd.R_types HO_5.out p1.out (by decide)) (fun _ hk => hk.2) (.int .i64 ((rd_T45 l0_1 p0).f0))) (fun _ hk => hk.2) (.int .i64 ((rd_T45 l0_1 p0).f1))) (fun _ hk => hk.2) (.int .i64 ((rd_T45 l0_1 p0).f2))) (fun _ hk => hk.2) (.int .i64 ((rd_T45 l0_1 p0).f3))) (fun _ hk => hk.2) (.int .i64 ((rd_T45 l0_1 p0).f4))) (fun _ h_ => h_.1)) p5 (Nat.le_of_eq hg.symm)) hb); have n1_ := Aside0.mk (blk_below (g := q1) (o := .cells #[.int .i64 a0_0, .slice (some r0) l0_1.length c0_1] 38 (0, 0)) (by (with_reducible repeat (first | refine blk_drewN ?_ _ | refine blk_drew ?_ | refine blk_alloc ?_ _)); refine blk_far ?_ p4.out _; (with_reducible repeat (first | refine blk_drewN ?_ _ | refine blk_drew ?_ | refine blk_alloc ?_ _)); refine blk_far ?_ p4.out _; (with_reducible repeat (first | refine blk_drewN ?_ _ | refine blk_drew ?_ | refine blk_alloc ?_ _)); refine blk_far ?_ p4.out _; (with_reducible repeat (first | refine blk_drewN ?_ _ | refine blk_drew ?_ | refine blk_alloc ?_ _)); refine blk_far ?_ p4.out _; (with_reducible repeat (first | refine blk_drewN ?_ _ | refine blk_drew ?_ | refine blk_alloc ?_ _)); refine blk_far ?_ p4.out _; (with_reducible repeat (first | refine blk_drewN ?_ _ | refine blk_drew ?_ | refine blk_alloc ?_ _)); exact p7.out) hb); have n2_ := Aside0.mk (blk_below (g := p3) (o := .cells #[.int .i64 ((rd_T45 l0_1 p0).f0), .int .i64 ((rd_T45 l0_1 p0).f1), .int .i64 ((rd_T45 l0_1 p0).f2), .int .i64 ((rd_T45 l0_1 p0).f3), .int .i64 ((rd_T45 l0_1 p0).f4)] 45 (0, 0)) (by (with_reducible repeat (first | refine blk_drewN ?_ _ | refine blk_drew ?_ | refine blk_alloc ?_ _)); refine blk_put (cs := #[.int .i64 ((rd_T45 l0_1 p0).f0), .int .i64 ((rd_T45 l0_1 p0).f1), .int .i64 ((rd_T45 l0_1 p0).f2), .int .i64 ((rd_T45 l0_1 p0).f3), .int .i64 0]) ?_ 4 _ rfl; (with_reducible repeat (first | refine blk_drewN ?_ _ | refine blk_drew ?_ | refine blk_alloc ?_ _)); refine blk_put (cs := #[.int .i64 ((rd_T45 l0_1 p0).f0), .int .i64 ((rd_T45 l0_1 p0).f1), .int .i64 ((rd_T45 l0_1 p0).f2), .int .i64 0, .int .i64 0]) ?_ 3 _ rfl; (with_reducible repeat (first | refine blk_drewN ?_ _ | refine blk_drew ?_ | refine blk_alloc ?_ _)); refine blk_put (cs := #[.int .i64 ((rd_T45 l0_1 p0).f0), .int .i64 ((rd_T45 l0_1 p0).f1), .int .i64 0, .int .i64 0, .int .i64 0]) ?_ 2 _ rfl; (with_reducible repeat (first | refine blk_drewN ?_ _ | refine blk_drew ?_ | refine blk_alloc ?_ _)); refine blk_put (cs := #[.int .i64 ((rd_T45 l0_1 p0).f0), .int .i64 0, .int .i64 0, .int .i64 0, .int .i64 0]) ?_ 1 _ rfl; (with_reducible repeat (first | refine blk_drewN ?_ _ | refine blk_drew ?_ | refine blk_alloc ?_ _)); refine blk_put (cs := #[.int .i64 0, .int .i64 0, .int .i64 0, .int .i64 0, .int .i64 0]) ?_ 0 _ rfl; (with_reducible repeat (first | refine blk_drewN ?_ _ | refine blk_drew ?_ | refine blk_alloc ?_ _)); exact p1.out) hb); have n3_ := Aside0.mk (below_step (by repeat (first | (with_reducible first | exact HB.out | apply below_alloc | apply pw_below_drewN | apply below_drew1 | refine below_set ?_ r1.out | refine below_set ?_ r9.out) | exact HB.out)) hb); have n4_ := Aside0.mk (hbox); have n5_ := Aside0.mk ((by rw [hg]; exact (below_size (by repeat (first | (with_reducible first | exact HB.out | apply below_alloc | apply pw_below_drewN | apply below_drew1 | refine below_set ?_ r1.out | refine below_set ?_ r9.out) | exact HB.out))) : w.heap.size ≤ p5)); have n6_ := Aside0.mk ((by rw [hg]; exact (below_size (by repeat (first | (with_reducible first | exact HB.out | apply below_alloc | apply pw_below_drewN | apply below_drew1 | refine below_set ?_ r1.out | refine below_set ?_ r9.out) | exact HB.out))) : w.heap.size ≤ p5)); have n7_ := Aside0.mk ((by rw [hg]; exact Nat.ne_of_lt (blk_lt (g := q1) (o := .cells #[.int .i64 a0_0, .slice (some r0) l0_1.length c0_1] 38 (0, 0)) (by (with_reducible repeat (first | refine blk_drewN ?_ _ | refine blk_drew ?_ | refine blk_alloc ?_ _)); refine blk_far ?_ p4.out _; (with_reducible repeat (first | refine blk_drewN ?_ _ | refine blk_drew ?_ | refine blk_alloc ?_ _)); refine blk_far ?_ p4.out _; (with_reducible repeat (first | refine blk_drewN ?_ _ | refine blk_drew ?_ | refine blk_alloc ?_ _)); refine blk_far ?_ p4.out _; (with_reducible repeat (first | refine blk_drewN ?_ _ | refine blk_drew ?_ | refine blk_alloc ?_ _)); refine blk_far ?_ p4.out _; (with_reducible repeat (first | refine blk_drewN ?_ _ | refine blk_drew ?_ | refine blk_alloc ?_ _)); refine blk_far ?_ p4.out _; (with_reducible repeat (first | refine blk_drewN ?_ _ | refine blk_drew ?_ | refine blk_alloc ?_ _)); exact p7.out)) : q1 ≠ p5)); have n8_ := Aside0.mk ((by rw [hg]; exact Nat.ne_of_gt (blk_lt (g := q1) (o := .cells #[.int .i64 a0_0, .slice (some r0) l0_1.length c0_1] 38 (0, 0)) (by (with_reducible repeat (first | refine blk_drewN ?_ _ | refine blk_drew ?_ | refine blk_alloc ?_ _)); refine blk_far ?_ p4.out _; (with_reducible repeat (first | refine blk_drewN ?_ _ | refine blk_drew ?_ | refine blk_alloc ?_ _)); refine blk_far ?_ p4.out _; (with_reducible repeat (first | refine blk_drewN ?_ _ | refine blk_drew ?_ | refine blk_alloc ?_ _)); refine blk_far ?_ p4.out _; (with_reducible repeat (first | refine blk_drewN ?_ _ | refine blk_drew ?_ | refine blk_alloc ?_ _)); refine blk_far ?_ p4.out _; (with_reducible repeat (first | refine blk_drewN ?_ _ | refine blk_drew ?_ | refine blk_alloc ?_ _)); refine blk_far ?_ p4.out _; (with_reducible repeat (first | refine blk_drewN ?_ _ | refine blk_drew ?_ | refine blk_alloc ?_ _)); exact p7.out)) : p5 ≠ q1)); have n9_ := Aside0.mk ((by rw [hg]; exact Nat.ne_of_lt (blk_lt (g := p3) (o := .cells #[.int .i64 ((rd_T45 l0_1 p0).f0), .int .i64 ((rd_T45 l0_1 p0).f1), .int .i64 ((rd_T45 l0_1 p0).f2), .int .i64 ((rd_T45 l0_1 p0).f3), .int .i64 ((rd_T45 l0_1 p0).f4)] 45 (0, 0)) (by (with_reducible repeat (first | refine blk_drewN ?_ _ | refine blk_drew ?_ | refine blk_alloc ?_ _)); refine blk_put (cs := #[.int .i64 ((rd_T45 l0_1 p0).f0), .int .i64 ((rd_T45 l0_1 p0).f1), .int .i64 ((rd_T45 l0_1 p0).f2), .int .i64 ((rd_T45 l0_1 p0).f3), .int .i64 0]) ?_ 4 _ rfl; (with_reducible repeat (first | refine blk_drewN ?_ _ | refine blk_drew ?_ | refine blk_alloc ?_ _)); refine blk_put (cs := #[.int .i64 ((rd_T45 l0_1 p0).f0), .int .i64 ((rd_T45 l0_1 p0).f1), .int .i64 ((rd_T45 l0_1 p0).f2), .int .i64 0, .int .i64 0]) ?_ 3 _ rfl; (with_reducible repeat (first | refine blk_drewN ?_ _ | refine blk_drew ?_ | refine blk_alloc ?_ _)); refine blk_put (cs := #[.int .i64 ((rd_T45 l0_1 p0).f0), .int .i64 ((rd_T45 l0_1 p0).f1), .int .i64 0, .int .i64 0, .int .i64 0]) ?_ 2 _ rfl; (with_reducible repeat (first | refine blk_drewN ?_ _ | refine blk_drew ?_ | refine blk_alloc ?_ _)); refine blk_put (cs := #[.int .i64 ((rd_T45 l0_1 p0).f0), .int .i64 0, .int .i64 0, .int .i64 0, .int .i64 0]) ?_ 1 _ rfl; (with_reducible repeat (first | refine blk_drewN ?_ _ | refine blk_drew ?_ | refine blk_alloc ?_ _)); refine blk_put (cs := #[.int .i64 0, .int .i64 0, .int .i64 0, .int .i64 0, .int .i64 0]) ?_ 0 _ rfl; (with_reducible repeat (first | refine blk_drewN ?_ _ | refine blk_drew ?_ | refine blk_alloc ?_ _)); exact p1.out)) : p3 ≠ p5)); have n10_ := Aside0.mk ((by rw [hg]; exact Nat.ne_of_gt (blk_lt (g := p3) (o := .cells #[.int .i64 ((rd_T45 l0_1 p0).f0), .int .i64 ((rd_T45 l0_1 p0).f1), .int .i64 ((rd_T45 l0_1 p0).f2), .int .i64 ((rd_T45 l0_1 p0).f3), .int .i64 ((rd_T45 l0_1 p0).f4)] 45 (0, 0)) (by (with_reducible repeat (first | refine blk_drewN ?_ _ | refine blk_drew ?_ | refine blk_alloc ?_ _)); refine blk_put (cs := #[.int .i64 ((rd_T45 l0_1 p0).f0), .int .i64 ((rd_T45 l0_1 p0).f1), .int .i64 ((rd_T45 l0_1 p0).f2), .int .i64 ((rd_T45 l0_1 p0).f3), .int .i64 0]) ?_ 4 _ rfl; (with_reducible repeat (first | refine blk_drewN ?_ _ | refine blk_drew ?_ | refine blk_alloc ?_ _)); refine blk_put (cs := #[.int .i64 ((rd_T45 l0_1 p0).f0), .int .i64 ((rd_T45 l0_1 p0).f1), .int .i64 ((rd_T45 l0_1 p0).f2), .int .i64 0, .int .i64 0]) ?_ 3 _ rfl; (with_reducible repeat (first | refine blk_drewN ?_ _ | refine blk_drew ?_ | refine blk_alloc ?_ _)); refine blk_put (cs := #[.int .i64 ((rd_T45 l0_1 p0).f0), .int .i64 ((rd_T45 l0_1 p0).f1), .int .i64 0, .int .i64 0, .int .i64 0]) ?_ 2 _ rfl; (with_reducible repeat (first | refine blk_drewN ?_ _ | refine blk_drew ?_ | refine blk_alloc ?_ _)); refine blk_put (cs := #[.int .i64 ((rd_T45 l0_1 p0).f0), .int .i64 0, .int .i64 0, .int .i64 0, .int .i64 0]) ?_ 1 _ rfl; (with_reducible repeat (first | refine blk_drewN ?_ _ | refine blk_drew ?_ | refine blk_alloc ?_ _)); refine blk_put (cs := #[.int .i64 0, .int .i64 0, .int .i64 0, .int .i64 0, .int .i64 0]) ?_ 0 _ rfl; (with_reducible repeat (first | refine blk_drewN ?_ _ | refine blk_drew ?_ | refine blk_alloc ?_ _)); exact p1.out)) : p5 ≠ p3)); clear HO_5; clear p7; clear p1; clear HB; have HO_5 := n0_; have p7 := n1_; have p1 := n2_; have HB := n3_; have q0 := n4_; have u8 := n5_; have t4 := n6_; have q8 := n7_; have t1 := n8_; have q9 := n9_; have t2 := n10_; clear n0_ n1_ n2_ n3_ n4_ n5_ n6_ n7_ n8_ n9_ n10_; clear hb hbox hg; have hnb27 := t1.out; have hnc27 := q8.out; have hnb28 := t2.out; have hnc28 := q9.out; have hcz29_0 : w26.cell? ⟨p5, 0, none⟩ = some (.int .i64 0) := (blk_cell q0.out 0).trans rfl; have hcz29_1 : w26.cell? ⟨p5, 1, none⟩ = some (.int .i64 0) := (blk_cell q0.out 1).trans rfl; have hfz29_0 := blk_frozen q0.out 0; have hfz29_1 := blk_frozen q0.out 1))
              (try simp only [← hl5_2])
              go_roundg k2
              case measure => have := HK1.out; have := HK2.out; omega
              case rel => exact ⟨(x5_2), (x6_2), (wrap64 (p0 + 1)), (by first | rfl | (simp; done) | (simp [*]; done)), (by first | rfl | (simp; done) | (simp [*]; done)), H', ⟨by have := HK1.out; have := HK2.out; omega⟩, ⟨by (try simp only [hl5_1]); (try simp only [hl5_2]); (with_reducible repeat (first | apply Kd.R_alloc | apply Kd.R_drewN | apply Kd.R_drew)); exact Kd.R_mono (Kd.R_far (p := ⟨p5, 1, none⟩) (Kd.R_far (p := ⟨p5, 0, none⟩) (Kd.R_mono HO_5.out (fun k_ hk => (⟨hk, hk.2⟩ : _ ∧ k_ ≠ p5))) (fun _ hk => hk.2) (.int .i64 ((rd_T143 x5_2 ((rd_T45 l0_1 p0).f1)).f0))) (fun _ hk => hk.2) (.int .i64 ((rd_T143 x5_2 ((rd_T45 l0_1 p0).f1)).f1))) (fun _ hk => trivial)⟩, ⟨by (try simp only [hl5_1]); (try simp only [hl5_2]); (with_reducible repeat (first | refine blk_drewN ?_ _ | refine blk_drew ?_ | refine blk_alloc ?_ _)); refine blk_far ?_ q8.out _; (with_reducible repeat (first | refine blk_drewN ?_ _ | refine blk_drew ?_ | refine blk_alloc ?_ _)); refine blk_far ?_ q8.out _; (with_reducible repeat (first | refine blk_drewN ?_ _ | refine blk_drew ?_ | refine blk_alloc ?_ _)); exact p7.out⟩, ⟨by repeat (first | (with_reducible first | exact HB.out | apply below_alloc | apply pw_below_drewN | apply below_drew1 | refine below_set ?_ r1.out | refine below_set ?_ r9.out | refine below_set ?_ t4.out) | exact HB.out)⟩⟩
             ·rw [if_neg c22] at H
              have c22b0 : (((rd_T143 x5_2 ((rd_T45 l0_1 p0).f1)).f0) == 99999) = false := beq_eq_false_iff_ne.mpr c22
              have c22b1 : (((rd_T143 x5_2 ((rd_T45 l0_1 p0).f1)).f0) != 99999) = true := bne_iff_ne.mpr c22
              by_cases c30 : 0 ≤ ((rd_T45 l0_1 p0).f0)
              ·rw [if_pos c30] at H
               have c30b0 : decide (0 ≤ ((rd_T45 l0_1 p0).f0)) = true := decide_eq_true c30
               clear c30
               by_cases c31 : ((rd_T45 l0_1 p0).f0) < (x5_2.length : Int)
               ·rw [if_pos c31] at H
                have c31b0 : decide (((rd_T45 l0_1 p0).f0) < (x5_2.length : Int)) = true := decide_eq_true c31
                clear c31
                replace H := Option.bind_eq_some_iff.mp H
                obtain ⟨t1085, A320, H⟩ := H
                replace H : (if t1085 = true then (impl_Net_toward.l1 k2 (x5_2.set (((rd_T45 l0_1 p0).f0) : Int).toNat (⟨wrap64 (((rd_T143 x5_2 ((rd_T45 l0_1 p0).f1)).f0) + ((rd_T45 l0_1 p0).f2)), wrap64 (((rd_T143 x5_2 ((rd_T45 l0_1 p0).f1)).f1) + 1)⟩ : S143)) true l0_1 (l0_1.length : Int) (wrap64 (p0 + 1)) a0_0 l0_1) else (impl_Net_toward.l1 k2 x5_2 x6_2 l0_1 (l0_1.length : Int) (wrap64 (p0 + 1)) a0_0 l0_1)) = some r := H
                have A32 := Aside0.mk A320
                clear A320
                by_cases c33 : t1085 = true
                ·subst c33
                 have H1 : (impl_Net_toward.l1 k2 (x5_2.set (((rd_T45 l0_1 p0).f0) : Int).toNat (⟨wrap64 (((rd_T143 x5_2 ((rd_T45 l0_1 p0).f1)).f0) + ((rd_T45 l0_1 p0).f2)), wrap64 (((rd_T143 x5_2 ((rd_T45 l0_1 p0).f1)).f1) + 1)⟩ : S143)) true l0_1 (l0_1.length : Int) (wrap64 (p0 + 1)) a0_0 l0_1) = some r := by rw [if_pos rfl] at H; exact H
                 clear H
                 have H := H1
                 clear H1
                 obtain ⟨y1086, hy1086⟩ : ∃ y_ : List (S143), y_ = (x5_2.set (((rd_T45 l0_1 p0).f0) : Int).toNat (⟨wrap64 (((rd_T143 x5_2 ((rd_T45 l0_1 p0).f1)).f0) + ((rd_T45 l0_1 p0).f2)), wrap64 (((rd_T143 x5_2 ((rd_T45 l0_1 p0).f1)).f1) + 1)⟩ : S143)) := ⟨_, rfl⟩
                 replace H : (impl_Net_toward.l1 k2 y1086 true l0_1 (l0_1.length : Int) (wrap64 (p0 + 1)) a0_0 l0_1) = some r := by first | (rw [hy1086]; with_reducible exact H) | (have H2_ := (Option.bind_some _ _).symm.trans H; rw [hy1086]; with_reducible exact H2_) | (have H2_ := (Option.bind_some _ _).symm.trans H; with_reducible exact H2_) | with_reducible exact H | (rw [hy1086]; exact H) | exact H
                 have Ny1086 := Aside0.mk hy1086
                 clear hy1086
                 have H' := Aside0.mk H
                 clear H
                 have p1080 : 0 ≤ (p0 : Int) := of_decide_eq_true (by first | (with_reducible assumption) | assumption)
                 have q1080 : p0 < (l0_1.length : Int) := of_decide_eq_true (by first | (with_reducible assumption) | assumption)
                 obtain ⟨r0, e1080, r2, r3, r4, r5, r6⟩ := at_T45 u5.out p0 p1080 q1080
                 cases e1080
                 replace r2 := (HB.out.cell (World.block_lt_of_cell? w _ r2)).trans r2
                 replace r3 := (HB.out.cell (World.block_lt_of_cell? w _ r3)).trans r3
                 replace r4 := (HB.out.cell (World.block_lt_of_cell? w _ r4)).trans r4
                 replace r5 := (HB.out.cell (World.block_lt_of_cell? w _ r5)).trans r5
                 replace r6 := (HB.out.cell (World.block_lt_of_cell? w _ r6)).trans r6
                 replace p1080 := eq_true p1080
                 replace q1080 := eq_true q1080
                 try go_wp2_with (first | ((with_reducible refine gate_dst (N := 8) rfl ?_); refine box_event ?hg (N := 8) ?hd (cs := #[.int .i64 0, .int .i64 0, .int .i64 0, .int .i64 0, .int .i64 0]) (t := 45) ?hr ?_; (case hd => rfl); (case hg => rfl); (case hr => first | (go_simp; done) | (go_simp; rfl)); intro p3 hg w35 hbox hb; have n0_ := Aside0.mk (Kd.R_below HO_5.out hb); have n1_ := Aside0.mk (blk_below (g := q1) (o := .cells #[.int .i64 a0_0, .slice (some r0) l0_1.length c0_1] 38 (0, 0)) p7.out hb); have n2_ := Aside0.mk (below_step HB.out hb); have n3_ := Aside0.mk (hbox); have n4_ := Aside0.mk ((by rw [hg]; exact (below_size HB.out) : w.heap.size ≤ p3)); have n5_ := Aside0.mk ((by rw [hg]; exact (below_size HB.out) : w.heap.size ≤ p3)); have n6_ := Aside0.mk ((by rw [hg]; exact Nat.ne_of_lt (blk_lt (g := q1) (o := .cells #[.int .i64 a0_0, .slice (some r0) l0_1.length c0_1] 38 (0, 0)) p7.out) : q1 ≠ p3)); have n7_ := Aside0.mk ((by rw [hg]; exact Nat.ne_of_gt (blk_lt (g := q1) (o := .cells #[.int .i64 a0_0, .slice (some r0) l0_1.length c0_1] 38 (0, 0)) p7.out) : p3 ≠ q1)); clear HO_5; clear p7; clear HB; have HO_5 := n0_; have p7 := n1_; have HB := n2_; have p1 := n3_; have u7 := n4_; have r9 := n5_; have p4 := n6_; have t0 := n7_; clear n0_ n1_ n2_ n3_ n4_ n5_ n6_ n7_; clear hb hbox hg; have hnb36 := t0.out; have hnc36 := p4.out; have hcz37_0 : w35.cell? ⟨p3, 0, none⟩ = some (.int .i64 0) := (blk_cell p1.out 0).trans rfl; have hcz37_1 : w35.cell? ⟨p3, 1, none⟩ = some (.int .i64 0) := (blk_cell p1.out 1).trans rfl; have hcz37_2 : w35.cell? ⟨p3, 2, none⟩ = some (.int .i64 0) := (blk_cell p1.out 2).trans rfl; have hcz37_3 : w35.cell? ⟨p3, 3, none⟩ = some (.int .i64 0) := (blk_cell p1.out 3).trans rfl; have hcz37_4 : w35.cell? ⟨p3, 4, none⟩ = some (.int .i64 0) := (blk_cell p1.out 4).trans rfl; have hfz37_0 := blk_frozen p1.out 0; have hfz37_1 := blk_frozen p1.out 1; have hfz37_2 := blk_frozen p1.out 2; have hfz37_3 := blk_frozen p1.out 3; have hfz37_4 := blk_frozen p1.out 4; have p1082 : 0 ≤ (((rd_T45 l0_1 p0).f1) : Int) := of_decide_eq_true (by first | (with_reducible assumption) | assumption); have q1082 : ((rd_T45 l0_1 p0).f1) < (x5_2.length : Int) := of_decide_eq_true (by first | (with_reducible assumption) | assumption); obtain ⟨t5, e1082, p8, p9⟩ := at_T143 (Kd.R_reads' HO_5.out).2.2 ((rd_T45 l0_1 p0).f1) p1082 q1082; obtain rfl : (⟨go6, 0, none⟩ : Addr) = t5 := (by injection e1082); (first | simp only [add_plain] at p8 | simp only [add_at] at p8 | simp only [Addr.add, Nat.zero_add] at p8 | skip); (first | simp only [add_plain] at p9 | simp only [add_at] at p9 | simp only [Addr.add, Nat.zero_add] at p9 | skip); have q2 : (⟨go6, 0, none⟩ : Addr).block ≠ p3 := Kd.own_blk (Kd.R_ne HO_5.out p1.out (by decide)); have q3 : (⟨go6, 0, none⟩ : Addr).block ≠ p3 := Kd.own_blk (Kd.R_ne HO_5.out p1.out (by decide)); have q4 : (⟨go6, 0, none⟩ : Addr).block ≠ p3 := Kd.own_blk (Kd.R_ne HO_5.out p1.out (by decide)); have q5 : (⟨go6, 0, none⟩ : Addr).block ≠ p3 := Kd.own_blk (Kd.R_ne HO_5.out p1.out (by decide)); have q7 : (⟨go6, 0, none⟩ : Addr).block ≠ p3 := Kd.own_blk (Kd.R_ne HO_5.out p1.out (by decide)); replace p8 := (cell_far (p := ⟨p3, 0, none⟩) (by first | (rw [add_block]; exact q2) | (show (Addr.add _ _).block ≠ _; rw [add_block]; exact q2) | exact q2) (.int .i64 ((rd_T45 l0_1 p0).f0))).trans p8; replace p9 := (cell_far (p := ⟨p3, 0, none⟩) (by first | (rw [add_block]; exact q2) | (show (Addr.add _ _).block ≠ _; rw [add_block]; exact q2) | exact q2) (.int .i64 ((rd_T45 l0_1 p0).f0))).trans p9; replace p8 := (cell_far (p := ⟨p3, 1, none⟩) (by first | (rw [add_block]; exact q3) | (show (Addr.add _ _).block ≠ _; rw [add_block]; exact q3) | exact q3) (.int .i64 ((rd_T45 l0_1 p0).f1))).trans p8; replace p9 := (cell_far (p := ⟨p3, 1, none⟩) (by first | (rw [add_block]; exact q3) | (show (Addr.add _ _).block ≠ _; rw [add_block]; exact q3) | exact q3) (.int .i64 ((rd_T45 l0_1 p0).f1))).trans p9; replace p8 := (cell_far (p := ⟨p3, 2, none⟩) (by first | (rw [add_block]; exact q4) | (show (Addr.add _ _).block ≠ _; rw [add_block]; exact q4) | exact q4) (.int .i64 ((rd_T45 l0_1 p0).f2))).trans p8; replace p9 := (cell_far (p := ⟨p3, 2, none⟩) (by first | (rw [add_block]; exact q4) | (show (Addr.add _ _).block ≠ _; rw [add_block]; exact q4) | exact q4) (.int .i64 ((rd_T45 l0_1 p0).f2))).trans p9; replace p8 := (cell_far (p := ⟨p3, 3, none⟩) (by first | (rw [add_block]; exact q5) | (show (Addr.add _ _).block ≠ _; rw [add_block]; exact q5) | exact q5) (.int .i64 ((rd_T45 l0_1 p0).f3))).trans p8; replace p9 := (cell_far (p := ⟨p3, 3, none⟩) (by first | (rw [add_block]; exact q5) | (show (Addr.add _ _).block ≠ _; rw [add_block]; exact q5) | exact q5) (.int .i64 ((rd_T45 l0_1 p0).f3))).trans p9; replace p8 := (cell_far (p := ⟨p3, 4, none⟩) (by first | (rw [add_block]; exact q7) | (show (Addr.add _ _).block ≠ _; rw [add_block]; exact q7) | exact q7) (.int .i64 ((rd_T45 l0_1 p0).f4))).trans p8; replace p9 := (cell_far (p := ⟨p3, 4, none⟩) (by first | (rw [add_block]; exact q7) | (show (Addr.add _ _).block ≠ _; rw [add_block]; exact q7) | exact q7) (.int .i64 ((rd_T45 l0_1 p0).f4))).trans p9; clear q2; clear q3; clear q4; clear q5; clear q7; replace p1082 := eq_true p1082; replace q1082 := eq_true q1082) | ((with_reducible refine gate_dst (N := 9) rfl ?_); refine box_event ?hg (N := 9) ?hd (cs := #[.int .i64 0, .int .i64 0]) (t := 143) ?hr ?_; (case hd => rfl); (case hg => rfl); (case hr => first | (go_simp; done) | (go_simp; rfl)); intro p5 hg w38 hbox hb; have n0_ := Aside0.mk (Kd.R_below (Kd.R_elderB (Kd.R_mono (Kd.R_far (p := ⟨p3, 4, none⟩) (Kd.R_far (p := ⟨p3, 3, none⟩) (Kd.R_far (p := ⟨p3, 2, none⟩) (Kd.R_far (p := ⟨p3, 1, none⟩) (Kd.R_far (p := ⟨p3, 0, none⟩) (Kd.R_types HO_5.out p1.out (by decide)) (fun _ hk => hk.2) (.int .i64 ((rd_T45 l0_1 p0).f0))) (fun _ hk => hk.2) (.int .i64 ((rd_T45 l0_1 p0).f1))) (fun _ hk => hk.2) (.int .i64 ((rd_T45 l0_1 p0).f2))) (fun _ hk => hk.2) (.int .i64 ((rd_T45 l0_1 p0).f3))) (fun _ hk => hk.2) (.int .i64 ((rd_T45 l0_1 p0).f4))) (fun _ h_ => h_.1)) p5 (Nat.le_of_eq hg.symm)) hb); have n1_ := Aside0.mk (blk_below (g := q1) (o := .cells #[.int .i64 a0_0, .slice (some r0) l0_1.length c0_1] 38 (0, 0)) (by (with_reducible repeat (first | refine blk_drewN ?_ _ | refine blk_drew ?_ | refine blk_alloc ?_ _)); refine blk_far ?_ p4.out _; (with_reducible repeat (first | refine blk_drewN ?_ _ | refine blk_drew ?_ | refine blk_alloc ?_ _)); refine blk_far ?_ p4.out _; (with_reducible repeat (first | refine blk_drewN ?_ _ | refine blk_drew ?_ | refine blk_alloc ?_ _)); refine blk_far ?_ p4.out _; (with_reducible repeat (first | refine blk_drewN ?_ _ | refine blk_drew ?_ | refine blk_alloc ?_ _)); refine blk_far ?_ p4.out _; (with_reducible repeat (first | refine blk_drewN ?_ _ | refine blk_drew ?_ | refine blk_alloc ?_ _)); refine blk_far ?_ p4.out _; (with_reducible repeat (first | refine blk_drewN ?_ _ | refine blk_drew ?_ | refine blk_alloc ?_ _)); exact p7.out) hb); have n2_ := Aside0.mk (blk_below (g := p3) (o := .cells #[.int .i64 ((rd_T45 l0_1 p0).f0), .int .i64 ((rd_T45 l0_1 p0).f1), .int .i64 ((rd_T45 l0_1 p0).f2), .int .i64 ((rd_T45 l0_1 p0).f3), .int .i64 ((rd_T45 l0_1 p0).f4)] 45 (0, 0)) (by (with_reducible repeat (first | refine blk_drewN ?_ _ | refine blk_drew ?_ | refine blk_alloc ?_ _)); refine blk_put (cs := #[.int .i64 ((rd_T45 l0_1 p0).f0), .int .i64 ((rd_T45 l0_1 p0).f1), .int .i64 ((rd_T45 l0_1 p0).f2), .int .i64 ((rd_T45 l0_1 p0).f3), .int .i64 0]) ?_ 4 _ rfl; (with_reducible repeat (first | refine blk_drewN ?_ _ | refine blk_drew ?_ | refine blk_alloc ?_ _)); refine blk_put (cs := #[.int .i64 ((rd_T45 l0_1 p0).f0), .int .i64 ((rd_T45 l0_1 p0).f1), .int .i64 ((rd_T45 l0_1 p0).f2), .int .i64 0, .int .i64 0]) ?_ 3 _ rfl; (with_reducible repeat (first | refine blk_drewN ?_ _ | refine blk_drew ?_ | refine blk_alloc ?_ _)); refine blk_put (cs := #[.int .i64 ((rd_T45 l0_1 p0).f0), .int .i64 ((rd_T45 l0_1 p0).f1), .int .i64 0, .int .i64 0, .int .i64 0]) ?_ 2 _ rfl; (with_reducible repeat (first | refine blk_drewN ?_ _ | refine blk_drew ?_ | refine blk_alloc ?_ _)); refine blk_put (cs := #[.int .i64 ((rd_T45 l0_1 p0).f0), .int .i64 0, .int .i64 0, .int .i64 0, .int .i64 0]) ?_ 1 _ rfl; (with_reducible repeat (first | refine blk_drewN ?_ _ | refine blk_drew ?_ | refine blk_alloc ?_ _)); refine blk_put (cs := #[.int .i64 0, .int .i64 0, .int .i64 0, .int .i64 0, .int .i64 0]) ?_ 0 _ rfl; (with_reducible repeat (first | refine blk_drewN ?_ _ | refine blk_drew ?_ | refine blk_alloc ?_ _)); exact p1.out) hb); have n3_ := Aside0.mk (below_step (by repeat (first | (with_reducible first | exact HB.out | apply below_alloc | apply pw_below_drewN | apply below_drew1 | refine below_set ?_ r1.out | refine below_set ?_ r9.out) | exact HB.out)) hb); have n4_ := Aside0.mk (hbox); have n5_ := Aside0.mk ((by rw [hg]; exact (below_size (by repeat (first | (with_reducible first | exact HB.out | apply below_alloc | apply pw_below_drewN | apply below_drew1 | refine below_set ?_ r1.out | refine below_set ?_ r9.out) | exact HB.out))) : w.heap.size ≤ p5)); have n6_ := Aside0.mk ((by rw [hg]; exact (below_size (by repeat (first | (with_reducible first | exact HB.out | apply below_alloc | apply pw_below_drewN | apply below_drew1 | refine below_set ?_ r1.out | refine below_set ?_ r9.out) | exact HB.out))) : w.heap.size ≤ p5)); have n7_ := Aside0.mk ((by rw [hg]; exact Nat.ne_of_lt (blk_lt (g := q1) (o := .cells #[.int .i64 a0_0, .slice (some r0) l0_1.length c0_1] 38 (0, 0)) (by (with_reducible repeat (first | refine blk_drewN ?_ _ | refine blk_drew ?_ | refine blk_alloc ?_ _)); refine blk_far ?_ p4.out _; (with_reducible repeat (first | refine blk_drewN ?_ _ | refine blk_drew ?_ | refine blk_alloc ?_ _)); refine blk_far ?_ p4.out _; (with_reducible repeat (first | refine blk_drewN ?_ _ | refine blk_drew ?_ | refine blk_alloc ?_ _)); refine blk_far ?_ p4.out _; (with_reducible repeat (first | refine blk_drewN ?_ _ | refine blk_drew ?_ | refine blk_alloc ?_ _)); refine blk_far ?_ p4.out _; (with_reducible repeat (first | refine blk_drewN ?_ _ | refine blk_drew ?_ | refine blk_alloc ?_ _)); refine blk_far ?_ p4.out _; (with_reducible repeat (first | refine blk_drewN ?_ _ | refine blk_drew ?_ | refine blk_alloc ?_ _)); exact p7.out)) : q1 ≠ p5)); have n8_ := Aside0.mk ((by rw [hg]; exact Nat.ne_of_gt (blk_lt (g := q1) (o := .cells #[.int .i64 a0_0, .slice (some r0) l0_1.length c0_1] 38 (0, 0)) (by (with_reducible repeat (first | refine blk_drewN ?_ _ | refine blk_drew ?_ | refine blk_alloc ?_ _)); refine blk_far ?_ p4.out _; (with_reducible repeat (first | refine blk_drewN ?_ _ | refine blk_drew ?_ | refine blk_alloc ?_ _)); refine blk_far ?_ p4.out _; (with_reducible repeat (first | refine blk_drewN ?_ _ | refine blk_drew ?_ | refine blk_alloc ?_ _)); refine blk_far ?_ p4.out _; (with_reducible repeat (first | refine blk_drewN ?_ _ | refine blk_drew ?_ | refine blk_alloc ?_ _)); refine blk_far ?_ p4.out _; (with_reducible repeat (first | refine blk_drewN ?_ _ | refine blk_drew ?_ | refine blk_alloc ?_ _)); refine blk_far ?_ p4.out _; (with_reducible repeat (first | refine blk_drewN ?_ _ | refine blk_drew ?_ | refine blk_alloc ?_ _)); exact p7.out)) : p5 ≠ q1)); have n9_ := Aside0.mk ((by rw [hg]; exact Nat.ne_of_lt (blk_lt (g := p3) (o := .cells #[.int .i64 ((rd_T45 l0_1 p0).f0), .int .i64 ((rd_T45 l0_1 p0).f1), .int .i64 ((rd_T45 l0_1 p0).f2), .int .i64 ((rd_T45 l0_1 p0).f3), .int .i64 ((rd_T45 l0_1 p0).f4)] 45 (0, 0)) (by (with_reducible repeat (first | refine blk_drewN ?_ _ | refine blk_drew ?_ | refine blk_alloc ?_ _)); refine blk_put (cs := #[.int .i64 ((rd_T45 l0_1 p0).f0), .int .i64 ((rd_T45 l0_1 p0).f1), .int .i64 ((rd_T45 l0_1 p0).f2), .int .i64 ((rd_T45 l0_1 p0).f3), .int .i64 0]) ?_ 4 _ rfl; (with_reducible repeat (first | refine blk_drewN ?_ _ | refine blk_drew ?_ | refine blk_alloc ?_ _)); refine blk_put (cs := #[.int .i64 ((rd_T45 l0_1 p0).f0), .int .i64 ((rd_T45 l0_1 p0).f1), .int .i64 ((rd_T45 l0_1 p0).f2), .int .i64 0, .int .i64 0]) ?_ 3 _ rfl; (with_reducible repeat (first | refine blk_drewN ?_ _ | refine blk_drew ?_ | refine blk_alloc ?_ _)); refine blk_put (cs := #[.int .i64 ((rd_T45 l0_1 p0).f0), .int .i64 ((rd_T45 l0_1 p0).f1), .int .i64 0, .int .i64 0, .int .i64 0]) ?_ 2 _ rfl; (with_reducible repeat (first | refine blk_drewN ?_ _ | refine blk_drew ?_ | refine blk_alloc ?_ _)); refine blk_put (cs := #[.int .i64 ((rd_T45 l0_1 p0).f0), .int .i64 0, .int .i64 0, .int .i64 0, .int .i64 0]) ?_ 1 _ rfl; (with_reducible repeat (first | refine blk_drewN ?_ _ | refine blk_drew ?_ | refine blk_alloc ?_ _)); refine blk_put (cs := #[.int .i64 0, .int .i64 0, .int .i64 0, .int .i64 0, .int .i64 0]) ?_ 0 _ rfl; (with_reducible repeat (first | refine blk_drewN ?_ _ | refine blk_drew ?_ | refine blk_alloc ?_ _)); exact p1.out)) : p3 ≠ p5)); have n10_ := Aside0.mk ((by rw [hg]; exact Nat.ne_of_gt (blk_lt (g := p3) (o := .cells #[.int .i64 ((rd_T45 l0_1 p0).f0), .int .i64 ((rd_T45 l0_1 p0).f1), .int .i64 ((rd_T45 l0_1 p0).f2), .int .i64 ((rd_T45 l0_1 p0).f3), .int .i64 ((rd_T45 l0_1 p0).f4)] 45 (0, 0)) (by (with_reducible repeat (first | refine blk_drewN ?_ _ | refine blk_drew ?_ | refine blk_alloc ?_ _)); refine blk_put (cs := #[.int .i64 ((rd_T45 l0_1 p0).f0), .int .i64 ((rd_T45 l0_1 p0).f1), .int .i64 ((rd_T45 l0_1 p0).f2), .int .i64 ((rd_T45 l0_1 p0).f3), .int .i64 0]) ?_ 4 _ rfl; (with_reducible repeat (first | refine blk_drewN ?_ _ | refine blk_drew ?_ | refine blk_alloc ?_ _)); refine blk_put (cs := #[.int .i64 ((rd_T45 l0_1 p0).f0), .int .i64 ((rd_T45 l0_1 p0).f1), .int .i64 ((rd_T45 l0_1 p0).f2), .int .i64 0, .int .i64 0]) ?_ 3 _ rfl; (with_reducible repeat (first | refine blk_drewN ?_ _ | refine blk_drew ?_ | refine blk_alloc ?_ _)); refine blk_put (cs := #[.int .i64 ((rd_T45 l0_1 p0).f0), .int .i64 ((rd_T45 l0_1 p0).f1), .int .i64 0, .int .i64 0, .int .i64 0]) ?_ 2 _ rfl; (with_reducible repeat (first | refine blk_drewN ?_ _ | refine blk_drew ?_ | refine blk_alloc ?_ _)); refine blk_put (cs := #[.int .i64 ((rd_T45 l0_1 p0).f0), .int .i64 0, .int .i64 0, .int .i64 0, .int .i64 0]) ?_ 1 _ rfl; (with_reducible repeat (first | refine blk_drewN ?_ _ | refine blk_drew ?_ | refine blk_alloc ?_ _)); refine blk_put (cs := #[.int .i64 0, .int .i64 0, .int .i64 0, .int .i64 0, .int .i64 0]) ?_ 0 _ rfl; (with_reducible repeat (first | refine blk_drewN ?_ _ | refine blk_drew ?_ | refine blk_alloc ?_ _)); exact p1.out)) : p5 ≠ p3)); clear HO_5; clear p7; clear p1; clear HB; have HO_5 := n0_; have p7 := n1_; have p1 := n2_; have HB := n3_; have q0 := n4_; have u8 := n5_; have t4 := n6_; have q8 := n7_; have t1 := n8_; have q9 := n9_; have t2 := n10_; clear n0_ n1_ n2_ n3_ n4_ n5_ n6_ n7_ n8_ n9_ n10_; clear hb hbox hg; have hnb39 := t1.out; have hnc39 := q8.out; have hnb40 := t2.out; have hnc40 := q9.out; have hcz41_0 : w38.cell? ⟨p5, 0, none⟩ = some (.int .i64 0) := (blk_cell q0.out 0).trans rfl; have hcz41_1 : w38.cell? ⟨p5, 1, none⟩ = some (.int .i64 0) := (blk_cell q0.out 1).trans rfl; have hfz41_0 := blk_frozen q0.out 0; have hfz41_1 := blk_frozen q0.out 1; have hcz42_0 : w38.cell? ⟨p3, 0, none⟩ = some (.int .i64 ((rd_T45 l0_1 p0).f0)) := (blk_cell p1.out 0).trans rfl; have hcz42_1 : w38.cell? ⟨p3, 1, none⟩ = some (.int .i64 ((rd_T45 l0_1 p0).f1)) := (blk_cell p1.out 1).trans rfl; have hcz42_2 : w38.cell? ⟨p3, 2, none⟩ = some (.int .i64 ((rd_T45 l0_1 p0).f2)) := (blk_cell p1.out 2).trans rfl; have hcz42_3 : w38.cell? ⟨p3, 3, none⟩ = some (.int .i64 ((rd_T45 l0_1 p0).f3)) := (blk_cell p1.out 3).trans rfl; have hcz42_4 : w38.cell? ⟨p3, 4, none⟩ = some (.int .i64 ((rd_T45 l0_1 p0).f4)) := (blk_cell p1.out 4).trans rfl; have hfz42_0 := blk_frozen p1.out 0; have hfz42_1 := blk_frozen p1.out 1; have hfz42_2 := blk_frozen p1.out 2; have hfz42_3 := blk_frozen p1.out 3; have hfz42_4 := blk_frozen p1.out 4))
                 have n0_ : Aside0 (Kd.R k143 143 ((((w38.setCell ⟨p5, 0, none⟩ (.int .i64 ((rd_T143 x5_2 ((rd_T45 l0_1 p0).f1)).f0))).setCell ⟨p5, 1, none⟩ (.int .i64 ((rd_T143 x5_2 ((rd_T45 l0_1 p0).f1)).f1))).setCell ⟨p5, 0, none⟩ (.int .i64 (wrap64 (((rd_T143 x5_2 ((rd_T45 l0_1 p0).f1)).f0) + ((rd_T45 l0_1 p0).f2))))).setCell ⟨p5, 1, none⟩ (.int .i64 (wrap64 (((rd_T143 x5_2 ((rd_T45 l0_1 p0).f1)).f1) + 1)))) w.heap.size (fun k_ => k_ ≠ p5) (.slice (some ⟨go6, 0, none⟩) x5_2.length co6) x5_2) := ⟨by (with_reducible repeat (first | apply Kd.R_alloc | apply Kd.R_drewN | apply Kd.R_drew)); exact Kd.R_mono (Kd.R_far (p := ⟨p5, 1, none⟩) (Kd.R_far (p := ⟨p5, 0, none⟩) (Kd.R_far (p := ⟨p5, 1, none⟩) (Kd.R_far (p := ⟨p5, 0, none⟩) (Kd.R_mono HO_5.out (fun k_ hk => (⟨hk, hk.2⟩ : _ ∧ k_ ≠ p5))) (fun _ hk => hk.2) (.int .i64 ((rd_T143 x5_2 ((rd_T45 l0_1 p0).f1)).f0))) (fun _ hk => hk.2) (.int .i64 ((rd_T143 x5_2 ((rd_T45 l0_1 p0).f1)).f1))) (fun _ hk => hk.2) (.int .i64 (wrap64 (((rd_T143 x5_2 ((rd_T45 l0_1 p0).f1)).f0) + ((rd_T45 l0_1 p0).f2))))) (fun _ hk => hk.2) (.int .i64 (wrap64 (((rd_T143 x5_2 ((rd_T45 l0_1 p0).f1)).f1) + 1)))) (fun _ hk => hk.1.2)⟩
                 have n1_ : Aside0 (((((w38.setCell ⟨p5, 0, none⟩ (.int .i64 ((rd_T143 x5_2 ((rd_T45 l0_1 p0).f1)).f0))).setCell ⟨p5, 1, none⟩ (.int .i64 ((rd_T143 x5_2 ((rd_T45 l0_1 p0).f1)).f1))).setCell ⟨p5, 0, none⟩ (.int .i64 (wrap64 (((rd_T143 x5_2 ((rd_T45 l0_1 p0).f1)).f0) + ((rd_T45 l0_1 p0).f2))))).setCell ⟨p5, 1, none⟩ (.int .i64 (wrap64 (((rd_T143 x5_2 ((rd_T45 l0_1 p0).f1)).f1) + 1)))).heap[q1]? = some (.cells #[.int .i64 a0_0, .slice (some r0) l0_1.length c0_1] 38 (0, 0))) := ⟨by (with_reducible repeat (first | refine blk_drewN ?_ _ | refine blk_drew ?_ | refine blk_alloc ?_ _)); refine blk_far ?_ q8.out _; (with_reducible repeat (first | refine blk_drewN ?_ _ | refine blk_drew ?_ | refine blk_alloc ?_ _)); refine blk_far ?_ q8.out _; (with_reducible repeat (first | refine blk_drewN ?_ _ | refine blk_drew ?_ | refine blk_alloc ?_ _)); refine blk_far ?_ q8.out _; (with_reducible repeat (first | refine blk_drewN ?_ _ | refine blk_drew ?_ | refine blk_alloc ?_ _)); refine blk_far ?_ q8.out _; (with_reducible repeat (first | refine blk_drewN ?_ _ | refine blk_drew ?_ | refine blk_alloc ?_ _)); exact p7.out⟩
                 have n2_ : Aside0 (((((w38.setCell ⟨p5, 0, none⟩ (.int .i64 ((rd_T143 x5_2 ((rd_T45 l0_1 p0).f1)).f0))).setCell ⟨p5, 1, none⟩ (.int .i64 ((rd_T143 x5_2 ((rd_T45 l0_1 p0).f1)).f1))).setCell ⟨p5, 0, none⟩ (.int .i64 (wrap64 (((rd_T143 x5_2 ((rd_T45 l0_1 p0).f1)).f0) + ((rd_T45 l0_1 p0).f2))))).setCell ⟨p5, 1, none⟩ (.int .i64 (wrap64 (((rd_T143 x5_2 ((rd_T45 l0_1 p0).f1)).f1) + 1)))).heap[p3]? = some (.cells #[.int .i64 ((rd_T45 l0_1 p0).f0), .int .i64 ((rd_T45 l0_1 p0).f1), .int .i64 ((rd_T45 l0_1 p0).f2), .int .i64 ((rd_T45 l0_1 p0).f3), .int .i64 ((rd_T45 l0_1 p0).f4)] 45 (0, 0))) := ⟨by (with_reducible repeat (first | refine blk_drewN ?_ _ | refine blk_drew ?_ | refine blk_alloc ?_ _)); refine blk_far ?_ q9.out _; (with_reducible repeat (first | refine blk_drewN ?_ _ | refine blk_drew ?_ | refine blk_alloc ?_ _)); refine blk_far ?_ q9.out _; (with_reducible repeat (first | refine blk_drewN ?_ _ | refine blk_drew ?_ | refine blk_alloc ?_ _)); refine blk_far ?_ q9.out _; (with_reducible repeat (first | refine blk_drewN ?_ _ | refine blk_drew ?_ | refine blk_alloc ?_ _)); refine blk_far ?_ q9.out _; (with_reducible repeat (first | refine blk_drewN ?_ _ | refine blk_drew ?_ | refine blk_alloc ?_ _)); exact p1.out⟩
                 have n3_ : Aside0 (((((w38.setCell ⟨p5, 0, none⟩ (.int .i64 ((rd_T143 x5_2 ((rd_T45 l0_1 p0).f1)).f0))).setCell ⟨p5, 1, none⟩ (.int .i64 ((rd_T143 x5_2 ((rd_T45 l0_1 p0).f1)).f1))).setCell ⟨p5, 0, none⟩ (.int .i64 (wrap64 (((rd_T143 x5_2 ((rd_T45 l0_1 p0).f1)).f0) + ((rd_T45 l0_1 p0).f2))))).setCell ⟨p5, 1, none⟩ (.int .i64 (wrap64 (((rd_T143 x5_2 ((rd_T45 l0_1 p0).f1)).f1) + 1)))).heap[p5]? = some (.cells #[.int .i64 (wrap64 (((rd_T143 x5_2 ((rd_T45 l0_1 p0).f1)).f0) + ((rd_T45 l0_1 p0).f2))), .int .i64 (wrap64 (((rd_T143 x5_2 ((rd_T45 l0_1 p0).f1)).f1) + 1))] 143 (0, 0))) := ⟨by (with_reducible repeat (first | refine blk_drewN ?_ _ | refine blk_drew ?_ | refine blk_alloc ?_ _)); refine blk_put (cs := #[.int .i64 (wrap64 (((rd_T143 x5_2 ((rd_T45 l0_1 p0).f1)).f0) + ((rd_T45 l0_1 p0).f2))), .int .i64 ((rd_T143 x5_2 ((rd_T45 l0_1 p0).f1)).f1)]) ?_ 1 _ rfl; (with_reducible repeat (first | refine blk_drewN ?_ _ | refine blk_drew ?_ | refine blk_alloc ?_ _)); refine blk_put (cs := #[.int .i64 ((rd_T143 x5_2 ((rd_T45 l0_1 p0).f1)).f0), .int .i64 ((rd_T143 x5_2 ((rd_T45 l0_1 p0).f1)).f1)]) ?_ 0 _ rfl; (with_reducible repeat (first | refine blk_drewN ?_ _ | refine blk_drew ?_ | refine blk_alloc ?_ _)); refine blk_put (cs := #[.int .i64 ((rd_T143 x5_2 ((rd_T45 l0_1 p0).f1)).f0), .int .i64 0]) ?_ 1 _ rfl; (with_reducible repeat (first | refine blk_drewN ?_ _ | refine blk_drew ?_ | refine blk_alloc ?_ _)); refine blk_put (cs := #[.int .i64 0, .int .i64 0]) ?_ 0 _ rfl; (with_reducible repeat (first | refine blk_drewN ?_ _ | refine blk_drew ?_ | refine blk_alloc ?_ _)); exact q0.out⟩
                 have n4_ : Aside0 (Below w.heap.size w ((((w38.setCell ⟨p5, 0, none⟩ (.int .i64 ((rd_T143 x5_2 ((rd_T45 l0_1 p0).f1)).f0))).setCell ⟨p5, 1, none⟩ (.int .i64 ((rd_T143 x5_2 ((rd_T45 l0_1 p0).f1)).f1))).setCell ⟨p5, 0, none⟩ (.int .i64 (wrap64 (((rd_T143 x5_2 ((rd_T45 l0_1 p0).f1)).f0) + ((rd_T45 l0_1 p0).f2))))).setCell ⟨p5, 1, none⟩ (.int .i64 (wrap64 (((rd_T143 x5_2 ((rd_T45 l0_1 p0).f1)).f1) + 1))))) := ⟨by repeat (first | (with_reducible first | exact HB.out | apply below_alloc | apply pw_below_drewN | apply below_drew1 | refine below_set ?_ r1.out | refine below_set ?_ r9.out | refine below_set ?_ t4.out) | exact HB.out)⟩
                 (try clear HO_5)
                 (try clear p7)
                 (try clear p1)
                 (try clear q0)
                 (try clear HB)
                 generalize ((((w38.setCell ⟨p5, 0, none⟩ (.int .i64 ((rd_T143 x5_2 ((rd_T45 l0_1 p0).f1)).f0))).setCell ⟨p5, 1, none⟩ (.int .i64 ((rd_T143 x5_2 ((rd_T45 l0_1 p0).f1)).f1))).setCell ⟨p5, 0, none⟩ (.int .i64 (wrap64 (((rd_T143 x5_2 ((rd_T45 l0_1 p0).f1)).f0) + ((rd_T45 l0_1 p0).f2))))).setCell ⟨p5, 1, none⟩ (.int .i64 (wrap64 (((rd_T143 x5_2 ((rd_T45 l0_1 p0).f1)).f1) + 1)))) = w43 at n0_ n1_ n2_ n3_ n4_ ⊢
                 have HO_5 := n0_
                 have p7 := n1_
                 have p1 := n2_
                 have q0 := n3_
                 have HB := n4_
                 clear n0_ n1_ n2_ n3_ n4_
                 have n0_ := Aside0.mk (Kd.R_drew HO_5.out)
                 have n1_ := Aside0.mk (blk_drew p7.out)
                 have n2_ := Aside0.mk (blk_drew p1.out)
                 have n3_ := Aside0.mk (blk_drew q0.out)
                 have n4_ := Aside0.mk (below_drew1 HB.out)
                 clear HO_5
                 clear p7
                 clear p1
                 clear q0
                 clear HB
                 have HO_5 := n0_
                 have p7 := n1_
                 have p1 := n2_
                 have q0 := n3_
                 have HB := n4_
                 clear n0_ n1_ n2_ n3_ n4_
                 have p1084 : 0 ≤ (((rd_T45 l0_1 p0).f0) : Int) := of_decide_eq_true (by first | (with_reducible assumption) | assumption)
                 have q1084 : ((rd_T45 l0_1 p0).f0) < (x5_2.length : Int) := of_decide_eq_true (by first | (with_reducible assumption) | assumption)
                 obtain ⟨t8, e1084, r7, r8⟩ := at_T143 (Kd.R_reads' HO_5.out).2.2 ((rd_T45 l0_1 p0).f0) p1084 q1084
                 obtain rfl : (⟨go6, 0, none⟩ : Addr) = t8 := (by injection e1084)
                 (first | simp only [add_plain] at r7 | simp only [add_at] at r7 | simp only [Addr.add, Nat.zero_add] at r7 | skip)
                 (first | simp only [add_plain] at r8 | simp only [add_at] at r8 | simp only [Addr.add, Nat.zero_add] at r8 | skip)
                 replace p1084 := eq_true p1084
                 replace q1084 := eq_true q1084
                 refine start_ (n := 7) (S := fun w' => w'.cell? ⟨p5, 0, none⟩ = some (.int .i64 (wrap64 (((rd_T143 x5_2 ((rd_T45 l0_1 p0).f1)).f0) + ((rd_T45 l0_1 p0).f2)))) ∧ w'.cell? ⟨p5, 1, none⟩ = some (.int .i64 (wrap64 (((rd_T143 x5_2 ((rd_T45 l0_1 p0).f1)).f1) + 1))) ∧ w'.cell? ⟨p3, 0, none⟩ = some (.int .i64 ((rd_T45 l0_1 p0).f0)) ∧ w'.cell? ⟨p3, 1, none⟩ = some (.int .i64 ((rd_T45 l0_1 p0).f1)) ∧ w'.cell? ⟨p3, 2, none⟩ = some (.int .i64 ((rd_T45 l0_1 p0).f2)) ∧ w'.cell? ⟨p3, 3, none⟩ = some (.int .i64 ((rd_T45 l0_1 p0).f3)) ∧ w'.cell? ⟨p3, 4, none⟩ = some (.int .i64 ((rd_T45 l0_1 p0).f4)) ∧ w'.cell? ⟨go6, (((rd_T45 l0_1 p0).f0)).toNat * 2, none⟩ = some (.int .i64 ((rd_T143 x5_2 ((rd_T45 l0_1 p0).f0)).f0)) ∧ w'.cell? ⟨go6, (((rd_T45 l0_1 p0).f0)).toNat * 2 + 1, none⟩ = some (.int .i64 ((rd_T143 x5_2 ((rd_T45 l0_1 p0).f0)).f1))) (ds := []) #[false, false, false, false, false, false, false] (by kernel_rfl) rfl rfl ⟨(blk_cell q0.out 0).trans rfl, (blk_cell q0.out 1).trans rfl, (blk_cell p1.out 0).trans rfl, (blk_cell p1.out 1).trans rfl, (blk_cell p1.out 2).trans rfl, (blk_cell p1.out 3).trans rfl, (blk_cell p1.out 4).trans rfl, r7, r8⟩ (fun hHeld => ?_)
                 generalize w43.drew = w44 at HO_5 p7 p1 q0 HB r7 r8 hHeld ⊢
                 refine pure_ (i := 1) (N := some 45) (v := ?_) (a' := ?_) #[false, true, false, false, false, false, false] rfl rfl (by kernel_rfl) (fun _ _ _ h => h) (Or.inl ⟨by rfl, ?_⟩) ?_ ?_
                 rotate_left
                 ·intro w'
                  go_simp
                  with_reducible rfl
                 rotate_left
                 ·simp only [Act.put, List.setIfInBounds_toArray, List.set_cons_zero, List.set_cons_succ, i64_w, i32_w]
                  rfl
                 refine pure_ (i := 2) (N := some 46) (v := ?_) (a' := ?_) #[false, true, true, false, false, false, false] rfl rfl (by kernel_rfl) (fun _ _ _ h => h) (Or.inl ⟨by rfl, ?_⟩) ?_ ?_
                 rotate_left
                 ·intro w'
                  go_simp
                  with_reducible rfl
                 rotate_left
                 ·simp only [Act.put, List.setIfInBounds_toArray, List.set_cons_zero, List.set_cons_succ, i64_w, i32_w]
                  rfl
                 refine take_ (i := 0) (N := some 44) (v := ?_) (a' := ?_) #[true, true, true, false, false, false, false] rfl rfl (by kernel_rfl) (fun _ _ _ h => h) (Or.inl ⟨by rfl, ?_⟩) hHeld ?_ ?_
                 rotate_left
                 ·rintro w' ⟨s0, s1, s2, s3, s4, s5, s6, s7, s8⟩
                  go_simp
                  with_reducible rfl
                 rotate_left
                 ·simp only [Act.put, List.setIfInBounds_toArray, List.set_cons_zero, List.set_cons_succ, i64_w, i32_w]
                  rfl
                 refine take_ (i := 3) (N := some 47) (v := ?_) (a' := ?_) #[true, true, true, true, false, false, false] rfl rfl (by kernel_rfl) (fun _ _ _ h => h) (Or.inl ⟨by rfl, ?_⟩) hHeld ?_ ?_
                 rotate_left
                 ·rintro w' ⟨s0, s1, s2, s3, s4, s5, s6, s7, s8⟩
                  go_simp
                  with_reducible rfl
                 rotate_left
                 ·simp only [Act.put, List.setIfInBounds_toArray, List.set_cons_zero, List.set_cons_succ, i64_w, i32_w]
                  rfl
                 refine pure_ (i := 4) (N := some 48) (v := ?_) (a' := ?_) #[true, true, true, true, true, false, false] rfl rfl (by kernel_rfl) (fun _ _ _ h => h) (Or.inl ⟨by rfl, ?_⟩) ?_ ?_
                 rotate_left
                 ·intro w'
                  go_simp
                  with_reducible rfl
                 rotate_left
                 ·simp only [Act.put, List.setIfInBounds_toArray, List.set_cons_zero, List.set_cons_succ, i64_w, i32_w]
                  rfl
                 refine take_ (i := 5) (N := some 49) (v := ?_) (a' := ?_) #[true, true, true, true, true, true, false] rfl rfl (by kernel_rfl) (fun _ _ _ h => h) (Or.inl ⟨by rfl, ?_⟩) hHeld ?_ ?_
                 rotate_left
                 ·rintro w' ⟨s0, s1, s2, s3, s4, s5, s6, s7, s8⟩
                  go_simp
                  with_reducible rfl
                 rotate_left
                 ·simp only [Act.put, List.setIfInBounds_toArray, List.set_cons_zero, List.set_cons_succ, i64_w, i32_w]
                  rfl
                 refine one_ (i := 6) (N := some 50) #[true, true, true, true, true, true, true] rfl rfl (by kernel_rfl) (by decide) (fun K hK => ?_)
                 refine goes_ Try.func142 (by kernel_rfl) rfl #[.agg #[.int .i64 (wrap64 (((rd_T143 x5_2 ((rd_T45 l0_1 p0).f1)).f0) + ((rd_T45 l0_1 p0).f2))), .int .i64 (wrap64 (((rd_T143 x5_2 ((rd_T45 l0_1 p0).f1)).f1) + 1))], .agg #[.int .i64 ((rd_T143 x5_2 ((rd_T45 l0_1 p0).f0)).f0), .int .i64 ((rd_T143 x5_2 ((rd_T45 l0_1 p0).f0)).f1)]] (by rfl) rfl rfl (by (try simp only [List.map_toArray, List.map_cons, List.map_nil]); first | done | rfl | (simp only [List.length_drop, List.length_take]; rfl)) ?_
                 with_reducible refine (impl_measure_less.calls (wrap64 (((rd_T143 x5_2 ((rd_T45 l0_1 p0).f1)).f0) + ((rd_T45 l0_1 p0).f2))) (wrap64 (((rd_T143 x5_2 ((rd_T45 l0_1 p0).f1)).f1) + 1)) ((rd_T143 x5_2 ((rd_T45 l0_1 p0).f0)).f0) ((rd_T143 x5_2 ((rd_T45 l0_1 p0).f0)).f1) true _ A32.out).mono ?_
                 rintro e w45 ⟨rfl, hb⟩
                 have HS7_ := (hb.cell (World.block_lt_of_cell? _ _ (hHeld.2.2.2.2.2.2.2.1))).trans (hHeld.2.2.2.2.2.2.2.1)
                 have HS8_ := (hb.cell (World.block_lt_of_cell? _ _ (hHeld.2.2.2.2.2.2.2.2))).trans (hHeld.2.2.2.2.2.2.2.2)
                 refine ⟨_, rfl, ?_⟩
                 have n0_ := Aside0.mk (Kd.R_below HO_5.out hb)
                 have n1_ := Aside0.mk (blk_below (g := q1) (o := .cells #[.int .i64 a0_0, .slice (some r0) l0_1.length c0_1] 38 (0, 0)) p7.out hb)
                 have n2_ := Aside0.mk (blk_below (g := p3) (o := .cells #[.int .i64 ((rd_T45 l0_1 p0).f0), .int .i64 ((rd_T45 l0_1 p0).f1), .int .i64 ((rd_T45 l0_1 p0).f2), .int .i64 ((rd_T45 l0_1 p0).f3), .int .i64 ((rd_T45 l0_1 p0).f4)] 45 (0, 0)) p1.out hb)
                 have n3_ := Aside0.mk (blk_below (g := p5) (o := .cells #[.int .i64 (wrap64 (((rd_T143 x5_2 ((rd_T45 l0_1 p0).f1)).f0) + ((rd_T45 l0_1 p0).f2))), .int .i64 (wrap64 (((rd_T143 x5_2 ((rd_T45 l0_1 p0).f1)).f1) + 1))] 143 (0, 0)) q0.out hb)
                 have n4_ := Aside0.mk (below_step HB.out hb)
                 clear HO_5
                 clear p7
                 clear p1
                 clear q0
                 clear HB
                 have HO_5 := n0_
                 have p7 := n1_
                 have p1 := n2_
                 have q0 := n3_
                 have HB := n4_
                 clear n0_ n1_ n2_ n3_ n4_
                 (try clear hb)
                 (try clear hb2)
                 (try clear hk)
                 (try clear hi)
                 refine hK.out _ _ ⟨(blk_cell q0.out 0).trans rfl, (blk_cell q0.out 1).trans rfl, (blk_cell p1.out 0).trans rfl, (blk_cell p1.out 1).trans rfl, (blk_cell p1.out 2).trans rfl, (blk_cell p1.out 3).trans rfl, (blk_cell p1.out 4).trans rfl, HS7_, HS8_⟩ (fun hHeld => ?_)
                 clear hK K
                 refine norm_ (a' := ?_) ?_ ?_
                 rotate_left
                 ·show Act.put _ (some 50) _ = _
                  simp only [Act.put, List.setIfInBounds_toArray, List.set_cons_zero, List.set_cons_succ, i64_w, i32_w]
                  rfl
                 refine done_ (by kernel_rfl) ?_
                 have hcz46_0 : w45.cell? ⟨p3, 0, none⟩ = some (.int .i64 ((rd_T45 l0_1 p0).f0)) := (blk_cell p1.out 0).trans rfl
                 have hcz46_1 : w45.cell? ⟨p3, 1, none⟩ = some (.int .i64 ((rd_T45 l0_1 p0).f1)) := (blk_cell p1.out 1).trans rfl
                 have hcz46_2 : w45.cell? ⟨p3, 2, none⟩ = some (.int .i64 ((rd_T45 l0_1 p0).f2)) := (blk_cell p1.out 2).trans rfl
                 have hcz46_3 : w45.cell? ⟨p3, 3, none⟩ = some (.int .i64 ((rd_T45 l0_1 p0).f3)) := (blk_cell p1.out 3).trans rfl
                 have hcz46_4 : w45.cell? ⟨p3, 4, none⟩ = some (.int .i64 ((rd_T45 l0_1 p0).f4)) := (blk_cell p1.out 4).trans rfl
                 have hfz46_0 := blk_frozen p1.out 0
                 have hfz46_1 := blk_frozen p1.out 1
                 have hfz46_2 := blk_frozen p1.out 2
                 have hfz46_3 := blk_frozen p1.out 3
                 have hfz46_4 := blk_frozen p1.out 4
                 have hcz47_0 : w45.cell? ⟨p5, 0, none⟩ = some (.int .i64 (wrap64 (((rd_T143 x5_2 ((rd_T45 l0_1 p0).f1)).f0) + ((rd_T45 l0_1 p0).f2)))) := (blk_cell q0.out 0).trans rfl
                 have hcz47_1 : w45.cell? ⟨p5, 1, none⟩ = some (.int .i64 (wrap64 (((rd_T143 x5_2 ((rd_T45 l0_1 p0).f1)).f1) + 1))) := (blk_cell q0.out 1).trans rfl
                 have hfz47_0 := blk_frozen q0.out 0
                 have hfz47_1 := blk_frozen q0.out 1
                 have p34 : 0 ≤ (((rd_T45 l0_1 p0).f0) : Int) := of_decide_eq_true (by first | (with_reducible assumption) | assumption)
                 have q34 : (((rd_T45 l0_1 p0).f0) : Int) < ((x5_2.length : Int) : Int) := of_decide_eq_true (by first | (with_reducible assumption) | assumption)
                 obtain ⟨ce34, hcl34, hM34, u9, hfr34⟩ := Kd.R_elem HO_5.out z143 (((rd_T45 l0_1 p0).f0) : Int) p34 q34
                 obtain rfl := k143_openM hM34
                 have hx34_0 : w45.cell? ⟨go6, (((rd_T45 l0_1 p0).f0) : Int).toNat * 2, none⟩ = some (.int .i64 ((rd_T143 x5_2 ((rd_T45 l0_1 p0).f0)).f0)) := u9 0 _ rfl
                 have hx34_1 : w45.cell? ⟨go6, (((rd_T45 l0_1 p0).f0) : Int).toNat * 2 + 1, none⟩ = some (.int .i64 ((rd_T143 x5_2 ((rd_T45 l0_1 p0).f0)).f1)) := u9 1 _ rfl
                 have hf34_0 : w45.frozen? ⟨go6, (((rd_T45 l0_1 p0).f0) : Int).toNat * 2, none⟩ = false := hfr34 0
                 have hf34_1 : w45.frozen? ⟨go6, (((rd_T45 l0_1 p0).f0) : Int).toNat * 2 + 1, none⟩ = false := hfr34 1
                 clear hcl34 u9 hfr34; (try clear hM34)
                 replace p34 := eq_true p34
                 replace q34 := eq_true q34
                 have HX48 := Aside0.mk (show Kd.R k143 143 w45 w.heap.size (fun k_ => k_ ≠ p5) (.slice (some ⟨go6, 0, none⟩) x5_2.length co6) x5_2 from HO_5.out)
                 obtain ⟨ce48, hcl48, hM48, u4, hfr48⟩ := Kd.R_elem HX48.out z143 (((rd_T45 l0_1 p0).f0) : Int) (of_decide_eq_true (by first | (with_reducible assumption) | assumption)) (by have h_ : (((rd_T45 l0_1 p0).f0) : Int) < ((x5_2.length : Int) : Int) := of_decide_eq_true (by first | (with_reducible assumption) | assumption); first | exact h_ | (have e_ := (Kd.R_reads' HO_5.out).1; omega) | simpa using h_)
                 obtain rfl := k143_openM hM48
                 have HP48 := Kd.R_seg HX48.out (((rd_T45 l0_1 p0).f0) : Int) (of_decide_eq_true (by first | (with_reducible assumption) | assumption)) (by have h_ : (((rd_T45 l0_1 p0).f0) : Int) < ((x5_2.length : Int) : Int) := of_decide_eq_true (by first | (with_reducible assumption) | assumption); first | exact h_ | (have e_ := (Kd.R_reads' HO_5.out).1; omega) | simpa using h_) (seg := [.int .i64 (wrap64 (((rd_T143 x5_2 ((rd_T45 l0_1 p0).f1)).f0) + ((rd_T45 l0_1 p0).f2))), .int .i64 (wrap64 (((rd_T143 x5_2 ((rd_T45 l0_1 p0).f1)).f1) + 1))]) (j := 0) hcl48 u4 (show 2 ≤ 2 from by decide) (x' := (⟨wrap64 (((rd_T143 x5_2 ((rd_T45 l0_1 p0).f1)).f0) + ((rd_T45 l0_1 p0).f2)), wrap64 (((rd_T143 x5_2 ((rd_T45 l0_1 p0).f1)).f1) + 1)⟩ : S143)) (k143_mkM _ _ _ (⟨wrap64 (((rd_T143 x5_2 ((rd_T45 l0_1 p0).f1)).f0) + ((rd_T45 l0_1 p0).f2)), wrap64 (((rd_T143 x5_2 ((rd_T45 l0_1 p0).f1)).f1) + 1)⟩ : S143) ) (fun _ hk => hk)
                 have hx48_0 := u4 0 _ rfl
                 (try simp only [show (k143).sz = 2 from rfl, Nat.mul_one, Nat.add_zero] at hx48_0)
                 have hf48_0 := hfr48 0
                 (try simp only [show (k143).sz = 2 from rfl, Nat.mul_one, Nat.add_zero] at hf48_0)
                 have hx48_1 := u4 1 _ rfl
                 (try simp only [show (k143).sz = 2 from rfl, Nat.mul_one, Nat.add_zero] at hx48_1)
                 have hf48_1 := hfr48 1
                 (try simp only [show (k143).sz = 2 from rfl, Nat.mul_one, Nat.add_zero] at hf48_1)
                 clear hcl48 u4 hfr48; (try clear hM48)
                 try go_wp2_with (first | ((with_reducible refine gate_store (t := 143) (p := 55) rfl ?_); refine store_event (t := 143) (p := 55) (v := ?vo_w49) (w1 := ((w45.setCell ⟨go6, (((rd_T45 l0_1 p0).f0) : Int).toNat * 2, none⟩ (.int .i64 (wrap64 (((rd_T143 x5_2 ((rd_T45 l0_1 p0).f1)).f0) + ((rd_T45 l0_1 p0).f2))))).setCell ⟨go6, (((rd_T45 l0_1 p0).f0) : Int).toNat * 2 + 1, none⟩ (.int .i64 (wrap64 (((rd_T143 x5_2 ((rd_T45 l0_1 p0).f1)).f1) + 1))))) ?hg ?ho ?hn ?hr ?_; (case ho => rfl); (case hg => rfl); (case hn => rfl); (case hr => first | (go_simp; done) | (go_simp; rfl)); intro w49 hw; have hg : w45.grownBy w49 (some go6) := (by rw [hw]; exact HP48.2); have hp_ : Kd.R k143 143 w49 w.heap.size (fun k_ => k_ ≠ p5) (.slice (some ⟨go6, 0, none⟩) x5_2.length co6) y1086 := (by rw [hw, Ny1086.out]; exact HP48.1); clear HP48; have n0_ := Aside0.mk (hp_); have n1_ := Aside0.mk (blk_grown (g := q1) (o := .cells #[.int .i64 a0_0, .slice (some r0) l0_1.length c0_1] 38 (0, 0)) p7.out hg (Kd.R_ne HO_5.out p7.out (by decide))); have n2_ := Aside0.mk (blk_grown (g := p3) (o := .cells #[.int .i64 ((rd_T45 l0_1 p0).f0), .int .i64 ((rd_T45 l0_1 p0).f1), .int .i64 ((rd_T45 l0_1 p0).f2), .int .i64 ((rd_T45 l0_1 p0).f3), .int .i64 ((rd_T45 l0_1 p0).f4)] 45 (0, 0)) p1.out hg (Kd.R_ne HO_5.out p1.out (by decide))); have n3_ := Aside0.mk (blk_grown (g := p5) (o := .cells #[.int .i64 (wrap64 (((rd_T143 x5_2 ((rd_T45 l0_1 p0).f1)).f0) + ((rd_T45 l0_1 p0).f2))), .int .i64 (wrap64 (((rd_T143 x5_2 ((rd_T45 l0_1 p0).f1)).f1) + 1))] 143 (0, 0)) q0.out hg (Kd.R_away HO_5.out (fun _ hk => hk))); have n4_ := Aside0.mk ((by rw [hw]; exact below_set (below_set (HB.out) GB6.out) GB6.out : Below w.heap.size w w49)); clear HO_5; clear p7; clear p1; clear q0; clear HB; have HO_5 := n0_; have p7 := n1_; have p1 := n2_; have q0 := n3_; have HB := n4_; clear n0_ n1_ n2_ n3_ n4_; clear hg hw hp_))
                 (try simp only [← hl5_2])
                 go_roundg k2
                 case measure => have := HK1.out; have := HK2.out; omega
                 case rel => exact ⟨(y1086), (true), (wrap64 (p0 + 1)), (by first | rfl | (simp; done) | (simp [*]; done)), (by first | rfl | (simp; done) | (simp [*]; done)), H', ⟨by have := HK1.out; have := HK2.out; omega⟩, ⟨by (try simp only [hl5_1]); (try simp only [hl5_2]); (with_reducible repeat (first | apply Kd.R_alloc | apply Kd.R_drewN | apply Kd.R_drew)); exact Kd.R_mono HO_5.out (fun _ hk => trivial)⟩, ⟨by (try simp only [hl5_1]); (try simp only [hl5_2]); (with_reducible repeat (first | refine blk_drewN ?_ _ | refine blk_drew ?_ | refine blk_alloc ?_ _)); exact p7.out⟩, ⟨by repeat (first | (with_reducible first | exact HB.out | apply below_alloc | apply pw_below_drewN | apply below_drew1 | refine below_set ?_ r1.out | refine below_set ?_ r9.out | refine below_set ?_ t4.out) | exact HB.out)⟩⟩
                ·replace c33 := Bool.eq_false_iff.mpr c33
                 subst c33
                 have H1 : (impl_Net_toward.l1 k2 x5_2 x6_2 l0_1 (l0_1.length : Int) (wrap64 (p0 + 1)) a0_0 l0_1) = some r := by rw [if_neg (show ¬ (false = true) by decide)] at H; exact H
                 clear H
                 have H := H1
                 clear H1
                 have H' := Aside0.mk H
                 clear H
                 have p1080 : 0 ≤ (p0 : Int) := of_decide_eq_true (by first | (with_reducible assumption) | assumption)
                 have q1080 : p0 < (l0_1.length : Int) := of_decide_eq_true (by first | (with_reducible assumption) | assumption)
                 obtain ⟨r0, e1080, r2, r3, r4, r5, r6⟩ := at_T45 u5.out p0 p1080 q1080
                 cases e1080
                 replace r2 := (HB.out.cell (World.block_lt_of_cell? w _ r2)).trans r2
                 replace r3 := (HB.out.cell (World.block_lt_of_cell? w _ r3)).trans r3
                 replace r4 := (HB.out.cell (World.block_lt_of_cell? w _ r4)).trans r4
                 replace r5 := (HB.out.cell (World.block_lt_of_cell? w _ r5)).trans r5
                 replace r6 := (HB.out.cell (World.block_lt_of_cell? w _ r6)).trans r6
                 replace p1080 := eq_true p1080
                 replace q1080 := eq_true q1080
                 try go_wp2_with (first | ((with_reducible refine gate_dst (N := 8) rfl ?_); refine box_event ?hg (N := 8) ?hd (cs := #[.int .i64 0, .int .i64 0, .int .i64 0, .int .i64 0, .int .i64 0]) (t := 45) ?hr ?_; (case hd => rfl); (case hg => rfl); (case hr => first | (go_simp; done) | (go_simp; rfl)); intro p3 hg w50 hbox hb; have n0_ := Aside0.mk (Kd.R_below HO_5.out hb); have n1_ := Aside0.mk (blk_below (g := q1) (o := .cells #[.int .i64 a0_0, .slice (some r0) l0_1.length c0_1] 38 (0, 0)) p7.out hb); have n2_ := Aside0.mk (below_step HB.out hb); have n3_ := Aside0.mk (hbox); have n4_ := Aside0.mk ((by rw [hg]; exact (below_size HB.out) : w.heap.size ≤ p3)); have n5_ := Aside0.mk ((by rw [hg]; exact (below_size HB.out) : w.heap.size ≤ p3)); have n6_ := Aside0.mk ((by rw [hg]; exact Nat.ne_of_lt (blk_lt (g := q1) (o := .cells #[.int .i64 a0_0, .slice (some r0) l0_1.length c0_1] 38 (0, 0)) p7.out) : q1 ≠ p3)); have n7_ := Aside0.mk ((by rw [hg]; exact Nat.ne_of_gt (blk_lt (g := q1) (o := .cells #[.int .i64 a0_0, .slice (some r0) l0_1.length c0_1] 38 (0, 0)) p7.out) : p3 ≠ q1)); clear HO_5; clear p7; clear HB; have HO_5 := n0_; have p7 := n1_; have HB := n2_; have p1 := n3_; have u7 := n4_; have r9 := n5_; have p4 := n6_; have t0 := n7_; clear n0_ n1_ n2_ n3_ n4_ n5_ n6_ n7_; clear hb hbox hg; have hnb51 := t0.out; have hnc51 := p4.out; have hcz52_0 : w50.cell? ⟨p3, 0, none⟩ = some (.int .i64 0) := (blk_cell p1.out 0).trans rfl; have hcz52_1 : w50.cell? ⟨p3, 1, none⟩ = some (.int .i64 0) := (blk_cell p1.out 1).trans rfl; have hcz52_2 : w50.cell? ⟨p3, 2, none⟩ = some (.int .i64 0) := (blk_cell p1.out 2).trans rfl; have hcz52_3 : w50.cell? ⟨p3, 3, none⟩ = some (.int .i64 0) := (blk_cell p1.out 3).trans rfl; have hcz52_4 : w50.cell? ⟨p3, 4, none⟩ = some (.int .i64 0) := (blk_cell p1.out 4).trans rfl; have hfz52_0 := blk_frozen p1.out 0; have hfz52_1 := blk_frozen p1.out 1; have hfz52_2 := blk_frozen p1.out 2; have hfz52_3 := blk_frozen p1.out 3; have hfz52_4 := blk_frozen p1.out 4; have p1082 : 0 ≤ (((rd_T45 l0_1 p0).f1) : Int) := of_decide_eq_true (by first | (with_reducible assumption) | assumption); have q1082 : ((rd_T45 l0_1 p0).f1) < (x5_2.length : Int) := of_decide_eq_true (by first | (with_reducible assumption) | assumption); obtain ⟨t5, e1082, p8, p9⟩ := at_T143 (Kd.R_reads' HO_5.out).2.2 ((rd_T45 l0_1 p0).f1) p1082 q1082; obtain rfl : (⟨go6, 0, none⟩ : Addr) = t5 := (by injection e1082); (first | simp only [add_plain] at p8 | simp only [add_at] at p8 | simp only [Addr.add, Nat.zero_add] at p8 | skip); (first | simp only [add_plain] at p9 | simp only [add_at] at p9 | simp only [Addr.add, Nat.zero_add] at p9 | skip); have q2 : (⟨go6, 0, none⟩ : Addr).block ≠ p3 := Kd.own_blk (Kd.R_ne HO_5.out p1.out (by decide)); have q3 : (⟨go6, 0, none⟩ : Addr).block ≠ p3 := Kd.own_blk (Kd.R_ne HO_5.out p1.out (by decide)); have q4 : (⟨go6, 0, none⟩ : Addr).block ≠ p3 := Kd.own_blk (Kd.R_ne HO_5.out p1.out (by decide)); have q5 : (⟨go6, 0, none⟩ : Addr).block ≠ p3 := Kd.own_blk (Kd.R_ne HO_5.out p1.out (by decide)); have q7 : (⟨go6, 0, none⟩ : Addr).block ≠ p3 := Kd.own_blk (Kd.R_ne HO_5.out p1.out (by decide)); replace p8 := (cell_far (p := ⟨p3, 0, none⟩) (by first | (rw [add_block]; exact q2) | (show (Addr.add _ _).block ≠ _; rw [add_block]; exact q2) | exact q2) (.int .i64 ((rd_T45 l0_1 p0).f0))).trans p8; replace p9 := (cell_far (p := ⟨p3, 0, none⟩) (by first | (rw [add_block]; exact q2) | (show (Addr.add _ _).block ≠ _; rw [add_block]; exact q2) | exact q2) (.int .i64 ((rd_T45 l0_1 p0).f0))).trans p9; replace p8 := (cell_far (p := ⟨p3, 1, none⟩) (by first | (rw [add_block]; exact q3) | (show (Addr.add _ _).block ≠ _; rw [add_block]; exact q3) | exact q3) (.int .i64 ((rd_T45 l0_1 p0).f1))).trans p8; replace p9 := (cell_far (p := ⟨p3, 1, none⟩) (by first | (rw [add_block]; exact q3) | (show (Addr.add _ _).block ≠ _; rw [add_block]; exact q3) | exact q3) (.int .i64 ((rd_T45 l0_1 p0).f1))).trans p9; replace p8 := (cell_far (p := ⟨p3, 2, none⟩) (by first | (rw [add_block]; exact q4) | (show (Addr.add _ _).block ≠ _; rw [add_block]; exact q4) | exact q4) (.int .i64 ((rd_T45 l0_1 p0).f2))).trans p8; replace p9 := (cell_far (p := ⟨p3, 2, none⟩) (by first | (rw [add_block]; exact q4) | (show (Addr.add _ _).block ≠ _; rw [add_block]; exact q4) | exact q4) (.int .i64 ((rd_T45 l0_1 p0).f2))).trans p9; replace p8 := (cell_far (p := ⟨p3, 3, none⟩) (by first | (rw [add_block]; exact q5) | (show (Addr.add _ _).block ≠ _; rw [add_block]; exact q5) | exact q5) (.int .i64 ((rd_T45 l0_1 p0).f3))).trans p8; replace p9 := (cell_far (p := ⟨p3, 3, none⟩) (by first | (rw [add_block]; exact q5) | (show (Addr.add _ _).block ≠ _; rw [add_block]; exact q5) | exact q5) (.int .i64 ((rd_T45 l0_1 p0).f3))).trans p9; replace p8 := (cell_far (p := ⟨p3, 4, none⟩) (by first | (rw [add_block]; exact q7) | (show (Addr.add _ _).block ≠ _; rw [add_block]; exact q7) | exact q7) (.int .i64 ((rd_T45 l0_1 p0).f4))).trans p8; replace p9 := (cell_far (p := ⟨p3, 4, none⟩) (by first | (rw [add_block]; exact q7) | (show (Addr.add _ _).block ≠ _; rw [add_block]; exact q7) | exact q7) (.int .i64 ((rd_T45 l0_1 p0).f4))).trans p9; clear q2; clear q3; clear q4; clear q5; clear q7; replace p1082 := eq_true p1082; replace q1082 := eq_true q1082) | ((with_reducible refine gate_dst (N := 9) rfl ?_); refine box_event ?hg (N := 9) ?hd (cs := #[.int .i64 0, .int .i64 0]) (t := 143) ?hr ?_; (case hd => rfl); (case hg => rfl); (case hr => first | (go_simp; done) | (go_simp; rfl)); intro p5 hg w53 hbox hb; have n0_ := Aside0.mk (Kd.R_below (Kd.R_elderB (Kd.R_mono (Kd.R_far (p := ⟨p3, 4, none⟩) (Kd.R_far (p := ⟨p3, 3, none⟩) (Kd.R_far (p := ⟨p3, 2, none⟩) (Kd.R_far (p := ⟨p3, 1, none⟩) (Kd.R_far (p := ⟨p3, 0, none⟩) (Kd.R_types HO_5.out p1.out (by decide)) (fun _ hk => hk.2) (.int .i64 ((rd_T45 l0_1 p0).f0))) (fun _ hk => hk.2) (.int .i64 ((rd_T45 l0_1 p0).f1))) (fun _ hk => hk.2) (.int .i64 ((rd_T45 l0_1 p0).f2))) (fun _ hk => hk.2) (.int .i64 ((rd_T45 l0_1 p0).f3))) (fun _ hk => hk.2) (.int .i64 ((rd_T45 l0_1 p0).f4))) (fun _ h_ => h_.1)) p5 (Nat.le_of_eq hg.symm)) hb); have n1_ := Aside0.mk (blk_below (g := q1) (o := .cells #[.int .i64 a0_0, .slice (some r0) l0_1.length c0_1] 38 (0, 0)) (by (with_reducible repeat (first | refine blk_drewN ?_ _ | refine blk_drew ?_ | refine blk_alloc ?_ _)); refine blk_far ?_ p4.out _; (with_reducible repeat (first | refine blk_drewN ?_ _ | refine blk_drew ?_ | refine blk_alloc ?_ _)); refine blk_far ?_ p4.out _; (with_reducible repeat (first | refine blk_drewN ?_ _ | refine blk_drew ?_ | refine blk_alloc ?_ _)); refine blk_far ?_ p4.out _; (with_reducible repeat (first | refine blk_drewN ?_ _ | refine blk_drew ?_ | refine blk_alloc ?_ _)); refine blk_far ?_ p4.out _; (with_reducible repeat (first | refine blk_drewN ?_ _ | refine blk_drew ?_ | refine blk_alloc ?_ _)); refine blk_far ?_ p4.out _; (with_reducible repeat (first | refine blk_drewN ?_ _ | refine blk_drew ?_ | refine blk_alloc ?_ _)); exact p7.out) hb); have n2_ := Aside0.mk (blk_below (g := p3) (o := .cells #[.int .i64 ((rd_T45 l0_1 p0).f0), .int .i64 ((rd_T45 l0_1 p0).f1), .int .i64 ((rd_T45 l0_1 p0).f2), .int .i64 ((rd_T45 l0_1 p0).f3), .int .i64 ((rd_T45 l0_1 p0).f4)] 45 (0, 0)) (by (with_reducible repeat (first | refine blk_drewN ?_ _ | refine blk_drew ?_ | refine blk_alloc ?_ _)); refine blk_put (cs := #[.int .i64 ((rd_T45 l0_1 p0).f0), .int .i64 ((rd_T45 l0_1 p0).f1), .int .i64 ((rd_T45 l0_1 p0).f2), .int .i64 ((rd_T45 l0_1 p0).f3), .int .i64 0]) ?_ 4 _ rfl; (with_reducible repeat (first | refine blk_drewN ?_ _ | refine blk_drew ?_ | refine blk_alloc ?_ _)); refine blk_put (cs := #[.int .i64 ((rd_T45 l0_1 p0).f0), .int .i64 ((rd_T45 l0_1 p0).f1), .int .i64 ((rd_T45 l0_1 p0).f2), .int .i64 0, .int .i64 0]) ?_ 3 _ rfl; (with_reducible repeat (first | refine blk_drewN ?_ _ | refine blk_drew ?_ | refine blk_alloc ?_ _)); refine blk_put (cs := #[.int .i64 ((rd_T45 l0_1 p0).f0), .int .i64 ((rd_T45 l0_1 p0).f1), .int .i64 0, .int .i64 0, .int .i64 0]) ?_ 2 _ rfl; (with_reducible repeat (first | refine blk_drewN ?_ _ | refine blk_drew ?_ | refine blk_alloc ?_ _)); refine blk_put (cs := #[.int .i64 ((rd_T45 l0_1 p0).f0), .int .i64 0, .int .i64 0, .int .i64 0, .int .i64 0]) ?_ 1 _ rfl; (with_reducible repeat (first | refine blk_drewN ?_ _ | refine blk_drew ?_ | refine blk_alloc ?_ _)); refine blk_put (cs := #[.int .i64 0, .int .i64 0, .int .i64 0, .int .i64 0, .int .i64 0]) ?_ 0 _ rfl; (with_reducible repeat (first | refine blk_drewN ?_ _ | refine blk_drew ?_ | refine blk_alloc ?_ _)); exact p1.out) hb); have n3_ := Aside0.mk (below_step (by repeat (first | (with_reducible first | exact HB.out | apply below_alloc | apply pw_below_drewN | apply below_drew1 | refine below_set ?_ r1.out | refine below_set ?_ r9.out) | exact HB.out)) hb); have n4_ := Aside0.mk (hbox); have n5_ := Aside0.mk ((by rw [hg]; exact (below_size (by repeat (first | (with_reducible first | exact HB.out | apply below_alloc | apply pw_below_drewN | apply below_drew1 | refine below_set ?_ r1.out | refine below_set ?_ r9.out) | exact HB.out))) : w.heap.size ≤ p5)); have n6_ := Aside0.mk ((by rw [hg]; exact (below_size (by repeat (first | (with_reducible first | exact HB.out | apply below_alloc | apply pw_below_drewN | apply below_drew1 | refine below_set ?_ r1.out | refine below_set ?_ r9.out) | exact HB.out))) : w.heap.size ≤ p5)); have n7_ := Aside0.mk ((by rw [hg]; exact Nat.ne_of_lt (blk_lt (g := q1) (o := .cells #[.int .i64 a0_0, .slice (some r0) l0_1.length c0_1] 38 (0, 0)) (by (with_reducible repeat (first | refine blk_drewN ?_ _ | refine blk_drew ?_ | refine blk_alloc ?_ _)); refine blk_far ?_ p4.out _; (with_reducible repeat (first | refine blk_drewN ?_ _ | refine blk_drew ?_ | refine blk_alloc ?_ _)); refine blk_far ?_ p4.out _; (with_reducible repeat (first | refine blk_drewN ?_ _ | refine blk_drew ?_ | refine blk_alloc ?_ _)); refine blk_far ?_ p4.out _; (with_reducible repeat (first | refine blk_drewN ?_ _ | refine blk_drew ?_ | refine blk_alloc ?_ _)); refine blk_far ?_ p4.out _; (with_reducible repeat (first | refine blk_drewN ?_ _ | refine blk_drew ?_ | refine blk_alloc ?_ _)); refine blk_far ?_ p4.out _; (with_reducible repeat (first | refine blk_drewN ?_ _ | refine blk_drew ?_ | refine blk_alloc ?_ _)); exact p7.out)) : q1 ≠ p5)); have n8_ := Aside0.mk ((by rw [hg]; exact Nat.ne_of_gt (blk_lt (g := q1) (o := .cells #[.int .i64 a0_0, .slice (some r0) l0_1.length c0_1] 38 (0, 0)) (by (with_reducible repeat (first | refine blk_drewN ?_ _ | refine blk_drew ?_ | refine blk_alloc ?_ _)); refine blk_far ?_ p4.out _; (with_reducible repeat (first | refine blk_drewN ?_ _ | refine blk_drew ?_ | refine blk_alloc ?_ _)); refine blk_far ?_ p4.out _; (with_reducible repeat (first | refine blk_drewN ?_ _ | refine blk_drew ?_ | refine blk_alloc ?_ _)); refine blk_far ?_ p4.out _; (with_reducible repeat (first | refine blk_drewN ?_ _ | refine blk_drew ?_ | refine blk_alloc ?_ _)); refine blk_far ?_ p4.out _; (with_reducible repeat (first | refine blk_drewN ?_ _ | refine blk_drew ?_ | refine blk_alloc ?_ _)); refine blk_far ?_ p4.out _; (with_reducible repeat (first | refine blk_drewN ?_ _ | refine blk_drew ?_ | refine blk_alloc ?_ _)); exact p7.out)) : p5 ≠ q1)); have n9_ := Aside0.mk ((by rw [hg]; exact Nat.ne_of_lt (blk_lt (g := p3) (o := .cells #[.int .i64 ((rd_T45 l0_1 p0).f0), .int .i64 ((rd_T45 l0_1 p0).f1), .int .i64 ((rd_T45 l0_1 p0).f2), .int .i64 ((rd_T45 l0_1 p0).f3), .int .i64 ((rd_T45 l0_1 p0).f4)] 45 (0, 0)) (by (with_reducible repeat (first | refine blk_drewN ?_ _ | refine blk_drew ?_ | refine blk_alloc ?_ _)); refine blk_put (cs := #[.int .i64 ((rd_T45 l0_1 p0).f0), .int .i64 ((rd_T45 l0_1 p0).f1), .int .i64 ((rd_T45 l0_1 p0).f2), .int .i64 ((rd_T45 l0_1 p0).f3), .int .i64 0]) ?_ 4 _ rfl; (with_reducible repeat (first | refine blk_drewN ?_ _ | refine blk_drew ?_ | refine blk_alloc ?_ _)); refine blk_put (cs := #[.int .i64 ((rd_T45 l0_1 p0).f0), .int .i64 ((rd_T45 l0_1 p0).f1), .int .i64 ((rd_T45 l0_1 p0).f2), .int .i64 0, .int .i64 0]) ?_ 3 _ rfl; (with_reducible repeat (first | refine blk_drewN ?_ _ | refine blk_drew ?_ | refine blk_alloc ?_ _)); refine blk_put (cs := #[.int .i64 ((rd_T45 l0_1 p0).f0), .int .i64 ((rd_T45 l0_1 p0).f1), .int .i64 0, .int .i64 0, .int .i64 0]) ?_ 2 _ rfl; (with_reducible repeat (first | refine blk_drewN ?_ _ | refine blk_drew ?_ | refine blk_alloc ?_ _)); refine blk_put (cs := #[.int .i64 ((rd_T45 l0_1 p0).f0), .int .i64 0, .int .i64 0, .int .i64 0, .int .i64 0]) ?_ 1 _ rfl; (with_reducible repeat (first | refine blk_drewN ?_ _ | refine blk_drew ?_ | refine blk_alloc ?_ _)); refine blk_put (cs := #[.int .i64 0, .int .i64 0, .int .i64 0, .int .i64 0, .int .i64 0]) ?_ 0 _ rfl; (with_reducible repeat (first | refine blk_drewN ?_ _ | refine blk_drew ?_ | refine blk_alloc ?_ _)); exact p1.out)) : p3 ≠ p5)); have n10_ := Aside0.mk ((by rw [hg]; exact Nat.ne_of_gt (blk_lt (g := p3) (o := .cells #[.int .i64 ((rd_T45 l0_1 p0).f0), .int .i64 ((rd_T45 l0_1 p0).f1), .int .i64 ((rd_T45 l0_1 p0).f2), .int .i64 ((rd_T45 l0_1 p0).f3), .int .i64 ((rd_T45 l0_1 p0).f4)] 45 (0, 0)) (by (with_reducible repeat (first | refine blk_drewN ?_ _ | refine blk_drew ?_ | refine blk_alloc ?_ _)); refine blk_put (cs := #[.int .i64 ((rd_T45 l0_1 p0).f0), .int .i64 ((rd_T45 l0_1 p0).f1), .int .i64 ((rd_T45 l0_1 p0).f2), .int .i64 ((rd_T45 l0_1 p0).f3), .int .i64 0]) ?_ 4 _ rfl; (with_reducible repeat (first | refine blk_drewN ?_ _ | refine blk_drew ?_ | refine blk_alloc ?_ _)); refine blk_put (cs := #[.int .i64 ((rd_T45 l0_1 p0).f0), .int .i64 ((rd_T45 l0_1 p0).f1), .int .i64 ((rd_T45 l0_1 p0).f2), .int .i64 0, .int .i64 0]) ?_ 3 _ rfl; (with_reducible repeat (first | refine blk_drewN ?_ _ | refine blk_drew ?_ | refine blk_alloc ?_ _)); refine blk_put (cs := #[.int .i64 ((rd_T45 l0_1 p0).f0), .int .i64 ((rd_T45 l0_1 p0).f1), .int .i64 0, .int .i64 0, .int .i64 0]) ?_ 2 _ rfl; (with_reducible repeat (first | refine blk_drewN ?_ _ | refine blk_drew ?_ | refine blk_alloc ?_ _)); refine blk_put (cs := #[.int .i64 ((rd_T45 l0_1 p0).f0), .int .i64 0, .int .i64 0, .int .i64 0, .int .i64 0]) ?_ 1 _ rfl; (with_reducible repeat (first | refine blk_drewN ?_ _ | refine blk_drew ?_ | refine blk_alloc ?_ _)); refine blk_put (cs := #[.int .i64 0, .int .i64 0, .int .i64 0, .int .i64 0, .int .i64 0]) ?_ 0 _ rfl; (with_reducible repeat (first | refine blk_drewN ?_ _ | refine blk_drew ?_ | refine blk_alloc ?_ _)); exact p1.out)) : p5 ≠ p3)); clear HO_5; clear p7; clear p1; clear HB; have HO_5 := n0_; have p7 := n1_; have p1 := n2_; have HB := n3_; have q0 := n4_; have u8 := n5_; have t4 := n6_; have q8 := n7_; have t1 := n8_; have q9 := n9_; have t2 := n10_; clear n0_ n1_ n2_ n3_ n4_ n5_ n6_ n7_ n8_ n9_ n10_; clear hb hbox hg; have hnb54 := t1.out; have hnc54 := q8.out; have hnb55 := t2.out; have hnc55 := q9.out; have hcz56_0 : w53.cell? ⟨p5, 0, none⟩ = some (.int .i64 0) := (blk_cell q0.out 0).trans rfl; have hcz56_1 : w53.cell? ⟨p5, 1, none⟩ = some (.int .i64 0) := (blk_cell q0.out 1).trans rfl; have hfz56_0 := blk_frozen q0.out 0; have hfz56_1 := blk_frozen q0.out 1; have hcz57_0 : w53.cell? ⟨p3, 0, none⟩ = some (.int .i64 ((rd_T45 l0_1 p0).f0)) := (blk_cell p1.out 0).trans rfl; have hcz57_1 : w53.cell? ⟨p3, 1, none⟩ = some (.int .i64 ((rd_T45 l0_1 p0).f1)) := (blk_cell p1.out 1).trans rfl; have hcz57_2 : w53.cell? ⟨p3, 2, none⟩ = some (.int .i64 ((rd_T45 l0_1 p0).f2)) := (blk_cell p1.out 2).trans rfl; have hcz57_3 : w53.cell? ⟨p3, 3, none⟩ = some (.int .i64 ((rd_T45 l0_1 p0).f3)) := (blk_cell p1.out 3).trans rfl; have hcz57_4 : w53.cell? ⟨p3, 4, none⟩ = some (.int .i64 ((rd_T45 l0_1 p0).f4)) := (blk_cell p1.out 4).trans rfl; have hfz57_0 := blk_frozen p1.out 0; have hfz57_1 := blk_frozen p1.out 1; have hfz57_2 := blk_frozen p1.out 2; have hfz57_3 := blk_frozen p1.out 3; have hfz57_4 := blk_frozen p1.out 4))
                 have n0_ : Aside0 (Kd.R k143 143 ((((w53.setCell ⟨p5, 0, none⟩ (.int .i64 ((rd_T143 x5_2 ((rd_T45 l0_1 p0).f1)).f0))).setCell ⟨p5, 1, none⟩ (.int .i64 ((rd_T143 x5_2 ((rd_T45 l0_1 p0).f1)).f1))).setCell ⟨p5, 0, none⟩ (.int .i64 (wrap64 (((rd_T143 x5_2 ((rd_T45 l0_1 p0).f1)).f0) + ((rd_T45 l0_1 p0).f2))))).setCell ⟨p5, 1, none⟩ (.int .i64 (wrap64 (((rd_T143 x5_2 ((rd_T45 l0_1 p0).f1)).f1) + 1)))) w.heap.size (fun k_ => k_ ≠ p5) (.slice (some ⟨go6, 0, none⟩) x5_2.length co6) x5_2) := ⟨by (with_reducible repeat (first | apply Kd.R_alloc | apply Kd.R_drewN | apply Kd.R_drew)); exact Kd.R_mono (Kd.R_far (p := ⟨p5, 1, none⟩) (Kd.R_far (p := ⟨p5, 0, none⟩) (Kd.R_far (p := ⟨p5, 1, none⟩) (Kd.R_far (p := ⟨p5, 0, none⟩) (Kd.R_mono HO_5.out (fun k_ hk => (⟨hk, hk.2⟩ : _ ∧ k_ ≠ p5))) (fun _ hk => hk.2) (.int .i64 ((rd_T143 x5_2 ((rd_T45 l0_1 p0).f1)).f0))) (fun _ hk => hk.2) (.int .i64 ((rd_T143 x5_2 ((rd_T45 l0_1 p0).f1)).f1))) (fun _ hk => hk.2) (.int .i64 (wrap64 (((rd_T143 x5_2 ((rd_T45 l0_1 p0).f1)).f0) + ((rd_T45 l0_1 p0).f2))))) (fun _ hk => hk.2) (.int .i64 (wrap64 (((rd_T143 x5_2 ((rd_T45 l0_1 p0).f1)).f1) + 1)))) (fun _ hk => hk.1.2)⟩
                 have n1_ : Aside0 (((((w53.setCell ⟨p5, 0, none⟩ (.int .i64 ((rd_T143 x5_2 ((rd_T45 l0_1 p0).f1)).f0))).setCell ⟨p5, 1, none⟩ (.int .i64 ((rd_T143 x5_2 ((rd_T45 l0_1 p0).f1)).f1))).setCell ⟨p5, 0, none⟩ (.int .i64 (wrap64 (((rd_T143 x5_2 ((rd_T45 l0_1 p0).f1)).f0) + ((rd_T45 l0_1 p0).f2))))).setCell ⟨p5, 1, none⟩ (.int .i64 (wrap64 (((rd_T143 x5_2 ((rd_T45 l0_1 p0).f1)).f1) + 1)))).heap[q1]? = some (.cells #[.int .i64 a0_0, .slice (some r0) l0_1.length c0_1] 38 (0, 0))) := ⟨by (with_reducible repeat (first | refine blk_drewN ?_ _ | refine blk_drew ?_ | refine blk_alloc ?_ _)); refine blk_far ?_ q8.out _; (with_reducible repeat (first | refine blk_drewN ?_ _ | refine blk_drew ?_ | refine blk_alloc ?_ _)); refine blk_far ?_ q8.out _; (with_reducible repeat (first | refine blk_drewN ?_ _ | refine blk_drew ?_ | refine blk_alloc ?_ _)); refine blk_far ?_ q8.out _; (with_reducible repeat (first | refine blk_drewN ?_ _ | refine blk_drew ?_ | refine blk_alloc ?_ _)); refine blk_far ?_ q8.out _; (with_reducible repeat (first | refine blk_drewN ?_ _ | refine blk_drew ?_ | refine blk_alloc ?_ _)); exact p7.out⟩
                 have n2_ : Aside0 (((((w53.setCell ⟨p5, 0, none⟩ (.int .i64 ((rd_T143 x5_2 ((rd_T45 l0_1 p0).f1)).f0))).setCell ⟨p5, 1, none⟩ (.int .i64 ((rd_T143 x5_2 ((rd_T45 l0_1 p0).f1)).f1))).setCell ⟨p5, 0, none⟩ (.int .i64 (wrap64 (((rd_T143 x5_2 ((rd_T45 l0_1 p0).f1)).f0) + ((rd_T45 l0_1 p0).f2))))).setCell ⟨p5, 1, none⟩ (.int .i64 (wrap64 (((rd_T143 x5_2 ((rd_T45 l0_1 p0).f1)).f1) + 1)))).heap[p3]? = some (.cells #[.int .i64 ((rd_T45 l0_1 p0).f0), .int .i64 ((rd_T45 l0_1 p0).f1), .int .i64 ((rd_T45 l0_1 p0).f2), .int .i64 ((rd_T45 l0_1 p0).f3), .int .i64 ((rd_T45 l0_1 p0).f4)] 45 (0, 0))) := ⟨by (with_reducible repeat (first | refine blk_drewN ?_ _ | refine blk_drew ?_ | refine blk_alloc ?_ _)); refine blk_far ?_ q9.out _; (with_reducible repeat (first | refine blk_drewN ?_ _ | refine blk_drew ?_ | refine blk_alloc ?_ _)); refine blk_far ?_ q9.out _; (with_reducible repeat (first | refine blk_drewN ?_ _ | refine blk_drew ?_ | refine blk_alloc ?_ _)); refine blk_far ?_ q9.out _; (with_reducible repeat (first | refine blk_drewN ?_ _ | refine blk_drew ?_ | refine blk_alloc ?_ _)); refine blk_far ?_ q9.out _; (with_reducible repeat (first | refine blk_drewN ?_ _ | refine blk_drew ?_ | refine blk_alloc ?_ _)); exact p1.out⟩
                 have n3_ : Aside0 (((((w53.setCell ⟨p5, 0, none⟩ (.int .i64 ((rd_T143 x5_2 ((rd_T45 l0_1 p0).f1)).f0))).setCell ⟨p5, 1, none⟩ (.int .i64 ((rd_T143 x5_2 ((rd_T45 l0_1 p0).f1)).f1))).setCell ⟨p5, 0, none⟩ (.int .i64 (wrap64 (((rd_T143 x5_2 ((rd_T45 l0_1 p0).f1)).f0) + ((rd_T45 l0_1 p0).f2))))).setCell ⟨p5, 1, none⟩ (.int .i64 (wrap64 (((rd_T143 x5_2 ((rd_T45 l0_1 p0).f1)).f1) + 1)))).heap[p5]? = some (.cells #[.int .i64 (wrap64 (((rd_T143 x5_2 ((rd_T45 l0_1 p0).f1)).f0) + ((rd_T45 l0_1 p0).f2))), .int .i64 (wrap64 (((rd_T143 x5_2 ((rd_T45 l0_1 p0).f1)).f1) + 1))] 143 (0, 0))) := ⟨by (with_reducible repeat (first | refine blk_drewN ?_ _ | refine blk_drew ?_ | refine blk_alloc ?_ _)); refine blk_put (cs := #[.int .i64 (wrap64 (((rd_T143 x5_2 ((rd_T45 l0_1 p0).f1)).f0) + ((rd_T45 l0_1 p0).f2))), .int .i64 ((rd_T143 x5_2 ((rd_T45 l0_1 p0).f1)).f1)]) ?_ 1 _ rfl; (with_reducible repeat (first | refine blk_drewN ?_ _ | refine blk_drew ?_ | refine blk_alloc ?_ _)); refine blk_put (cs := #[.int .i64 ((rd_T143 x5_2 ((rd_T45 l0_1 p0).f1)).f0), .int .i64 ((rd_T143 x5_2 ((rd_T45 l0_1 p0).f1)).f1)]) ?_ 0 _ rfl; (with_reducible repeat (first | refine blk_drewN ?_ _ | refine blk_drew ?_ | refine blk_alloc ?_ _)); refine blk_put (cs := #[.int .i64 ((rd_T143 x5_2 ((rd_T45 l0_1 p0).f1)).f0), .int .i64 0]) ?_ 1 _ rfl; (with_reducible repeat (first | refine blk_drewN ?_ _ | refine blk_drew ?_ | refine blk_alloc ?_ _)); refine blk_put (cs := #[.int .i64 0, .int .i64 0]) ?_ 0 _ rfl; (with_reducible repeat (first | refine blk_drewN ?_ _ | refine blk_drew ?_ | refine blk_alloc ?_ _)); exact q0.out⟩
                 have n4_ : Aside0 (Below w.heap.size w ((((w53.setCell ⟨p5, 0, none⟩ (.int .i64 ((rd_T143 x5_2 ((rd_T45 l0_1 p0).f1)).f0))).setCell ⟨p5, 1, none⟩ (.int .i64 ((rd_T143 x5_2 ((rd_T45 l0_1 p0).f1)).f1))).setCell ⟨p5, 0, none⟩ (.int .i64 (wrap64 (((rd_T143 x5_2 ((rd_T45 l0_1 p0).f1)).f0) + ((rd_T45 l0_1 p0).f2))))).setCell ⟨p5, 1, none⟩ (.int .i64 (wrap64 (((rd_T143 x5_2 ((rd_T45 l0_1 p0).f1)).f1) + 1))))) := ⟨by repeat (first | (with_reducible first | exact HB.out | apply below_alloc | apply pw_below_drewN | apply below_drew1 | refine below_set ?_ r1.out | refine below_set ?_ r9.out | refine below_set ?_ t4.out) | exact HB.out)⟩
                 (try clear HO_5)
                 (try clear p7)
                 (try clear p1)
                 (try clear q0)
                 (try clear HB)
                 generalize ((((w53.setCell ⟨p5, 0, none⟩ (.int .i64 ((rd_T143 x5_2 ((rd_T45 l0_1 p0).f1)).f0))).setCell ⟨p5, 1, none⟩ (.int .i64 ((rd_T143 x5_2 ((rd_T45 l0_1 p0).f1)).f1))).setCell ⟨p5, 0, none⟩ (.int .i64 (wrap64 (((rd_T143 x5_2 ((rd_T45 l0_1 p0).f1)).f0) + ((rd_T45 l0_1 p0).f2))))).setCell ⟨p5, 1, none⟩ (.int .i64 (wrap64 (((rd_T143 x5_2 ((rd_T45 l0_1 p0).f1)).f1) + 1)))) = w58 at n0_ n1_ n2_ n3_ n4_ ⊢
                 have HO_5 := n0_
                 have p7 := n1_
                 have p1 := n2_
                 have q0 := n3_
                 have HB := n4_
                 clear n0_ n1_ n2_ n3_ n4_
                 have n0_ := Aside0.mk (Kd.R_drew HO_5.out)
                 have n1_ := Aside0.mk (blk_drew p7.out)
                 have n2_ := Aside0.mk (blk_drew p1.out)
                 have n3_ := Aside0.mk (blk_drew q0.out)
                 have n4_ := Aside0.mk (below_drew1 HB.out)
                 clear HO_5
                 clear p7
                 clear p1
                 clear q0
                 clear HB
                 have HO_5 := n0_
                 have p7 := n1_
                 have p1 := n2_
                 have q0 := n3_
                 have HB := n4_
                 clear n0_ n1_ n2_ n3_ n4_
                 have p1084 : 0 ≤ (((rd_T45 l0_1 p0).f0) : Int) := of_decide_eq_true (by first | (with_reducible assumption) | assumption)
                 have q1084 : ((rd_T45 l0_1 p0).f0) < (x5_2.length : Int) := of_decide_eq_true (by first | (with_reducible assumption) | assumption)
                 obtain ⟨t8, e1084, r7, r8⟩ := at_T143 (Kd.R_reads' HO_5.out).2.2 ((rd_T45 l0_1 p0).f0) p1084 q1084
                 obtain rfl : (⟨go6, 0, none⟩ : Addr) = t8 := (by injection e1084)
                 (first | simp only [add_plain] at r7 | simp only [add_at] at r7 | simp only [Addr.add, Nat.zero_add] at r7 | skip)
                 (first | simp only [add_plain] at r8 | simp only [add_at] at r8 | simp only [Addr.add, Nat.zero_add] at r8 | skip)
                 replace p1084 := eq_true p1084
                 replace q1084 := eq_true q1084
                 refine start_ (n := 7) (S := fun w' => w'.cell? ⟨p5, 0, none⟩ = some (.int .i64 (wrap64 (((rd_T143 x5_2 ((rd_T45 l0_1 p0).f1)).f0) + ((rd_T45 l0_1 p0).f2)))) ∧ w'.cell? ⟨p5, 1, none⟩ = some (.int .i64 (wrap64 (((rd_T143 x5_2 ((rd_T45 l0_1 p0).f1)).f1) + 1))) ∧ w'.cell? ⟨p3, 0, none⟩ = some (.int .i64 ((rd_T45 l0_1 p0).f0)) ∧ w'.cell? ⟨p3, 1, none⟩ = some (.int .i64 ((rd_T45 l0_1 p0).f1)) ∧ w'.cell? ⟨p3, 2, none⟩ = some (.int .i64 ((rd_T45 l0_1 p0).f2)) ∧ w'.cell? ⟨p3, 3, none⟩ = some (.int .i64 ((rd_T45 l0_1 p0).f3)) ∧ w'.cell? ⟨p3, 4, none⟩ = some (.int .i64 ((rd_T45 l0_1 p0).f4)) ∧ w'.cell? ⟨go6, (((rd_T45 l0_1 p0).f0)).toNat * 2, none⟩ = some (.int .i64 ((rd_T143 x5_2 ((rd_T45 l0_1 p0).f0)).f0)) ∧ w'.cell? ⟨go6, (((rd_T45 l0_1 p0).f0)).toNat * 2 + 1, none⟩ = some (.int .i64 ((rd_T143 x5_2 ((rd_T45 l0_1 p0).f0)).f1))) (ds := []) #[false, false, false, false, false, false, false] (by kernel_rfl) rfl rfl ⟨(blk_cell q0.out 0).trans rfl, (blk_cell q0.out 1).trans rfl, (blk_cell p1.out 0).trans rfl, (blk_cell p1.out 1).trans rfl, (blk_cell p1.out 2).trans rfl, (blk_cell p1.out 3).trans rfl, (blk_cell p1.out 4).trans rfl, r7, r8⟩ (fun hHeld => ?_)
                 generalize w58.drew = w59 at HO_5 p7 p1 q0 HB r7 r8 hHeld ⊢
                 refine pure_ (i := 1) (N := some 45) (v := ?_) (a' := ?_) #[false, true, false, false, false, false, false] rfl rfl (by kernel_rfl) (fun _ _ _ h => h) (Or.inl ⟨by rfl, ?_⟩) ?_ ?_
                 rotate_left
                 ·intro w'
                  go_simp
                  with_reducible rfl
                 rotate_left
                 ·simp only [Act.put, List.setIfInBounds_toArray, List.set_cons_zero, List.set_cons_succ, i64_w, i32_w]
                  rfl
                 refine pure_ (i := 2) (N := some 46) (v := ?_) (a' := ?_) #[false, true, true, false, false, false, false] rfl rfl (by kernel_rfl) (fun _ _ _ h => h) (Or.inl ⟨by rfl, ?_⟩) ?_ ?_
                 rotate_left
                 ·intro w'
                  go_simp
                  with_reducible rfl
                 rotate_left
                 ·simp only [Act.put, List.setIfInBounds_toArray, List.set_cons_zero, List.set_cons_succ, i64_w, i32_w]
                  rfl
                 refine take_ (i := 0) (N := some 44) (v := ?_) (a' := ?_) #[true, true, true, false, false, false, false] rfl rfl (by kernel_rfl) (fun _ _ _ h => h) (Or.inl ⟨by rfl, ?_⟩) hHeld ?_ ?_
                 rotate_left
                 ·rintro w' ⟨s0, s1, s2, s3, s4, s5, s6, s7, s8⟩
                  go_simp
                  with_reducible rfl
                 rotate_left
                 ·simp only [Act.put, List.setIfInBounds_toArray, List.set_cons_zero, List.set_cons_succ, i64_w, i32_w]
                  rfl
                 refine take_ (i := 3) (N := some 47) (v := ?_) (a' := ?_) #[true, true, true, true, false, false, false] rfl rfl (by kernel_rfl) (fun _ _ _ h => h) (Or.inl ⟨by rfl, ?_⟩) hHeld ?_ ?_
                 rotate_left
                 ·rintro w' ⟨s0, s1, s2, s3, s4, s5, s6, s7, s8⟩
                  go_simp
                  with_reducible rfl
                 rotate_left
                 ·simp only [Act.put, List.setIfInBounds_toArray, List.set_cons_zero, List.set_cons_succ, i64_w, i32_w]
                  rfl
                 refine pure_ (i := 4) (N := some 48) (v := ?_) (a' := ?_) #[true, true, true, true, true, false, false] rfl rfl (by kernel_rfl) (fun _ _ _ h => h) (Or.inl ⟨by rfl, ?_⟩) ?_ ?_
                 rotate_left
                 ·intro w'
                  go_simp
                  with_reducible rfl
                 rotate_left
                 ·simp only [Act.put, List.setIfInBounds_toArray, List.set_cons_zero, List.set_cons_succ, i64_w, i32_w]
                  rfl
                 refine take_ (i := 5) (N := some 49) (v := ?_) (a' := ?_) #[true, true, true, true, true, true, false] rfl rfl (by kernel_rfl) (fun _ _ _ h => h) (Or.inl ⟨by rfl, ?_⟩) hHeld ?_ ?_
                 rotate_left
                 ·rintro w' ⟨s0, s1, s2, s3, s4, s5, s6, s7, s8⟩
                  go_simp
                  with_reducible rfl
                 rotate_left
                 ·simp only [Act.put, List.setIfInBounds_toArray, List.set_cons_zero, List.set_cons_succ, i64_w, i32_w]
                  rfl
                 refine one_ (i := 6) (N := some 50) #[true, true, true, true, true, true, true] rfl rfl (by kernel_rfl) (by decide) (fun K hK => ?_)
                 refine goes_ Try.func142 (by kernel_rfl) rfl #[.agg #[.int .i64 (wrap64 (((rd_T143 x5_2 ((rd_T45 l0_1 p0).f1)).f0) + ((rd_T45 l0_1 p0).f2))), .int .i64 (wrap64 (((rd_T143 x5_2 ((rd_T45 l0_1 p0).f1)).f1) + 1))], .agg #[.int .i64 ((rd_T143 x5_2 ((rd_T45 l0_1 p0).f0)).f0), .int .i64 ((rd_T143 x5_2 ((rd_T45 l0_1 p0).f0)).f1)]] (by rfl) rfl rfl (by (try simp only [List.map_toArray, List.map_cons, List.map_nil]); first | done | rfl | (simp only [List.length_drop, List.length_take]; rfl)) ?_
                 with_reducible refine (impl_measure_less.calls (wrap64 (((rd_T143 x5_2 ((rd_T45 l0_1 p0).f1)).f0) + ((rd_T45 l0_1 p0).f2))) (wrap64 (((rd_T143 x5_2 ((rd_T45 l0_1 p0).f1)).f1) + 1)) ((rd_T143 x5_2 ((rd_T45 l0_1 p0).f0)).f0) ((rd_T143 x5_2 ((rd_T45 l0_1 p0).f0)).f1) false _ A32.out).mono ?_
                 rintro e w60 ⟨rfl, hb⟩
                 have HS7_ := (hb.cell (World.block_lt_of_cell? _ _ (hHeld.2.2.2.2.2.2.2.1))).trans (hHeld.2.2.2.2.2.2.2.1)
                 have HS8_ := (hb.cell (World.block_lt_of_cell? _ _ (hHeld.2.2.2.2.2.2.2.2))).trans (hHeld.2.2.2.2.2.2.2.2)
                 refine ⟨_, rfl, ?_⟩
                 have n0_ := Aside0.mk (Kd.R_below HO_5.out hb)
                 have n1_ := Aside0.mk (blk_below (g := q1) (o := .cells #[.int .i64 a0_0, .slice (some r0) l0_1.length c0_1] 38 (0, 0)) p7.out hb)
                 have n2_ := Aside0.mk (blk_below (g := p3) (o := .cells #[.int .i64 ((rd_T45 l0_1 p0).f0), .int .i64 ((rd_T45 l0_1 p0).f1), .int .i64 ((rd_T45 l0_1 p0).f2), .int .i64 ((rd_T45 l0_1 p0).f3), .int .i64 ((rd_T45 l0_1 p0).f4)] 45 (0, 0)) p1.out hb)
                 have n3_ := Aside0.mk (blk_below (g := p5) (o := .cells #[.int .i64 (wrap64 (((rd_T143 x5_2 ((rd_T45 l0_1 p0).f1)).f0) + ((rd_T45 l0_1 p0).f2))), .int .i64 (wrap64 (((rd_T143 x5_2 ((rd_T45 l0_1 p0).f1)).f1) + 1))] 143 (0, 0)) q0.out hb)
                 have n4_ := Aside0.mk (below_step HB.out hb)
                 clear HO_5
                 clear p7
                 clear p1
                 clear q0
                 clear HB
                 have HO_5 := n0_
                 have p7 := n1_
                 have p1 := n2_
                 have q0 := n3_
                 have HB := n4_
                 clear n0_ n1_ n2_ n3_ n4_
                 (try clear hb)
                 (try clear hb2)
                 (try clear hk)
                 (try clear hi)
                 refine hK.out _ _ ⟨(blk_cell q0.out 0).trans rfl, (blk_cell q0.out 1).trans rfl, (blk_cell p1.out 0).trans rfl, (blk_cell p1.out 1).trans rfl, (blk_cell p1.out 2).trans rfl, (blk_cell p1.out 3).trans rfl, (blk_cell p1.out 4).trans rfl, HS7_, HS8_⟩ (fun hHeld => ?_)
                 clear hK K
                 refine norm_ (a' := ?_) ?_ ?_
                 rotate_left
                 ·show Act.put _ (some 50) _ = _
                  simp only [Act.put, List.setIfInBounds_toArray, List.set_cons_zero, List.set_cons_succ, i64_w, i32_w]
                  rfl
                 refine done_ (by kernel_rfl) ?_
                 try go_wp2
                 (try simp only [← hl5_2])
                 go_roundg k2
                 case measure => have := HK1.out; have := HK2.out; omega
                 case rel => exact ⟨(x5_2), (x6_2), (wrap64 (p0 + 1)), (by first | rfl | (simp; done) | (simp [*]; done)), (by first | rfl | (simp; done) | (simp [*]; done)), H', ⟨by have := HK1.out; have := HK2.out; omega⟩, ⟨by (try simp only [hl5_1]); (try simp only [hl5_2]); (with_reducible repeat (first | apply Kd.R_alloc | apply Kd.R_drewN | apply Kd.R_drew)); exact Kd.R_mono HO_5.out (fun _ hk => trivial)⟩, ⟨by (try simp only [hl5_1]); (try simp only [hl5_2]); (with_reducible repeat (first | refine blk_drewN ?_ _ | refine blk_drew ?_ | refine blk_alloc ?_ _)); exact p7.out⟩, ⟨by repeat (first | (with_reducible first | exact HB.out | apply below_alloc | apply pw_below_drewN | apply below_drew1 | refine below_set ?_ r1.out | refine below_set ?_ r9.out | refine below_set ?_ t4.out) | exact HB.out)⟩⟩
               ·rw [if_neg c31] at H
                exact absurd H (by simp)
              ·rw [if_neg c30] at H
               exact absurd H (by simp)
            ·rw [if_neg c21] at H
             exact absurd H (by simp)
           ·rw [if_neg c20] at H
            exact absurd H (by simp)
          ·rw [if_neg c19] at H
           exact absurd H (by simp)
         ·rw [if_neg c18] at H
          exact absurd H (by simp)
        ·rw [if_neg c17] at H
         have c17b0 : decide (p0 < (l0_1.length : Int)) = false := decide_eq_false c17
         clear c17
         have H' := Aside0.mk H
         clear H
         go_wp2
         (try simp only [← hl5_1, ← hl5_2])
         go_roundg k2
         case measure => have := HK1.out; have := HK2.out; omega
         case rel => exact ⟨(x5_2), (x6_2), (by first | rfl | (simp; done) | (simp [*]; done)), H', ⟨by have := HK1.out; have := HK2.out; omega⟩, ⟨by (try simp only [hl5_1]); (try simp only [hl5_2]); (with_reducible repeat (first | apply Kd.R_alloc | apply Kd.R_drewN | apply Kd.R_drew)); exact HO_5.out⟩, ⟨by (try simp only [hl5_1]); (try simp only [hl5_2]); (with_reducible repeat (first | refine blk_drewN ?_ _ | refine blk_drew ?_ | refine blk_alloc ?_ _)); exact p7.out⟩, ⟨by repeat (first | (with_reducible first | exact HB.out | apply below_alloc | apply pw_below_drewN | apply below_drew1 | refine below_set ?_ r1.out) | exact HB.out)⟩⟩
     ·replace c15 := Bool.eq_false_iff.mpr c15
      subst c15
      have H1 : (some x5_1) = some r := by rw [if_neg (show ¬ (false = true) by decide)] at H; exact H
      clear H
      have H := H1
      clear H1
      obtain rfl := Option.some.inj H
      go_wp2
      go_ret
      exact ⟨_, by first | rfl | (simp [errW_none, errW_some] <;> rfl) | (simp [*, errW_none, errW_some] <;> rfl), by (with_reducible repeat (first | apply Kd.R_alloc | apply Kd.R_drewN | apply Kd.R_drew)); exact HO_5.out, by repeat (first | (with_reducible first | exact HB.out | apply below_alloc | apply pw_below_drewN | apply below_drew1 | refine below_set ?_ r1.out) | exact HB.out)⟩
  ·rw [if_neg c5] at H
   exact absurd H (by simp)
 ·rw [if_neg c4] at H
  exact absurd H (by simp)
end Go.Proofs.Ytmabopomecdidaa.Pr
end
section
namespace Go.Proofs.Ytmabopomecdidaa.Pr
open Go.RowKit Go.Proofs.YtmabopomecdidaaW.PrintWords Go.Proofs.YtmabopomecdidaaW.PrintLast Go.Proofs.YtmabopomecdidaaW.PrintMore
attribute [local go_sem] max2_int min2_int max_two min_two max_three min_three max_four min_four
set_option linter.unusedVariables false
set_option linter.unusedSimpArgs false
def impl_Net_from.f (k : Nat) (a0_0 : Int) (l0_1 : List (S45)) (a1 : Int) : Option (List Int) := (impl_Net_back.f k a0_0 l0_1).bind fun bt1088 => ((impl_Net_toward.f k bt1088.1 bt1088.2 a1).bind fun t1092 => ((impl_costs.f k t1092).bind fun t1095 => (some t1095)))
set_option maxHeartbeats 8000000 in
set_option maxRecDepth 100000 in
theorem impl_Net_from.calls (k : Nat) (a0_0 : Int) (A0_1 : Option Addr) (c0_1 : Nat) (l0_1 : List (S45)) (a1 : Int) (r : List Int) (w : World) (hr0_1 : Kd.C k45 w A0_1 l0_1.length l0_1) (hc0_1 : l0_1.length ≤ c0_1) (h : impl_Net_from.f k a0_0 l0_1 a1 = some r) :
  Calls Try.prog 128 #[.agg #[.int .i64 a0_0, .slice A0_1 l0_1.length c0_1], .int .i64 a1] w fun e w' => ∃ v0_ : Value, e = .returned (v0_) ∧ Kd.R (Kd.int .i64) 3 w' w.heap.size (fun _ => True) v0_ r ∧ Below w.heap.size w w' := by
 have hu38 := Try.underlying38
 have HR0_1 := Aside0.mk hr0_1
 have HC0_1 := Aside0.mk hc0_1
 clear hr0_1 hc0_1
 have HB := Aside0.mk (Below.refl w.heap.size w)
 have H : ((impl_Net_back.f k a0_0 l0_1).bind fun bt1088 => ((impl_Net_toward.f k bt1088.1 bt1088.2 a1).bind fun t1092 => ((impl_costs.f k t1092).bind fun t1095 => (some t1095)))) = some r := h
 clear h
 replace H := Option.bind_eq_some_iff.mp H
 obtain ⟨⟨t1088, t1089⟩, A30, H⟩ := H
 replace H : ((impl_Net_toward.f k t1088 t1089 a1).bind fun t1092 => ((impl_costs.f k t1092).bind fun t1095 => (some t1095))) = some r := H
 have A3 := Aside0.mk A30
 clear A30
 replace H := Option.bind_eq_some_iff.mp H
 obtain ⟨t1092, A40, H⟩ := H
 replace H : ((impl_costs.f k t1092).bind fun t1095 => (some t1095)) = some r := H
 have A4 := Aside0.mk A40
 clear A40
 replace H := Option.bind_eq_some_iff.mp H
 obtain ⟨t1095, A50, H⟩ := H
 replace H : (some t1095) = some r := H
 have A5 := Aside0.mk A50
 clear A50
 obtain rfl := Option.some.inj H
 go_enter Try.func128, Try.ntmps128
 go_wp2_with (first | ((with_reducible refine gate_dst (N := 2) rfl ?_); refine box_event ?hg (N := 2) ?hd (cs := #[.int .i64 a0_0, .slice A0_1 l0_1.length c0_1]) (t := 38) ?hr ?_; (case hd => rfl); (case hg => rfl); (case hr => first | (go_simp; done) | (go_simp; rfl)); intro p1 hg w6 hbox hb; have n0_ := Aside0.mk (below_step HB.out hb); have n1_ := Aside0.mk (hbox); have n2_ := Aside0.mk ((by rw [hg]; exact (below_size HB.out) : w.heap.size ≤ p1)); have n3_ := Aside0.mk ((by rw [hg]; exact (below_size HB.out) : w.heap.size ≤ p1)); clear HB; have HB := n0_; have p0 := n1_; have GW1087 := n2_; have GE1087 := n3_; clear n0_ n1_ n2_ n3_; clear hb hbox hg; have hcz7_0 : w6.cell? ⟨p1, 0, none⟩ = some (.int .i64 a0_0) := (blk_cell p0.out 0).trans rfl; have hcz7_1 : w6.cell? ⟨p1, 1, none⟩ = some (.slice A0_1 l0_1.length c0_1) := (blk_cell p0.out 1).trans rfl; have hfz7_0 := blk_frozen p0.out 0; have hfz7_1 := blk_frozen p0.out 1) | ((with_reducible refine gate_callee (f := 71) rfl ?_); refine goesL_ (some 6) rfl rfl Try.func71 (by kernel_rfl) rfl #[.agg #[.int .i64 a0_0, .slice A0_1 l0_1.length c0_1]] rfl (by (try simp only [List.map_toArray, List.map_cons, List.map_nil]); first | done | rfl | (simp only [List.length_drop, List.length_take]; rfl)) ?_; (with_reducible refine (impl_Net_back.calls k a0_0 _ _ l0_1 t1088 t1089 _ ?side1 ?side2 A3.out).mono ?_); (case side1 => repeat (first | exact (Kd.C_below HR0_1.out HB.out) | (with_reducible refine Kd.C_alloc ?_ _) | (with_reducible refine Kd.C_drewN ?_ _) | (with_reducible refine Kd.C_drew ?_))); (case side2 => exact HC0_1.out); rintro e w8 ⟨v1090, rfl, ho0, hb⟩; refine ⟨_, rfl, ?_⟩; have n0_ := Aside0.mk (Kd.R_lower ho0 (below_size HB.out)); have n1_ := Aside0.mk (blk_below (g := p1) (o := .cells #[.int .i64 a0_0, .slice A0_1 l0_1.length c0_1] 38 (0, 0)) p0.out hb); have n2_ := Aside0.mk (below_step HB.out hb); clear p0; clear HB; have HO1091 := n0_; have p0 := n1_; have HB := n2_; clear n0_ n1_ n2_; (try clear hb); (try clear hb2); (try clear hk); (try clear hi); (try clear ho0); obtain ⟨Ao9, co9, eo9⟩ := Kd.R_slice HO1091.out; subst eo9) | ((with_reducible refine gate_callee (f := 138) rfl ?_); refine goesL_ (some 8) rfl rfl Try.func138 (by kernel_rfl) rfl #[.agg #[.int .i64 t1088, .slice Ao9 t1089.length co9], .int .i64 a1] rfl (by (try simp only [List.map_toArray, List.map_cons, List.map_nil]); first | done | rfl | (simp only [List.length_drop, List.length_take]; rfl)) ?_; (with_reducible refine (impl_Net_toward.calls k t1088 _ _ t1089 a1 t1092 _ ?side1 ?side2 A4.out).mono ?_); (case side1 => repeat (first | exact (Kd.R_reads' HO1091.out).2.2 | (with_reducible refine Kd.C_alloc ?_ _) | (with_reducible refine Kd.C_drewN ?_ _) | (with_reducible refine Kd.C_drew ?_))); (case side2 => exact (Kd.R_reads' HO1091.out).2.1); rintro e w10 ⟨v1093, rfl, ho0, hb⟩; refine ⟨_, rfl, ?_⟩; have n0_ := Aside0.mk (Kd.R_below HO1091.out hb); have n1_ := Aside0.mk (Kd.R_lower ho0 (below_size HB.out)); have n2_ := Aside0.mk (blk_below (g := p1) (o := .cells #[.int .i64 a0_0, .slice A0_1 l0_1.length c0_1] 38 (0, 0)) p0.out hb); have n3_ := Aside0.mk (below_step HB.out hb); clear HO1091; clear p0; clear HB; have HO1091 := n0_; have HO1094 := n1_; have p0 := n2_; have HB := n3_; clear n0_ n1_ n2_ n3_; (try clear hb); (try clear hb2); (try clear hk); (try clear hi); (try clear ho0); obtain ⟨Ao11, co11, eo11⟩ := Kd.R_slice HO1094.out; subst eo11) | ((with_reducible refine gate_callee (f := 137) rfl ?_); refine goesL_ (some 9) rfl rfl Try.func137 (by kernel_rfl) rfl #[.slice Ao11 t1092.length co11] rfl (by (try simp only [List.map_toArray, List.map_cons, List.map_nil]); first | done | rfl | (simp only [List.length_drop, List.length_take]; rfl)) ?_; (with_reducible refine (impl_costs.calls k _ _ t1092 t1095 _ ?side1 ?side2 A5.out).mono ?_); (case side1 => repeat (first | exact (Kd.R_reads' HO1094.out).2.2 | (with_reducible refine Kd.C_alloc ?_ _) | (with_reducible refine Kd.C_drewN ?_ _) | (with_reducible refine Kd.C_drew ?_))); (case side2 => exact (Kd.R_reads' HO1094.out).2.1); rintro e w12 ⟨v1096, rfl, ho0, hb⟩; refine ⟨_, rfl, ?_⟩; have n0_ := Aside0.mk (Kd.R_below HO1091.out hb); have n1_ := Aside0.mk (Kd.R_below HO1094.out hb); have n2_ := Aside0.mk (Kd.R_lower ho0 (below_size HB.out)); have n3_ := Aside0.mk (blk_below (g := p1) (o := .cells #[.int .i64 a0_0, .slice A0_1 l0_1.length c0_1] 38 (0, 0)) p0.out hb); have n4_ := Aside0.mk (below_step HB.out hb); clear HO1091; clear HO1094; clear p0; clear HB; have HO1091 := n0_; have HO1094 := n1_; have HO1097 := n2_; have p0 := n3_; have HB := n4_; clear n0_ n1_ n2_ n3_ n4_; (try clear hb); (try clear hb2); (try clear hk); (try clear hi); (try clear ho0)))
 go_ret
 exact ⟨_, by first | rfl | (simp [errW_none, errW_some] <;> rfl) | (simp [*, errW_none, errW_some] <;> rfl), by (with_reducible repeat (first | apply Kd.R_alloc | apply Kd.R_drewN | apply Kd.R_drew)); exact HO1097.out, by repeat (first | (with_reducible first | exact HB.out | apply below_alloc | apply pw_below_drewN | apply below_drew1 | refine below_set ?_ GE1087.out) | exact HB.out)⟩
end Go.Proofs.Ytmabopomecdidaa.Pr
end
