/- For the statement FnRingLong of this seat: it is proved here, with no further conditions (part 4 of its texts: words, walks of the functions, the plain law, the row). -/
import Derived.Test.YtmabopomecdidaaKFnRingLong2
section
namespace Go.Proofs.Ytmabopomecdidaa.Pr
open Go.RowKit Go.Proofs.YtmabopomecdidaaW.PrintWords Go.Proofs.YtmabopomecdidaaW.PrintLast Go.Proofs.YtmabopomecdidaaW.PrintMore
attribute [local go_sem] max2_int min2_int max_two min_two max_three min_three max_four min_four
set_option linter.unusedVariables false
set_option linter.unusedSimpArgs false
def spec_l1Ok.l0 : Nat → Int → Int → List (S45) → Option (Bool)
 | 0, _, _, _ => none
 | k + 1, x3, q6, q3 => if x3 < (q3.length : Int) then (if 0 ≤ x3 then ((spec_l1In.f ((rd_T45 q3 x3).f0) 0 (wrap64 (q6 - 1))).bind fun t306 => (if t306 = true then ((spec_l1In.f ((rd_T45 q3 x3).f1) 0 (wrap64 (q6 - 1))).bind fun t307 => (if t307 = true then (if ((rd_T45 q3 x3).f0) = ((rd_T45 q3 x3).f1) then (some false) else ((spec_l1In.f ((rd_T45 q3 x3).f2) 0 99).bind fun t308 => (if t308 = true then ((spec_l1In.f ((rd_T45 q3 x3).f3) 0 99).bind fun t309 => (if t309 = true then ((spec_l1In.f ((rd_T45 q3 x3).f4) 0 9).bind fun t310 => (if t310 = true then (spec_l1Ok.l0 k (wrap64 (x3 + 1)) q6 q3) else (some false))) else (some false))) else (some false)))) else (some false))) else (some false))) else (none)) else ((spec_l1In.f q6 1 8).bind fun t303 => (if t303 = true then (some (decide ((q3.length : Int) ≤ 16))) else (some false)))
def spec_l1Ok.f (k : Nat) (a0_0 : Int) (l0_1 : List (S45)) : Option (Bool) := spec_l1Ok.l0 k 0 a0_0 l0_1
set_option maxHeartbeats 8000000 in
set_option maxRecDepth 100000 in
theorem spec_l1Ok.calls (k : Nat) (a0_0 : Int) (A0_1 : Option Addr) (c0_1 : Nat) (l0_1 : List (S45)) (r : Bool) (w : World) (hr0_1 : Kd.C k45 w A0_1 l0_1.length l0_1) (hc0_1 : l0_1.length ≤ c0_1) (h : spec_l1Ok.f k a0_0 l0_1 = some r) :
  Calls Try.prog 69 #[.agg #[.int .i64 a0_0, .slice A0_1 l0_1.length c0_1]] w fun e w' => e = .returned (.bool r) ∧ Below w.heap.size w w' := by
 have hu38 := Try.underlying38
 have hu45 := Try.underlying45
 have q7 := Aside0.mk hr0_1
 have HC0_1 := Aside0.mk hc0_1
 clear hr0_1 hc0_1
 have HB := Aside0.mk (Below.refl w.heap.size w)
 have H : (spec_l1Ok.l0 k 0 a0_0 l0_1) = some r := h
 clear h
 have H' := Aside0.mk H
 clear H
 go_enter Try.func69, Try.ntmps69
 go_wp2_with (first | ((with_reducible refine gate_dst (N := 1) rfl ?_); (try (refine gate_guard (by rfl) ?_; dsimp only)); refine box_event ?hg (N := 1) ?hd (cs := #[.int .i64 a0_0, .slice A0_1 l0_1.length c0_1]) (t := 38) ?hr ?_; (case hd => rfl); (case hg => rfl); (case hr => first | (go_simp; done) | (go_simp; rfl)); intro p3 hg w2 hbox hb; have n0_ := Aside0.mk (below_step HB.out hb); have n1_ := Aside0.mk (hbox); have n2_ := Aside0.mk ((by rw [hg]; exact (below_size HB.out) : w.heap.size ≤ p3)); have n3_ := Aside0.mk ((by rw [hg]; exact (below_size HB.out) : w.heap.size ≤ p3)); clear HB; have HB := n0_; have p0 := n1_; have GW302 := n2_; have q5 := n3_; clear n0_ n1_ n2_ n3_; clear hb hbox hg))
 go_loopg [3] k (fun kq v3 w' => ∃ (x3_1 : Int), v3 = .int .i64 x3_1 ∧ Aside0 (spec_l1Ok.l0 kq x3_1 a0_0 l0_1 = some r) ∧ Aside0 (kq ≤ k) ∧ Aside0 (w'.heap[p3]? = some (.cells #[.int .i64 a0_0, (.slice A0_1 l0_1.length c0_1)] 38 (0, 0))) ∧ Aside0 (Below w.heap.size w w'))
 case atStart => exact ⟨(0), (by first | rfl | (simp; done) | (simp [*]; done)), H', ⟨Nat.le_refl _⟩, ⟨by (with_reducible repeat (first | refine blk_drewN ?_ _ | refine blk_drew ?_ | refine blk_alloc ?_ _)); exact p0.out⟩, ⟨by repeat (first | (with_reducible first | exact HB.out | apply below_alloc | apply pw_below_drewN | apply below_drew1 | refine below_set ?_ q5.out) | exact HB.out)⟩⟩
 case round =>
  clear H'
  try clear p2
  obtain ⟨x3_1, rfl, HA, HK1, p0, HB⟩ := hrel
  cases gk with
  | zero => exact absurd HA.out (by simp [spec_l1Ok.l0])
  | succ k1 =>
   have H := HA.out
   clear HA
   simp only [spec_l1Ok.l0] at H
   by_cases c3 : x3_1 < (l0_1.length : Int)
   ·rw [if_pos c3] at H
    have c3b0 : decide (x3_1 < (l0_1.length : Int)) = true := decide_eq_true c3
    clear c3
    by_cases c4 : 0 ≤ x3_1
    ·rw [if_pos c4] at H
     have c4b0 : decide (0 ≤ x3_1) = true := decide_eq_true c4
     clear c4
     replace H := Option.bind_eq_some_iff.mp H
     obtain ⟨t306, A50, H⟩ := H
     replace H : (if t306 = true then ((spec_l1In.f ((rd_T45 l0_1 x3_1).f1) 0 (wrap64 (a0_0 - 1))).bind fun t307 => (if t307 = true then (if ((rd_T45 l0_1 x3_1).f0) = ((rd_T45 l0_1 x3_1).f1) then (some false) else ((spec_l1In.f ((rd_T45 l0_1 x3_1).f2) 0 99).bind fun t308 => (if t308 = true then ((spec_l1In.f ((rd_T45 l0_1 x3_1).f3) 0 99).bind fun t309 => (if t309 = true then ((spec_l1In.f ((rd_T45 l0_1 x3_1).f4) 0 9).bind fun t310 => (if t310 = true then (spec_l1Ok.l0 k1 (wrap64 (x3_1 + 1)) a0_0 l0_1) else (some false))) else (some false))) else (some false)))) else (some false))) else (some false)) = some r := H
     have A5 := Aside0.mk A50
     clear A50
     by_cases c6 : t306 = true
     ·subst c6
      have H1 : ((spec_l1In.f ((rd_T45 l0_1 x3_1).f1) 0 (wrap64 (a0_0 - 1))).bind fun t307 => (if t307 = true then (if ((rd_T45 l0_1 x3_1).f0) = ((rd_T45 l0_1 x3_1).f1) then (some false) else ((spec_l1In.f ((rd_T45 l0_1 x3_1).f2) 0 99).bind fun t308 => (if t308 = true then ((spec_l1In.f ((rd_T45 l0_1 x3_1).f3) 0 99).bind fun t309 => (if t309 = true then ((spec_l1In.f ((rd_T45 l0_1 x3_1).f4) 0 9).bind fun t310 => (if t310 = true then (spec_l1Ok.l0 k1 (wrap64 (x3_1 + 1)) a0_0 l0_1) else (some false))) else (some false))) else (some false)))) else (some false))) = some r := by rw [if_pos rfl] at H; exact H
      clear H
      have H := H1
      clear H1
      replace H := Option.bind_eq_some_iff.mp H
      obtain ⟨t307, A70, H⟩ := H
      replace H : (if t307 = true then (if ((rd_T45 l0_1 x3_1).f0) = ((rd_T45 l0_1 x3_1).f1) then (some false) else ((spec_l1In.f ((rd_T45 l0_1 x3_1).f2) 0 99).bind fun t308 => (if t308 = true then ((spec_l1In.f ((rd_T45 l0_1 x3_1).f3) 0 99).bind fun t309 => (if t309 = true then ((spec_l1In.f ((rd_T45 l0_1 x3_1).f4) 0 9).bind fun t310 => (if t310 = true then (spec_l1Ok.l0 k1 (wrap64 (x3_1 + 1)) a0_0 l0_1) else (some false))) else (some false))) else (some false)))) else (some false)) = some r := H
      have A7 := Aside0.mk A70
      clear A70
      by_cases c8 : t307 = true
      ·subst c8
       have H1 : (if ((rd_T45 l0_1 x3_1).f0) = ((rd_T45 l0_1 x3_1).f1) then (some false) else ((spec_l1In.f ((rd_T45 l0_1 x3_1).f2) 0 99).bind fun t308 => (if t308 = true then ((spec_l1In.f ((rd_T45 l0_1 x3_1).f3) 0 99).bind fun t309 => (if t309 = true then ((spec_l1In.f ((rd_T45 l0_1 x3_1).f4) 0 9).bind fun t310 => (if t310 = true then (spec_l1Ok.l0 k1 (wrap64 (x3_1 + 1)) a0_0 l0_1) else (some false))) else (some false))) else (some false)))) = some r := by rw [if_pos rfl] at H; exact H
       clear H
       have H := H1
       clear H1
       by_cases c9 : ((rd_T45 l0_1 x3_1).f0) = ((rd_T45 l0_1 x3_1).f1)
       ·rw [if_pos c9] at H
        have c9b0 : (((rd_T45 l0_1 x3_1).f0) == ((rd_T45 l0_1 x3_1).f1)) = true := beq_iff_eq.mpr c9
        have c9b1 : (((rd_T45 l0_1 x3_1).f0) != ((rd_T45 l0_1 x3_1).f1)) = false := bne_eq_false_iff_eq.mpr c9
        clear c9
        obtain rfl := Option.some.inj H
        have hcz10_0 : wr.cell? ⟨p3, 0, none⟩ = some (.int .i64 a0_0) := (blk_cell p0.out 0).trans rfl
        have hcz10_1 : wr.cell? ⟨p3, 1, none⟩ = some (.slice A0_1 l0_1.length c0_1) := (blk_cell p0.out 1).trans rfl
        have hfz10_0 := blk_frozen p0.out 0
        have hfz10_1 := blk_frozen p0.out 1
        have p304 : 0 ≤ (x3_1 : Int) := of_decide_eq_true (by first | (with_reducible assumption) | assumption)
        have q304 : x3_1 < (l0_1.length : Int) := of_decide_eq_true (by first | (with_reducible assumption) | assumption)
        obtain ⟨q1, e304, p5, p6, p7, p8, p9⟩ := at_T45 q7.out x3_1 p304 q304
        cases e304
        replace p5 := (HB.out.cell (World.block_lt_of_cell? w _ p5)).trans p5
        replace p6 := (HB.out.cell (World.block_lt_of_cell? w _ p6)).trans p6
        replace p7 := (HB.out.cell (World.block_lt_of_cell? w _ p7)).trans p7
        replace p8 := (HB.out.cell (World.block_lt_of_cell? w _ p8)).trans p8
        replace p9 := (HB.out.cell (World.block_lt_of_cell? w _ p9)).trans p9
        replace p304 := eq_true p304
        replace q304 := eq_true q304
        go_wp2_with (first | ((with_reducible refine gate_dst (N := 4) rfl ?_); (try (refine gate_guard (by rfl) ?_; dsimp only)); refine box_event ?hg (N := 4) ?hd (cs := #[.int .i64 0, .int .i64 0, .int .i64 0, .int .i64 0, .int .i64 0]) (t := 45) ?hr ?_; (case hd => rfl); (case hg => rfl); (case hr => first | (go_simp; done) | (go_simp; rfl)); intro p4 hg w11 hbox hb; have n0_ := Aside0.mk (blk_below (g := p3) (o := .cells #[.int .i64 a0_0, .slice (some q1) l0_1.length c0_1] 38 (0, 0)) p0.out hb); have n1_ := Aside0.mk (below_step HB.out hb); have n2_ := Aside0.mk (hbox); have n3_ := Aside0.mk ((by rw [hg]; exact (below_size HB.out) : w.heap.size ≤ p4)); have n4_ := Aside0.mk ((by rw [hg]; exact (below_size HB.out) : w.heap.size ≤ p4)); have n5_ := Aside0.mk ((by rw [hg]; exact Nat.ne_of_lt (blk_lt (g := p3) (o := .cells #[.int .i64 a0_0, .slice (some q1) l0_1.length c0_1] 38 (0, 0)) p0.out) : p3 ≠ p4)); have n6_ := Aside0.mk ((by rw [hg]; exact Nat.ne_of_gt (blk_lt (g := p3) (o := .cells #[.int .i64 a0_0, .slice (some q1) l0_1.length c0_1] 38 (0, 0)) p0.out) : p4 ≠ p3)); clear p0; clear HB; have p0 := n0_; have HB := n1_; have p1 := n2_; have q8 := n3_; have q4 := n4_; have q0 := n5_; have q2 := n6_; clear n0_ n1_ n2_ n3_ n4_ n5_ n6_; clear hb hbox hg; have hnb12 := q2.out; have hnc12 := q0.out; have hcz13_0 : w11.cell? ⟨p4, 0, none⟩ = some (.int .i64 0) := (blk_cell p1.out 0).trans rfl; have hcz13_1 : w11.cell? ⟨p4, 1, none⟩ = some (.int .i64 0) := (blk_cell p1.out 1).trans rfl; have hcz13_2 : w11.cell? ⟨p4, 2, none⟩ = some (.int .i64 0) := (blk_cell p1.out 2).trans rfl; have hcz13_3 : w11.cell? ⟨p4, 3, none⟩ = some (.int .i64 0) := (blk_cell p1.out 3).trans rfl; have hcz13_4 : w11.cell? ⟨p4, 4, none⟩ = some (.int .i64 0) := (blk_cell p1.out 4).trans rfl; have hfz13_0 := blk_frozen p1.out 0; have hfz13_1 := blk_frozen p1.out 1; have hfz13_2 := blk_frozen p1.out 2; have hfz13_3 := blk_frozen p1.out 3; have hfz13_4 := blk_frozen p1.out 4; have hcz14_0 : w11.cell? ⟨p3, 0, none⟩ = some (.int .i64 a0_0) := (blk_cell p0.out 0).trans rfl; have hcz14_1 : w11.cell? ⟨p3, 1, none⟩ = some (.slice (some q1) l0_1.length c0_1) := (blk_cell p0.out 1).trans rfl; have hfz14_0 := blk_frozen p0.out 0; have hfz14_1 := blk_frozen p0.out 1) | ((with_reducible refine gate_callee (f := 78) rfl ?_); refine goesL_ (some 22) rfl rfl Try.func78 (by kernel_rfl) rfl #[.int .i64 ((rd_T45 l0_1 x3_1).f0), .int .i64 0, .int .i64 (wrap64 (a0_0 - 1))] rfl (by (try simp only [List.map_toArray, List.map_cons, List.map_nil]); first | done | rfl | (simp only [List.length_drop, List.length_take]; rfl)) ?_; (with_reducible refine (spec_l1In.calls ((rd_T45 l0_1 x3_1).f0) 0 (wrap64 (a0_0 - 1)) true _ A5.out).mono ?_); rintro e w' ⟨rfl, ⟨nd, rfl⟩⟩; refine ⟨_, rfl, ?_⟩) | (go_at_call 78; (with_reducible refine (spec_l1In.calls ((rd_T45 l0_1 x3_1).f1) 0 (wrap64 (a0_0 - 1)) true _ A7.out).mono ?_); rintro e w' ⟨rfl, ⟨nd, rfl⟩⟩))
        go_ret
        exact ⟨by first | rfl | (simp [errW_none, errW_some] <;> rfl) | (simp [*, errW_none, errW_some] <;> rfl), by repeat (first | (with_reducible first | exact HB.out | apply below_alloc | apply pw_below_drewN | apply below_drew1 | refine below_set ?_ q5.out | refine below_set ?_ q4.out) | exact HB.out)⟩
       ·rw [if_neg c9] at H
        have c9b0 : (((rd_T45 l0_1 x3_1).f0) == ((rd_T45 l0_1 x3_1).f1)) = false := beq_eq_false_iff_ne.mpr c9
        have c9b1 : (((rd_T45 l0_1 x3_1).f0) != ((rd_T45 l0_1 x3_1).f1)) = true := bne_iff_ne.mpr c9
        replace H := Option.bind_eq_some_iff.mp H
        obtain ⟨t308, A150, H⟩ := H
        replace H : (if t308 = true then ((spec_l1In.f ((rd_T45 l0_1 x3_1).f3) 0 99).bind fun t309 => (if t309 = true then ((spec_l1In.f ((rd_T45 l0_1 x3_1).f4) 0 9).bind fun t310 => (if t310 = true then (spec_l1Ok.l0 k1 (wrap64 (x3_1 + 1)) a0_0 l0_1) else (some false))) else (some false))) else (some false)) = some r := H
        have A15 := Aside0.mk A150
        clear A150
        by_cases c16 : t308 = true
        ·subst c16
         have H1 : ((spec_l1In.f ((rd_T45 l0_1 x3_1).f3) 0 99).bind fun t309 => (if t309 = true then ((spec_l1In.f ((rd_T45 l0_1 x3_1).f4) 0 9).bind fun t310 => (if t310 = true then (spec_l1Ok.l0 k1 (wrap64 (x3_1 + 1)) a0_0 l0_1) else (some false))) else (some false))) = some r := by rw [if_pos rfl] at H; exact H
         clear H
         have H := H1
         clear H1
         replace H := Option.bind_eq_some_iff.mp H
         obtain ⟨t309, A170, H⟩ := H
         replace H : (if t309 = true then ((spec_l1In.f ((rd_T45 l0_1 x3_1).f4) 0 9).bind fun t310 => (if t310 = true then (spec_l1Ok.l0 k1 (wrap64 (x3_1 + 1)) a0_0 l0_1) else (some false))) else (some false)) = some r := H
         have A17 := Aside0.mk A170
         clear A170
         by_cases c18 : t309 = true
         ·subst c18
          have H1 : ((spec_l1In.f ((rd_T45 l0_1 x3_1).f4) 0 9).bind fun t310 => (if t310 = true then (spec_l1Ok.l0 k1 (wrap64 (x3_1 + 1)) a0_0 l0_1) else (some false))) = some r := by rw [if_pos rfl] at H; exact H
          clear H
          have H := H1
          clear H1
          replace H := Option.bind_eq_some_iff.mp H
          obtain ⟨t310, A190, H⟩ := H
          replace H : (if t310 = true then (spec_l1Ok.l0 k1 (wrap64 (x3_1 + 1)) a0_0 l0_1) else (some false)) = some r := H
          have A19 := Aside0.mk A190
          clear A190
          by_cases c20 : t310 = true
          ·subst c20
           have H1 : (spec_l1Ok.l0 k1 (wrap64 (x3_1 + 1)) a0_0 l0_1) = some r := by rw [if_pos rfl] at H; exact H
           clear H
           have H := H1
           clear H1
           have H' := Aside0.mk H
           clear H
           have hcz21_0 : wr.cell? ⟨p3, 0, none⟩ = some (.int .i64 a0_0) := (blk_cell p0.out 0).trans rfl
           have hcz21_1 : wr.cell? ⟨p3, 1, none⟩ = some (.slice A0_1 l0_1.length c0_1) := (blk_cell p0.out 1).trans rfl
           have hfz21_0 := blk_frozen p0.out 0
           have hfz21_1 := blk_frozen p0.out 1
           have p304 : 0 ≤ (x3_1 : Int) := of_decide_eq_true (by first | (with_reducible assumption) | assumption)
           have q304 : x3_1 < (l0_1.length : Int) := of_decide_eq_true (by first | (with_reducible assumption) | assumption)
           obtain ⟨q1, e304, p5, p6, p7, p8, p9⟩ := at_T45 q7.out x3_1 p304 q304
           cases e304
           replace p5 := (HB.out.cell (World.block_lt_of_cell? w _ p5)).trans p5
           replace p6 := (HB.out.cell (World.block_lt_of_cell? w _ p6)).trans p6
           replace p7 := (HB.out.cell (World.block_lt_of_cell? w _ p7)).trans p7
           replace p8 := (HB.out.cell (World.block_lt_of_cell? w _ p8)).trans p8
           replace p9 := (HB.out.cell (World.block_lt_of_cell? w _ p9)).trans p9
           replace p304 := eq_true p304
           replace q304 := eq_true q304
           go_wp2_with (first | ((with_reducible refine gate_dst (N := 4) rfl ?_); (try (refine gate_guard (by rfl) ?_; dsimp only)); refine box_event ?hg (N := 4) ?hd (cs := #[.int .i64 0, .int .i64 0, .int .i64 0, .int .i64 0, .int .i64 0]) (t := 45) ?hr ?_; (case hd => rfl); (case hg => rfl); (case hr => first | (go_simp; done) | (go_simp; rfl)); intro p4 hg w22 hbox hb; have n0_ := Aside0.mk (blk_below (g := p3) (o := .cells #[.int .i64 a0_0, .slice (some q1) l0_1.length c0_1] 38 (0, 0)) p0.out hb); have n1_ := Aside0.mk (below_step HB.out hb); have n2_ := Aside0.mk (hbox); have n3_ := Aside0.mk ((by rw [hg]; exact (below_size HB.out) : w.heap.size ≤ p4)); have n4_ := Aside0.mk ((by rw [hg]; exact (below_size HB.out) : w.heap.size ≤ p4)); have n5_ := Aside0.mk ((by rw [hg]; exact Nat.ne_of_lt (blk_lt (g := p3) (o := .cells #[.int .i64 a0_0, .slice (some q1) l0_1.length c0_1] 38 (0, 0)) p0.out) : p3 ≠ p4)); have n6_ := Aside0.mk ((by rw [hg]; exact Nat.ne_of_gt (blk_lt (g := p3) (o := .cells #[.int .i64 a0_0, .slice (some q1) l0_1.length c0_1] 38 (0, 0)) p0.out) : p4 ≠ p3)); clear p0; clear HB; have p0 := n0_; have HB := n1_; have p1 := n2_; have q8 := n3_; have q4 := n4_; have q0 := n5_; have q2 := n6_; clear n0_ n1_ n2_ n3_ n4_ n5_ n6_; clear hb hbox hg; have hnb23 := q2.out; have hnc23 := q0.out; have hcz24_0 : w22.cell? ⟨p4, 0, none⟩ = some (.int .i64 0) := (blk_cell p1.out 0).trans rfl; have hcz24_1 : w22.cell? ⟨p4, 1, none⟩ = some (.int .i64 0) := (blk_cell p1.out 1).trans rfl; have hcz24_2 : w22.cell? ⟨p4, 2, none⟩ = some (.int .i64 0) := (blk_cell p1.out 2).trans rfl; have hcz24_3 : w22.cell? ⟨p4, 3, none⟩ = some (.int .i64 0) := (blk_cell p1.out 3).trans rfl; have hcz24_4 : w22.cell? ⟨p4, 4, none⟩ = some (.int .i64 0) := (blk_cell p1.out 4).trans rfl; have hfz24_0 := blk_frozen p1.out 0; have hfz24_1 := blk_frozen p1.out 1; have hfz24_2 := blk_frozen p1.out 2; have hfz24_3 := blk_frozen p1.out 3; have hfz24_4 := blk_frozen p1.out 4; have hcz25_0 : w22.cell? ⟨p3, 0, none⟩ = some (.int .i64 a0_0) := (blk_cell p0.out 0).trans rfl; have hcz25_1 : w22.cell? ⟨p3, 1, none⟩ = some (.slice (some q1) l0_1.length c0_1) := (blk_cell p0.out 1).trans rfl; have hfz25_0 := blk_frozen p0.out 0; have hfz25_1 := blk_frozen p0.out 1) | ((with_reducible refine gate_callee (f := 78) rfl ?_); refine goesL_ (some 22) rfl rfl Try.func78 (by kernel_rfl) rfl #[.int .i64 ((rd_T45 l0_1 x3_1).f0), .int .i64 0, .int .i64 (wrap64 (a0_0 - 1))] rfl (by (try simp only [List.map_toArray, List.map_cons, List.map_nil]); first | done | rfl | (simp only [List.length_drop, List.length_take]; rfl)) ?_; (with_reducible refine (spec_l1In.calls ((rd_T45 l0_1 x3_1).f0) 0 (wrap64 (a0_0 - 1)) true _ A5.out).mono ?_); rintro e w' ⟨rfl, ⟨nd, rfl⟩⟩; refine ⟨_, rfl, ?_⟩) | (go_at_call 78; (with_reducible refine (spec_l1In.calls ((rd_T45 l0_1 x3_1).f1) 0 (wrap64 (a0_0 - 1)) true _ A7.out).mono ?_); rintro e w' ⟨rfl, ⟨nd, rfl⟩⟩) | (go_at_call 78; (with_reducible refine (spec_l1In.calls ((rd_T45 l0_1 x3_1).f2) 0 99 true _ A15.out).mono ?_); rintro e w' ⟨rfl, ⟨nd, rfl⟩⟩) | (go_at_call 78; (with_reducible refine (spec_l1In.calls ((rd_T45 l0_1 x3_1).f3) 0 99 true _ A17.out).mono ?_); rintro e w' ⟨rfl, ⟨nd, rfl⟩⟩) | (go_at_call 78; (with_reducible refine (spec_l1In.calls ((rd_T45 l0_1 x3_1).f4) 0 9 true _ A19.out).mono ?_); rintro e w' ⟨rfl, ⟨nd, rfl⟩⟩))
           go_roundg k1
           case measure => have := HK1.out; omega
           case rel => exact ⟨(wrap64 (x3_1 + 1)), (by first | rfl | (simp; done) | (simp [*]; done)), H', ⟨by have := HK1.out; omega⟩, ⟨by (with_reducible repeat (first | refine blk_drewN ?_ _ | refine blk_drew ?_ | refine blk_alloc ?_ _)); refine blk_far ?_ q0.out _; (with_reducible repeat (first | refine blk_drewN ?_ _ | refine blk_drew ?_ | refine blk_alloc ?_ _)); refine blk_far ?_ q0.out _; (with_reducible repeat (first | refine blk_drewN ?_ _ | refine blk_drew ?_ | refine blk_alloc ?_ _)); refine blk_far ?_ q0.out _; (with_reducible repeat (first | refine blk_drewN ?_ _ | refine blk_drew ?_ | refine blk_alloc ?_ _)); refine blk_far ?_ q0.out _; (with_reducible repeat (first | refine blk_drewN ?_ _ | refine blk_drew ?_ | refine blk_alloc ?_ _)); refine blk_far ?_ q0.out _; (with_reducible repeat (first | refine blk_drewN ?_ _ | refine blk_drew ?_ | refine blk_alloc ?_ _)); exact p0.out⟩, ⟨by repeat (first | (with_reducible first | exact HB.out | apply below_alloc | apply pw_below_drewN | apply below_drew1 | refine below_set ?_ q5.out | refine below_set ?_ q4.out) | exact HB.out)⟩⟩
          ·replace c20 := Bool.eq_false_iff.mpr c20
           subst c20
           have H1 : (some false) = some r := by rw [if_neg (show ¬ (false = true) by decide)] at H; exact H
           clear H
           have H := H1
           clear H1
           obtain rfl := Option.some.inj H
           have hcz26_0 : wr.cell? ⟨p3, 0, none⟩ = some (.int .i64 a0_0) := (blk_cell p0.out 0).trans rfl
           have hcz26_1 : wr.cell? ⟨p3, 1, none⟩ = some (.slice A0_1 l0_1.length c0_1) := (blk_cell p0.out 1).trans rfl
           have hfz26_0 := blk_frozen p0.out 0
           have hfz26_1 := blk_frozen p0.out 1
           have p304 : 0 ≤ (x3_1 : Int) := of_decide_eq_true (by first | (with_reducible assumption) | assumption)
           have q304 : x3_1 < (l0_1.length : Int) := of_decide_eq_true (by first | (with_reducible assumption) | assumption)
           obtain ⟨q1, e304, p5, p6, p7, p8, p9⟩ := at_T45 q7.out x3_1 p304 q304
           cases e304
           replace p5 := (HB.out.cell (World.block_lt_of_cell? w _ p5)).trans p5
           replace p6 := (HB.out.cell (World.block_lt_of_cell? w _ p6)).trans p6
           replace p7 := (HB.out.cell (World.block_lt_of_cell? w _ p7)).trans p7
           replace p8 := (HB.out.cell (World.block_lt_of_cell? w _ p8)).trans p8
           replace p9 := (HB.out.cell (World.block_lt_of_cell? w _ p9)).trans p9
           replace p304 := eq_true p304
           replace q304 := eq_true q304
           go_wp2_with (first | ((with_reducible refine gate_dst (N := 4) rfl ?_); (try (refine gate_guard (by rfl) ?_; dsimp only)); refine box_event ?hg (N := 4) ?hd (cs := #[.int .i64 0, .int .i64 0, .int .i64 0, .int .i64 0, .int .i64 0]) (t := 45) ?hr ?_; (case hd => rfl); (case hg => rfl); (case hr => first | (go_simp; done) | (go_simp; rfl)); intro p4 hg w27 hbox hb; have n0_ := Aside0.mk (blk_below (g := p3) (o := .cells #[.int .i64 a0_0, .slice (some q1) l0_1.length c0_1] 38 (0, 0)) p0.out hb); have n1_ := Aside0.mk (below_step HB.out hb); have n2_ := Aside0.mk (hbox); have n3_ := Aside0.mk ((by rw [hg]; exact (below_size HB.out) : w.heap.size ≤ p4)); have n4_ := Aside0.mk ((by rw [hg]; exact (below_size HB.out) : w.heap.size ≤ p4)); have n5_ := Aside0.mk ((by rw [hg]; exact Nat.ne_of_lt (blk_lt (g := p3) (o := .cells #[.int .i64 a0_0, .slice (some q1) l0_1.length c0_1] 38 (0, 0)) p0.out) : p3 ≠ p4)); have n6_ := Aside0.mk ((by rw [hg]; exact Nat.ne_of_gt (blk_lt (g := p3) (o := .cells #[.int .i64 a0_0, .slice (some q1) l0_1.length c0_1] 38 (0, 0)) p0.out) : p4 ≠ p3)); clear p0; clear HB; have p0 := n0_; have HB := n1_; have p1 := n2_; have q8 := n3_; have q4 := n4_; have q0 := n5_; have q2 := n6_; clear n0_ n1_ n2_ n3_ n4_ n5_ n6_; clear hb hbox hg; have hnb28 := q2.out; have hnc28 := q0.out; have hcz29_0 : w27.cell? ⟨p4, 0, none⟩ = some (.int .i64 0) := (blk_cell p1.out 0).trans rfl; have hcz29_1 : w27.cell? ⟨p4, 1, none⟩ = some (.int .i64 0) := (blk_cell p1.out 1).trans rfl; have hcz29_2 : w27.cell? ⟨p4, 2, none⟩ = some (.int .i64 0) := (blk_cell p1.out 2).trans rfl; have hcz29_3 : w27.cell? ⟨p4, 3, none⟩ = some (.int .i64 0) := (blk_cell p1.out 3).trans rfl; have hcz29_4 : w27.cell? ⟨p4, 4, none⟩ = some (.int .i64 0) := (blk_cell p1.out 4).trans rfl; have hfz29_0 := blk_frozen p1.out 0; have hfz29_1 := blk_frozen p1.out 1; have hfz29_2 := blk_frozen p1.out 2; have hfz29_3 := blk_frozen p1.out 3; have hfz29_4 := blk_frozen p1.out 4; have hcz30_0 : w27.cell? ⟨p3, 0, none⟩ = some (.int .i64 a0_0) := (blk_cell p0.out 0).trans rfl; have hcz30_1 : w27.cell? ⟨p3, 1, none⟩ = some (.slice (some q1) l0_1.length c0_1) := (blk_cell p0.out 1).trans rfl; have hfz30_0 := blk_frozen p0.out 0; have hfz30_1 := blk_frozen p0.out 1) | ((with_reducible refine gate_callee (f := 78) rfl ?_); refine goesL_ (some 22) rfl rfl Try.func78 (by kernel_rfl) rfl #[.int .i64 ((rd_T45 l0_1 x3_1).f0), .int .i64 0, .int .i64 (wrap64 (a0_0 - 1))] rfl (by (try simp only [List.map_toArray, List.map_cons, List.map_nil]); first | done | rfl | (simp only [List.length_drop, List.length_take]; rfl)) ?_; (with_reducible refine (spec_l1In.calls ((rd_T45 l0_1 x3_1).f0) 0 (wrap64 (a0_0 - 1)) true _ A5.out).mono ?_); rintro e w' ⟨rfl, ⟨nd, rfl⟩⟩; refine ⟨_, rfl, ?_⟩) | (go_at_call 78; (with_reducible refine (spec_l1In.calls ((rd_T45 l0_1 x3_1).f1) 0 (wrap64 (a0_0 - 1)) true _ A7.out).mono ?_); rintro e w' ⟨rfl, ⟨nd, rfl⟩⟩) | (go_at_call 78; (with_reducible refine (spec_l1In.calls ((rd_T45 l0_1 x3_1).f2) 0 99 true _ A15.out).mono ?_); rintro e w' ⟨rfl, ⟨nd, rfl⟩⟩) | (go_at_call 78; (with_reducible refine (spec_l1In.calls ((rd_T45 l0_1 x3_1).f3) 0 99 true _ A17.out).mono ?_); rintro e w' ⟨rfl, ⟨nd, rfl⟩⟩) | (go_at_call 78; (with_reducible refine (spec_l1In.calls ((rd_T45 l0_1 x3_1).f4) 0 9 false _ A19.out).mono ?_); rintro e w' ⟨rfl, ⟨nd, rfl⟩⟩))
           go_ret
           exact ⟨by first | rfl | (simp [errW_none, errW_some] <;> rfl) | (simp [*, errW_none, errW_some] <;> rfl), by repeat (first | (with_reducible first | exact HB.out | apply below_alloc | apply pw_below_drewN | apply below_drew1 | refine below_set ?_ q5.out | refine below_set ?_ q4.out) | exact HB.out)⟩
         ·replace c18 := Bool.eq_false_iff.mpr c18
          subst c18
          have H1 : (some false) = some r := by rw [if_neg (show ¬ (false = true) by decide)] at H; exact H
          clear H
          have H := H1
          clear H1
          obtain rfl := Option.some.inj H
          have hcz31_0 : wr.cell? ⟨p3, 0, none⟩ = some (.int .i64 a0_0) := (blk_cell p0.out 0).trans rfl
          have hcz31_1 : wr.cell? ⟨p3, 1, none⟩ = some (.slice A0_1 l0_1.length c0_1) := (blk_cell p0.out 1).trans rfl
          have hfz31_0 := blk_frozen p0.out 0
          have hfz31_1 := blk_frozen p0.out 1
          have p304 : 0 ≤ (x3_1 : Int) := of_decide_eq_true (by first | (with_reducible assumption) | assumption)
          have q304 : x3_1 < (l0_1.length : Int) := of_decide_eq_true (by first | (with_reducible assumption) | assumption)
          obtain ⟨q1, e304, p5, p6, p7, p8, p9⟩ := at_T45 q7.out x3_1 p304 q304
          cases e304
          replace p5 := (HB.out.cell (World.block_lt_of_cell? w _ p5)).trans p5
          replace p6 := (HB.out.cell (World.block_lt_of_cell? w _ p6)).trans p6
          replace p7 := (HB.out.cell (World.block_lt_of_cell? w _ p7)).trans p7
          replace p8 := (HB.out.cell (World.block_lt_of_cell? w _ p8)).trans p8
          replace p9 := (HB.out.cell (World.block_lt_of_cell? w _ p9)).trans p9
          replace p304 := eq_true p304
          replace q304 := eq_true q304
          go_wp2_with (first | ((with_reducible refine gate_dst (N := 4) rfl ?_); (try (refine gate_guard (by rfl) ?_; dsimp only)); refine box_event ?hg (N := 4) ?hd (cs := #[.int .i64 0, .int .i64 0, .int .i64 0, .int .i64 0, .int .i64 0]) (t := 45) ?hr ?_; (case hd => rfl); (case hg => rfl); (case hr => first | (go_simp; done) | (go_simp; rfl)); intro p4 hg w32 hbox hb; have n0_ := Aside0.mk (blk_below (g := p3) (o := .cells #[.int .i64 a0_0, .slice (some q1) l0_1.length c0_1] 38 (0, 0)) p0.out hb); have n1_ := Aside0.mk (below_step HB.out hb); have n2_ := Aside0.mk (hbox); have n3_ := Aside0.mk ((by rw [hg]; exact (below_size HB.out) : w.heap.size ≤ p4)); have n4_ := Aside0.mk ((by rw [hg]; exact (below_size HB.out) : w.heap.size ≤ p4)); have n5_ := Aside0.mk ((by rw [hg]; exact Nat.ne_of_lt (blk_lt (g := p3) (o := .cells #[.int .i64 a0_0, .slice (some q1) l0_1.length c0_1] 38 (0, 0)) p0.out) : p3 ≠ p4)); have n6_ := Aside0.mk ((by rw [hg]; exact Nat.ne_of_gt (blk_lt (g := p3) (o := .cells #[.int .i64 a0_0, .slice (some q1) l0_1.length c0_1] 38 (0, 0)) p0.out) : p4 ≠ p3)); clear p0; clear HB; have p0 := n0_; have HB := n1_; have p1 := n2_; have q8 := n3_; have q4 := n4_; have q0 := n5_; have q2 := n6_; clear n0_ n1_ n2_ n3_ n4_ n5_ n6_; clear hb hbox hg; have hnb33 := q2.out; have hnc33 := q0.out; have hcz34_0 : w32.cell? ⟨p4, 0, none⟩ = some (.int .i64 0) := (blk_cell p1.out 0).trans rfl; have hcz34_1 : w32.cell? ⟨p4, 1, none⟩ = some (.int .i64 0) := (blk_cell p1.out 1).trans rfl; have hcz34_2 : w32.cell? ⟨p4, 2, none⟩ = some (.int .i64 0) := (blk_cell p1.out 2).trans rfl; have hcz34_3 : w32.cell? ⟨p4, 3, none⟩ = some (.int .i64 0) := (blk_cell p1.out 3).trans rfl; have hcz34_4 : w32.cell? ⟨p4, 4, none⟩ = some (.int .i64 0) := (blk_cell p1.out 4).trans rfl; have hfz34_0 := blk_frozen p1.out 0; have hfz34_1 := blk_frozen p1.out 1; have hfz34_2 := blk_frozen p1.out 2; have hfz34_3 := blk_frozen p1.out 3; have hfz34_4 := blk_frozen p1.out 4; have hcz35_0 : w32.cell? ⟨p3, 0, none⟩ = some (.int .i64 a0_0) := (blk_cell p0.out 0).trans rfl; have hcz35_1 : w32.cell? ⟨p3, 1, none⟩ = some (.slice (some q1) l0_1.length c0_1) := (blk_cell p0.out 1).trans rfl; have hfz35_0 := blk_frozen p0.out 0; have hfz35_1 := blk_frozen p0.out 1) | ((with_reducible refine gate_callee (f := 78) rfl ?_); refine goesL_ (some 22) rfl rfl Try.func78 (by kernel_rfl) rfl #[.int .i64 ((rd_T45 l0_1 x3_1).f0), .int .i64 0, .int .i64 (wrap64 (a0_0 - 1))] rfl (by (try simp only [List.map_toArray, List.map_cons, List.map_nil]); first | done | rfl | (simp only [List.length_drop, List.length_take]; rfl)) ?_; (with_reducible refine (spec_l1In.calls ((rd_T45 l0_1 x3_1).f0) 0 (wrap64 (a0_0 - 1)) true _ A5.out).mono ?_); rintro e w' ⟨rfl, ⟨nd, rfl⟩⟩; refine ⟨_, rfl, ?_⟩) | (go_at_call 78; (with_reducible refine (spec_l1In.calls ((rd_T45 l0_1 x3_1).f1) 0 (wrap64 (a0_0 - 1)) true _ A7.out).mono ?_); rintro e w' ⟨rfl, ⟨nd, rfl⟩⟩) | (go_at_call 78; (with_reducible refine (spec_l1In.calls ((rd_T45 l0_1 x3_1).f2) 0 99 true _ A15.out).mono ?_); rintro e w' ⟨rfl, ⟨nd, rfl⟩⟩) | (go_at_call 78; (with_reducible refine (spec_l1In.calls ((rd_T45 l0_1 x3_1).f3) 0 99 false _ A17.out).mono ?_); rintro e w' ⟨rfl, ⟨nd, rfl⟩⟩))
          go_ret
          exact ⟨by first | rfl | (simp [errW_none, errW_some] <;> rfl) | (simp [*, errW_none, errW_some] <;> rfl), by repeat (first | (with_reducible first | exact HB.out | apply below_alloc | apply pw_below_drewN | apply below_drew1 | refine below_set ?_ q5.out | refine below_set ?_ q4.out) | exact HB.out)⟩
        ·replace c16 := Bool.eq_false_iff.mpr c16
         subst c16
         have H1 : (some false) = some r := by rw [if_neg (show ¬ (false = true) by decide)] at H; exact H
         clear H
         have H := H1
         clear H1
         obtain rfl := Option.some.inj H
         have hcz36_0 : wr.cell? ⟨p3, 0, none⟩ = some (.int .i64 a0_0) := (blk_cell p0.out 0).trans rfl
         have hcz36_1 : wr.cell? ⟨p3, 1, none⟩ = some (.slice A0_1 l0_1.length c0_1) := (blk_cell p0.out 1).trans rfl
         have hfz36_0 := blk_frozen p0.out 0
         have hfz36_1 := blk_frozen p0.out 1
         have p304 : 0 ≤ (x3_1 : Int) := of_decide_eq_true (by first | (with_reducible assumption) | assumption)
         have q304 : x3_1 < (l0_1.length : Int) := of_decide_eq_true (by first | (with_reducible assumption) | assumption)
         obtain ⟨q1, e304, p5, p6, p7, p8, p9⟩ := at_T45 q7.out x3_1 p304 q304
         cases e304
         replace p5 := (HB.out.cell (World.block_lt_of_cell? w _ p5)).trans p5
         replace p6 := (HB.out.cell (World.block_lt_of_cell? w _ p6)).trans p6
         replace p7 := (HB.out.cell (World.block_lt_of_cell? w _ p7)).trans p7
         replace p8 := (HB.out.cell (World.block_lt_of_cell? w _ p8)).trans p8
         replace p9 := (HB.out.cell (World.block_lt_of_cell? w _ p9)).trans p9
         replace p304 := eq_true p304
         replace q304 := eq_true q304
         go_wp2_with (first | ((with_reducible refine gate_dst (N := 4) rfl ?_); (try (refine gate_guard (by rfl) ?_; dsimp only)); refine box_event ?hg (N := 4) ?hd (cs := #[.int .i64 0, .int .i64 0, .int .i64 0, .int .i64 0, .int .i64 0]) (t := 45) ?hr ?_; (case hd => rfl); (case hg => rfl); (case hr => first | (go_simp; done) | (go_simp; rfl)); intro p4 hg w37 hbox hb; have n0_ := Aside0.mk (blk_below (g := p3) (o := .cells #[.int .i64 a0_0, .slice (some q1) l0_1.length c0_1] 38 (0, 0)) p0.out hb); have n1_ := Aside0.mk (below_step HB.out hb); have n2_ := Aside0.mk (hbox); have n3_ := Aside0.mk ((by rw [hg]; exact (below_size HB.out) : w.heap.size ≤ p4)); have n4_ := Aside0.mk ((by rw [hg]; exact (below_size HB.out) : w.heap.size ≤ p4)); have n5_ := Aside0.mk ((by rw [hg]; exact Nat.ne_of_lt (blk_lt (g := p3) (o := .cells #[.int .i64 a0_0, .slice (some q1) l0_1.length c0_1] 38 (0, 0)) p0.out) : p3 ≠ p4)); have n6_ := Aside0.mk ((by rw [hg]; exact Nat.ne_of_gt (blk_lt (g := p3) (o := .cells #[.int .i64 a0_0, .slice (some q1) l0_1.length c0_1] 38 (0, 0)) p0.out) : p4 ≠ p3)); clear p0; clear HB; have p0 := n0_; have HB := n1_; have p1 := n2_; have q8 := n3_; have q4 := n4_; have q0 := n5_; have q2 := n6_; clear n0_ n1_ n2_ n3_ n4_ n5_ n6_; clear hb hbox hg; have hnb38 := q2.out; have hnc38 := q0.out; have hcz39_0 : w37.cell? ⟨p4, 0, none⟩ = some (.int .i64 0) := (blk_cell p1.out 0).trans rfl; have hcz39_1 : w37.cell? ⟨p4, 1, none⟩ = some (.int .i64 0) := (blk_cell p1.out 1).trans rfl; have hcz39_2 : w37.cell? ⟨p4, 2, none⟩ = some (.int .i64 0) := (blk_cell p1.out 2).trans rfl; have hcz39_3 : w37.cell? ⟨p4, 3, none⟩ = some (.int .i64 0) := (blk_cell p1.out 3).trans rfl; have hcz39_4 : w37.cell? ⟨p4, 4, none⟩ = some (.int .i64 0) := (blk_cell p1.out 4).trans rfl; have hfz39_0 := blk_frozen p1.out 0; have hfz39_1 := blk_frozen p1.out 1; have hfz39_2 := blk_frozen p1.out 2; have hfz39_3 := blk_frozen p1.out 3; have hfz39_4 := blk_frozen p1.out 4; have hcz40_0 : w37.cell? ⟨p3, 0, none⟩ = some (.int .i64 a0_0) := (blk_cell p0.out 0).trans rfl; have hcz40_1 : w37.cell? ⟨p3, 1, none⟩ = some (.slice (some q1) l0_1.length c0_1) := (blk_cell p0.out 1).trans rfl; have hfz40_0 := blk_frozen p0.out 0; have hfz40_1 := blk_frozen p0.out 1) | ((with_reducible refine gate_callee (f := 78) rfl ?_); refine goesL_ (some 22) rfl rfl Try.func78 (by kernel_rfl) rfl #[.int .i64 ((rd_T45 l0_1 x3_1).f0), .int .i64 0, .int .i64 (wrap64 (a0_0 - 1))] rfl (by (try simp only [List.map_toArray, List.map_cons, List.map_nil]); first | done | rfl | (simp only [List.length_drop, List.length_take]; rfl)) ?_; (with_reducible refine (spec_l1In.calls ((rd_T45 l0_1 x3_1).f0) 0 (wrap64 (a0_0 - 1)) true _ A5.out).mono ?_); rintro e w' ⟨rfl, ⟨nd, rfl⟩⟩; refine ⟨_, rfl, ?_⟩) | (go_at_call 78; (with_reducible refine (spec_l1In.calls ((rd_T45 l0_1 x3_1).f1) 0 (wrap64 (a0_0 - 1)) true _ A7.out).mono ?_); rintro e w' ⟨rfl, ⟨nd, rfl⟩⟩) | (go_at_call 78; (with_reducible refine (spec_l1In.calls ((rd_T45 l0_1 x3_1).f2) 0 99 false _ A15.out).mono ?_); rintro e w' ⟨rfl, ⟨nd, rfl⟩⟩))
         go_ret
         exact ⟨by first | rfl | (simp [errW_none, errW_some] <;> rfl) | (simp [*, errW_none, errW_some] <;> rfl), by repeat (first | (with_reducible first | exact HB.out | apply below_alloc | apply pw_below_drewN | apply below_drew1 | refine below_set ?_ q5.out | refine below_set ?_ q4.out) | exact HB.out)⟩
      ·replace c8 := Bool.eq_false_iff.mpr c8
       subst c8
       have H1 : (some false) = some r := by rw [if_neg (show ¬ (false = true) by decide)] at H; exact H
       clear H
       have H := H1
       clear H1
       obtain rfl := Option.some.inj H
       have hcz41_0 : wr.cell? ⟨p3, 0, none⟩ = some (.int .i64 a0_0) := (blk_cell p0.out 0).trans rfl
       have hcz41_1 : wr.cell? ⟨p3, 1, none⟩ = some (.slice A0_1 l0_1.length c0_1) := (blk_cell p0.out 1).trans rfl
       have hfz41_0 := blk_frozen p0.out 0
       have hfz41_1 := blk_frozen p0.out 1
       have p304 : 0 ≤ (x3_1 : Int) := of_decide_eq_true (by first | (with_reducible assumption) | assumption)
       have q304 : x3_1 < (l0_1.length : Int) := of_decide_eq_true (by first | (with_reducible assumption) | assumption)
       obtain ⟨q1, e304, p5, p6, p7, p8, p9⟩ := at_T45 q7.out x3_1 p304 q304
       cases e304
       replace p5 := (HB.out.cell (World.block_lt_of_cell? w _ p5)).trans p5
       replace p6 := (HB.out.cell (World.block_lt_of_cell? w _ p6)).trans p6
       replace p7 := (HB.out.cell (World.block_lt_of_cell? w _ p7)).trans p7
       replace p8 := (HB.out.cell (World.block_lt_of_cell? w _ p8)).trans p8
       replace p9 := (HB.out.cell (World.block_lt_of_cell? w _ p9)).trans p9
       replace p304 := eq_true p304
       replace q304 := eq_true q304
       go_wp2_with (first | ((with_reducible refine gate_dst (N := 4) rfl ?_); (try (refine gate_guard (by rfl) ?_; dsimp only)); refine box_event ?hg (N := 4) ?hd (cs := #[.int .i64 0, .int .i64 0, .int .i64 0, .int .i64 0, .int .i64 0]) (t := 45) ?hr ?_; (case hd => rfl); (case hg => rfl); (case hr => first | (go_simp; done) | (go_simp; rfl)); intro p4 hg w42 hbox hb; have n0_ := Aside0.mk (blk_below (g := p3) (o := .cells #[.int .i64 a0_0, .slice (some q1) l0_1.length c0_1] 38 (0, 0)) p0.out hb); have n1_ := Aside0.mk (below_step HB.out hb); have n2_ := Aside0.mk (hbox); have n3_ := Aside0.mk ((by rw [hg]; exact (below_size HB.out) : w.heap.size ≤ p4)); have n4_ := Aside0.mk ((by rw [hg]; exact (below_size HB.out) : w.heap.size ≤ p4)); have n5_ := Aside0.mk ((by rw [hg]; exact Nat.ne_of_lt (blk_lt (g := p3) (o := .cells #[.int .i64 a0_0, .slice (some q1) l0_1.length c0_1] 38 (0, 0)) p0.out) : p3 ≠ p4)); have n6_ := Aside0.mk ((by rw [hg]; exact Nat.ne_of_gt (blk_lt (g := p3) (o := .cells #[.int .i64 a0_0, .slice (some q1) l0_1.length c0_1] 38 (0, 0)) p0.out) : p4 ≠ p3)); clear p0; clear HB; have p0 := n0_; have HB := n1_; have p1 := n2_; have q8 := n3_; have q4 := n4_; have q0 := n5_; have q2 := n6_; clear n0_ n1_ n2_ n3_ n4_ n5_ n6_; clear hb hbox hg; have hnb43 := q2.out; have hnc43 := q0.out; have hcz44_0 : w42.cell? ⟨p4, 0, none⟩ = some (.int .i64 0) := (blk_cell p1.out 0).trans rfl; have hcz44_1 : w42.cell? ⟨p4, 1, none⟩ = some (.int .i64 0) := (blk_cell p1.out 1).trans rfl; have hcz44_2 : w42.cell? ⟨p4, 2, none⟩ = some (.int .i64 0) := (blk_cell p1.out 2).trans rfl; have hcz44_3 : w42.cell? ⟨p4, 3, none⟩ = some (.int .i64 0) := (blk_cell p1.out 3).trans rfl; have hcz44_4 : w42.cell? ⟨p4, 4, none⟩ = some (.int .i64 0) := (blk_cell p1.out 4).trans rfl; have hfz44_0 := blk_frozen p1.out 0; have hfz44_1 := blk_frozen p1.out 1; have hfz44_2 := blk_frozen p1.out 2; have hfz44_3 := blk_frozen p1.out 3; have hfz44_4 := blk_frozen p1.out 4; have hcz45_0 : w42.cell? ⟨p3, 0, none⟩ = some (.int .i64 a0_0) := (blk_cell p0.out 0).trans rfl; have hcz45_1 : w42.cell? ⟨p3, 1, none⟩ = some (.slice (some q1) l0_1.length c0_1) := (blk_cell p0.out 1).trans rfl; have hfz45_0 := blk_frozen p0.out 0; have hfz45_1 := blk_frozen p0.out 1) | ((with_reducible refine gate_callee (f := 78) rfl ?_); refine goesL_ (some 22) rfl rfl Try.func78 (by kernel_rfl) rfl #[.int .i64 ((rd_T45 l0_1 x3_1).f0), .int .i64 0, .int .i64 (wrap64 (a0_0 - 1))] rfl (by (try simp only [List.map_toArray, List.map_cons, List.map_nil]); first | done | rfl | (simp only [List.length_drop, List.length_take]; rfl)) ?_; (with_reducible refine (spec_l1In.calls ((rd_T45 l0_1 x3_1).f0) 0 (wrap64 (a0_0 - 1)) true _ A5.out).mono ?_); rintro e w' ⟨rfl, ⟨nd, rfl⟩⟩; refine ⟨_, rfl, ?_⟩) | (go_at_call 78; (with_reducible refine (spec_l1In.calls ((rd_T45 l0_1 x3_1).f1) 0 (wrap64 (a0_0 - 1)) false _ A7.out).mono ?_); rintro e w' ⟨rfl, ⟨nd, rfl⟩⟩))
       go_ret
       exact ⟨by first | rfl | (simp [errW_none, errW_some] <;> rfl) | (simp [*, errW_none, errW_some] <;> rfl), by repeat (first | (with_reducible first | exact HB.out | apply below_alloc | apply pw_below_drewN | apply below_drew1 | refine below_set ?_ q5.out | refine below_set ?_ q4.out) | exact HB.out)⟩
     ·replace c6 := Bool.eq_false_iff.mpr c6
      subst c6
      have H1 : (some false) = some r := by rw [if_neg (show ¬ (false = true) by decide)] at H; exact H
      clear H
      have H := H1
      clear H1
      obtain rfl := Option.some.inj H
      have hcz46_0 : wr.cell? ⟨p3, 0, none⟩ = some (.int .i64 a0_0) := (blk_cell p0.out 0).trans rfl
      have hcz46_1 : wr.cell? ⟨p3, 1, none⟩ = some (.slice A0_1 l0_1.length c0_1) := (blk_cell p0.out 1).trans rfl
      have hfz46_0 := blk_frozen p0.out 0
      have hfz46_1 := blk_frozen p0.out 1
      have p304 : 0 ≤ (x3_1 : Int) := of_decide_eq_true (by first | (with_reducible assumption) | assumption)
      have q304 : x3_1 < (l0_1.length : Int) := of_decide_eq_true (by first | (with_reducible assumption) | assumption)
      obtain ⟨q1, e304, p5, p6, p7, p8, p9⟩ := at_T45 q7.out x3_1 p304 q304
      cases e304
      replace p5 := (HB.out.cell (World.block_lt_of_cell? w _ p5)).trans p5
      replace p6 := (HB.out.cell (World.block_lt_of_cell? w _ p6)).trans p6
      replace p7 := (HB.out.cell (World.block_lt_of_cell? w _ p7)).trans p7
      replace p8 := (HB.out.cell (World.block_lt_of_cell? w _ p8)).trans p8
      replace p9 := (HB.out.cell (World.block_lt_of_cell? w _ p9)).trans p9
      replace p304 := eq_true p304
      replace q304 := eq_true q304
      go_wp2_with (first | ((with_reducible refine gate_dst (N := 4) rfl ?_); (try (refine gate_guard (by rfl) ?_; dsimp only)); refine box_event ?hg (N := 4) ?hd (cs := #[.int .i64 0, .int .i64 0, .int .i64 0, .int .i64 0, .int .i64 0]) (t := 45) ?hr ?_; (case hd => rfl); (case hg => rfl); (case hr => first | (go_simp; done) | (go_simp; rfl)); intro p4 hg w47 hbox hb; have n0_ := Aside0.mk (blk_below (g := p3) (o := .cells #[.int .i64 a0_0, .slice (some q1) l0_1.length c0_1] 38 (0, 0)) p0.out hb); have n1_ := Aside0.mk (below_step HB.out hb); have n2_ := Aside0.mk (hbox); have n3_ := Aside0.mk ((by rw [hg]; exact (below_size HB.out) : w.heap.size ≤ p4)); have n4_ := Aside0.mk ((by rw [hg]; exact (below_size HB.out) : w.heap.size ≤ p4)); have n5_ := Aside0.mk ((by rw [hg]; exact Nat.ne_of_lt (blk_lt (g := p3) (o := .cells #[.int .i64 a0_0, .slice (some q1) l0_1.length c0_1] 38 (0, 0)) p0.out) : p3 ≠ p4)); have n6_ := Aside0.mk ((by rw [hg]; exact Nat.ne_of_gt (blk_lt (g := p3) (o := .cells #[.int .i64 a0_0, .slice (some q1) l0_1.length c0_1] 38 (0, 0)) p0.out) : p4 ≠ p3)); clear p0; clear HB; have p0 := n0_; have HB := n1_; have p1 := n2_; have q8 := n3_; have q4 := n4_; have q0 := n5_; have q2 := n6_; clear n0_ n1_ n2_ n3_ n4_ n5_ n6_; clear hb hbox hg; have hnb48 := q2.out; have hnc48 := q0.out; have hcz49_0 : w47.cell? ⟨p4, 0, none⟩ = some (.int .i64 0) := (blk_cell p1.out 0).trans rfl; have hcz49_1 : w47.cell? ⟨p4, 1, none⟩ = some (.int .i64 0) := (blk_cell p1.out 1).trans rfl; have hcz49_2 : w47.cell? ⟨p4, 2, none⟩ = some (.int .i64 0) := (blk_cell p1.out 2).trans rfl; have hcz49_3 : w47.cell? ⟨p4, 3, none⟩ = some (.int .i64 0) := (blk_cell p1.out 3).trans rfl; have hcz49_4 : w47.cell? ⟨p4, 4, none⟩ = some (.int .i64 0) := (blk_cell p1.out 4).trans rfl; have hfz49_0 := blk_frozen p1.out 0; have hfz49_1 := blk_frozen p1.out 1; have hfz49_2 := blk_frozen p1.out 2; have hfz49_3 := blk_frozen p1.out 3; have hfz49_4 := blk_frozen p1.out 4; have hcz50_0 : w47.cell? ⟨p3, 0, none⟩ = some (.int .i64 a0_0) := (blk_cell p0.out 0).trans rfl; have hcz50_1 : w47.cell? ⟨p3, 1, none⟩ = some (.slice (some q1) l0_1.length c0_1) := (blk_cell p0.out 1).trans rfl; have hfz50_0 := blk_frozen p0.out 0; have hfz50_1 := blk_frozen p0.out 1) | ((with_reducible refine gate_callee (f := 78) rfl ?_); refine goesL_ (some 22) rfl rfl Try.func78 (by kernel_rfl) rfl #[.int .i64 ((rd_T45 l0_1 x3_1).f0), .int .i64 0, .int .i64 (wrap64 (a0_0 - 1))] rfl (by (try simp only [List.map_toArray, List.map_cons, List.map_nil]); first | done | rfl | (simp only [List.length_drop, List.length_take]; rfl)) ?_; (with_reducible refine (spec_l1In.calls ((rd_T45 l0_1 x3_1).f0) 0 (wrap64 (a0_0 - 1)) false _ A5.out).mono ?_); rintro e w' ⟨rfl, ⟨nd, rfl⟩⟩; refine ⟨_, rfl, ?_⟩))
      go_ret
      exact ⟨by first | rfl | (simp [errW_none, errW_some] <;> rfl) | (simp [*, errW_none, errW_some] <;> rfl), by repeat (first | (with_reducible first | exact HB.out | apply below_alloc | apply pw_below_drewN | apply below_drew1 | refine below_set ?_ q5.out | refine below_set ?_ q4.out) | exact HB.out)⟩
    ·rw [if_neg c4] at H
     exact absurd H (by simp)
   ·rw [if_neg c3] at H
    have c3b0 : decide (x3_1 < (l0_1.length : Int)) = false := decide_eq_false c3
    clear c3
    replace H := Option.bind_eq_some_iff.mp H
    obtain ⟨t303, A510, H⟩ := H
    replace H : (if t303 = true then (some (decide ((l0_1.length : Int) ≤ 16))) else (some false)) = some r := H
    have A51 := Aside0.mk A510
    clear A510
    by_cases c52 : t303 = true
    ·subst c52
     have H1 : (some (decide ((l0_1.length : Int) ≤ 16))) = some r := by rw [if_pos rfl] at H; exact H
     clear H
     have H := H1
     clear H1
     obtain rfl := Option.some.inj H
     have hcz53_0 : wr.cell? ⟨p3, 0, none⟩ = some (.int .i64 a0_0) := (blk_cell p0.out 0).trans rfl
     have hcz53_1 : wr.cell? ⟨p3, 1, none⟩ = some (.slice A0_1 l0_1.length c0_1) := (blk_cell p0.out 1).trans rfl
     have hfz53_0 := blk_frozen p0.out 0
     have hfz53_1 := blk_frozen p0.out 1
     go_wp2_with (first | ((with_reducible refine gate_callee (f := 78) rfl ?_); refine goesL_ (some 60) rfl rfl Try.func78 (by kernel_rfl) rfl #[.int .i64 a0_0, .int .i64 1, .int .i64 8] rfl (by (try simp only [List.map_toArray, List.map_cons, List.map_nil]); first | done | rfl | (simp only [List.length_drop, List.length_take]; rfl)) ?_; (with_reducible refine (spec_l1In.calls a0_0 1 8 true _ A51.out).mono ?_); rintro e w' ⟨rfl, ⟨nd, rfl⟩⟩; refine ⟨_, rfl, ?_⟩))
     go_ret
     exact ⟨by first | rfl | (simp [errW_none, errW_some] <;> rfl) | (simp [*, errW_none, errW_some] <;> rfl), by repeat (first | (with_reducible first | exact HB.out | apply below_alloc | apply pw_below_drewN | apply below_drew1 | refine below_set ?_ q5.out) | exact HB.out)⟩
    ·replace c52 := Bool.eq_false_iff.mpr c52
     subst c52
     have H1 : (some false) = some r := by rw [if_neg (show ¬ (false = true) by decide)] at H; exact H
     clear H
     have H := H1
     clear H1
     obtain rfl := Option.some.inj H
     have hcz54_0 : wr.cell? ⟨p3, 0, none⟩ = some (.int .i64 a0_0) := (blk_cell p0.out 0).trans rfl
     have hcz54_1 : wr.cell? ⟨p3, 1, none⟩ = some (.slice A0_1 l0_1.length c0_1) := (blk_cell p0.out 1).trans rfl
     have hfz54_0 := blk_frozen p0.out 0
     have hfz54_1 := blk_frozen p0.out 1
     go_wp2_with (first | ((with_reducible refine gate_callee (f := 78) rfl ?_); refine goesL_ (some 60) rfl rfl Try.func78 (by kernel_rfl) rfl #[.int .i64 a0_0, .int .i64 1, .int .i64 8] rfl (by (try simp only [List.map_toArray, List.map_cons, List.map_nil]); first | done | rfl | (simp only [List.length_drop, List.length_take]; rfl)) ?_; (with_reducible refine (spec_l1In.calls a0_0 1 8 false _ A51.out).mono ?_); rintro e w' ⟨rfl, ⟨nd, rfl⟩⟩; refine ⟨_, rfl, ?_⟩))
     go_ret
     exact ⟨by first | rfl | (simp [errW_none, errW_some] <;> rfl) | (simp [*, errW_none, errW_some] <;> rfl), by repeat (first | (with_reducible first | exact HB.out | apply below_alloc | apply pw_below_drewN | apply below_drew1 | refine below_set ?_ q5.out) | exact HB.out)⟩
end Go.Proofs.Ytmabopomecdidaa.Pr
end
section
namespace Go.Proofs.Ytmabopomecdidaa.Pr
open Go.RowKit Go.Proofs.YtmabopomecdidaaW.PrintWords Go.Proofs.YtmabopomecdidaaW.PrintLast Go.Proofs.YtmabopomecdidaaW.PrintMore
attribute [local go_sem] max2_int min2_int max_two min_two max_three min_three max_four min_four
set_option linter.unusedVariables false
set_option linter.unusedSimpArgs false
def spec_l12In.l0 : Nat → List Int → Int → Int → Option (Bool)
 | 0, _, _, _ => none
 | k + 1, x0, x1, x5 => if x5 < (x0.length : Int) then (if 0 ≤ x5 then (if (rd x0 x5) = x1 then (some true) else (spec_l12In.l0 k x0 x1 (wrap64 (x5 + 1)))) else (none)) else (some false)
def spec_l12In.f (k : Nat) (l0 : List Int) (a1 : Int) : Option (Bool) := spec_l12In.l0 k l0 a1 0
set_option maxHeartbeats 8000000 in
set_option maxRecDepth 100000 in
theorem spec_l12In.calls (k : Nat) (A0 : Option Addr) (c0 : Nat) (l0 : List Int) (a1 : Int) (r : Bool) (w : World) (hr0 : Kd.C (Kd.int .i64) w A0 l0.length l0) (hc0 : l0.length ≤ c0) (h : spec_l12In.f k l0 a1 = some r) :
  Calls Try.prog 70 #[.slice A0 l0.length c0, .int .i64 a1] w fun e w' => e = .returned (.bool r) ∧ Drawn0 w w' := by
 have HR0 := Aside0.mk hr0
 have HC0 := Aside0.mk hc0
 clear hr0 hc0
 have H : (spec_l12In.l0 k l0 a1 0) = some r := h
 clear h
 have H' := Aside0.mk H
 clear H
 go_enter Try.func70, Try.ntmps70
 go_wp2
 go_loopg [5] k (fun kq v5 w' => ∃ (x5_1 : Int), v5 = .int .i64 x5_1 ∧ Aside0 (spec_l12In.l0 kq l0 a1 x5_1 = some r) ∧ Aside0 (kq ≤ k) ∧ Drawn0 w w')
 case atStart => exact ⟨(0), (by first | rfl | (simp; done) | (simp [*]; done)), H', ⟨Nat.le_refl _⟩, by repeat (first | exact Drawn0.refl _ | apply Drawn0.step)⟩
 case round =>
  clear H'
  try clear p2
  obtain ⟨x5_1, rfl, HA, HK1, ⟨m1, rfl⟩⟩ := hrel
  cases gk with
  | zero => exact absurd HA.out (by simp [spec_l12In.l0])
  | succ k1 =>
   have H := HA.out
   clear HA
   simp only [spec_l12In.l0] at H
   by_cases c3 : x5_1 < (l0.length : Int)
   ·rw [if_pos c3] at H
    have c3b0 : decide (x5_1 < (l0.length : Int)) = true := decide_eq_true c3
    clear c3
    by_cases c4 : 0 ≤ x5_1
    ·rw [if_pos c4] at H
     have c4b0 : decide (0 ≤ x5_1) = true := decide_eq_true c4
     clear c4
     by_cases c5 : (rd l0 x5_1) = a1
     ·rw [if_pos c5] at H
      have c5b0 : ((rd l0 x5_1) == a1) = true := beq_iff_eq.mpr c5
      have c5b1 : ((rd l0 x5_1) != a1) = false := bne_eq_false_iff_eq.mpr c5
      clear c5
      obtain rfl := Option.some.inj H
      have p311 : 0 ≤ (x5_1 : Int) := of_decide_eq_true (by first | (with_reducible assumption) | assumption)
      have q311 : x5_1 < (l0.length : Int) := of_decide_eq_true (by first | (with_reducible assumption) | assumption)
      obtain ⟨ad311, e311, hx311_0⟩ := Kd.at_int HR0.out x5_1 p311 q311
      cases e311
      replace p311 := eq_true p311
      replace q311 := eq_true q311
      go_wp2
      go_ret
      exact ⟨by first | rfl | (simp; done) | (simp [*]; done), by repeat (first | exact Drawn0.refl _ | apply Drawn0.step)⟩
     ·rw [if_neg c5] at H
      have c5b0 : ((rd l0 x5_1) == a1) = false := beq_eq_false_iff_ne.mpr c5
      have c5b1 : ((rd l0 x5_1) != a1) = true := bne_iff_ne.mpr c5
      have H' := Aside0.mk H
      clear H
      have p311 : 0 ≤ (x5_1 : Int) := of_decide_eq_true (by first | (with_reducible assumption) | assumption)
      have q311 : x5_1 < (l0.length : Int) := of_decide_eq_true (by first | (with_reducible assumption) | assumption)
      obtain ⟨ad311, e311, hx311_0⟩ := Kd.at_int HR0.out x5_1 p311 q311
      cases e311
      replace p311 := eq_true p311
      replace q311 := eq_true q311
      go_wp2
      go_roundg k1
      case measure => have := HK1.out; omega
      case rel => exact ⟨(wrap64 (x5_1 + 1)), (by first | rfl | (simp; done) | (simp [*]; done)), H', ⟨by have := HK1.out; omega⟩, by repeat (first | exact Drawn0.refl _ | apply Drawn0.step)⟩
    ·rw [if_neg c4] at H
     exact absurd H (by simp)
   ·rw [if_neg c3] at H
    have c3b0 : decide (x5_1 < (l0.length : Int)) = false := decide_eq_false c3
    clear c3
    obtain rfl := Option.some.inj H
    go_wp2
    go_ret
    exact ⟨by first | rfl | (simp; done) | (simp [*]; done), by repeat (first | exact Drawn0.refl _ | apply Drawn0.step)⟩
end Go.Proofs.Ytmabopomecdidaa.Pr
end
section
namespace Go.Proofs.Ytmabopomecdidaa.Pr
open Go.RowKit Go.Proofs.YtmabopomecdidaaW.PrintWords Go.Proofs.YtmabopomecdidaaW.PrintLast Go.Proofs.YtmabopomecdidaaW.PrintMore
attribute [local go_sem] max2_int min2_int max_two min_two max_three min_three max_four min_four
set_option linter.unusedVariables false
set_option linter.unusedSimpArgs false
mutual
def spec_RingOrder.l0 : Nat → List Int → Int → List (S45) → Option (List Int × Bool)
 | 0, _, _, _ => none
 | k + 1, x4, p4, p3 => if (x4.length : Int) < p4 then (spec_RingOrder.l1 k x4 (-1) (wrap64 (p4 - 1)) p4 p3) else (some (x4, true))
def spec_RingOrder.l1 : Nat → List Int → Int → Int → Int → List (S45) → Option (List Int × Bool)
 | 0, _, _, _, _, _ => none
 | k + 1, x4, x5, x6, p4, p3 => if x6 ≥ 0 then ((spec_l12In.f k x4 x6).bind fun t320 => (spec_RingOrder.l2 k x4 x5 x6 (!t320) 0 p4 p3)) else (if x5 < 0 then (some (([] : List Int), false)) else (if x4.length < 17592186044416 then (spec_RingOrder.l0 k (x4 ++ [x5]) p4 p3) else (none)))
def spec_RingOrder.l2 : Nat → List Int → Int → Int → Bool → Int → Int → List (S45) → Option (List Int × Bool)
 | 0, _, _, _, _, _, _, _ => none
 | k + 1, x4, x5, x6, x7, x8, p4, p3 => if x8 < (p3.length : Int) then (if x7 = true then (if 0 ≤ x8 then (if ((rd_T45 p3 x8).f1) = x6 then ((spec_l12In.f k x4 ((rd_T45 p3 x8).f0)).bind fun t323 => (spec_RingOrder.l2 k x4 x5 x6 t323 (wrap64 (x8 + 1)) p4 p3)) else (spec_RingOrder.l2 k x4 x5 x6 true (wrap64 (x8 + 1)) p4 p3)) else (none)) else (spec_RingOrder.l2 k x4 x5 x6 false (wrap64 (x8 + 1)) p4 p3)) else (if x7 = true then (spec_RingOrder.l1 k x4 x6 (wrap64 (x6 - 1)) p4 p3) else (spec_RingOrder.l1 k x4 x5 (wrap64 (x6 - 1)) p4 p3))
end
def spec_RingOrder.f (k : Nat) (a0_0 : Int) (l0_1 : List (S45)) : Option (List Int × Bool) := (spec_l1Ok.f k a0_0 l0_1).bind fun t316 => (if t316 = true then (spec_RingOrder.l0 k (([] : List Int)) a0_0 l0_1) else (some (([] : List Int), false)))
set_option maxHeartbeats 8000000 in
set_option maxRecDepth 100000 in
theorem spec_RingOrder.calls (k : Nat) (a0_0 : Int) (A0_1 : Option Addr) (c0_1 : Nat) (l0_1 : List (S45)) (r1 : List Int) (r2 : Bool) (w : World) (hr0_1 : Kd.C k45 w A0_1 l0_1.length l0_1) (hc0_1 : l0_1.length ≤ c0_1) (h : spec_RingOrder.f k a0_0 l0_1 = some (r1, r2)) :
  Calls Try.prog 25 #[.agg #[.int .i64 a0_0, .slice A0_1 l0_1.length c0_1]] w fun e w' => ∃ v0_ : Value, e = .returned (.tuple #[v0_, .bool r2]) ∧ Kd.R (Kd.int .i64) 3 w' w.heap.size (fun _ => True) v0_ r1 ∧ Below w.heap.size w w' := by
 have hu38 := Try.underlying38
 have q7 := Aside0.mk hr0_1
 have HC0_1 := Aside0.mk hc0_1
 clear hr0_1 hc0_1
 have HB := Aside0.mk (Below.refl w.heap.size w)
 have H : ((spec_l1Ok.f k a0_0 l0_1).bind fun t316 => (if t316 = true then (spec_RingOrder.l0 k (([] : List Int)) a0_0 l0_1) else (some (([] : List Int), false)))) = some (r1, r2) := h
 clear h
 obtain ⟨y313, hy313⟩ : ∃ y_ : List Int, y_ = (([] : List Int)) := ⟨_, rfl⟩
 replace H : ((spec_l1Ok.f k a0_0 l0_1).bind fun t316 => (if t316 = true then (spec_RingOrder.l0 k y313 a0_0 l0_1) else (some (([] : List Int), false)))) = some (r1, r2) := by first | (rw [hy313]; with_reducible exact H) | (have H2_ := (Option.bind_some _ _).symm.trans H; rw [hy313]; with_reducible exact H2_) | (have H2_ := (Option.bind_some _ _).symm.trans H; with_reducible exact H2_) | with_reducible exact H | (rw [hy313]; exact H) | exact H
 have r4 := Aside0.mk hy313
 clear hy313
 replace H := Option.bind_eq_some_iff.mp H
 obtain ⟨t316, A20, H⟩ := H
 replace H : (if t316 = true then (spec_RingOrder.l0 k y313 a0_0 l0_1) else (some (([] : List Int), false))) = some (r1, r2) := H
 have A2 := Aside0.mk A20
 clear A20
 by_cases c3 : t316 = true
 ·subst c3
  have H1 : (spec_RingOrder.l0 k y313 a0_0 l0_1) = some (r1, r2) := by rw [if_pos rfl] at H; exact H
  clear H
  have H := H1
  clear H1
  have H' := Aside0.mk H
  clear H
  go_enter Try.func25, Try.ntmps25
  go_wp2_with (first | ((with_reducible refine gate_dst (N := 1) rfl ?_); refine box_event ?hg (N := 1) ?hd (cs := #[.int .i64 a0_0, .slice A0_1 l0_1.length c0_1]) (t := 38) ?hr ?_; (case hd => rfl); (case hg => rfl); (case hr => first | (go_simp; done) | (go_simp; rfl)); intro p1 hg w4 hbox hb; have n0_ := Aside0.mk (below_step HB.out hb); have n1_ := Aside0.mk (hbox); have n2_ := Aside0.mk ((by rw [hg]; exact (below_size HB.out) : w.heap.size ≤ p1)); have n3_ := Aside0.mk ((by rw [hg]; exact (below_size HB.out) : w.heap.size ≤ p1)); clear HB; have HB := n0_; have p0 := n1_; have GW312 := n2_; have p5 := n3_; clear n0_ n1_ n2_ n3_; clear hb hbox hg) | ((with_reducible refine gate_dst (N := 9) rfl ?_); refine Kd.R_lit (Kd.int .i64) _ 3 ?hg (N := 9) ?hd (xs := ([] : List Int)) (inner := []) (ok := fun _ => True) (okp := fun _ => True) ?hr ?hp (fun _ hk => hk) trivial (Below.refl _ _) (Nat.le_refl _) (by simp) ?_; (case hd => rfl); (case hg => rfl); (case hr => first | (go_simp; done) | (go_simp; rfl)); (case hp => exact (Reps.none _ _)); intro v314 w5 ho6 hb hg_ hnew_; clear hg_ hnew_; (first | rw [← r4.out] at ho6 | (simp only [Int.reduceToNat] at ho6; rw [← r4.out] at ho6)); have n0_ := Aside0.mk (Kd.R_lower ho6 (below_size HB.out)); have n1_ := Aside0.mk (blk_below (g := p1) (o := .cells #[.int .i64 a0_0, .slice A0_1 l0_1.length c0_1] 38 (0, 0)) p0.out hb); have n2_ := Aside0.mk (below_step HB.out hb); clear p0; clear HB; have HO315 := n0_; have p0 := n1_; have HB := n2_; clear n0_ n1_ n2_; clear hb ho6; have q8 : w5.cell? ⟨p1, 0, none⟩ = some (.int .i64 a0_0) := (blk_cell p0.out 0).trans rfl; have q9 : w5.cell? ⟨p1, 1, none⟩ = some (.slice A0_1 l0_1.length c0_1) := (blk_cell p0.out 1).trans rfl; have r0 := blk_frozen p0.out 0; have r3 := blk_frozen p0.out 1) | ((with_reducible refine gate_callee (f := 69) rfl ?_); refine goesL_ (some 11) rfl rfl Try.func69 (by kernel_rfl) rfl #[.agg #[.int .i64 a0_0, .slice A0_1 l0_1.length c0_1]] rfl (by (try simp only [List.map_toArray, List.map_cons, List.map_nil]); first | done | rfl | (simp only [List.length_drop, List.length_take]; rfl)) ?_; (with_reducible refine (spec_l1Ok.calls k a0_0 _ _ l0_1 true _ ?side1 ?side2 A2.out).mono ?_); (case side1 => repeat (first | exact (Kd.C_below q7.out HB.out) | (with_reducible refine Kd.C_alloc ?_ _) | (with_reducible refine Kd.C_drewN ?_ _) | (with_reducible refine Kd.C_drew ?_))); (case side2 => exact HC0_1.out); rintro e w8 ⟨rfl, hb⟩; refine ⟨_, rfl, ?_⟩; have n0_ := Aside0.mk (Kd.R_below HO315.out hb); have n1_ := Aside0.mk (blk_below (g := p1) (o := .cells #[.int .i64 a0_0, .slice A0_1 l0_1.length c0_1] 38 (0, 0)) p0.out hb); have n2_ := Aside0.mk (below_step HB.out hb); clear HO315; clear p0; clear HB; have HO315 := n0_; have p0 := n1_; have HB := n2_; clear n0_ n1_ n2_; (try clear hb); (try clear hb2); (try clear hk); (try clear hi)))
  go_loopg [4] k (fun kq v4 w' => ∃ (x4_1 : List Int), Aside0 (spec_RingOrder.l0 kq x4_1 a0_0 l0_1 = some (r1, r2)) ∧ Aside0 (kq ≤ k) ∧ Aside0 (Kd.R (Kd.int .i64) 3 w' w.heap.size (fun _ => True) v4 x4_1) ∧ Aside0 (w'.heap[p1]? = some (.cells #[.int .i64 a0_0, (.slice A0_1 l0_1.length c0_1)] 38 (0, 0))) ∧ Aside0 (Below w.heap.size w w'))
  case atStart => exact ⟨(y313), H', ⟨Nat.le_refl _⟩, ⟨by (with_reducible repeat (first | apply Kd.R_alloc | apply Kd.R_drewN | apply Kd.R_drew)); exact HO315.out⟩, ⟨by (with_reducible repeat (first | refine blk_drewN ?_ _ | refine blk_drew ?_ | refine blk_alloc ?_ _)); exact p0.out⟩, ⟨by repeat (first | (with_reducible first | exact HB.out | apply below_alloc | apply pw_below_drewN | apply below_drew1 | refine below_set ?_ p5.out) | exact HB.out)⟩⟩
  case round =>
   clear H'
   try clear c2
   try clear p2
   try clear c3
   try clear c6
   try clear q8
   try clear q9
   try clear r0
   try clear r3
   obtain ⟨x4_1, HA, HK1, HO_4, p0, HB⟩ := hrel
   cases gk with
   | zero => exact absurd HA.out (by simp [spec_RingOrder.l0])
   | succ k1 =>
    have H := HA.out
    clear HA
    simp only [spec_RingOrder.l0] at H
    by_cases c9 : (x4_1.length : Int) < a0_0
    ·rw [if_pos c9] at H
     have c9b0 : decide ((x4_1.length : Int) < a0_0) = true := decide_eq_true c9
     clear c9
     have H' := Aside0.mk H
     clear H
     obtain ⟨Ao10, co10, eo10⟩ := Kd.R_slice HO_4.out
     subst eo10
     have r5 : wr.cell? ⟨p1, 0, none⟩ = some (.int .i64 a0_0) := (blk_cell p0.out 0).trans rfl
     have r6 : wr.cell? ⟨p1, 1, none⟩ = some (.slice A0_1 l0_1.length c0_1) := (blk_cell p0.out 1).trans rfl
     have r7 := blk_frozen p0.out 0
     have r8 := blk_frozen p0.out 1
     go_wp2
     go_loopg [5, 6] k1 (fun kq v5 v6 w' => ∃ (x5_2 : Int) (x6_2 : Int), v5 = .int .i64 x5_2 ∧ v6 = .int .i64 x6_2 ∧ Aside0 (spec_RingOrder.l1 kq x4_1 x5_2 x6_2 a0_0 l0_1 = some (r1, r2)) ∧ Aside0 (kq ≤ k1) ∧ Aside0 (Kd.R (Kd.int .i64) 3 w' w.heap.size (fun _ => True) (.slice Ao10 x4_1.length co10) x4_1) ∧ Aside0 (w'.heap[p1]? = some (.cells #[.int .i64 a0_0, (.slice A0_1 l0_1.length c0_1)] 38 (0, 0))) ∧ Aside0 (Below w.heap.size w w'))
     case atStart => exact ⟨((-1)), (wrap64 (a0_0 - 1)), (by first | rfl | (simp; done) | (simp [*]; done)), (by first | rfl | (simp; done) | (simp [*]; done)), H', ⟨Nat.le_refl _⟩, ⟨by (with_reducible repeat (first | apply Kd.R_alloc | apply Kd.R_drewN | apply Kd.R_drew)); exact HO_4.out⟩, ⟨by (with_reducible repeat (first | refine blk_drewN ?_ _ | refine blk_drew ?_ | refine blk_alloc ?_ _)); exact p0.out⟩, ⟨by repeat (first | (with_reducible first | exact HB.out | apply below_alloc | apply pw_below_drewN | apply below_drew1 | refine below_set ?_ p5.out) | exact HB.out)⟩⟩
     case round =>
      clear H'
      try clear c2
      try clear p2
      try clear c3
      try clear c6
      try clear p6
      try clear c9
      try clear c9b0
      try clear r5
      try clear r6
      try clear q8
      try clear q9
      try clear r7
      try clear r8
      try clear r0
      try clear r3
      try clear p2
      obtain ⟨x5_2, x6_2, rfl, rfl, HA, HK2, HO_4, p0, HB⟩ := hrel
      cases gk with
      | zero => exact absurd HA.out (by simp [spec_RingOrder.l1])
      | succ k2 =>
       have H := HA.out
       clear HA
       simp only [spec_RingOrder.l1] at H
       by_cases c12 : x6_2 ≥ 0
       ·rw [if_pos c12] at H
        have c12b0 : decide (0 ≤ x6_2) = true := decide_eq_true c12
        clear c12
        replace H := Option.bind_eq_some_iff.mp H
        obtain ⟨t320, A130, H⟩ := H
        replace H : (spec_RingOrder.l2 k2 x4_1 x5_2 x6_2 (!t320) 0 a0_0 l0_1) = some (r1, r2) := H
        have A13 := Aside0.mk A130
        clear A130
        have H' := Aside0.mk H
        clear H
        go_wp2_with (first | ((with_reducible refine gate_callee (f := 70) rfl ?_); refine goesL_ (some 27) rfl rfl Try.func70 (by kernel_rfl) rfl #[.slice Ao10 x4_1.length co10, .int .i64 x6_2] rfl (by (try simp only [List.map_toArray, List.map_cons, List.map_nil]); first | done | rfl | (simp only [List.length_drop, List.length_take]; rfl)) ?_; (with_reducible refine (spec_l12In.calls k2 _ _ x4_1 x6_2 t320 _ ?side1 ?side2 A13.out).mono ?_); (case side1 => repeat (first | exact (Kd.R_reads' HO_4.out).2.2 | (with_reducible refine Kd.C_alloc ?_ _) | (with_reducible refine Kd.C_drewN ?_ _) | (with_reducible refine Kd.C_drew ?_))); (case side2 => exact (Kd.R_reads' HO_4.out).2.1); rintro e w' ⟨rfl, ⟨nd, rfl⟩⟩; refine ⟨_, rfl, ?_⟩))
        go_loopg [7, 8] k2 (fun kq v7 v8 w' => ∃ (x7_3 : Bool) (x8_3 : Int), v7 = .bool x7_3 ∧ v8 = .int .i64 x8_3 ∧ Aside0 (spec_RingOrder.l2 kq x4_1 x5_2 x6_2 x7_3 x8_3 a0_0 l0_1 = some (r1, r2)) ∧ Aside0 (kq ≤ k2) ∧ Aside0 (Kd.R (Kd.int .i64) 3 w' w.heap.size (fun _ => True) (.slice Ao10 x4_1.length co10) x4_1) ∧ Aside0 (w'.heap[p1]? = some (.cells #[.int .i64 a0_0, (.slice A0_1 l0_1.length c0_1)] 38 (0, 0))) ∧ Aside0 (Below w.heap.size w w'))
        case atStart => exact ⟨(!t320), (0), (by first | rfl | (simp; done) | (simp [*]; done)), (by first | rfl | (simp; done) | (simp [*]; done)), H', ⟨Nat.le_refl _⟩, ⟨by (with_reducible repeat (first | apply Kd.R_alloc | apply Kd.R_drewN | apply Kd.R_drew)); exact HO_4.out⟩, ⟨by (with_reducible repeat (first | refine blk_drewN ?_ _ | refine blk_drew ?_ | refine blk_alloc ?_ _)); exact p0.out⟩, ⟨by repeat (first | (with_reducible first | exact HB.out | apply below_alloc | apply pw_below_drewN | apply below_drew1 | refine below_set ?_ p5.out) | exact HB.out)⟩⟩
        case round =>
         clear H'
         try clear c1
         try clear c2
         try clear p2
         try clear c3
         try clear c6
         try clear p6
         try clear c7
         try clear c9
         try clear c9b0
         try clear c12
         try clear c12b0
         try clear r5
         try clear r6
         try clear q8
         try clear q9
         try clear r7
         try clear r8
         try clear r0
         try clear r3
         try clear p2
         try clear p6
         obtain ⟨x7_3, x8_3, rfl, rfl, HA, HK3, HO_4, p0, HB⟩ := hrel
         cases gk with
         | zero => exact absurd HA.out (by simp [spec_RingOrder.l2])
         | succ k3 =>
          have H := HA.out
          clear HA
          simp only [spec_RingOrder.l2] at H
          by_cases c14 : x8_3 < (l0_1.length : Int)
          ·rw [if_pos c14] at H
           have c14b0 : decide (x8_3 < (l0_1.length : Int)) = true := decide_eq_true c14
           clear c14
           by_cases c15 : x7_3 = true
           ·subst c15
            have H1 : (if 0 ≤ x8_3 then (if ((rd_T45 l0_1 x8_3).f1) = x6_2 then ((spec_l12In.f k3 x4_1 ((rd_T45 l0_1 x8_3).f0)).bind fun t323 => (spec_RingOrder.l2 k3 x4_1 x5_2 x6_2 t323 (wrap64 (x8_3 + 1)) a0_0 l0_1)) else (spec_RingOrder.l2 k3 x4_1 x5_2 x6_2 true (wrap64 (x8_3 + 1)) a0_0 l0_1)) else (none)) = some (r1, r2) := by rw [if_pos rfl] at H; exact H
            clear H
            have H := H1
            clear H1
            by_cases c16 : 0 ≤ x8_3
            ·rw [if_pos c16] at H
             have c16b0 : decide (0 ≤ x8_3) = true := decide_eq_true c16
             clear c16
             by_cases c17 : ((rd_T45 l0_1 x8_3).f1) = x6_2
             ·rw [if_pos c17] at H
              have c17b0 : (((rd_T45 l0_1 x8_3).f1) == x6_2) = true := beq_iff_eq.mpr c17
              have c17b1 : (((rd_T45 l0_1 x8_3).f1) != x6_2) = false := bne_eq_false_iff_eq.mpr c17
              clear c17
              replace H := Option.bind_eq_some_iff.mp H
              obtain ⟨t323, A180, H⟩ := H
              replace H : (spec_RingOrder.l2 k3 x4_1 x5_2 x6_2 t323 (wrap64 (x8_3 + 1)) a0_0 l0_1) = some (r1, r2) := H
              have A18 := Aside0.mk A180
              clear A180
              have H' := Aside0.mk H
              clear H
              have hcz19_0 : wr.cell? ⟨p1, 0, none⟩ = some (.int .i64 a0_0) := (blk_cell p0.out 0).trans rfl
              have hcz19_1 : wr.cell? ⟨p1, 1, none⟩ = some (.slice A0_1 l0_1.length c0_1) := (blk_cell p0.out 1).trans rfl
              have hfz19_0 := blk_frozen p0.out 0
              have hfz19_1 := blk_frozen p0.out 1
              have p321 : 0 ≤ (x8_3 : Int) := of_decide_eq_true (by first | (with_reducible assumption) | assumption)
              have q321 : x8_3 < (l0_1.length : Int) := of_decide_eq_true (by first | (with_reducible assumption) | assumption)
              obtain ⟨ad321, e321, p7, p8, p9, q0, q1⟩ := at_T45 q7.out x8_3 p321 q321
              cases e321
              replace p7 := (HB.out.cell (World.block_lt_of_cell? w _ p7)).trans p7
              replace p8 := (HB.out.cell (World.block_lt_of_cell? w _ p8)).trans p8
              replace p9 := (HB.out.cell (World.block_lt_of_cell? w _ p9)).trans p9
              replace q0 := (HB.out.cell (World.block_lt_of_cell? w _ q0)).trans q0
              replace q1 := (HB.out.cell (World.block_lt_of_cell? w _ q1)).trans q1
              replace p321 := eq_true p321
              replace q321 := eq_true q321
              have p322 : 0 ≤ (x8_3 : Int) := of_decide_eq_true (by first | (with_reducible assumption) | assumption)
              have q322 : x8_3 < (l0_1.length : Int) := of_decide_eq_true (by first | (with_reducible assumption) | assumption)
              obtain ⟨ad322, e322, q2, q3, q4, q5, q6⟩ := at_T45 q7.out x8_3 p322 q322
              obtain rfl : ad321 = ad322 := (by injection e322)
              replace q2 := (HB.out.cell (World.block_lt_of_cell? w _ q2)).trans q2
              replace q3 := (HB.out.cell (World.block_lt_of_cell? w _ q3)).trans q3
              replace q4 := (HB.out.cell (World.block_lt_of_cell? w _ q4)).trans q4
              replace q5 := (HB.out.cell (World.block_lt_of_cell? w _ q5)).trans q5
              replace q6 := (HB.out.cell (World.block_lt_of_cell? w _ q6)).trans q6
              replace p322 := eq_true p322
              replace q322 := eq_true q322
              go_wp2_with (first | (go_at_call 70; (with_reducible refine (spec_l12In.calls k3 _ _ x4_1 ((rd_T45 l0_1 x8_3).f0) t323 _ ?side1 ?side2 A18.out).mono ?_); (case side1 => repeat (first | exact (Kd.R_reads' HO_4.out).2.2 | (with_reducible refine Kd.C_alloc ?_ _) | (with_reducible refine Kd.C_drewN ?_ _) | (with_reducible refine Kd.C_drew ?_))); (case side2 => exact (Kd.R_reads' HO_4.out).2.1); rintro e w' ⟨rfl, ⟨nd, rfl⟩⟩))
              go_roundg k3
              case measure => have := HK1.out; have := HK2.out; have := HK3.out; omega
              case rel => exact ⟨(t323), (wrap64 (x8_3 + 1)), (by first | rfl | (simp; done) | (simp [*]; done)), (by first | rfl | (simp; done) | (simp [*]; done)), H', ⟨by have := HK1.out; have := HK2.out; have := HK3.out; omega⟩, ⟨by (with_reducible repeat (first | apply Kd.R_alloc | apply Kd.R_drewN | apply Kd.R_drew)); exact HO_4.out⟩, ⟨by (with_reducible repeat (first | refine blk_drewN ?_ _ | refine blk_drew ?_ | refine blk_alloc ?_ _)); exact p0.out⟩, ⟨by repeat (first | (with_reducible first | exact HB.out | apply below_alloc | apply pw_below_drewN | apply below_drew1 | refine below_set ?_ p5.out) | exact HB.out)⟩⟩
             ·rw [if_neg c17] at H
              have c17b0 : (((rd_T45 l0_1 x8_3).f1) == x6_2) = false := beq_eq_false_iff_ne.mpr c17
              have c17b1 : (((rd_T45 l0_1 x8_3).f1) != x6_2) = true := bne_iff_ne.mpr c17
              have H' := Aside0.mk H
              clear H
              have hcz20_0 : wr.cell? ⟨p1, 0, none⟩ = some (.int .i64 a0_0) := (blk_cell p0.out 0).trans rfl
              have hcz20_1 : wr.cell? ⟨p1, 1, none⟩ = some (.slice A0_1 l0_1.length c0_1) := (blk_cell p0.out 1).trans rfl
              have hfz20_0 := blk_frozen p0.out 0
              have hfz20_1 := blk_frozen p0.out 1
              have p321 : 0 ≤ (x8_3 : Int) := of_decide_eq_true (by first | (with_reducible assumption) | assumption)
              have q321 : x8_3 < (l0_1.length : Int) := of_decide_eq_true (by first | (with_reducible assumption) | assumption)
              obtain ⟨ad321, e321, p7, p8, p9, q0, q1⟩ := at_T45 q7.out x8_3 p321 q321
              cases e321
              replace p7 := (HB.out.cell (World.block_lt_of_cell? w _ p7)).trans p7
              replace p8 := (HB.out.cell (World.block_lt_of_cell? w _ p8)).trans p8
              replace p9 := (HB.out.cell (World.block_lt_of_cell? w _ p9)).trans p9
              replace q0 := (HB.out.cell (World.block_lt_of_cell? w _ q0)).trans q0
              replace q1 := (HB.out.cell (World.block_lt_of_cell? w _ q1)).trans q1
              replace p321 := eq_true p321
              replace q321 := eq_true q321
              go_wp2
              go_roundg k3
              case measure => have := HK1.out; have := HK2.out; have := HK3.out; omega
              case rel => exact ⟨(true), (wrap64 (x8_3 + 1)), (by first | rfl | (simp; done) | (simp [*]; done)), (by first | rfl | (simp; done) | (simp [*]; done)), H', ⟨by have := HK1.out; have := HK2.out; have := HK3.out; omega⟩, ⟨by (with_reducible repeat (first | apply Kd.R_alloc | apply Kd.R_drewN | apply Kd.R_drew)); exact HO_4.out⟩, ⟨by (with_reducible repeat (first | refine blk_drewN ?_ _ | refine blk_drew ?_ | refine blk_alloc ?_ _)); exact p0.out⟩, ⟨by repeat (first | (with_reducible first | exact HB.out | apply below_alloc | apply pw_below_drewN | apply below_drew1 | refine below_set ?_ p5.out) | exact HB.out)⟩⟩
            ·rw [if_neg c16] at H
             exact absurd H (by simp)
           ·replace c15 := Bool.eq_false_iff.mpr c15
            subst c15
            have H1 : (spec_RingOrder.l2 k3 x4_1 x5_2 x6_2 false (wrap64 (x8_3 + 1)) a0_0 l0_1) = some (r1, r2) := by rw [if_neg (show ¬ (false = true) by decide)] at H; exact H
            clear H
            have H := H1
            clear H1
            have H' := Aside0.mk H
            clear H
            have hcz21_0 : wr.cell? ⟨p1, 0, none⟩ = some (.int .i64 a0_0) := (blk_cell p0.out 0).trans rfl
            have hcz21_1 : wr.cell? ⟨p1, 1, none⟩ = some (.slice A0_1 l0_1.length c0_1) := (blk_cell p0.out 1).trans rfl
            have hfz21_0 := blk_frozen p0.out 0
            have hfz21_1 := blk_frozen p0.out 1
            go_wp2
            go_roundg k3
            case measure => have := HK1.out; have := HK2.out; have := HK3.out; omega
            case rel => exact ⟨(false), (wrap64 (x8_3 + 1)), (by first | rfl | (simp; done) | (simp [*]; done)), (by first | rfl | (simp; done) | (simp [*]; done)), H', ⟨by have := HK1.out; have := HK2.out; have := HK3.out; omega⟩, ⟨by (with_reducible repeat (first | apply Kd.R_alloc | apply Kd.R_drewN | apply Kd.R_drew)); exact HO_4.out⟩, ⟨by (with_reducible repeat (first | refine blk_drewN ?_ _ | refine blk_drew ?_ | refine blk_alloc ?_ _)); exact p0.out⟩, ⟨by repeat (first | (with_reducible first | exact HB.out | apply below_alloc | apply pw_below_drewN | apply below_drew1 | refine below_set ?_ p5.out) | exact HB.out)⟩⟩
          ·rw [if_neg c14] at H
           have c14b0 : decide (x8_3 < (l0_1.length : Int)) = false := decide_eq_false c14
           clear c14
           by_cases c22 : x7_3 = true
           ·subst c22
            have H1 : (spec_RingOrder.l1 k3 x4_1 x6_2 (wrap64 (x6_2 - 1)) a0_0 l0_1) = some (r1, r2) := by rw [if_pos rfl] at H; exact H
            clear H
            have H := H1
            clear H1
            have H' := Aside0.mk H
            clear H
            have hcz23_0 : wr.cell? ⟨p1, 0, none⟩ = some (.int .i64 a0_0) := (blk_cell p0.out 0).trans rfl
            have hcz23_1 : wr.cell? ⟨p1, 1, none⟩ = some (.slice A0_1 l0_1.length c0_1) := (blk_cell p0.out 1).trans rfl
            have hfz23_0 := blk_frozen p0.out 0
            have hfz23_1 := blk_frozen p0.out 1
            go_wp2
            go_roundg k3
            case measure => have := HK1.out; have := HK2.out; have := HK3.out; omega
            case rel => exact ⟨(x6_2), (wrap64 (x6_2 - 1)), (by first | rfl | (simp; done) | (simp [*]; done)), (by first | rfl | (simp; done) | (simp [*]; done)), H', ⟨by have := HK1.out; have := HK2.out; have := HK3.out; omega⟩, ⟨by (with_reducible repeat (first | apply Kd.R_alloc | apply Kd.R_drewN | apply Kd.R_drew)); exact HO_4.out⟩, ⟨by (with_reducible repeat (first | refine blk_drewN ?_ _ | refine blk_drew ?_ | refine blk_alloc ?_ _)); exact p0.out⟩, ⟨by repeat (first | (with_reducible first | exact HB.out | apply below_alloc | apply pw_below_drewN | apply below_drew1 | refine below_set ?_ p5.out) | exact HB.out)⟩⟩
           ·replace c22 := Bool.eq_false_iff.mpr c22
            subst c22
            have H1 : (spec_RingOrder.l1 k3 x4_1 x5_2 (wrap64 (x6_2 - 1)) a0_0 l0_1) = some (r1, r2) := by rw [if_neg (show ¬ (false = true) by decide)] at H; exact H
            clear H
            have H := H1
            clear H1
            have H' := Aside0.mk H
            clear H
            have hcz24_0 : wr.cell? ⟨p1, 0, none⟩ = some (.int .i64 a0_0) := (blk_cell p0.out 0).trans rfl
            have hcz24_1 : wr.cell? ⟨p1, 1, none⟩ = some (.slice A0_1 l0_1.length c0_1) := (blk_cell p0.out 1).trans rfl
            have hfz24_0 := blk_frozen p0.out 0
            have hfz24_1 := blk_frozen p0.out 1
            go_wp2
            go_roundg k3
            case measure => have := HK1.out; have := HK2.out; have := HK3.out; omega
            case rel => exact ⟨(x5_2), (wrap64 (x6_2 - 1)), (by first | rfl | (simp; done) | (simp [*]; done)), (by first | rfl | (simp; done) | (simp [*]; done)), H', ⟨by have := HK1.out; have := HK2.out; have := HK3.out; omega⟩, ⟨by (with_reducible repeat (first | apply Kd.R_alloc | apply Kd.R_drewN | apply Kd.R_drew)); exact HO_4.out⟩, ⟨by (with_reducible repeat (first | refine blk_drewN ?_ _ | refine blk_drew ?_ | refine blk_alloc ?_ _)); exact p0.out⟩, ⟨by repeat (first | (with_reducible first | exact HB.out | apply below_alloc | apply pw_below_drewN | apply below_drew1 | refine below_set ?_ p5.out) | exact HB.out)⟩⟩
       ·rw [if_neg c12] at H
        have c12b0 : decide (0 ≤ x6_2) = false := decide_eq_false c12
        clear c12
        by_cases c25 : x5_2 < 0
        ·rw [if_pos c25] at H
         have c25b0 : decide (x5_2 < 0) = true := decide_eq_true c25
         clear c25
         simp only [Option.some.injEq, Prod.mk.injEq] at H
         obtain ⟨rfl, rfl⟩ := H
         go_wp2
         go_ret2
         exact ⟨_, by first | rfl | (simp [errW_none, errW_some] <;> rfl) | (simp [*, errW_none, errW_some] <;> rfl), by first | exact Kd.R_nil _ _ _ _ _ | exact Kd.N_nil _ _ _ _ _ | exact Kd.V_nil _ _ _ _ _ | exact Kd.Q_nil _ _ _ _ _ | exact Kd.S_nil _ _ _ _ _, by repeat (first | (with_reducible first | exact HB.out | apply below_alloc | apply pw_below_drewN | apply below_drew1 | refine below_set ?_ p5.out) | exact HB.out)⟩
        ·rw [if_neg c25] at H
         have c25b0 : decide (x5_2 < 0) = false := decide_eq_false c25
         clear c25
         by_cases c26 : x4_1.length < 17592186044416
         ·rw [if_pos c26] at H
          have LMc26 := Aside0.mk c26
          clear c26
          obtain ⟨y317, hy317⟩ : ∃ y_ : List Int, y_ = (x4_1 ++ [x5_2]) := ⟨_, rfl⟩
          replace H : (spec_RingOrder.l0 k2 y317 a0_0 l0_1) = some (r1, r2) := by first | (rw [hy317]; with_reducible exact H) | (have H2_ := (Option.bind_some _ _).symm.trans H; rw [hy317]; with_reducible exact H2_) | (have H2_ := (Option.bind_some _ _).symm.trans H; with_reducible exact H2_) | with_reducible exact H | (rw [hy317]; exact H) | exact H
          have Ny317 := Aside0.mk hy317
          clear hy317
          have H' := Aside0.mk H
          clear H
          go_wp2_with (first | ((with_reducible refine gate_builtin (b := .append) (xs := #[.tmp 61, .tmp 63]) rfl ?_); at_builtin; refine Kd.R_append (Kd.int .i64) (w0 := w) w.heap.size rfl (.tmp 61) (.tmp 63) 22 3 (.int .i64 0) 8 rfl Try.underlying22 info3 rfl (by decide) (by omega) (.slice Ao10 x4_1.length co10) x4_1 x5_2 [.int .i64 x5_2] (fun _ => True) (fun _ => False) rfl rfl ?aP (fun _ hk => hk.elim) ?aF ?aO ?aB ?aS ?aL ?_; (case aP => exact rfl); (case aB => exact HB.out); (case aF => exact (fun _ _ => trivial)); (case aO => exact HO_4.out); (case aS => exact (below_size HB.out)); (case aL => have := LMc26.out; omega); intro v318 w27 ho hb hg hat; rw [← Ny317.out] at ho; have n0_ := Aside0.mk (blk_grown (g := p1) (o := .cells #[.int .i64 a0_0, .slice A0_1 l0_1.length c0_1] 38 (0, 0)) p0.out hg (Kd.R_ne HO_4.out p0.out (by decide))); have n1_ := Aside0.mk (hb); have n2_ := Aside0.mk (ho); clear p0; clear HB; clear HO_4; have p0 := n0_; have HB := n1_; have HO319 := n2_; clear n0_ n1_ n2_; clear ho hb hg hat))
          go_roundg k2
          case measure => have := HK1.out; have := HK2.out; omega
          case rel => exact ⟨(y317), H', ⟨by have := HK1.out; have := HK2.out; omega⟩, ⟨by (with_reducible repeat (first | apply Kd.R_alloc | apply Kd.R_drewN | apply Kd.R_drew)); exact HO319.out⟩, ⟨by (with_reducible repeat (first | refine blk_drewN ?_ _ | refine blk_drew ?_ | refine blk_alloc ?_ _)); exact p0.out⟩, ⟨by repeat (first | (with_reducible first | exact HB.out | apply below_alloc | apply pw_below_drewN | apply below_drew1 | refine below_set ?_ p5.out) | exact HB.out)⟩⟩
         ·rw [if_neg c26] at H
          exact absurd H (by simp)
    ·rw [if_neg c9] at H
     have c9b0 : decide ((x4_1.length : Int) < a0_0) = false := decide_eq_false c9
     clear c9
     simp only [Option.some.injEq, Prod.mk.injEq] at H
     obtain ⟨rfl, rfl⟩ := H
     obtain ⟨Ao28, co28, eo28⟩ := Kd.R_slice HO_4.out
     subst eo28
     have hcz29_0 : wr.cell? ⟨p1, 0, none⟩ = some (.int .i64 a0_0) := (blk_cell p0.out 0).trans rfl
     have hcz29_1 : wr.cell? ⟨p1, 1, none⟩ = some (.slice A0_1 l0_1.length c0_1) := (blk_cell p0.out 1).trans rfl
     have hfz29_0 := blk_frozen p0.out 0
     have hfz29_1 := blk_frozen p0.out 1
     go_wp2
     go_ret2
     exact ⟨_, by first | rfl | (simp [errW_none, errW_some] <;> rfl) | (simp [*, errW_none, errW_some] <;> rfl), by (with_reducible repeat (first | apply Kd.R_alloc | apply Kd.R_drewN | apply Kd.R_drew)); exact HO_4.out, by repeat (first | (with_reducible first | exact HB.out | apply below_alloc | apply pw_below_drewN | apply below_drew1 | refine below_set ?_ p5.out) | exact HB.out)⟩
 ·replace c3 := Bool.eq_false_iff.mpr c3
  subst c3
  have H1 : (some (([] : List Int), false)) = some (r1, r2) := by rw [if_neg (show ¬ (false = true) by decide)] at H; exact H
  clear H
  have H := H1
  clear H1
  simp only [Option.some.injEq, Prod.mk.injEq] at H
  obtain ⟨rfl, rfl⟩ := H
  go_enter Try.func25, Try.ntmps25
  go_wp2_with (first | ((with_reducible refine gate_dst (N := 1) rfl ?_); refine box_event ?hg (N := 1) ?hd (cs := #[.int .i64 a0_0, .slice A0_1 l0_1.length c0_1]) (t := 38) ?hr ?_; (case hd => rfl); (case hg => rfl); (case hr => first | (go_simp; done) | (go_simp; rfl)); intro p1 hg w30 hbox hb; have n0_ := Aside0.mk (below_step HB.out hb); have n1_ := Aside0.mk (hbox); have n2_ := Aside0.mk ((by rw [hg]; exact (below_size HB.out) : w.heap.size ≤ p1)); have n3_ := Aside0.mk ((by rw [hg]; exact (below_size HB.out) : w.heap.size ≤ p1)); clear HB; have HB := n0_; have p0 := n1_; have GW312 := n2_; have p5 := n3_; clear n0_ n1_ n2_ n3_; clear hb hbox hg) | ((with_reducible refine gate_dst (N := 9) rfl ?_); refine Kd.R_lit (Kd.int .i64) _ 3 ?hg (N := 9) ?hd (xs := ([] : List Int)) (inner := []) (ok := fun _ => True) (okp := fun _ => True) ?hr ?hp (fun _ hk => hk) trivial (Below.refl _ _) (Nat.le_refl _) (by simp) ?_; (case hd => rfl); (case hg => rfl); (case hr => first | (go_simp; done) | (go_simp; rfl)); (case hp => exact (Reps.none _ _)); intro v314 w31 ho32 hb hg_ hnew_; clear hg_ hnew_; (first | rw [← r4.out] at ho32 | (simp only [Int.reduceToNat] at ho32; rw [← r4.out] at ho32)); have n0_ := Aside0.mk (Kd.R_lower ho32 (below_size HB.out)); have n1_ := Aside0.mk (blk_below (g := p1) (o := .cells #[.int .i64 a0_0, .slice A0_1 l0_1.length c0_1] 38 (0, 0)) p0.out hb); have n2_ := Aside0.mk (below_step HB.out hb); clear p0; clear HB; have HO315 := n0_; have p0 := n1_; have HB := n2_; clear n0_ n1_ n2_; clear hb ho32; have hcz33_0 : w31.cell? ⟨p1, 0, none⟩ = some (.int .i64 a0_0) := (blk_cell p0.out 0).trans rfl; have hcz33_1 : w31.cell? ⟨p1, 1, none⟩ = some (.slice A0_1 l0_1.length c0_1) := (blk_cell p0.out 1).trans rfl; have hfz33_0 := blk_frozen p0.out 0; have hfz33_1 := blk_frozen p0.out 1) | ((with_reducible refine gate_callee (f := 69) rfl ?_); refine goesL_ (some 11) rfl rfl Try.func69 (by kernel_rfl) rfl #[.agg #[.int .i64 a0_0, .slice A0_1 l0_1.length c0_1]] rfl (by (try simp only [List.map_toArray, List.map_cons, List.map_nil]); first | done | rfl | (simp only [List.length_drop, List.length_take]; rfl)) ?_; (with_reducible refine (spec_l1Ok.calls k a0_0 _ _ l0_1 false _ ?side1 ?side2 A2.out).mono ?_); (case side1 => repeat (first | exact (Kd.C_below q7.out HB.out) | (with_reducible refine Kd.C_alloc ?_ _) | (with_reducible refine Kd.C_drewN ?_ _) | (with_reducible refine Kd.C_drew ?_))); (case side2 => exact HC0_1.out); rintro e w34 ⟨rfl, hb⟩; refine ⟨_, rfl, ?_⟩; have n0_ := Aside0.mk (Kd.R_below HO315.out hb); have n1_ := Aside0.mk (blk_below (g := p1) (o := .cells #[.int .i64 a0_0, .slice A0_1 l0_1.length c0_1] 38 (0, 0)) p0.out hb); have n2_ := Aside0.mk (below_step HB.out hb); clear HO315; clear p0; clear HB; have HO315 := n0_; have p0 := n1_; have HB := n2_; clear n0_ n1_ n2_; (try clear hb); (try clear hb2); (try clear hk); (try clear hi)))
  go_ret2
  exact ⟨_, by first | rfl | (simp [errW_none, errW_some] <;> rfl) | (simp [*, errW_none, errW_some] <;> rfl), by first | exact Kd.R_nil _ _ _ _ _ | exact Kd.N_nil _ _ _ _ _ | exact Kd.V_nil _ _ _ _ _ | exact Kd.Q_nil _ _ _ _ _ | exact Kd.S_nil _ _ _ _ _, by repeat (first | (with_reducible first | exact HB.out | apply below_alloc | apply pw_below_drewN | apply below_drew1 | refine below_set ?_ p5.out) | exact HB.out)⟩
end Go.Proofs.Ytmabopomecdidaa.Pr
end
section
namespace Go.Proofs.Ytmabopomecdidaa.Pr
open Go.RowKit Go.Proofs.YtmabopomecdidaaW.PrintWords Go.Proofs.YtmabopomecdidaaW.PrintLast Go.Proofs.YtmabopomecdidaaW.PrintMore
attribute [local go_sem] max2_int min2_int max_two min_two max_three min_three max_four min_four
set_option linter.unusedVariables false
set_option linter.unusedSimpArgs false
abbrev Y81 := true
abbrev N81 := false
mutual
def spec_RingLong.l0 : Nat → List Int → List Int → Int → Int → Int → List (S45) → Option (Int)
 | 0, _, _, _, _, _, _ => none
 | k + 1, x3, x5, x6, x7, q6, p6 => if x7 < (x3.length : Int) then (spec_RingLong.l1 k x3 x5 x6 x7 0 q6 p6) else (some x6)
def spec_RingLong.l1 : Nat → List Int → List Int → Int → Int → Int → Int → List (S45) → Option (Int)
 | 0, _, _, _, _, _, _, _ => none
 | k + 1, x3, x5, x6, x7, x8, q6, p6 => if x8 < (p6.length : Int) then (if 0 ≤ x8 then (if 0 ≤ x7 then (if x7 < (x3.length : Int) then (if ((rd_T45 p6 x8).f0) = (rd x3 x7) then (if 0 ≤ ((rd_T45 p6 x8).f0) then (if ((rd_T45 p6 x8).f0) < (x5.length : Int) then (if 0 ≤ ((rd_T45 p6 x8).f1) then (if ((rd_T45 p6 x8).f1) < (x5.length : Int) then (if (wrap64 ((rd x5 ((rd_T45 p6 x8).f0)) + ((rd_T45 p6 x8).f2))) > (rd x5 ((rd_T45 p6 x8).f1)) then (spec_RingLong.l1 k x3 (x5.set (((rd_T45 p6 x8).f1) : Int).toNat (wrap64 ((rd x5 ((rd_T45 p6 x8).f0)) + ((rd_T45 p6 x8).f2)))) x6 x7 (wrap64 (x8 + 1)) q6 p6) else (spec_RingLong.l1 k x3 x5 x6 x7 (wrap64 (x8 + 1)) q6 p6)) else (none)) else (none)) else (none)) else (none)) else (spec_RingLong.l1 k x3 x5 x6 x7 (wrap64 (x8 + 1)) q6 p6)) else (none)) else (none)) else (none)) else (if 0 ≤ x7 then (if x7 < (x3.length : Int) then (if 0 ≤ (rd x3 x7) then (if (rd x3 x7) < (x5.length : Int) then (if (rd x5 (rd x3 x7)) > x6 then (spec_RingLong.l0 k x3 x5 (rd x5 (rd x3 x7)) (wrap64 (x7 + 1)) q6 p6) else (spec_RingLong.l0 k x3 x5 x6 (wrap64 (x7 + 1)) q6 p6)) else (none)) else (none)) else (none)) else (none))
end
def spec_RingLong.f (k : Nat) (a0_0 : Int) (l0_1 : List (S45)) : Option (Int) := (spec_RingOrder.f k a0_0 l0_1).bind fun bt652 => (if bt652.2 = true then (if 0 ≤ a0_0 then (if (a0_0 : Int).toNat ≤ 35184372088832 then (spec_RingLong.l0 k bt652.1 (List.replicate (a0_0 : Int).toNat 0) 0 0 a0_0 l0_1) else (none)) else (none)) else (some (-1)))
def spec_RingLong.T13 : Bool × List (List Nat × List Nat) := (true, [([], []), ([0], [0]), ([], []), ([], []), ([2, 3], [2, 3]), ([4], [4]), ([1, 5], [1, 5]), ([6], [6]), ([7], [7]), ([7], [7]), ([9, 7], [7, 9]), ([8, 10, 7], [7, 8, 10]), ([11, 7], [7, 11]), ([7], [7]), ([13, 7], [7, 13]), ([12, 14, 7], [7, 12, 14]), ([7], [7]), ([7], [7]), ([17, 7], [7, 17]), ([16, 18, 7], [7, 16, 18]), ([19, 7], [7, 19]), ([15, 20, 7], [7, 15, 20]), ([7, 21], [7, 21])])
def spec_RingLong.B13 : List Nat := [0, 1, 0, 0, 12, 28, 63, 127, 255, 255, 767, 2047, 4095, 255, 8447, 32767, 255, 255, 131327, 459007, 983295, 2097151, 4194303]
theorem spec_RingLong.tab13 : rtab .any (opsOf Try.f43 13) = spec_RingLong.T13 := by kernel_rfl
theorem spec_RingLong.bits13 : waitsOk spec_RingLong.T13.2 spec_RingLong.B13 = true := by kernel_rfl
def spec_RingLong.T14 : Bool × List (List Nat × List Nat) := (true, [([], []), ([], []), ([1], [1]), ([], []), ([], []), ([4], [4]), ([3, 5], [3, 5]), ([6], [6]), ([], []), ([8], [8]), ([7, 9], [7, 9]), ([0, 2, 0, 1, 2, 3, 4, 5, 6, 7, 8, 9, 10], [0, 2]), ([11, 10, 0, 1, 2, 3, 4, 5, 6, 7, 8, 9, 10], [10, 11])])
def spec_RingLong.B14 : List Nat := [0, 0, 2, 0, 0, 16, 56, 120, 0, 256, 1016, 2047, 4095]
theorem spec_RingLong.tab14 : rtab .any (opsOf Try.f43 14) = spec_RingLong.T14 := by kernel_rfl
theorem spec_RingLong.bits14 : waitsOk spec_RingLong.T14.2 spec_RingLong.B14 = true := by kernel_rfl
set_option maxHeartbeats 8000000 in
set_option maxRecDepth 100000 in
theorem spec_RingLong.calls (k : Nat) (a0_0 : Int) (A0_1 : Option Addr) (c0_1 : Nat) (l0_1 : List (S45)) (r : Int) (w : World) (hr0_1 : Kd.C k45 w A0_1 l0_1.length l0_1) (hc0_1 : l0_1.length ≤ c0_1) (h : spec_RingLong.f k a0_0 l0_1 = some r) :
  Calls Try.prog 43 #[.agg #[.int .i64 a0_0, .slice A0_1 l0_1.length c0_1]] w fun e w' => e = .returned (.int .i64 r) ∧ Below w.heap.size w w' := by
 have hu38 := Try.underlying38
 have hu45 := Try.underlying45
 have r2 := Aside0.mk hr0_1
 have HC0_1 := Aside0.mk hc0_1
 clear hr0_1 hc0_1
 have HB := Aside0.mk (Below.refl w.heap.size w)
 have H : ((spec_RingOrder.f k a0_0 l0_1).bind fun bt652 => (if bt652.2 = true then (if 0 ≤ a0_0 then (if (a0_0 : Int).toNat ≤ 35184372088832 then (spec_RingLong.l0 k bt652.1 (List.replicate (a0_0 : Int).toNat 0) 0 0 a0_0 l0_1) else (none)) else (none)) else (some (-1)))) = some r := h
 clear h
 replace H := Option.bind_eq_some_iff.mp H
 obtain ⟨⟨t652, t655⟩, A20, H⟩ := H
 replace H : (if t655 = true then (if 0 ≤ a0_0 then (if (a0_0 : Int).toNat ≤ 35184372088832 then (spec_RingLong.l0 k t652 (List.replicate (a0_0 : Int).toNat 0) 0 0 a0_0 l0_1) else (none)) else (none)) else (some (-1))) = some r := H
 have A2 := Aside0.mk A20
 clear A20
 by_cases c3 : t655 = true
 ·subst c3
  have H1 : (if 0 ≤ a0_0 then (if (a0_0 : Int).toNat ≤ 35184372088832 then (spec_RingLong.l0 k t652 (List.replicate (a0_0 : Int).toNat 0) 0 0 a0_0 l0_1) else (none)) else (none)) = some r := by rw [if_pos rfl] at H; exact H
  clear H
  have H := H1
  clear H1
  by_cases c4 : 0 ≤ a0_0
  ·rw [if_pos c4] at H
   have c4b0 := eq_true c4
   have c4b1 : decide (0 ≤ a0_0) = true := decide_eq_true c4
   clear c4
   by_cases c5 : (a0_0 : Int).toNat ≤ 35184372088832
   ·rw [if_pos c5] at H
    have c5b0 := eq_true c5
    have c5b1 : decide ((a0_0 : Int).toNat ≤ 35184372088832) = true := decide_eq_true c5
    clear c5
    obtain ⟨y656, hy656⟩ : ∃ y_ : List Int, y_ = (List.replicate (a0_0 : Int).toNat 0) := ⟨_, rfl⟩
    replace H : (spec_RingLong.l0 k t652 y656 0 0 a0_0 l0_1) = some r := by first | (rw [hy656]; with_reducible exact H) | (have H2_ := (Option.bind_some _ _).symm.trans H; rw [hy656]; with_reducible exact H2_) | (have H2_ := (Option.bind_some _ _).symm.trans H; with_reducible exact H2_) | with_reducible exact H | (rw [hy656]; exact H) | exact H
    have Ny656 := Aside0.mk hy656
    clear hy656
    have H' := Aside0.mk H
    clear H
    go_enter Try.func43, Try.ntmps43
    go_wp2_with (first | ((with_reducible refine gate_dst (N := 1) rfl ?_); refine box_event ?hg (N := 1) ?hd (cs := #[.int .i64 a0_0, .slice A0_1 l0_1.length c0_1]) (t := 38) ?hr ?_; (case hd => rfl); (case hg => rfl); (case hr => first | (go_simp; done) | (go_simp; rfl)); intro p5 hg w6 hbox hb; have n0_ := Aside0.mk (below_step HB.out hb); have n1_ := Aside0.mk (hbox); have n2_ := Aside0.mk ((by rw [hg]; exact (below_size HB.out) : w.heap.size ≤ p5)); have n3_ := Aside0.mk ((by rw [hg]; exact (below_size HB.out) : w.heap.size ≤ p5)); clear HB; have HB := n0_; have p1 := n1_; have GW651 := n2_; have q4 := n3_; clear n0_ n1_ n2_ n3_; clear hb hbox hg; have r4 : w6.cell? ⟨p5, 0, none⟩ = some (.int .i64 a0_0) := (blk_cell p1.out 0).trans rfl; have r5 : w6.cell? ⟨p5, 1, none⟩ = some (.slice A0_1 l0_1.length c0_1) := (blk_cell p1.out 1).trans rfl; have r6 := blk_frozen p1.out 0; have r7 := blk_frozen p1.out 1) | ((with_reducible refine gate_callee (f := 25) rfl ?_); refine goesL_ (some 12) rfl rfl Try.func25 (by kernel_rfl) rfl #[.agg #[.int .i64 a0_0, .slice A0_1 l0_1.length c0_1]] rfl (by (try simp only [List.map_toArray, List.map_cons, List.map_nil]); first | done | rfl | (simp only [List.length_drop, List.length_take]; rfl)) ?_; (with_reducible refine (spec_RingOrder.calls k a0_0 _ _ l0_1 t652 true _ ?side1 ?side2 A2.out).mono ?_); (case side1 => repeat (first | exact (Kd.C_below r2.out HB.out) | (with_reducible refine Kd.C_alloc ?_ _) | (with_reducible refine Kd.C_drewN ?_ _) | (with_reducible refine Kd.C_drew ?_))); (case side2 => exact HC0_1.out); rintro e w8 ⟨v653, rfl, ho0, hb⟩; refine ⟨_, rfl, ?_⟩; have n0_ := Aside0.mk (Kd.R_lower ho0 (below_size HB.out)); have n1_ := Aside0.mk (blk_below (g := p5) (o := .cells #[.int .i64 a0_0, .slice A0_1 l0_1.length c0_1] 38 (0, 0)) p1.out hb); have n2_ := Aside0.mk (below_step HB.out hb); clear p1; clear HB; have HO654 := n0_; have p1 := n1_; have HB := n2_; clear n0_ n1_ n2_; (try clear hb); (try clear hb2); (try clear hk); (try clear hi); (try clear ho0); have r8 : w8.cell? ⟨p5, 0, none⟩ = some (.int .i64 a0_0) := (blk_cell p1.out 0).trans rfl; have r9 : w8.cell? ⟨p5, 1, none⟩ = some (.slice A0_1 l0_1.length c0_1) := (blk_cell p1.out 1).trans rfl; have s8 := blk_frozen p1.out 0; have s9 := blk_frozen p1.out 1) | ((with_reducible refine gate_dst (N := 19) rfl ?_); refine Kd.R_make (Kd.int .i64) _ 3 rfl (N := 19) rfl 22 _ _ rfl a0_0 (by first | rfl | (go_simp; done) | (go_simp; rfl)) (by first | rfl | (go_simp; done) | (go_simp; rfl)) Try.underlying22 (.int .i64 0) 8 info3 rfl (by decide) (by omega) 0 (ok := fun _ => True) (okp := fun _ => True) rfl (fun _ hk => hk) trivial (of_decide_eq_true (by first | (with_reducible assumption) | assumption)) (Nat.le_trans (Nat.mul_le_mul_right _ (of_decide_eq_true (by first | (with_reducible assumption) | assumption) : a0_0.toNat ≤ 35184372088832)) (by omega)) (Below.refl _ _) (Nat.le_refl _) ?_; intro v657 w10 ho11 hb hg_ hnew_; clear hg_ hnew_; (first | rw [← Ny656.out] at ho11 | (simp only [Int.reduceToNat] at ho11; rw [← Ny656.out] at ho11)); have n0_ := Aside0.mk (Kd.R_elder' HO654.out (Kd.R_base ho11) hb); have n1_ := Aside0.mk (Kd.R_lower (Kd.R_new' ho11 (Kd.R_lt HO654.out)) (below_size HB.out)); have n2_ := Aside0.mk (blk_below (g := p5) (o := .cells #[.int .i64 a0_0, .slice A0_1 l0_1.length c0_1] 38 (0, 0)) p1.out hb); have n3_ := Aside0.mk (below_step HB.out hb); clear HO654; clear p1; clear HB; have HO654 := n0_; have HO658 := n1_; have p1 := n2_; have HB := n3_; clear n0_ n1_ n2_ n3_; clear hb ho11))
    go_loopg [6, 7] k (fun kq v6 v7 w' => ∃ (x5_1 : List Int) (x6_1 : Int) (x7_1 : Int), v6 = .int .i64 x6_1 ∧ v7 = .int .i64 x7_1 ∧ Aside0 (spec_RingLong.l0 kq t652 x5_1 x6_1 x7_1 a0_0 l0_1 = some r) ∧ Aside0 (kq ≤ k) ∧ Aside0 (Kd.R (Kd.int .i64) 3 w' w.heap.size (fun k_ => some k_ ≠ (v657 : Value).ownBlock) v653 t652) ∧ Aside0 (Kd.R (Kd.int .i64) 3 w' w.heap.size (fun k_ => some k_ ≠ (v653 : Value).ownBlock) v657 x5_1) ∧ Aside0 (w'.heap[p5]? = some (.cells #[.int .i64 a0_0, (.slice A0_1 l0_1.length c0_1)] 38 (0, 0))) ∧ Aside0 (Below w.heap.size w w'))
    case atStart => exact ⟨(y656), (0), (0), (by first | rfl | (simp; done) | (simp [*]; done)), (by first | rfl | (simp; done) | (simp [*]; done)), H', ⟨Nat.le_refl _⟩, ⟨by (with_reducible repeat (first | apply Kd.R_alloc | apply Kd.R_drewN | apply Kd.R_drew)); exact Kd.R_mono HO654.out (fun _ hk => hk.2)⟩, ⟨by (with_reducible repeat (first | apply Kd.R_alloc | apply Kd.R_drewN | apply Kd.R_drew)); exact Kd.R_mono HO658.out (fun _ hk => hk.2)⟩, ⟨by (with_reducible repeat (first | refine blk_drewN ?_ _ | refine blk_drew ?_ | refine blk_alloc ?_ _)); exact p1.out⟩, ⟨by repeat (first | (with_reducible first | exact HB.out | apply below_alloc | apply pw_below_drewN | apply below_drew1 | refine below_set ?_ q4.out) | exact HB.out)⟩⟩
    case round =>
     clear H'
     try clear c2
     try clear p2
     try clear c3
     try clear c4
     try clear c4b0
     try clear c4b1
     try clear c5
     try clear c5b0
     try clear c5b1
     try clear r4
     try clear r5
     try clear r8
     try clear r9
     try clear r6
     try clear r7
     try clear s8
     try clear s9
     obtain ⟨x5_1, x6_1, x7_1, rfl, rfl, HA, HK1, HO_3, HO_5, p1, HB⟩ := hrel
     cases gk with
     | zero => exact absurd HA.out (by simp [spec_RingLong.l0])
     | succ k1 =>
      have H := HA.out
      clear HA
      simp only [spec_RingLong.l0] at H
      by_cases c12 : x7_1 < (t652.length : Int)
      ·rw [if_pos c12] at H
       have c12b0 : decide (x7_1 < (t652.length : Int)) = true := decide_eq_true c12
       clear c12
       have H' := Aside0.mk H
       clear H
       obtain ⟨Ao13, co13, eo13⟩ := Kd.R_slice HO_3.out
       subst eo13
       go_wp2
       go_loopg [8] k1 (fun kq v8 w' => ∃ (x5_2 : List Int) (x8_2 : Int), v8 = .int .i64 x8_2 ∧ Aside0 (spec_RingLong.l1 kq t652 x5_2 x6_1 x7_1 x8_2 a0_0 l0_1 = some r) ∧ Aside0 (kq ≤ k1) ∧ Aside0 (Kd.R (Kd.int .i64) 3 w' w.heap.size (fun k_ => some k_ ≠ (v657 : Value).ownBlock) (.slice Ao13 t652.length co13) t652) ∧ Aside0 (Kd.R (Kd.int .i64) 3 w' w.heap.size (fun k_ => some k_ ≠ ((.slice Ao13 t652.length co13) : Value).ownBlock) v657 x5_2) ∧ Aside0 (w'.heap[p5]? = some (.cells #[.int .i64 a0_0, (.slice A0_1 l0_1.length c0_1)] 38 (0, 0))) ∧ Aside0 (Below w.heap.size w w'))
       case atStart => exact ⟨(x5_1), (0), (by first | rfl | (simp; done) | (simp [*]; done)), H', ⟨Nat.le_refl _⟩, ⟨by (with_reducible repeat (first | apply Kd.R_alloc | apply Kd.R_drewN | apply Kd.R_drew)); exact HO_3.out⟩, ⟨by (with_reducible repeat (first | apply Kd.R_alloc | apply Kd.R_drewN | apply Kd.R_drew)); exact HO_5.out⟩, ⟨by (with_reducible repeat (first | refine blk_drewN ?_ _ | refine blk_drew ?_ | refine blk_alloc ?_ _)); exact p1.out⟩, ⟨by repeat (first | (with_reducible first | exact HB.out | apply below_alloc | apply pw_below_drewN | apply below_drew1 | refine below_set ?_ q4.out) | exact HB.out)⟩⟩
       case round =>
        clear H'
        try clear c1
        try clear c2
        try clear p2
        try clear c3
        try clear c4
        try clear c4b0
        try clear c4b1
        try clear c5
        try clear c5b0
        try clear c5b1
        try clear c12
        try clear c12b0
        try clear r4
        try clear r5
        try clear r8
        try clear r9
        try clear r6
        try clear r7
        try clear s8
        try clear s9
        try clear p2
        obtain ⟨x5_2, x8_2, rfl, HA, HK2, HO_3, HO_5, p1, HB⟩ := hrel
        cases gk with
        | zero => exact absurd HA.out (by simp [spec_RingLong.l1])
        | succ k2 =>
         have H := HA.out
         clear HA
         simp only [spec_RingLong.l1] at H
         by_cases c14 : x8_2 < (l0_1.length : Int)
         ·rw [if_pos c14] at H
          have c14b0 : decide (x8_2 < (l0_1.length : Int)) = true := decide_eq_true c14
          clear c14
          by_cases c15 : 0 ≤ x8_2
          ·rw [if_pos c15] at H
           have c15b0 : decide (0 ≤ x8_2) = true := decide_eq_true c15
           clear c15
           by_cases c16 : 0 ≤ x7_1
           ·rw [if_pos c16] at H
            have c16b0 : decide (0 ≤ x7_1) = true := decide_eq_true c16
            clear c16
            by_cases c17 : x7_1 < (t652.length : Int)
            ·rw [if_pos c17] at H
             have c17b0 : decide (x7_1 < (t652.length : Int)) = true := decide_eq_true c17
             clear c17
             by_cases c18 : ((rd_T45 l0_1 x8_2).f0) = (rd t652 x7_1)
             ·rw [if_pos c18] at H
              have c18b0 : (((rd_T45 l0_1 x8_2).f0) == (rd t652 x7_1)) = true := beq_iff_eq.mpr c18
              have c18b1 : (((rd_T45 l0_1 x8_2).f0) != (rd t652 x7_1)) = false := bne_eq_false_iff_eq.mpr c18
              clear c18
              by_cases c19 : 0 ≤ ((rd_T45 l0_1 x8_2).f0)
              ·rw [if_pos c19] at H
               have c19b0 : decide (0 ≤ ((rd_T45 l0_1 x8_2).f0)) = true := decide_eq_true c19
               clear c19
               by_cases c20 : ((rd_T45 l0_1 x8_2).f0) < (x5_2.length : Int)
               ·rw [if_pos c20] at H
                have c20b0 : decide (((rd_T45 l0_1 x8_2).f0) < (x5_2.length : Int)) = true := decide_eq_true c20
                clear c20
                by_cases c21 : 0 ≤ ((rd_T45 l0_1 x8_2).f1)
                ·rw [if_pos c21] at H
                 have c21b0 : decide (0 ≤ ((rd_T45 l0_1 x8_2).f1)) = true := decide_eq_true c21
                 clear c21
                 by_cases c22 : ((rd_T45 l0_1 x8_2).f1) < (x5_2.length : Int)
                 ·rw [if_pos c22] at H
                  have c22b0 : decide (((rd_T45 l0_1 x8_2).f1) < (x5_2.length : Int)) = true := decide_eq_true c22
                  clear c22
                  by_cases c23 : (wrap64 ((rd x5_2 ((rd_T45 l0_1 x8_2).f0)) + ((rd_T45 l0_1 x8_2).f2))) > (rd x5_2 ((rd_T45 l0_1 x8_2).f1))
                  ·rw [if_pos c23] at H
                   have c23b0 : decide ((rd x5_2 ((rd_T45 l0_1 x8_2).f1)) < (wrap64 ((rd x5_2 ((rd_T45 l0_1 x8_2).f0)) + ((rd_T45 l0_1 x8_2).f2)))) = true := decide_eq_true c23
                   clear c23
                   obtain ⟨y665, hy665⟩ : ∃ y_ : List Int, y_ = (x5_2.set (((rd_T45 l0_1 x8_2).f1) : Int).toNat (wrap64 ((rd x5_2 ((rd_T45 l0_1 x8_2).f0)) + ((rd_T45 l0_1 x8_2).f2)))) := ⟨_, rfl⟩
                   replace H : (spec_RingLong.l1 k2 t652 y665 x6_1 x7_1 (wrap64 (x8_2 + 1)) a0_0 l0_1) = some r := by first | (rw [hy665]; with_reducible exact H) | (have H2_ := (Option.bind_some _ _).symm.trans H; rw [hy665]; with_reducible exact H2_) | (have H2_ := (Option.bind_some _ _).symm.trans H; with_reducible exact H2_) | with_reducible exact H | (rw [hy665]; exact H) | exact H
                   have Ny665 := Aside0.mk hy665
                   clear hy665
                   have H' := Aside0.mk H
                   clear H
                   have hcz25_0 : wr.cell? ⟨p5, 0, none⟩ = some (.int .i64 a0_0) := (blk_cell p1.out 0).trans rfl
                   have hcz25_1 : wr.cell? ⟨p5, 1, none⟩ = some (.slice A0_1 l0_1.length c0_1) := (blk_cell p1.out 1).trans rfl
                   have hfz25_0 := blk_frozen p1.out 0
                   have hfz25_1 := blk_frozen p1.out 1
                   have p659 : 0 ≤ (x8_2 : Int) := of_decide_eq_true (by first | (with_reducible assumption) | assumption)
                   have q659 : x8_2 < (l0_1.length : Int) := of_decide_eq_true (by first | (with_reducible assumption) | assumption)
                   obtain ⟨q2, e659, p7, p8, p9, q0, q1⟩ := at_T45 r2.out x8_2 p659 q659
                   cases e659
                   replace p7 := (HB.out.cell (World.block_lt_of_cell? w _ p7)).trans p7
                   replace p8 := (HB.out.cell (World.block_lt_of_cell? w _ p8)).trans p8
                   replace p9 := (HB.out.cell (World.block_lt_of_cell? w _ p9)).trans p9
                   replace q0 := (HB.out.cell (World.block_lt_of_cell? w _ q0)).trans q0
                   replace q1 := (HB.out.cell (World.block_lt_of_cell? w _ q1)).trans q1
                   replace p659 := eq_true p659
                   replace q659 := eq_true q659
                   try go_wp2_with (first | ((with_reducible refine gate_dst (N := 9) rfl ?_); refine box_event ?hg (N := 9) ?hd (cs := #[.int .i64 0, .int .i64 0, .int .i64 0, .int .i64 0, .int .i64 0]) (t := 45) ?hr ?_; (case hd => rfl); (case hg => rfl); (case hr => first | (go_simp; done) | (go_simp; rfl)); intro p0 hg w26 hbox hb; have n0_ := Aside0.mk (Kd.R_below HO_3.out hb); have n1_ := Aside0.mk (Kd.R_below HO_5.out hb); have n2_ := Aside0.mk (blk_below (g := p5) (o := .cells #[.int .i64 a0_0, .slice (some q2) l0_1.length c0_1] 38 (0, 0)) p1.out hb); have n3_ := Aside0.mk (below_step HB.out hb); have n4_ := Aside0.mk (hbox); have n5_ := Aside0.mk ((by rw [hg]; exact (below_size HB.out) : w.heap.size ≤ p0)); have n6_ := Aside0.mk ((by rw [hg]; exact (below_size HB.out) : w.heap.size ≤ p0)); have n7_ := Aside0.mk ((by rw [hg]; exact Nat.ne_of_lt (blk_lt (g := p5) (o := .cells #[.int .i64 a0_0, .slice (some q2) l0_1.length c0_1] 38 (0, 0)) p1.out) : p5 ≠ p0)); have n8_ := Aside0.mk ((by rw [hg]; exact Nat.ne_of_gt (blk_lt (g := p5) (o := .cells #[.int .i64 a0_0, .slice (some q2) l0_1.length c0_1] 38 (0, 0)) p1.out) : p0 ≠ p5)); clear HO_3; clear HO_5; clear p1; clear HB; have HO_3 := n0_; have HO_5 := n1_; have p1 := n2_; have HB := n3_; have p3 := n4_; have GW660 := n5_; have q9 := n6_; have p4 := n7_; have q5 := n8_; clear n0_ n1_ n2_ n3_ n4_ n5_ n6_ n7_ n8_; clear hb hbox hg; have hnb27 := q5.out; have hnc27 := p4.out; have hcz28_0 : w26.cell? ⟨p0, 0, none⟩ = some (.int .i64 0) := (blk_cell p3.out 0).trans rfl; have hcz28_1 : w26.cell? ⟨p0, 1, none⟩ = some (.int .i64 0) := (blk_cell p3.out 1).trans rfl; have hcz28_2 : w26.cell? ⟨p0, 2, none⟩ = some (.int .i64 0) := (blk_cell p3.out 2).trans rfl; have hcz28_3 : w26.cell? ⟨p0, 3, none⟩ = some (.int .i64 0) := (blk_cell p3.out 3).trans rfl; have hcz28_4 : w26.cell? ⟨p0, 4, none⟩ = some (.int .i64 0) := (blk_cell p3.out 4).trans rfl; have hfz28_0 := blk_frozen p3.out 0; have hfz28_1 := blk_frozen p3.out 1; have hfz28_2 := blk_frozen p3.out 2; have hfz28_3 := blk_frozen p3.out 3; have hfz28_4 := blk_frozen p3.out 4))
                   have n0_ : Aside0 (Kd.R (Kd.int .i64) 3 (((((w26.setCell ⟨p0, 0, none⟩ (.int .i64 ((rd_T45 l0_1 x8_2).f0))).setCell ⟨p0, 1, none⟩ (.int .i64 ((rd_T45 l0_1 x8_2).f1))).setCell ⟨p0, 2, none⟩ (.int .i64 ((rd_T45 l0_1 x8_2).f2))).setCell ⟨p0, 3, none⟩ (.int .i64 ((rd_T45 l0_1 x8_2).f3))).setCell ⟨p0, 4, none⟩ (.int .i64 ((rd_T45 l0_1 x8_2).f4))) w.heap.size (fun k_ => some k_ ≠ (v657 : Value).ownBlock) (.slice Ao13 t652.length co13) t652) := ⟨by (with_reducible repeat (first | apply Kd.R_alloc | apply Kd.R_drewN | apply Kd.R_drew)); exact Kd.R_mono (Kd.R_far (p := ⟨p0, 4, none⟩) (Kd.R_far (p := ⟨p0, 3, none⟩) (Kd.R_far (p := ⟨p0, 2, none⟩) (Kd.R_far (p := ⟨p0, 1, none⟩) (Kd.R_far (p := ⟨p0, 0, none⟩) (Kd.R_types HO_3.out p3.out (by decide)) (fun _ hk => hk.2) (.int .i64 ((rd_T45 l0_1 x8_2).f0))) (fun _ hk => hk.2) (.int .i64 ((rd_T45 l0_1 x8_2).f1))) (fun _ hk => hk.2) (.int .i64 ((rd_T45 l0_1 x8_2).f2))) (fun _ hk => hk.2) (.int .i64 ((rd_T45 l0_1 x8_2).f3))) (fun _ hk => hk.2) (.int .i64 ((rd_T45 l0_1 x8_2).f4))) (fun _ hk => hk.1)⟩
                   have n1_ : Aside0 (Kd.R (Kd.int .i64) 3 (((((w26.setCell ⟨p0, 0, none⟩ (.int .i64 ((rd_T45 l0_1 x8_2).f0))).setCell ⟨p0, 1, none⟩ (.int .i64 ((rd_T45 l0_1 x8_2).f1))).setCell ⟨p0, 2, none⟩ (.int .i64 ((rd_T45 l0_1 x8_2).f2))).setCell ⟨p0, 3, none⟩ (.int .i64 ((rd_T45 l0_1 x8_2).f3))).setCell ⟨p0, 4, none⟩ (.int .i64 ((rd_T45 l0_1 x8_2).f4))) w.heap.size (fun k_ => some k_ ≠ (.slice Ao13 t652.length co13 : Value).ownBlock) v657 x5_2) := ⟨by (with_reducible repeat (first | apply Kd.R_alloc | apply Kd.R_drewN | apply Kd.R_drew)); exact Kd.R_mono (Kd.R_far (p := ⟨p0, 4, none⟩) (Kd.R_far (p := ⟨p0, 3, none⟩) (Kd.R_far (p := ⟨p0, 2, none⟩) (Kd.R_far (p := ⟨p0, 1, none⟩) (Kd.R_far (p := ⟨p0, 0, none⟩) (Kd.R_types HO_5.out p3.out (by decide)) (fun _ hk => hk.2) (.int .i64 ((rd_T45 l0_1 x8_2).f0))) (fun _ hk => hk.2) (.int .i64 ((rd_T45 l0_1 x8_2).f1))) (fun _ hk => hk.2) (.int .i64 ((rd_T45 l0_1 x8_2).f2))) (fun _ hk => hk.2) (.int .i64 ((rd_T45 l0_1 x8_2).f3))) (fun _ hk => hk.2) (.int .i64 ((rd_T45 l0_1 x8_2).f4))) (fun _ hk => hk.1)⟩
                   have n2_ : Aside0 ((((((w26.setCell ⟨p0, 0, none⟩ (.int .i64 ((rd_T45 l0_1 x8_2).f0))).setCell ⟨p0, 1, none⟩ (.int .i64 ((rd_T45 l0_1 x8_2).f1))).setCell ⟨p0, 2, none⟩ (.int .i64 ((rd_T45 l0_1 x8_2).f2))).setCell ⟨p0, 3, none⟩ (.int .i64 ((rd_T45 l0_1 x8_2).f3))).setCell ⟨p0, 4, none⟩ (.int .i64 ((rd_T45 l0_1 x8_2).f4))).heap[p5]? = some (.cells #[.int .i64 a0_0, .slice (some q2) l0_1.length c0_1] 38 (0, 0))) := ⟨by (with_reducible repeat (first | refine blk_drewN ?_ _ | refine blk_drew ?_ | refine blk_alloc ?_ _)); refine blk_far ?_ p4.out _; (with_reducible repeat (first | refine blk_drewN ?_ _ | refine blk_drew ?_ | refine blk_alloc ?_ _)); refine blk_far ?_ p4.out _; (with_reducible repeat (first | refine blk_drewN ?_ _ | refine blk_drew ?_ | refine blk_alloc ?_ _)); refine blk_far ?_ p4.out _; (with_reducible repeat (first | refine blk_drewN ?_ _ | refine blk_drew ?_ | refine blk_alloc ?_ _)); refine blk_far ?_ p4.out _; (with_reducible repeat (first | refine blk_drewN ?_ _ | refine blk_drew ?_ | refine blk_alloc ?_ _)); refine blk_far ?_ p4.out _; (with_reducible repeat (first | refine blk_drewN ?_ _ | refine blk_drew ?_ | refine blk_alloc ?_ _)); exact p1.out⟩
                   have n3_ : Aside0 ((((((w26.setCell ⟨p0, 0, none⟩ (.int .i64 ((rd_T45 l0_1 x8_2).f0))).setCell ⟨p0, 1, none⟩ (.int .i64 ((rd_T45 l0_1 x8_2).f1))).setCell ⟨p0, 2, none⟩ (.int .i64 ((rd_T45 l0_1 x8_2).f2))).setCell ⟨p0, 3, none⟩ (.int .i64 ((rd_T45 l0_1 x8_2).f3))).setCell ⟨p0, 4, none⟩ (.int .i64 ((rd_T45 l0_1 x8_2).f4))).heap[p0]? = some (.cells #[.int .i64 ((rd_T45 l0_1 x8_2).f0), .int .i64 ((rd_T45 l0_1 x8_2).f1), .int .i64 ((rd_T45 l0_1 x8_2).f2), .int .i64 ((rd_T45 l0_1 x8_2).f3), .int .i64 ((rd_T45 l0_1 x8_2).f4)] 45 (0, 0))) := ⟨by (with_reducible repeat (first | refine blk_drewN ?_ _ | refine blk_drew ?_ | refine blk_alloc ?_ _)); refine blk_put (cs := #[.int .i64 ((rd_T45 l0_1 x8_2).f0), .int .i64 ((rd_T45 l0_1 x8_2).f1), .int .i64 ((rd_T45 l0_1 x8_2).f2), .int .i64 ((rd_T45 l0_1 x8_2).f3), .int .i64 0]) ?_ 4 _ rfl; (with_reducible repeat (first | refine blk_drewN ?_ _ | refine blk_drew ?_ | refine blk_alloc ?_ _)); refine blk_put (cs := #[.int .i64 ((rd_T45 l0_1 x8_2).f0), .int .i64 ((rd_T45 l0_1 x8_2).f1), .int .i64 ((rd_T45 l0_1 x8_2).f2), .int .i64 0, .int .i64 0]) ?_ 3 _ rfl; (with_reducible repeat (first | refine blk_drewN ?_ _ | refine blk_drew ?_ | refine blk_alloc ?_ _)); refine blk_put (cs := #[.int .i64 ((rd_T45 l0_1 x8_2).f0), .int .i64 ((rd_T45 l0_1 x8_2).f1), .int .i64 0, .int .i64 0, .int .i64 0]) ?_ 2 _ rfl; (with_reducible repeat (first | refine blk_drewN ?_ _ | refine blk_drew ?_ | refine blk_alloc ?_ _)); refine blk_put (cs := #[.int .i64 ((rd_T45 l0_1 x8_2).f0), .int .i64 0, .int .i64 0, .int .i64 0, .int .i64 0]) ?_ 1 _ rfl; (with_reducible repeat (first | refine blk_drewN ?_ _ | refine blk_drew ?_ | refine blk_alloc ?_ _)); refine blk_put (cs := #[.int .i64 0, .int .i64 0, .int .i64 0, .int .i64 0, .int .i64 0]) ?_ 0 _ rfl; (with_reducible repeat (first | refine blk_drewN ?_ _ | refine blk_drew ?_ | refine blk_alloc ?_ _)); exact p3.out⟩
                   have n4_ : Aside0 (Below w.heap.size w (((((w26.setCell ⟨p0, 0, none⟩ (.int .i64 ((rd_T45 l0_1 x8_2).f0))).setCell ⟨p0, 1, none⟩ (.int .i64 ((rd_T45 l0_1 x8_2).f1))).setCell ⟨p0, 2, none⟩ (.int .i64 ((rd_T45 l0_1 x8_2).f2))).setCell ⟨p0, 3, none⟩ (.int .i64 ((rd_T45 l0_1 x8_2).f3))).setCell ⟨p0, 4, none⟩ (.int .i64 ((rd_T45 l0_1 x8_2).f4)))) := ⟨by repeat (first | (with_reducible first | exact HB.out | apply below_alloc | apply pw_below_drewN | apply below_drew1 | refine below_set ?_ q4.out | refine below_set ?_ q9.out) | exact HB.out)⟩
                   (try clear HO_3)
                   (try clear HO_5)
                   (try clear p1)
                   (try clear p3)
                   (try clear HB)
                   generalize (((((w26.setCell ⟨p0, 0, none⟩ (.int .i64 ((rd_T45 l0_1 x8_2).f0))).setCell ⟨p0, 1, none⟩ (.int .i64 ((rd_T45 l0_1 x8_2).f1))).setCell ⟨p0, 2, none⟩ (.int .i64 ((rd_T45 l0_1 x8_2).f2))).setCell ⟨p0, 3, none⟩ (.int .i64 ((rd_T45 l0_1 x8_2).f3))).setCell ⟨p0, 4, none⟩ (.int .i64 ((rd_T45 l0_1 x8_2).f4))) = w29 at n0_ n1_ n2_ n3_ n4_ ⊢
                   have HO_3 := n0_
                   have HO_5 := n1_
                   have p1 := n2_
                   have p3 := n3_
                   have HB := n4_
                   clear n0_ n1_ n2_ n3_ n4_
                   have n0_ := Aside0.mk (Kd.R_drew HO_3.out)
                   have n1_ := Aside0.mk (Kd.R_drew HO_5.out)
                   have n2_ := Aside0.mk (blk_drew p1.out)
                   have n3_ := Aside0.mk (blk_drew p3.out)
                   have n4_ := Aside0.mk (below_drew1 HB.out)
                   clear HO_3
                   clear HO_5
                   clear p1
                   clear p3
                   clear HB
                   have HO_3 := n0_
                   have HO_5 := n1_
                   have p1 := n2_
                   have p3 := n3_
                   have HB := n4_
                   clear n0_ n1_ n2_ n3_ n4_
                   have p661 : 0 ≤ (x7_1 : Int) := of_decide_eq_true (by first | (with_reducible assumption) | assumption)
                   have q661 : x7_1 < (t652.length : Int) := of_decide_eq_true (by first | (with_reducible assumption) | assumption)
                   obtain ⟨r3, e661, q3⟩ := Kd.at_int (Kd.R_reads' HO_3.out).2.2 x7_1 p661 q661
                   cases e661
                   replace p661 := eq_true p661
                   replace q661 := eq_true q661
                   obtain ⟨Ao31, co31, eo31⟩ := Kd.R_slice HO_5.out
                   (first | subst eo31 | (injection eo31 with f1_ f2_ f3_; have f4_ := f1_.symm; have f5_ := f3_.symm; clear f1_ f2_ f3_; subst f4_; subst f5_))
                   have p662 : 0 ≤ (((rd_T45 l0_1 x8_2).f0) : Int) := of_decide_eq_true (by first | (with_reducible assumption) | assumption)
                   have q662 : ((rd_T45 l0_1 x8_2).f0) < (x5_2.length : Int) := of_decide_eq_true (by first | (with_reducible assumption) | assumption)
                   obtain ⟨r0, e662, q7⟩ := Kd.at_int (Kd.R_reads' HO_5.out).2.2 ((rd_T45 l0_1 x8_2).f0) p662 q662
                   cases e662
                   replace p662 := eq_true p662
                   replace q662 := eq_true q662
                   have p663 : 0 ≤ (((rd_T45 l0_1 x8_2).f1) : Int) := of_decide_eq_true (by first | (with_reducible assumption) | assumption)
                   have q663 : ((rd_T45 l0_1 x8_2).f1) < (x5_2.length : Int) := of_decide_eq_true (by first | (with_reducible assumption) | assumption)
                   obtain ⟨t0, e663, q8⟩ := Kd.at_int (Kd.R_reads' HO_5.out).2.2 ((rd_T45 l0_1 x8_2).f1) p663 q663
                   obtain rfl : r0 = t0 := (by injection e663)
                   replace p663 := eq_true p663
                   replace q663 := eq_true q663
                   refine start_ (n := 23) (S := fun w' => w'.cell? ⟨p0, 0, none⟩ = some (.int .i64 ((rd_T45 l0_1 x8_2).f0)) ∧ w'.cell? ⟨p0, 1, none⟩ = some (.int .i64 ((rd_T45 l0_1 x8_2).f1)) ∧ w'.cell? ⟨p0, 2, none⟩ = some (.int .i64 ((rd_T45 l0_1 x8_2).f2)) ∧ w'.cell? ⟨p0, 3, none⟩ = some (.int .i64 ((rd_T45 l0_1 x8_2).f3)) ∧ w'.cell? ⟨p0, 4, none⟩ = some (.int .i64 ((rd_T45 l0_1 x8_2).f4)) ∧ w'.cell? (r3.add (x7_1).toNat) = some (.int .i64 (rd t652 x7_1)) ∧ w'.cell? (r0.add (((rd_T45 l0_1 x8_2).f0)).toNat) = some (.int .i64 (rd x5_2 ((rd_T45 l0_1 x8_2).f0))) ∧ w'.cell? (r0.add (((rd_T45 l0_1 x8_2).f1)).toNat) = some (.int .i64 (rd x5_2 ((rd_T45 l0_1 x8_2).f1)))) (ds := []) #[N81,N81,N81,N81,N81,N81,N81,N81,N81,N81,N81,N81,N81,N81,N81,N81,N81,N81,N81,N81,N81,N81,N81] (by kernel_rfl) rfl rfl ⟨(blk_cell p3.out 0).trans rfl, (blk_cell p3.out 1).trans rfl, (blk_cell p3.out 2).trans rfl, (blk_cell p3.out 3).trans rfl, (blk_cell p3.out 4).trans rfl, q3, q7, q8⟩ (fun hHeld => ?_); refine with_tabW spec_RingLong.tab13 spec_RingLong.bits13 (fun HT_ HW_ => ?_)
                   generalize w29.drew = w30 at HO_3 HO_5 p1 p3 HB q3 q7 q8 hHeld ⊢
                   refine pure_ (i := 0) (N := some 38) (v := ?_) (a' := ?_) #[Y81,N81,N81,N81,N81,N81,N81,N81,N81,N81,N81,N81,N81,N81,N81,N81,N81,N81,N81,N81,N81,N81,N81] rfl rfl (any_of HT_.out (by kernel_rfl)) (fun _ _ _ h => h) (Or.inl ⟨by rfl, ?_⟩) ?_ ?_
                   rotate_left
                   ·intro w'
                    go_simp
                    with_reducible rfl
                   rotate_left
                   ·simp only [Act.put, List.setIfInBounds_toArray, List.set_cons_zero, List.set_cons_succ, i64_w, i32_w]
                    rfl
                   refine pure_ (i := 2) (N := some 40) (v := ?_) (a' := ?_) #[Y81,N81,Y81,N81,N81,N81,N81,N81,N81,N81,N81,N81,N81,N81,N81,N81,N81,N81,N81,N81,N81,N81,N81] rfl rfl (any_of HT_.out (by kernel_rfl)) (fun _ _ _ h => h) (Or.inl ⟨by rfl, ?_⟩) ?_ ?_
                   rotate_left
                   ·intro w'
                    go_simp
                    with_reducible rfl
                   rotate_left
                   ·simp only [Act.put, List.setIfInBounds_toArray, List.set_cons_zero, List.set_cons_succ, i64_w, i32_w]
                    rfl
                   refine pure_ (i := 3) (N := some 41) (v := ?_) (a' := ?_) #[Y81,N81,Y81,Y81,N81,N81,N81,N81,N81,N81,N81,N81,N81,N81,N81,N81,N81,N81,N81,N81,N81,N81,N81] rfl rfl (any_of HT_.out (by kernel_rfl)) (fun _ _ _ h => h) (Or.inl ⟨by rfl, ?_⟩) ?_ ?_
                   rotate_left
                   ·intro w'
                    go_simp
                    with_reducible rfl
                   rotate_left
                   ·simp only [Act.put, List.setIfInBounds_toArray, List.set_cons_zero, List.set_cons_succ, i64_w, i32_w]
                    rfl
                   refine pure_ (i := 4) (N := some 42) (v := ?_) (a' := ?_) #[Y81,N81,Y81,Y81,Y81,N81,N81,N81,N81,N81,N81,N81,N81,N81,N81,N81,N81,N81,N81,N81,N81,N81,N81] rfl rfl (any_of HT_.out (by kernel_rfl)) (fun _ _ _ h => h) (Or.inl ⟨by rfl, ?_⟩) ?_ ?_
                   rotate_left
                   ·intro w'
                    go_simp
                    with_reducible rfl
                   rotate_left
                   ·simp only [Act.put, List.setIfInBounds_toArray, List.set_cons_zero, List.set_cons_succ, i64_w, i32_w]
                    rfl
                   refine take_ (i := 1) (N := some 39) (v := ?_) (a' := ?_) #[Y81,Y81,Y81,Y81,Y81,N81,N81,N81,N81,N81,N81,N81,N81,N81,N81,N81,N81,N81,N81,N81,N81,N81,N81] rfl rfl (take_ofW HT_.out HW_.out (by kernel_rfl)) (fun _ _ _ h => h) (Or.inl ⟨by rfl, ?_⟩) hHeld ?_ ?_
                   rotate_left
                   ·rintro w' ⟨s0, s1, s2, s3, s4, s5, s6, s7⟩
                    go_simp
                    with_reducible rfl
                   rotate_left
                   ·simp only [Act.put, List.setIfInBounds_toArray, List.set_cons_zero, List.set_cons_succ, i64_w, i32_w]
                    rfl
                   refine take_ (i := 5) (N := some 43) (v := ?_) (a' := ?_) #[Y81,Y81,Y81,Y81,Y81,Y81,N81,N81,N81,N81,N81,N81,N81,N81,N81,N81,N81,N81,N81,N81,N81,N81,N81] rfl rfl (take_ofW HT_.out HW_.out (by kernel_rfl)) (fun _ _ _ h => h) (Or.inl ⟨by rfl, ?_⟩) hHeld ?_ ?_
                   rotate_left
                   ·rintro w' ⟨s0, s1, s2, s3, s4, s5, s6, s7⟩
                    go_simp
                    with_reducible rfl
                   rotate_left
                   ·simp only [Act.put, List.setIfInBounds_toArray, List.set_cons_zero, List.set_cons_succ, i64_w, i32_w]
                    rfl
                   refine pure_ (i := 6) (N := some 44) (v := ?_) (a' := ?_) #[Y81,Y81,Y81,Y81,Y81,Y81,Y81,N81,N81,N81,N81,N81,N81,N81,N81,N81,N81,N81,N81,N81,N81,N81,N81] rfl rfl (any_of HT_.out (by kernel_rfl)) (fun _ _ _ h => h) (Or.inl ⟨by rfl, ?_⟩) ?_ ?_
                   rotate_left
                   ·intro w'
                    go_simp
                    with_reducible rfl
                   rotate_left
                   ·simp only [Act.put, List.setIfInBounds_toArray, List.set_cons_zero, List.set_cons_succ, i64_w, i32_w]
                    rfl
                   refine pure_ (i := 7) (N := some 45) (v := ?_) (a' := ?_) #[Y81,Y81,Y81,Y81,Y81,Y81,Y81,Y81,N81,N81,N81,N81,N81,N81,N81,N81,N81,N81,N81,N81,N81,N81,N81] rfl rfl (any_of HT_.out (by kernel_rfl)) (fun _ _ _ h => h) (Or.inl ⟨by rfl, ?_⟩) ?_ ?_
                   rotate_left
                   ·intro w'
                    go_simp
                    with_reducible rfl
                   rotate_left
                   ·simp only [Act.put, List.setIfInBounds_toArray, List.set_cons_zero, List.set_cons_succ, i64_w, i32_w]
                    rfl
                   refine pure_ (i := 8) (N := some 46) (v := ?_) (a' := ?_) #[Y81,Y81,Y81,Y81,Y81,Y81,Y81,Y81,Y81,N81,N81,N81,N81,N81,N81,N81,N81,N81,N81,N81,N81,N81,N81] rfl rfl (any_of HT_.out (by kernel_rfl)) (fun _ _ _ h => h) (Or.inl ⟨by rfl, ?_⟩) ?_ ?_
                   rotate_left
                   ·intro w'
                    go_simp
                    with_reducible rfl
                   rotate_left
                   ·simp only [Act.put, List.setIfInBounds_toArray, List.set_cons_zero, List.set_cons_succ, i64_w, i32_w]
                    rfl
                   refine pure_ (i := 9) (N := some 47) (v := ?_) (a' := ?_) #[Y81,Y81,Y81,Y81,Y81,Y81,Y81,Y81,Y81,Y81,N81,N81,N81,N81,N81,N81,N81,N81,N81,N81,N81,N81,N81] rfl rfl (any_of HT_.out (by kernel_rfl)) (fun _ _ _ h => h) (Or.inl ⟨by rfl, ?_⟩) ?_ ?_
                   rotate_left
                   ·intro w'
                    go_simp
                    with_reducible rfl
                   rotate_left
                   ·simp only [Act.put, List.setIfInBounds_toArray, List.set_cons_zero, List.set_cons_succ, i64_w, i32_w]
                    rfl
                   refine pure_ (i := 13) (N := some 51) (v := ?_) (a' := ?_) #[Y81,Y81,Y81,Y81,Y81,Y81,Y81,Y81,Y81,Y81,N81,N81,N81,Y81,N81,N81,N81,N81,N81,N81,N81,N81,N81] rfl rfl (any_of HT_.out (by kernel_rfl)) (fun _ _ _ h => h) (Or.inl ⟨by rfl, ?_⟩) ?_ ?_
                   rotate_left
                   ·intro w'
                    go_simp
                    with_reducible rfl
                   rotate_left
                   ·simp only [Act.put, List.setIfInBounds_toArray, List.set_cons_zero, List.set_cons_succ, i64_w, i32_w]
                    rfl
                   refine pure_ (i := 16) (N := some 54) (v := ?_) (a' := ?_) #[Y81,Y81,Y81,Y81,Y81,Y81,Y81,Y81,Y81,Y81,N81,N81,N81,Y81,N81,N81,Y81,N81,N81,N81,N81,N81,N81] rfl rfl (any_of HT_.out (by kernel_rfl)) (fun _ _ _ h => h) (Or.inl ⟨by rfl, ?_⟩) ?_ ?_
                   rotate_left
                   ·intro w'
                    go_simp
                    with_reducible rfl
                   rotate_left
                   ·simp only [Act.put, List.setIfInBounds_toArray, List.set_cons_zero, List.set_cons_succ, i64_w, i32_w]
                    rfl
                   refine pure_ (i := 17) (N := some 55) (v := ?_) (a' := ?_) #[Y81,Y81,Y81,Y81,Y81,Y81,Y81,Y81,Y81,Y81,N81,N81,N81,Y81,N81,N81,Y81,Y81,N81,N81,N81,N81,N81] rfl rfl (any_of HT_.out (by kernel_rfl)) (fun _ _ _ h => h) (Or.inl ⟨by rfl, ?_⟩) ?_ ?_
                   rotate_left
                   ·intro w'
                    go_simp
                    with_reducible rfl
                   rotate_left
                   ·simp only [Act.put, List.setIfInBounds_toArray, List.set_cons_zero, List.set_cons_succ, i64_w, i32_w]
                    rfl
                   refine take_ (i := 10) (N := some 48) (v := ?_) (a' := ?_) #[Y81,Y81,Y81,Y81,Y81,Y81,Y81,Y81,Y81,Y81,Y81,N81,N81,Y81,N81,N81,Y81,Y81,N81,N81,N81,N81,N81] rfl rfl (take_ofW HT_.out HW_.out (by kernel_rfl)) (fun _ _ _ h => h) (Or.inl ⟨by rfl, ?_⟩) hHeld ?_ ?_
                   rotate_left
                   ·rintro w' ⟨s0, s1, s2, s3, s4, s5, s6, s7⟩
                    go_simp
                    with_reducible rfl
                   rotate_left
                   ·simp only [Act.put, List.setIfInBounds_toArray, List.set_cons_zero, List.set_cons_succ, i64_w, i32_w]
                    rfl
                   refine pure_ (i := 11) (N := some 49) (v := ?_) (a' := ?_) #[Y81,Y81,Y81,Y81,Y81,Y81,Y81,Y81,Y81,Y81,Y81,Y81,N81,Y81,N81,N81,Y81,Y81,N81,N81,N81,N81,N81] rfl rfl (any_of HT_.out (by kernel_rfl)) (fun _ _ _ h => h) (Or.inl ⟨by rfl, ?_⟩) ?_ ?_
                   rotate_left
                   ·intro w'
                    go_simp
                    with_reducible rfl
                   rotate_left
                   ·simp only [Act.put, List.setIfInBounds_toArray, List.set_cons_zero, List.set_cons_succ, i64_w, i32_w]
                    rfl
                   refine take_ (i := 12) (N := some 50) (v := ?_) (a' := ?_) #[Y81,Y81,Y81,Y81,Y81,Y81,Y81,Y81,Y81,Y81,Y81,Y81,Y81,Y81,N81,N81,Y81,Y81,N81,N81,N81,N81,N81] rfl rfl (take_ofW HT_.out HW_.out (by kernel_rfl)) (fun _ _ _ h => h) (Or.inl ⟨by rfl, ?_⟩) hHeld ?_ ?_
                   rotate_left
                   ·rintro w' ⟨s0, s1, s2, s3, s4, s5, s6, s7⟩
                    go_simp
                    with_reducible rfl
                   rotate_left
                   ·simp only [Act.put, List.setIfInBounds_toArray, List.set_cons_zero, List.set_cons_succ, i64_w, i32_w]
                    rfl
                   refine take_ (i := 14) (N := some 52) (v := ?_) (a' := ?_) #[Y81,Y81,Y81,Y81,Y81,Y81,Y81,Y81,Y81,Y81,Y81,Y81,Y81,Y81,Y81,N81,Y81,Y81,N81,N81,N81,N81,N81] rfl rfl (take_ofW HT_.out HW_.out (by kernel_rfl)) (fun _ _ _ h => h) (Or.inl ⟨by rfl, ?_⟩) hHeld ?_ ?_
                   rotate_left
                   ·rintro w' ⟨s0, s1, s2, s3, s4, s5, s6, s7⟩
                    go_simp
                    with_reducible rfl
                   rotate_left
                   ·simp only [Act.put, List.setIfInBounds_toArray, List.set_cons_zero, List.set_cons_succ, i64_w, i32_w]
                    rfl
                   refine pure_ (i := 15) (N := some 53) (v := ?_) (a' := ?_) #[Y81,Y81,Y81,Y81,Y81,Y81,Y81,Y81,Y81,Y81,Y81,Y81,Y81,Y81,Y81,Y81,Y81,Y81,N81,N81,N81,N81,N81] rfl rfl (any_of HT_.out (by kernel_rfl)) (fun _ _ _ h => h) (Or.inl ⟨by rfl, ?_⟩) ?_ ?_
                   rotate_left
                   ·intro w'
                    go_simp
                    with_reducible rfl
                   rotate_left
                   ·simp only [Act.put, List.setIfInBounds_toArray, List.set_cons_zero, List.set_cons_succ, i64_w, i32_w]
                    rfl
                   refine take_ (i := 18) (N := some 56) (v := ?_) (a' := ?_) #[Y81,Y81,Y81,Y81,Y81,Y81,Y81,Y81,Y81,Y81,Y81,Y81,Y81,Y81,Y81,Y81,Y81,Y81,Y81,N81,N81,N81,N81] rfl rfl (take_ofW HT_.out HW_.out (by kernel_rfl)) (fun _ _ _ h => h) (Or.inl ⟨by rfl, ?_⟩) hHeld ?_ ?_
                   rotate_left
                   ·rintro w' ⟨s0, s1, s2, s3, s4, s5, s6, s7⟩
                    go_simp
                    with_reducible rfl
                   rotate_left
                   ·simp only [Act.put, List.setIfInBounds_toArray, List.set_cons_zero, List.set_cons_succ, i64_w, i32_w]
                    rfl
                   refine pure_ (i := 19) (N := some 57) (v := ?_) (a' := ?_) #[Y81,Y81,Y81,Y81,Y81,Y81,Y81,Y81,Y81,Y81,Y81,Y81,Y81,Y81,Y81,Y81,Y81,Y81,Y81,Y81,N81,N81,N81] rfl rfl (any_of HT_.out (by kernel_rfl)) (fun _ _ _ h => h) (Or.inl ⟨by rfl, ?_⟩) ?_ ?_
                   rotate_left
                   ·intro w'
                    go_simp
                    with_reducible rfl
                   rotate_left
                   ·simp only [Act.put, List.setIfInBounds_toArray, List.set_cons_zero, List.set_cons_succ, i64_w, i32_w]
                    rfl
                   refine take_ (i := 20) (N := some 58) (v := ?_) (a' := ?_) #[Y81,Y81,Y81,Y81,Y81,Y81,Y81,Y81,Y81,Y81,Y81,Y81,Y81,Y81,Y81,Y81,Y81,Y81,Y81,Y81,Y81,N81,N81] rfl rfl (take_ofW HT_.out HW_.out (by kernel_rfl)) (fun _ _ _ h => h) (Or.inl ⟨by rfl, ?_⟩) hHeld ?_ ?_
                   rotate_left
                   ·rintro w' ⟨s0, s1, s2, s3, s4, s5, s6, s7⟩
                    go_simp
                    with_reducible rfl
                   rotate_left
                   ·simp only [Act.put, List.setIfInBounds_toArray, List.set_cons_zero, List.set_cons_succ, i64_w, i32_w]
                    rfl
                   refine pure_ (i := 21) (N := some 59) (v := ?_) (a' := ?_) #[Y81,Y81,Y81,Y81,Y81,Y81,Y81,Y81,Y81,Y81,Y81,Y81,Y81,Y81,Y81,Y81,Y81,Y81,Y81,Y81,Y81,Y81,N81] rfl rfl (any_of HT_.out (by kernel_rfl)) (fun _ _ _ h => h) (Or.inl ⟨by rfl, ?_⟩) ?_ ?_
                   rotate_left
                   ·intro w'
                    go_simp
                    with_reducible rfl
                   rotate_left
                   ·simp only [Act.put, List.setIfInBounds_toArray, List.set_cons_zero, List.set_cons_succ, i64_w, i32_w]
                    rfl
                   refine pure_ (i := 22) (N := some 60) (v := ?_) (a' := ?_) #[Y81,Y81,Y81,Y81,Y81,Y81,Y81,Y81,Y81,Y81,Y81,Y81,Y81,Y81,Y81,Y81,Y81,Y81,Y81,Y81,Y81,Y81,Y81] rfl rfl (any_of HT_.out (by kernel_rfl)) (fun _ _ _ h => h) (Or.inl ⟨by rfl, ?_⟩) ?_ ?_
                   rotate_left
                   ·intro w'
                    go_simp
                    with_reducible rfl
                   rotate_left
                   ·simp only [Act.put, List.setIfInBounds_toArray, List.set_cons_zero, List.set_cons_succ, i64_w, i32_w]
                    rfl
                   refine done_ (done_of HT_.out (by kernel_rfl)) ?_
                   try go_wp2
                   have n0_ := Aside0.mk (Kd.R_drew HO_3.out)
                   have n1_ := Aside0.mk (Kd.R_drew HO_5.out)
                   have n2_ := Aside0.mk (blk_drew p1.out)
                   have n3_ := Aside0.mk (blk_drew p3.out)
                   have n4_ := Aside0.mk (below_drew1 HB.out)
                   clear HO_3
                   clear HO_5
                   clear p1
                   clear p3
                   clear HB
                   have HO_3 := n0_
                   have HO_5 := n1_
                   have p1 := n2_
                   have p3 := n3_
                   have HB := n4_
                   clear n0_ n1_ n2_ n3_ n4_
                   have p664 : 0 ≤ (((rd_T45 l0_1 x8_2).f0) : Int) := of_decide_eq_true (by first | (with_reducible assumption) | assumption)
                   have q664 : ((rd_T45 l0_1 x8_2).f0) < (x5_2.length : Int) := of_decide_eq_true (by first | (with_reducible assumption) | assumption)
                   obtain ⟨ad664, e664, r1⟩ := Kd.at_int (Kd.R_reads' HO_5.out).2.2 ((rd_T45 l0_1 x8_2).f0) p664 q664
                   obtain rfl : r0 = ad664 := (by injection e664)
                   replace p664 := eq_true p664
                   replace q664 := eq_true q664
                   have p24 : 0 ≤ (((rd_T45 l0_1 x8_2).f1) : Int) := of_decide_eq_true (by first | (with_reducible assumption) | assumption)
                   have q24 : (((rd_T45 l0_1 x8_2).f1) : Int) < ((x5_2.length : Int) : Int) := of_decide_eq_true (by first | (with_reducible assumption) | assumption)
                   obtain ⟨go24, co24, eo24, gb24, gl24, cl24, HG24⟩ := Kd.R_form HO_5.out (by omega)
                   (first | cases eo24 | (injection eo24 with ea_ en_ ec_; (first | subst ea_ | (injection ea_ with ea_; subst ea_)); subst ec_; clear en_))
                   have GB24 := Aside0.mk gb24
                   have GG24 := Aside0.mk HG24
                   clear gb24 gl24 HG24
                   (first | simp only [add_plain] at q7 | skip)
                   (first | simp only [add_plain] at q8 | skip)
                   (first | simp only [add_plain] at r1 | skip)
                   obtain ⟨hx24_0, hf24_0⟩ := Kd.R_celln 0 HO_5.out (((rd_T45 l0_1 x8_2).f1) : Int) p24 q24
                   replace p24 := eq_true p24
                   replace q24 := eq_true q24
                   have HP33 := Kd.R_putn HO_5.out (((rd_T45 l0_1 x8_2).f1) : Int) (wrap64 ((rd x5_2 ((rd_T45 l0_1 x8_2).f0)) + ((rd_T45 l0_1 x8_2).f2)))
                   rw [← Ny665.out] at HP33
                   have HQ33 := Aside0.mk HP33
                   clear HP33
                   refine start_ (n := 13) (S := fun w' => w'.cell? ⟨p0, 0, none⟩ = some (.int .i64 ((rd_T45 l0_1 x8_2).f0)) ∧ w'.cell? ⟨p0, 1, none⟩ = some (.int .i64 ((rd_T45 l0_1 x8_2).f1)) ∧ w'.cell? ⟨p0, 2, none⟩ = some (.int .i64 ((rd_T45 l0_1 x8_2).f2)) ∧ w'.cell? ⟨p0, 3, none⟩ = some (.int .i64 ((rd_T45 l0_1 x8_2).f3)) ∧ w'.cell? ⟨p0, 4, none⟩ = some (.int .i64 ((rd_T45 l0_1 x8_2).f4)) ∧ w'.cell? ⟨go24, (((rd_T45 l0_1 x8_2).f0)).toNat, none⟩ = some (.int .i64 (rd x5_2 ((rd_T45 l0_1 x8_2).f0)))) (ds := [12]) #[N81,N81,N81,N81,N81,N81,N81,N81,N81,N81,N81,N81,N81] (by kernel_rfl) rfl rfl ⟨(blk_cell p3.out 0).trans rfl, (blk_cell p3.out 1).trans rfl, (blk_cell p3.out 2).trans rfl, (blk_cell p3.out 3).trans rfl, (blk_cell p3.out 4).trans rfl, r1⟩ (fun hHeld => ?_); refine with_tabW spec_RingLong.tab14 spec_RingLong.bits14 (fun HT_ HW_ => ?_)
                   generalize w30.drew = w32 at HO_3 HO_5 p1 p3 HB GG24 HQ33 hf24_0 hx24_0 q7 q8 r1 hHeld ⊢
                   refine pure_ (i := 0) (N := some 61) (v := ?_) (a' := ?_) #[Y81,N81,N81,N81,N81,N81,N81,N81,N81,N81,N81,N81,N81] rfl rfl (any_of HT_.out (by kernel_rfl)) (fun _ _ _ h => h) (Or.inl ⟨by rfl, ?_⟩) ?_ ?_
                   rotate_left
                   ·intro w'
                    go_simp
                    with_reducible rfl
                   rotate_left
                   ·simp only [Act.put, List.setIfInBounds_toArray, List.set_cons_zero, List.set_cons_succ, i64_w, i32_w]
                    rfl
                   refine pure_ (i := 1) (N := some 62) (v := ?_) (a' := ?_) #[Y81,Y81,N81,N81,N81,N81,N81,N81,N81,N81,N81,N81,N81] rfl rfl (any_of HT_.out (by kernel_rfl)) (fun _ _ _ h => h) (Or.inl ⟨by rfl, ?_⟩) ?_ ?_
                   rotate_left
                   ·intro w'
                    go_simp
                    with_reducible rfl
                   rotate_left
                   ·simp only [Act.put, List.setIfInBounds_toArray, List.set_cons_zero, List.set_cons_succ, i64_w, i32_w]
                    rfl
                   refine pure_ (i := 3) (N := some 64) (v := ?_) (a' := ?_) #[Y81,Y81,N81,Y81,N81,N81,N81,N81,N81,N81,N81,N81,N81] rfl rfl (any_of HT_.out (by kernel_rfl)) (fun _ _ _ h => h) (Or.inl ⟨by rfl, ?_⟩) ?_ ?_
                   rotate_left
                   ·intro w'
                    go_simp
                    with_reducible rfl
                   rotate_left
                   ·simp only [Act.put, List.setIfInBounds_toArray, List.set_cons_zero, List.set_cons_succ, i64_w, i32_w]
                    rfl
                   refine pure_ (i := 4) (N := some 65) (v := ?_) (a' := ?_) #[Y81,Y81,N81,Y81,Y81,N81,N81,N81,N81,N81,N81,N81,N81] rfl rfl (any_of HT_.out (by kernel_rfl)) (fun _ _ _ h => h) (Or.inl ⟨by rfl, ?_⟩) ?_ ?_
                   rotate_left
                   ·intro w'
                    go_simp
                    with_reducible rfl
                   rotate_left
                   ·simp only [Act.put, List.setIfInBounds_toArray, List.set_cons_zero, List.set_cons_succ, i64_w, i32_w]
                    rfl
                   refine pure_ (i := 8) (N := some 69) (v := ?_) (a' := ?_) #[Y81,Y81,N81,Y81,Y81,N81,N81,N81,Y81,N81,N81,N81,N81] rfl rfl (any_of HT_.out (by kernel_rfl)) (fun _ _ _ h => h) (Or.inl ⟨by rfl, ?_⟩) ?_ ?_
                   rotate_left
                   ·intro w'
                    go_simp
                    with_reducible rfl
                   rotate_left
                   ·simp only [Act.put, List.setIfInBounds_toArray, List.set_cons_zero, List.set_cons_succ, i64_w, i32_w]
                    rfl
                   refine take_ (i := 2) (N := some 63) (v := ?_) (a' := ?_) #[Y81,Y81,Y81,Y81,Y81,N81,N81,N81,Y81,N81,N81,N81,N81] rfl rfl (take_ofW HT_.out HW_.out (by kernel_rfl)) (fun _ _ _ h => h) (Or.inl ⟨by rfl, ?_⟩) hHeld ?_ ?_
                   rotate_left
                   ·rintro w' ⟨s0, s1, s2, s3, s4, s5⟩
                    go_simp
                    with_reducible rfl
                   rotate_left
                   ·simp only [Act.put, List.setIfInBounds_toArray, List.set_cons_zero, List.set_cons_succ, i64_w, i32_w]
                    rfl
                   refine take_ (i := 5) (N := some 66) (v := ?_) (a' := ?_) #[Y81,Y81,Y81,Y81,Y81,Y81,N81,N81,Y81,N81,N81,N81,N81] rfl rfl (take_ofW HT_.out HW_.out (by kernel_rfl)) (fun _ _ _ h => h) (Or.inl ⟨by rfl, ?_⟩) hHeld ?_ ?_
                   rotate_left
                   ·rintro w' ⟨s0, s1, s2, s3, s4, s5⟩
                    go_simp
                    with_reducible rfl
                   rotate_left
                   ·simp only [Act.put, List.setIfInBounds_toArray, List.set_cons_zero, List.set_cons_succ, i64_w, i32_w]
                    rfl
                   refine pure_ (i := 6) (N := some 67) (v := ?_) (a' := ?_) #[Y81,Y81,Y81,Y81,Y81,Y81,Y81,N81,Y81,N81,N81,N81,N81] rfl rfl (any_of HT_.out (by kernel_rfl)) (fun _ _ _ h => h) (Or.inl ⟨by rfl, ?_⟩) ?_ ?_
                   rotate_left
                   ·intro w'
                    go_simp
                    with_reducible rfl
                   rotate_left
                   ·simp only [Act.put, List.setIfInBounds_toArray, List.set_cons_zero, List.set_cons_succ, i64_w, i32_w]
                    rfl
                   refine take_ (i := 7) (N := some 68) (v := ?_) (a' := ?_) #[Y81,Y81,Y81,Y81,Y81,Y81,Y81,Y81,Y81,N81,N81,N81,N81] rfl rfl (take_ofW HT_.out HW_.out (by kernel_rfl)) (fun _ _ _ h => h) (Or.inl ⟨by rfl, ?_⟩) hHeld ?_ ?_
                   rotate_left
                   ·rintro w' ⟨s0, s1, s2, s3, s4, s5⟩
                    go_simp
                    with_reducible rfl
                   rotate_left
                   ·simp only [Act.put, List.setIfInBounds_toArray, List.set_cons_zero, List.set_cons_succ, i64_w, i32_w]
                    rfl
                   refine take_ (i := 9) (N := some 70) (v := ?_) (a' := ?_) #[Y81,Y81,Y81,Y81,Y81,Y81,Y81,Y81,Y81,Y81,N81,N81,N81] rfl rfl (take_ofW HT_.out HW_.out (by kernel_rfl)) (fun _ _ _ h => h) (Or.inl ⟨by rfl, ?_⟩) hHeld ?_ ?_
                   rotate_left
                   ·rintro w' ⟨s0, s1, s2, s3, s4, s5⟩
                    go_simp
                    with_reducible rfl
                   rotate_left
                   ·simp only [Act.put, List.setIfInBounds_toArray, List.set_cons_zero, List.set_cons_succ, i64_w, i32_w]
                    rfl
                   refine pure_ (i := 10) (N := some 71) (v := ?_) (a' := ?_) #[Y81,Y81,Y81,Y81,Y81,Y81,Y81,Y81,Y81,Y81,Y81,N81,N81] rfl rfl (any_of HT_.out (by kernel_rfl)) (fun _ _ _ h => h) (Or.inl ⟨by rfl, ?_⟩) ?_ ?_
                   rotate_left
                   ·intro w'
                    go_simp
                    with_reducible rfl
                   rotate_left
                   ·simp only [Act.put, List.setIfInBounds_toArray, List.set_cons_zero, List.set_cons_succ, i64_w, i32_w]
                    rfl
                   refine pure_ (i := 11) (N := some 72) (v := ?_) (a' := ?_) #[Y81,Y81,Y81,Y81,Y81,Y81,Y81,Y81,Y81,Y81,Y81,Y81,N81] rfl rfl (any_of HT_.out (by kernel_rfl)) (fun _ _ _ h => h) (Or.inl ⟨by rfl, ?_⟩) ?_ ?_
                   rotate_left
                   ·intro w'
                    go_simp
                    with_reducible rfl
                   rotate_left
                   ·simp only [Act.put, List.setIfInBounds_toArray, List.set_cons_zero, List.set_cons_succ, i64_w, i32_w]
                    rfl
                   refine last_ (i := 12) (N := none) #[true, true, true, true, true, true, true, true, true, true, true, true, true] rfl rfl (one_of HT_.out (by kernel_rfl)) (by decide) (fun K hK => ?_)
                   refine skip_ (w1 := ?_) (by rfl) rfl ?_ ?_
                   rotate_left
                   ·go_simp
                    rfl
                   refine hK.out _ _ ?_
                   clear hK K
                   refine done_ (done_of HT_.out (by kernel_rfl)) ?_
                   try go_wp2
                   go_roundg k2
                   case measure => have := HK1.out; have := HK2.out; omega
                   case rel => exact ⟨(y665), (wrap64 (x8_2 + 1)), (by first | rfl | (simp; done) | (simp [*]; done)), H', ⟨by have := HK1.out; have := HK2.out; omega⟩, ⟨by (with_reducible repeat (first | apply Kd.R_alloc | apply Kd.R_drewN | apply Kd.R_drew)); exact Kd.R_mono (Kd.R_far (p := ⟨go24, (((rd_T45 l0_1 x8_2).f1) : Int).toNat, none⟩) (Kd.R_mono HO_3.out (fun k_ hk => (⟨hk, fun e_ => hk (by rw [e_]; rfl)⟩ : _ ∧ k_ ≠ go24))) (fun _ hk => hk.2) (.int .i64 (wrap64 ((rd x5_2 ((rd_T45 l0_1 x8_2).f0)) + ((rd_T45 l0_1 x8_2).f2))))) (fun _ hk => hk.1)⟩, ⟨by (with_reducible repeat (first | apply Kd.R_alloc | apply Kd.R_drewN | apply Kd.R_drew)); exact HQ33.out⟩, ⟨by (with_reducible repeat (first | refine blk_drewN ?_ _ | refine blk_drew ?_ | refine blk_alloc ?_ _)); refine blk_far ?_ (by have h_ := Kd.R_ne HO_5.out p1.out (by decide); intro e_; exact h_ (by rw [e_]; rfl)) _; (with_reducible repeat (first | refine blk_drewN ?_ _ | refine blk_drew ?_ | refine blk_alloc ?_ _)); exact p1.out⟩, ⟨by repeat (first | (with_reducible first | exact HB.out | apply below_alloc | apply pw_below_drewN | apply below_drew1 | refine below_set ?_ GB24.out | refine below_set ?_ q4.out | refine below_set ?_ q9.out) | exact HB.out)⟩⟩
                  ·rw [if_neg c23] at H
                   have c23b0 : decide ((rd x5_2 ((rd_T45 l0_1 x8_2).f1)) < (wrap64 ((rd x5_2 ((rd_T45 l0_1 x8_2).f0)) + ((rd_T45 l0_1 x8_2).f2)))) = false := decide_eq_false c23
                   clear c23
                   have H' := Aside0.mk H
                   clear H
                   have hcz34_0 : wr.cell? ⟨p5, 0, none⟩ = some (.int .i64 a0_0) := (blk_cell p1.out 0).trans rfl
                   have hcz34_1 : wr.cell? ⟨p5, 1, none⟩ = some (.slice A0_1 l0_1.length c0_1) := (blk_cell p1.out 1).trans rfl
                   have hfz34_0 := blk_frozen p1.out 0
                   have hfz34_1 := blk_frozen p1.out 1
                   have p659 : 0 ≤ (x8_2 : Int) := of_decide_eq_true (by first | (with_reducible assumption) | assumption)
                   have q659 : x8_2 < (l0_1.length : Int) := of_decide_eq_true (by first | (with_reducible assumption) | assumption)
                   obtain ⟨q2, e659, p7, p8, p9, q0, q1⟩ := at_T45 r2.out x8_2 p659 q659
                   cases e659
                   replace p7 := (HB.out.cell (World.block_lt_of_cell? w _ p7)).trans p7
                   replace p8 := (HB.out.cell (World.block_lt_of_cell? w _ p8)).trans p8
                   replace p9 := (HB.out.cell (World.block_lt_of_cell? w _ p9)).trans p9
                   replace q0 := (HB.out.cell (World.block_lt_of_cell? w _ q0)).trans q0
                   replace q1 := (HB.out.cell (World.block_lt_of_cell? w _ q1)).trans q1
                   replace p659 := eq_true p659
                   replace q659 := eq_true q659
                   try go_wp2_with (first | ((with_reducible refine gate_dst (N := 9) rfl ?_); refine box_event ?hg (N := 9) ?hd (cs := #[.int .i64 0, .int .i64 0, .int .i64 0, .int .i64 0, .int .i64 0]) (t := 45) ?hr ?_; (case hd => rfl); (case hg => rfl); (case hr => first | (go_simp; done) | (go_simp; rfl)); intro p0 hg w35 hbox hb; have n0_ := Aside0.mk (Kd.R_below HO_3.out hb); have n1_ := Aside0.mk (Kd.R_below HO_5.out hb); have n2_ := Aside0.mk (blk_below (g := p5) (o := .cells #[.int .i64 a0_0, .slice (some q2) l0_1.length c0_1] 38 (0, 0)) p1.out hb); have n3_ := Aside0.mk (below_step HB.out hb); have n4_ := Aside0.mk (hbox); have n5_ := Aside0.mk ((by rw [hg]; exact (below_size HB.out) : w.heap.size ≤ p0)); have n6_ := Aside0.mk ((by rw [hg]; exact (below_size HB.out) : w.heap.size ≤ p0)); have n7_ := Aside0.mk ((by rw [hg]; exact Nat.ne_of_lt (blk_lt (g := p5) (o := .cells #[.int .i64 a0_0, .slice (some q2) l0_1.length c0_1] 38 (0, 0)) p1.out) : p5 ≠ p0)); have n8_ := Aside0.mk ((by rw [hg]; exact Nat.ne_of_gt (blk_lt (g := p5) (o := .cells #[.int .i64 a0_0, .slice (some q2) l0_1.length c0_1] 38 (0, 0)) p1.out) : p0 ≠ p5)); clear HO_3; clear HO_5; clear p1; clear HB; have HO_3 := n0_; have HO_5 := n1_; have p1 := n2_; have HB := n3_; have p3 := n4_; have GW660 := n5_; have q9 := n6_; have p4 := n7_; have q5 := n8_; clear n0_ n1_ n2_ n3_ n4_ n5_ n6_ n7_ n8_; clear hb hbox hg; have hnb36 := q5.out; have hnc36 := p4.out; have hcz37_0 : w35.cell? ⟨p0, 0, none⟩ = some (.int .i64 0) := (blk_cell p3.out 0).trans rfl; have hcz37_1 : w35.cell? ⟨p0, 1, none⟩ = some (.int .i64 0) := (blk_cell p3.out 1).trans rfl; have hcz37_2 : w35.cell? ⟨p0, 2, none⟩ = some (.int .i64 0) := (blk_cell p3.out 2).trans rfl; have hcz37_3 : w35.cell? ⟨p0, 3, none⟩ = some (.int .i64 0) := (blk_cell p3.out 3).trans rfl; have hcz37_4 : w35.cell? ⟨p0, 4, none⟩ = some (.int .i64 0) := (blk_cell p3.out 4).trans rfl; have hfz37_0 := blk_frozen p3.out 0; have hfz37_1 := blk_frozen p3.out 1; have hfz37_2 := blk_frozen p3.out 2; have hfz37_3 := blk_frozen p3.out 3; have hfz37_4 := blk_frozen p3.out 4))
                   have n0_ : Aside0 (Kd.R (Kd.int .i64) 3 (((((w35.setCell ⟨p0, 0, none⟩ (.int .i64 ((rd_T45 l0_1 x8_2).f0))).setCell ⟨p0, 1, none⟩ (.int .i64 ((rd_T45 l0_1 x8_2).f1))).setCell ⟨p0, 2, none⟩ (.int .i64 ((rd_T45 l0_1 x8_2).f2))).setCell ⟨p0, 3, none⟩ (.int .i64 ((rd_T45 l0_1 x8_2).f3))).setCell ⟨p0, 4, none⟩ (.int .i64 ((rd_T45 l0_1 x8_2).f4))) w.heap.size (fun k_ => some k_ ≠ (v657 : Value).ownBlock) (.slice Ao13 t652.length co13) t652) := ⟨by (with_reducible repeat (first | apply Kd.R_alloc | apply Kd.R_drewN | apply Kd.R_drew)); exact Kd.R_mono (Kd.R_far (p := ⟨p0, 4, none⟩) (Kd.R_far (p := ⟨p0, 3, none⟩) (Kd.R_far (p := ⟨p0, 2, none⟩) (Kd.R_far (p := ⟨p0, 1, none⟩) (Kd.R_far (p := ⟨p0, 0, none⟩) (Kd.R_types HO_3.out p3.out (by decide)) (fun _ hk => hk.2) (.int .i64 ((rd_T45 l0_1 x8_2).f0))) (fun _ hk => hk.2) (.int .i64 ((rd_T45 l0_1 x8_2).f1))) (fun _ hk => hk.2) (.int .i64 ((rd_T45 l0_1 x8_2).f2))) (fun _ hk => hk.2) (.int .i64 ((rd_T45 l0_1 x8_2).f3))) (fun _ hk => hk.2) (.int .i64 ((rd_T45 l0_1 x8_2).f4))) (fun _ hk => hk.1)⟩
                   have n1_ : Aside0 (Kd.R (Kd.int .i64) 3 (((((w35.setCell ⟨p0, 0, none⟩ (.int .i64 ((rd_T45 l0_1 x8_2).f0))).setCell ⟨p0, 1, none⟩ (.int .i64 ((rd_T45 l0_1 x8_2).f1))).setCell ⟨p0, 2, none⟩ (.int .i64 ((rd_T45 l0_1 x8_2).f2))).setCell ⟨p0, 3, none⟩ (.int .i64 ((rd_T45 l0_1 x8_2).f3))).setCell ⟨p0, 4, none⟩ (.int .i64 ((rd_T45 l0_1 x8_2).f4))) w.heap.size (fun k_ => some k_ ≠ (.slice Ao13 t652.length co13 : Value).ownBlock) v657 x5_2) := ⟨by (with_reducible repeat (first | apply Kd.R_alloc | apply Kd.R_drewN | apply Kd.R_drew)); exact Kd.R_mono (Kd.R_far (p := ⟨p0, 4, none⟩) (Kd.R_far (p := ⟨p0, 3, none⟩) (Kd.R_far (p := ⟨p0, 2, none⟩) (Kd.R_far (p := ⟨p0, 1, none⟩) (Kd.R_far (p := ⟨p0, 0, none⟩) (Kd.R_types HO_5.out p3.out (by decide)) (fun _ hk => hk.2) (.int .i64 ((rd_T45 l0_1 x8_2).f0))) (fun _ hk => hk.2) (.int .i64 ((rd_T45 l0_1 x8_2).f1))) (fun _ hk => hk.2) (.int .i64 ((rd_T45 l0_1 x8_2).f2))) (fun _ hk => hk.2) (.int .i64 ((rd_T45 l0_1 x8_2).f3))) (fun _ hk => hk.2) (.int .i64 ((rd_T45 l0_1 x8_2).f4))) (fun _ hk => hk.1)⟩
                   have n2_ : Aside0 ((((((w35.setCell ⟨p0, 0, none⟩ (.int .i64 ((rd_T45 l0_1 x8_2).f0))).setCell ⟨p0, 1, none⟩ (.int .i64 ((rd_T45 l0_1 x8_2).f1))).setCell ⟨p0, 2, none⟩ (.int .i64 ((rd_T45 l0_1 x8_2).f2))).setCell ⟨p0, 3, none⟩ (.int .i64 ((rd_T45 l0_1 x8_2).f3))).setCell ⟨p0, 4, none⟩ (.int .i64 ((rd_T45 l0_1 x8_2).f4))).heap[p5]? = some (.cells #[.int .i64 a0_0, .slice (some q2) l0_1.length c0_1] 38 (0, 0))) := ⟨by (with_reducible repeat (first | refine blk_drewN ?_ _ | refine blk_drew ?_ | refine blk_alloc ?_ _)); refine blk_far ?_ p4.out _; (with_reducible repeat (first | refine blk_drewN ?_ _ | refine blk_drew ?_ | refine blk_alloc ?_ _)); refine blk_far ?_ p4.out _; (with_reducible repeat (first | refine blk_drewN ?_ _ | refine blk_drew ?_ | refine blk_alloc ?_ _)); refine blk_far ?_ p4.out _; (with_reducible repeat (first | refine blk_drewN ?_ _ | refine blk_drew ?_ | refine blk_alloc ?_ _)); refine blk_far ?_ p4.out _; (with_reducible repeat (first | refine blk_drewN ?_ _ | refine blk_drew ?_ | refine blk_alloc ?_ _)); refine blk_far ?_ p4.out _; (with_reducible repeat (first | refine blk_drewN ?_ _ | refine blk_drew ?_ | refine blk_alloc ?_ _)); exact p1.out⟩
                   have n3_ : Aside0 ((((((w35.setCell ⟨p0, 0, none⟩ (.int .i64 ((rd_T45 l0_1 x8_2).f0))).setCell ⟨p0, 1, none⟩ (.int .i64 ((rd_T45 l0_1 x8_2).f1))).setCell ⟨p0, 2, none⟩ (.int .i64 ((rd_T45 l0_1 x8_2).f2))).setCell ⟨p0, 3, none⟩ (.int .i64 ((rd_T45 l0_1 x8_2).f3))).setCell ⟨p0, 4, none⟩ (.int .i64 ((rd_T45 l0_1 x8_2).f4))).heap[p0]? = some (.cells #[.int .i64 ((rd_T45 l0_1 x8_2).f0), .int .i64 ((rd_T45 l0_1 x8_2).f1), .int .i64 ((rd_T45 l0_1 x8_2).f2), .int .i64 ((rd_T45 l0_1 x8_2).f3), .int .i64 ((rd_T45 l0_1 x8_2).f4)] 45 (0, 0))) := ⟨by (with_reducible repeat (first | refine blk_drewN ?_ _ | refine blk_drew ?_ | refine blk_alloc ?_ _)); refine blk_put (cs := #[.int .i64 ((rd_T45 l0_1 x8_2).f0), .int .i64 ((rd_T45 l0_1 x8_2).f1), .int .i64 ((rd_T45 l0_1 x8_2).f2), .int .i64 ((rd_T45 l0_1 x8_2).f3), .int .i64 0]) ?_ 4 _ rfl; (with_reducible repeat (first | refine blk_drewN ?_ _ | refine blk_drew ?_ | refine blk_alloc ?_ _)); refine blk_put (cs := #[.int .i64 ((rd_T45 l0_1 x8_2).f0), .int .i64 ((rd_T45 l0_1 x8_2).f1), .int .i64 ((rd_T45 l0_1 x8_2).f2), .int .i64 0, .int .i64 0]) ?_ 3 _ rfl; (with_reducible repeat (first | refine blk_drewN ?_ _ | refine blk_drew ?_ | refine blk_alloc ?_ _)); refine blk_put (cs := #[.int .i64 ((rd_T45 l0_1 x8_2).f0), .int .i64 ((rd_T45 l0_1 x8_2).f1), .int .i64 0, .int .i64 0, .int .i64 0]) ?_ 2 _ rfl; (with_reducible repeat (first | refine blk_drewN ?_ _ | refine blk_drew ?_ | refine blk_alloc ?_ _)); refine blk_put (cs := #[.int .i64 ((rd_T45 l0_1 x8_2).f0), .int .i64 0, .int .i64 0, .int .i64 0, .int .i64 0]) ?_ 1 _ rfl; (with_reducible repeat (first | refine blk_drewN ?_ _ | refine blk_drew ?_ | refine blk_alloc ?_ _)); refine blk_put (cs := #[.int .i64 0, .int .i64 0, .int .i64 0, .int .i64 0, .int .i64 0]) ?_ 0 _ rfl; (with_reducible repeat (first | refine blk_drewN ?_ _ | refine blk_drew ?_ | refine blk_alloc ?_ _)); exact p3.out⟩
                   have n4_ : Aside0 (Below w.heap.size w (((((w35.setCell ⟨p0, 0, none⟩ (.int .i64 ((rd_T45 l0_1 x8_2).f0))).setCell ⟨p0, 1, none⟩ (.int .i64 ((rd_T45 l0_1 x8_2).f1))).setCell ⟨p0, 2, none⟩ (.int .i64 ((rd_T45 l0_1 x8_2).f2))).setCell ⟨p0, 3, none⟩ (.int .i64 ((rd_T45 l0_1 x8_2).f3))).setCell ⟨p0, 4, none⟩ (.int .i64 ((rd_T45 l0_1 x8_2).f4)))) := ⟨by repeat (first | (with_reducible first | exact HB.out | apply below_alloc | apply pw_below_drewN | apply below_drew1 | refine below_set ?_ q4.out | refine below_set ?_ q9.out) | exact HB.out)⟩
                   (try clear HO_3)
                   (try clear HO_5)
                   (try clear p1)
                   (try clear p3)
                   (try clear HB)
                   generalize (((((w35.setCell ⟨p0, 0, none⟩ (.int .i64 ((rd_T45 l0_1 x8_2).f0))).setCell ⟨p0, 1, none⟩ (.int .i64 ((rd_T45 l0_1 x8_2).f1))).setCell ⟨p0, 2, none⟩ (.int .i64 ((rd_T45 l0_1 x8_2).f2))).setCell ⟨p0, 3, none⟩ (.int .i64 ((rd_T45 l0_1 x8_2).f3))).setCell ⟨p0, 4, none⟩ (.int .i64 ((rd_T45 l0_1 x8_2).f4))) = w38 at n0_ n1_ n2_ n3_ n4_ ⊢
                   have HO_3 := n0_
                   have HO_5 := n1_
                   have p1 := n2_
                   have p3 := n3_
                   have HB := n4_
                   clear n0_ n1_ n2_ n3_ n4_
                   have n0_ := Aside0.mk (Kd.R_drew HO_3.out)
                   have n1_ := Aside0.mk (Kd.R_drew HO_5.out)
                   have n2_ := Aside0.mk (blk_drew p1.out)
                   have n3_ := Aside0.mk (blk_drew p3.out)
                   have n4_ := Aside0.mk (below_drew1 HB.out)
                   clear HO_3
                   clear HO_5
                   clear p1
                   clear p3
                   clear HB
                   have HO_3 := n0_
                   have HO_5 := n1_
                   have p1 := n2_
                   have p3 := n3_
                   have HB := n4_
                   clear n0_ n1_ n2_ n3_ n4_
                   have p661 : 0 ≤ (x7_1 : Int) := of_decide_eq_true (by first | (with_reducible assumption) | assumption)
                   have q661 : x7_1 < (t652.length : Int) := of_decide_eq_true (by first | (with_reducible assumption) | assumption)
                   obtain ⟨r3, e661, q3⟩ := Kd.at_int (Kd.R_reads' HO_3.out).2.2 x7_1 p661 q661
                   cases e661
                   replace p661 := eq_true p661
                   replace q661 := eq_true q661
                   obtain ⟨Ao40, co40, eo40⟩ := Kd.R_slice HO_5.out
                   (first | subst eo40 | (injection eo40 with f1_ f2_ f3_; have f4_ := f1_.symm; have f5_ := f3_.symm; clear f1_ f2_ f3_; subst f4_; subst f5_))
                   have p662 : 0 ≤ (((rd_T45 l0_1 x8_2).f0) : Int) := of_decide_eq_true (by first | (with_reducible assumption) | assumption)
                   have q662 : ((rd_T45 l0_1 x8_2).f0) < (x5_2.length : Int) := of_decide_eq_true (by first | (with_reducible assumption) | assumption)
                   obtain ⟨r0, e662, q7⟩ := Kd.at_int (Kd.R_reads' HO_5.out).2.2 ((rd_T45 l0_1 x8_2).f0) p662 q662
                   cases e662
                   replace p662 := eq_true p662
                   replace q662 := eq_true q662
                   have p663 : 0 ≤ (((rd_T45 l0_1 x8_2).f1) : Int) := of_decide_eq_true (by first | (with_reducible assumption) | assumption)
                   have q663 : ((rd_T45 l0_1 x8_2).f1) < (x5_2.length : Int) := of_decide_eq_true (by first | (with_reducible assumption) | assumption)
                   obtain ⟨t0, e663, q8⟩ := Kd.at_int (Kd.R_reads' HO_5.out).2.2 ((rd_T45 l0_1 x8_2).f1) p663 q663
                   obtain rfl : r0 = t0 := (by injection e663)
                   replace p663 := eq_true p663
                   replace q663 := eq_true q663
                   refine start_ (n := 23) (S := fun w' => w'.cell? ⟨p0, 0, none⟩ = some (.int .i64 ((rd_T45 l0_1 x8_2).f0)) ∧ w'.cell? ⟨p0, 1, none⟩ = some (.int .i64 ((rd_T45 l0_1 x8_2).f1)) ∧ w'.cell? ⟨p0, 2, none⟩ = some (.int .i64 ((rd_T45 l0_1 x8_2).f2)) ∧ w'.cell? ⟨p0, 3, none⟩ = some (.int .i64 ((rd_T45 l0_1 x8_2).f3)) ∧ w'.cell? ⟨p0, 4, none⟩ = some (.int .i64 ((rd_T45 l0_1 x8_2).f4)) ∧ w'.cell? (r3.add (x7_1).toNat) = some (.int .i64 (rd t652 x7_1)) ∧ w'.cell? (r0.add (((rd_T45 l0_1 x8_2).f0)).toNat) = some (.int .i64 (rd x5_2 ((rd_T45 l0_1 x8_2).f0))) ∧ w'.cell? (r0.add (((rd_T45 l0_1 x8_2).f1)).toNat) = some (.int .i64 (rd x5_2 ((rd_T45 l0_1 x8_2).f1)))) (ds := []) #[N81,N81,N81,N81,N81,N81,N81,N81,N81,N81,N81,N81,N81,N81,N81,N81,N81,N81,N81,N81,N81,N81,N81] (by kernel_rfl) rfl rfl ⟨(blk_cell p3.out 0).trans rfl, (blk_cell p3.out 1).trans rfl, (blk_cell p3.out 2).trans rfl, (blk_cell p3.out 3).trans rfl, (blk_cell p3.out 4).trans rfl, q3, q7, q8⟩ (fun hHeld => ?_); refine with_tabW spec_RingLong.tab13 spec_RingLong.bits13 (fun HT_ HW_ => ?_)
                   generalize w38.drew = w39 at HO_3 HO_5 p1 p3 HB q3 q7 q8 hHeld ⊢
                   refine pure_ (i := 0) (N := some 38) (v := ?_) (a' := ?_) #[Y81,N81,N81,N81,N81,N81,N81,N81,N81,N81,N81,N81,N81,N81,N81,N81,N81,N81,N81,N81,N81,N81,N81] rfl rfl (any_of HT_.out (by kernel_rfl)) (fun _ _ _ h => h) (Or.inl ⟨by rfl, ?_⟩) ?_ ?_
                   rotate_left
                   ·intro w'
                    go_simp
                    with_reducible rfl
                   rotate_left
                   ·simp only [Act.put, List.setIfInBounds_toArray, List.set_cons_zero, List.set_cons_succ, i64_w, i32_w]
                    rfl
                   refine pure_ (i := 2) (N := some 40) (v := ?_) (a' := ?_) #[Y81,N81,Y81,N81,N81,N81,N81,N81,N81,N81,N81,N81,N81,N81,N81,N81,N81,N81,N81,N81,N81,N81,N81] rfl rfl (any_of HT_.out (by kernel_rfl)) (fun _ _ _ h => h) (Or.inl ⟨by rfl, ?_⟩) ?_ ?_
                   rotate_left
                   ·intro w'
                    go_simp
                    with_reducible rfl
                   rotate_left
                   ·simp only [Act.put, List.setIfInBounds_toArray, List.set_cons_zero, List.set_cons_succ, i64_w, i32_w]
                    rfl
                   refine pure_ (i := 3) (N := some 41) (v := ?_) (a' := ?_) #[Y81,N81,Y81,Y81,N81,N81,N81,N81,N81,N81,N81,N81,N81,N81,N81,N81,N81,N81,N81,N81,N81,N81,N81] rfl rfl (any_of HT_.out (by kernel_rfl)) (fun _ _ _ h => h) (Or.inl ⟨by rfl, ?_⟩) ?_ ?_
                   rotate_left
                   ·intro w'
                    go_simp
                    with_reducible rfl
                   rotate_left
                   ·simp only [Act.put, List.setIfInBounds_toArray, List.set_cons_zero, List.set_cons_succ, i64_w, i32_w]
                    rfl
                   refine pure_ (i := 4) (N := some 42) (v := ?_) (a' := ?_) #[Y81,N81,Y81,Y81,Y81,N81,N81,N81,N81,N81,N81,N81,N81,N81,N81,N81,N81,N81,N81,N81,N81,N81,N81] rfl rfl (any_of HT_.out (by kernel_rfl)) (fun _ _ _ h => h) (Or.inl ⟨by rfl, ?_⟩) ?_ ?_
                   rotate_left
                   ·intro w'
                    go_simp
                    with_reducible rfl
                   rotate_left
                   ·simp only [Act.put, List.setIfInBounds_toArray, List.set_cons_zero, List.set_cons_succ, i64_w, i32_w]
                    rfl
                   refine take_ (i := 1) (N := some 39) (v := ?_) (a' := ?_) #[Y81,Y81,Y81,Y81,Y81,N81,N81,N81,N81,N81,N81,N81,N81,N81,N81,N81,N81,N81,N81,N81,N81,N81,N81] rfl rfl (take_ofW HT_.out HW_.out (by kernel_rfl)) (fun _ _ _ h => h) (Or.inl ⟨by rfl, ?_⟩) hHeld ?_ ?_
                   rotate_left
                   ·rintro w' ⟨s0, s1, s2, s3, s4, s5, s6, s7⟩
                    go_simp
                    with_reducible rfl
                   rotate_left
                   ·simp only [Act.put, List.setIfInBounds_toArray, List.set_cons_zero, List.set_cons_succ, i64_w, i32_w]
                    rfl
                   refine take_ (i := 5) (N := some 43) (v := ?_) (a' := ?_) #[Y81,Y81,Y81,Y81,Y81,Y81,N81,N81,N81,N81,N81,N81,N81,N81,N81,N81,N81,N81,N81,N81,N81,N81,N81] rfl rfl (take_ofW HT_.out HW_.out (by kernel_rfl)) (fun _ _ _ h => h) (Or.inl ⟨by rfl, ?_⟩) hHeld ?_ ?_
                   rotate_left
                   ·rintro w' ⟨s0, s1, s2, s3, s4, s5, s6, s7⟩
                    go_simp
                    with_reducible rfl
                   rotate_left
                   ·simp only [Act.put, List.setIfInBounds_toArray, List.set_cons_zero, List.set_cons_succ, i64_w, i32_w]
                    rfl
                   refine pure_ (i := 6) (N := some 44) (v := ?_) (a' := ?_) #[Y81,Y81,Y81,Y81,Y81,Y81,Y81,N81,N81,N81,N81,N81,N81,N81,N81,N81,N81,N81,N81,N81,N81,N81,N81] rfl rfl (any_of HT_.out (by kernel_rfl)) (fun _ _ _ h => h) (Or.inl ⟨by rfl, ?_⟩) ?_ ?_
                   rotate_left
                   ·intro w'
                    go_simp
                    with_reducible rfl
                   rotate_left
                   ·simp only [Act.put, List.setIfInBounds_toArray, List.set_cons_zero, List.set_cons_succ, i64_w, i32_w]
                    rfl
                   refine pure_ (i := 7) (N := some 45) (v := ?_) (a' := ?_) #[Y81,Y81,Y81,Y81,Y81,Y81,Y81,Y81,N81,N81,N81,N81,N81,N81,N81,N81,N81,N81,N81,N81,N81,N81,N81] rfl rfl (any_of HT_.out (by kernel_rfl)) (fun _ _ _ h => h) (Or.inl ⟨by rfl, ?_⟩) ?_ ?_
                   rotate_left
                   ·intro w'
                    go_simp
                    with_reducible rfl
                   rotate_left
                   ·simp only [Act.put, List.setIfInBounds_toArray, List.set_cons_zero, List.set_cons_succ, i64_w, i32_w]
                    rfl
                   refine pure_ (i := 8) (N := some 46) (v := ?_) (a' := ?_) #[Y81,Y81,Y81,Y81,Y81,Y81,Y81,Y81,Y81,N81,N81,N81,N81,N81,N81,N81,N81,N81,N81,N81,N81,N81,N81] rfl rfl (any_of HT_.out (by kernel_rfl)) (fun _ _ _ h => h) (Or.inl ⟨by rfl, ?_⟩) ?_ ?_
                   rotate_left
                   ·intro w'
                    go_simp
                    with_reducible rfl
                   rotate_left
                   ·simp only [Act.put, List.setIfInBounds_toArray, List.set_cons_zero, List.set_cons_succ, i64_w, i32_w]
                    rfl
                   refine pure_ (i := 9) (N := some 47) (v := ?_) (a' := ?_) #[Y81,Y81,Y81,Y81,Y81,Y81,Y81,Y81,Y81,Y81,N81,N81,N81,N81,N81,N81,N81,N81,N81,N81,N81,N81,N81] rfl rfl (any_of HT_.out (by kernel_rfl)) (fun _ _ _ h => h) (Or.inl ⟨by rfl, ?_⟩) ?_ ?_
                   rotate_left
                   ·intro w'
                    go_simp
                    with_reducible rfl
                   rotate_left
                   ·simp only [Act.put, List.setIfInBounds_toArray, List.set_cons_zero, List.set_cons_succ, i64_w, i32_w]
                    rfl
                   refine pure_ (i := 13) (N := some 51) (v := ?_) (a' := ?_) #[Y81,Y81,Y81,Y81,Y81,Y81,Y81,Y81,Y81,Y81,N81,N81,N81,Y81,N81,N81,N81,N81,N81,N81,N81,N81,N81] rfl rfl (any_of HT_.out (by kernel_rfl)) (fun _ _ _ h => h) (Or.inl ⟨by rfl, ?_⟩) ?_ ?_
                   rotate_left
                   ·intro w'
                    go_simp
                    with_reducible rfl
                   rotate_left
                   ·simp only [Act.put, List.setIfInBounds_toArray, List.set_cons_zero, List.set_cons_succ, i64_w, i32_w]
                    rfl
                   refine pure_ (i := 16) (N := some 54) (v := ?_) (a' := ?_) #[Y81,Y81,Y81,Y81,Y81,Y81,Y81,Y81,Y81,Y81,N81,N81,N81,Y81,N81,N81,Y81,N81,N81,N81,N81,N81,N81] rfl rfl (any_of HT_.out (by kernel_rfl)) (fun _ _ _ h => h) (Or.inl ⟨by rfl, ?_⟩) ?_ ?_
                   rotate_left
                   ·intro w'
                    go_simp
                    with_reducible rfl
                   rotate_left
                   ·simp only [Act.put, List.setIfInBounds_toArray, List.set_cons_zero, List.set_cons_succ, i64_w, i32_w]
                    rfl
                   refine pure_ (i := 17) (N := some 55) (v := ?_) (a' := ?_) #[Y81,Y81,Y81,Y81,Y81,Y81,Y81,Y81,Y81,Y81,N81,N81,N81,Y81,N81,N81,Y81,Y81,N81,N81,N81,N81,N81] rfl rfl (any_of HT_.out (by kernel_rfl)) (fun _ _ _ h => h) (Or.inl ⟨by rfl, ?_⟩) ?_ ?_
                   rotate_left
                   ·intro w'
                    go_simp
                    with_reducible rfl
                   rotate_left
                   ·simp only [Act.put, List.setIfInBounds_toArray, List.set_cons_zero, List.set_cons_succ, i64_w, i32_w]
                    rfl
                   refine take_ (i := 10) (N := some 48) (v := ?_) (a' := ?_) #[Y81,Y81,Y81,Y81,Y81,Y81,Y81,Y81,Y81,Y81,Y81,N81,N81,Y81,N81,N81,Y81,Y81,N81,N81,N81,N81,N81] rfl rfl (take_ofW HT_.out HW_.out (by kernel_rfl)) (fun _ _ _ h => h) (Or.inl ⟨by rfl, ?_⟩) hHeld ?_ ?_
                   rotate_left
                   ·rintro w' ⟨s0, s1, s2, s3, s4, s5, s6, s7⟩
                    go_simp
                    with_reducible rfl
                   rotate_left
                   ·simp only [Act.put, List.setIfInBounds_toArray, List.set_cons_zero, List.set_cons_succ, i64_w, i32_w]
                    rfl
                   refine pure_ (i := 11) (N := some 49) (v := ?_) (a' := ?_) #[Y81,Y81,Y81,Y81,Y81,Y81,Y81,Y81,Y81,Y81,Y81,Y81,N81,Y81,N81,N81,Y81,Y81,N81,N81,N81,N81,N81] rfl rfl (any_of HT_.out (by kernel_rfl)) (fun _ _ _ h => h) (Or.inl ⟨by rfl, ?_⟩) ?_ ?_
                   rotate_left
                   ·intro w'
                    go_simp
                    with_reducible rfl
                   rotate_left
                   ·simp only [Act.put, List.setIfInBounds_toArray, List.set_cons_zero, List.set_cons_succ, i64_w, i32_w]
                    rfl
                   refine take_ (i := 12) (N := some 50) (v := ?_) (a' := ?_) #[Y81,Y81,Y81,Y81,Y81,Y81,Y81,Y81,Y81,Y81,Y81,Y81,Y81,Y81,N81,N81,Y81,Y81,N81,N81,N81,N81,N81] rfl rfl (take_ofW HT_.out HW_.out (by kernel_rfl)) (fun _ _ _ h => h) (Or.inl ⟨by rfl, ?_⟩) hHeld ?_ ?_
                   rotate_left
                   ·rintro w' ⟨s0, s1, s2, s3, s4, s5, s6, s7⟩
                    go_simp
                    with_reducible rfl
                   rotate_left
                   ·simp only [Act.put, List.setIfInBounds_toArray, List.set_cons_zero, List.set_cons_succ, i64_w, i32_w]
                    rfl
                   refine take_ (i := 14) (N := some 52) (v := ?_) (a' := ?_) #[Y81,Y81,Y81,Y81,Y81,Y81,Y81,Y81,Y81,Y81,Y81,Y81,Y81,Y81,Y81,N81,Y81,Y81,N81,N81,N81,N81,N81] rfl rfl (take_ofW HT_.out HW_.out (by kernel_rfl)) (fun _ _ _ h => h) (Or.inl ⟨by rfl, ?_⟩) hHeld ?_ ?_
                   rotate_left
                   ·rintro w' ⟨s0, s1, s2, s3, s4, s5, s6, s7⟩
                    go_simp
                    with_reducible rfl
                   rotate_left
                   ·simp only [Act.put, List.setIfInBounds_toArray, List.set_cons_zero, List.set_cons_succ, i64_w, i32_w]
                    rfl
                   refine pure_ (i := 15) (N := some 53) (v := ?_) (a' := ?_) #[Y81,Y81,Y81,Y81,Y81,Y81,Y81,Y81,Y81,Y81,Y81,Y81,Y81,Y81,Y81,Y81,Y81,Y81,N81,N81,N81,N81,N81] rfl rfl (any_of HT_.out (by kernel_rfl)) (fun _ _ _ h => h) (Or.inl ⟨by rfl, ?_⟩) ?_ ?_
                   rotate_left
                   ·intro w'
                    go_simp
                    with_reducible rfl
                   rotate_left
                   ·simp only [Act.put, List.setIfInBounds_toArray, List.set_cons_zero, List.set_cons_succ, i64_w, i32_w]
                    rfl
                   refine take_ (i := 18) (N := some 56) (v := ?_) (a' := ?_) #[Y81,Y81,Y81,Y81,Y81,Y81,Y81,Y81,Y81,Y81,Y81,Y81,Y81,Y81,Y81,Y81,Y81,Y81,Y81,N81,N81,N81,N81] rfl rfl (take_ofW HT_.out HW_.out (by kernel_rfl)) (fun _ _ _ h => h) (Or.inl ⟨by rfl, ?_⟩) hHeld ?_ ?_
                   rotate_left
                   ·rintro w' ⟨s0, s1, s2, s3, s4, s5, s6, s7⟩
                    go_simp
                    with_reducible rfl
                   rotate_left
                   ·simp only [Act.put, List.setIfInBounds_toArray, List.set_cons_zero, List.set_cons_succ, i64_w, i32_w]
                    rfl
                   refine pure_ (i := 19) (N := some 57) (v := ?_) (a' := ?_) #[Y81,Y81,Y81,Y81,Y81,Y81,Y81,Y81,Y81,Y81,Y81,Y81,Y81,Y81,Y81,Y81,Y81,Y81,Y81,Y81,N81,N81,N81] rfl rfl (any_of HT_.out (by kernel_rfl)) (fun _ _ _ h => h) (Or.inl ⟨by rfl, ?_⟩) ?_ ?_
                   rotate_left
                   ·intro w'
                    go_simp
                    with_reducible rfl
                   rotate_left
                   ·simp only [Act.put, List.setIfInBounds_toArray, List.set_cons_zero, List.set_cons_succ, i64_w, i32_w]
                    rfl
                   refine take_ (i := 20) (N := some 58) (v := ?_) (a' := ?_) #[Y81,Y81,Y81,Y81,Y81,Y81,Y81,Y81,Y81,Y81,Y81,Y81,Y81,Y81,Y81,Y81,Y81,Y81,Y81,Y81,Y81,N81,N81] rfl rfl (take_ofW HT_.out HW_.out (by kernel_rfl)) (fun _ _ _ h => h) (Or.inl ⟨by rfl, ?_⟩) hHeld ?_ ?_
                   rotate_left
                   ·rintro w' ⟨s0, s1, s2, s3, s4, s5, s6, s7⟩
                    go_simp
                    with_reducible rfl
                   rotate_left
                   ·simp only [Act.put, List.setIfInBounds_toArray, List.set_cons_zero, List.set_cons_succ, i64_w, i32_w]
                    rfl
                   refine pure_ (i := 21) (N := some 59) (v := ?_) (a' := ?_) #[Y81,Y81,Y81,Y81,Y81,Y81,Y81,Y81,Y81,Y81,Y81,Y81,Y81,Y81,Y81,Y81,Y81,Y81,Y81,Y81,Y81,Y81,N81] rfl rfl (any_of HT_.out (by kernel_rfl)) (fun _ _ _ h => h) (Or.inl ⟨by rfl, ?_⟩) ?_ ?_
                   rotate_left
                   ·intro w'
                    go_simp
                    with_reducible rfl
                   rotate_left
                   ·simp only [Act.put, List.setIfInBounds_toArray, List.set_cons_zero, List.set_cons_succ, i64_w, i32_w]
                    rfl
                   refine pure_ (i := 22) (N := some 60) (v := ?_) (a' := ?_) #[Y81,Y81,Y81,Y81,Y81,Y81,Y81,Y81,Y81,Y81,Y81,Y81,Y81,Y81,Y81,Y81,Y81,Y81,Y81,Y81,Y81,Y81,Y81] rfl rfl (any_of HT_.out (by kernel_rfl)) (fun _ _ _ h => h) (Or.inl ⟨by rfl, ?_⟩) ?_ ?_
                   rotate_left
                   ·intro w'
                    go_simp
                    with_reducible rfl
                   rotate_left
                   ·simp only [Act.put, List.setIfInBounds_toArray, List.set_cons_zero, List.set_cons_succ, i64_w, i32_w]
                    rfl
                   refine done_ (done_of HT_.out (by kernel_rfl)) ?_
                   try go_wp2
                   go_roundg k2
                   case measure => have := HK1.out; have := HK2.out; omega
                   case rel => exact ⟨(x5_2), (wrap64 (x8_2 + 1)), (by first | rfl | (simp; done) | (simp [*]; done)), H', ⟨by have := HK1.out; have := HK2.out; omega⟩, ⟨by (with_reducible repeat (first | apply Kd.R_alloc | apply Kd.R_drewN | apply Kd.R_drew)); exact HO_3.out⟩, ⟨by (with_reducible repeat (first | apply Kd.R_alloc | apply Kd.R_drewN | apply Kd.R_drew)); exact HO_5.out⟩, ⟨by (with_reducible repeat (first | refine blk_drewN ?_ _ | refine blk_drew ?_ | refine blk_alloc ?_ _)); exact p1.out⟩, ⟨by repeat (first | (with_reducible first | exact HB.out | apply below_alloc | apply pw_below_drewN | apply below_drew1 | refine below_set ?_ q4.out | refine below_set ?_ q9.out) | exact HB.out)⟩⟩
                 ·rw [if_neg c22] at H
                  exact absurd H (by simp)
                ·rw [if_neg c21] at H
                 exact absurd H (by simp)
               ·rw [if_neg c20] at H
                exact absurd H (by simp)
              ·rw [if_neg c19] at H
               exact absurd H (by simp)
             ·rw [if_neg c18] at H
              have c18b0 : (((rd_T45 l0_1 x8_2).f0) == (rd t652 x7_1)) = false := beq_eq_false_iff_ne.mpr c18
              have c18b1 : (((rd_T45 l0_1 x8_2).f0) != (rd t652 x7_1)) = true := bne_iff_ne.mpr c18
              have H' := Aside0.mk H
              clear H
              have hcz41_0 : wr.cell? ⟨p5, 0, none⟩ = some (.int .i64 a0_0) := (blk_cell p1.out 0).trans rfl
              have hcz41_1 : wr.cell? ⟨p5, 1, none⟩ = some (.slice A0_1 l0_1.length c0_1) := (blk_cell p1.out 1).trans rfl
              have hfz41_0 := blk_frozen p1.out 0
              have hfz41_1 := blk_frozen p1.out 1
              have p659 : 0 ≤ (x8_2 : Int) := of_decide_eq_true (by first | (with_reducible assumption) | assumption)
              have q659 : x8_2 < (l0_1.length : Int) := of_decide_eq_true (by first | (with_reducible assumption) | assumption)
              obtain ⟨q2, e659, p7, p8, p9, q0, q1⟩ := at_T45 r2.out x8_2 p659 q659
              cases e659
              replace p7 := (HB.out.cell (World.block_lt_of_cell? w _ p7)).trans p7
              replace p8 := (HB.out.cell (World.block_lt_of_cell? w _ p8)).trans p8
              replace p9 := (HB.out.cell (World.block_lt_of_cell? w _ p9)).trans p9
              replace q0 := (HB.out.cell (World.block_lt_of_cell? w _ q0)).trans q0
              replace q1 := (HB.out.cell (World.block_lt_of_cell? w _ q1)).trans q1
              replace p659 := eq_true p659
              replace q659 := eq_true q659
              try go_wp2_with (first | ((with_reducible refine gate_dst (N := 9) rfl ?_); refine box_event ?hg (N := 9) ?hd (cs := #[.int .i64 0, .int .i64 0, .int .i64 0, .int .i64 0, .int .i64 0]) (t := 45) ?hr ?_; (case hd => rfl); (case hg => rfl); (case hr => first | (go_simp; done) | (go_simp; rfl)); intro p0 hg w42 hbox hb; have n0_ := Aside0.mk (Kd.R_below HO_3.out hb); have n1_ := Aside0.mk (Kd.R_below HO_5.out hb); have n2_ := Aside0.mk (blk_below (g := p5) (o := .cells #[.int .i64 a0_0, .slice (some q2) l0_1.length c0_1] 38 (0, 0)) p1.out hb); have n3_ := Aside0.mk (below_step HB.out hb); have n4_ := Aside0.mk (hbox); have n5_ := Aside0.mk ((by rw [hg]; exact (below_size HB.out) : w.heap.size ≤ p0)); have n6_ := Aside0.mk ((by rw [hg]; exact (below_size HB.out) : w.heap.size ≤ p0)); have n7_ := Aside0.mk ((by rw [hg]; exact Nat.ne_of_lt (blk_lt (g := p5) (o := .cells #[.int .i64 a0_0, .slice (some q2) l0_1.length c0_1] 38 (0, 0)) p1.out) : p5 ≠ p0)); have n8_ := Aside0.mk ((by rw [hg]; exact Nat.ne_of_gt (blk_lt (g := p5) (o := .cells #[.int .i64 a0_0, .slice (some q2) l0_1.length c0_1] 38 (0, 0)) p1.out) : p0 ≠ p5)); clear HO_3; clear HO_5; clear p1; clear HB; have HO_3 := n0_; have HO_5 := n1_; have p1 := n2_; have HB := n3_; have p3 := n4_; have GW660 := n5_; have q9 := n6_; have p4 := n7_; have q5 := n8_; clear n0_ n1_ n2_ n3_ n4_ n5_ n6_ n7_ n8_; clear hb hbox hg; have hnb43 := q5.out; have hnc43 := p4.out; have hcz44_0 : w42.cell? ⟨p0, 0, none⟩ = some (.int .i64 0) := (blk_cell p3.out 0).trans rfl; have hcz44_1 : w42.cell? ⟨p0, 1, none⟩ = some (.int .i64 0) := (blk_cell p3.out 1).trans rfl; have hcz44_2 : w42.cell? ⟨p0, 2, none⟩ = some (.int .i64 0) := (blk_cell p3.out 2).trans rfl; have hcz44_3 : w42.cell? ⟨p0, 3, none⟩ = some (.int .i64 0) := (blk_cell p3.out 3).trans rfl; have hcz44_4 : w42.cell? ⟨p0, 4, none⟩ = some (.int .i64 0) := (blk_cell p3.out 4).trans rfl; have hfz44_0 := blk_frozen p3.out 0; have hfz44_1 := blk_frozen p3.out 1; have hfz44_2 := blk_frozen p3.out 2; have hfz44_3 := blk_frozen p3.out 3; have hfz44_4 := blk_frozen p3.out 4))
              have n0_ : Aside0 (Kd.R (Kd.int .i64) 3 (((((w42.setCell ⟨p0, 0, none⟩ (.int .i64 ((rd_T45 l0_1 x8_2).f0))).setCell ⟨p0, 1, none⟩ (.int .i64 ((rd_T45 l0_1 x8_2).f1))).setCell ⟨p0, 2, none⟩ (.int .i64 ((rd_T45 l0_1 x8_2).f2))).setCell ⟨p0, 3, none⟩ (.int .i64 ((rd_T45 l0_1 x8_2).f3))).setCell ⟨p0, 4, none⟩ (.int .i64 ((rd_T45 l0_1 x8_2).f4))) w.heap.size (fun k_ => some k_ ≠ (v657 : Value).ownBlock) (.slice Ao13 t652.length co13) t652) := ⟨by (with_reducible repeat (first | apply Kd.R_alloc | apply Kd.R_drewN | apply Kd.R_drew)); exact Kd.R_mono (Kd.R_far (p := ⟨p0, 4, none⟩) (Kd.R_far (p := ⟨p0, 3, none⟩) (Kd.R_far (p := ⟨p0, 2, none⟩) (Kd.R_far (p := ⟨p0, 1, none⟩) (Kd.R_far (p := ⟨p0, 0, none⟩) (Kd.R_types HO_3.out p3.out (by decide)) (fun _ hk => hk.2) (.int .i64 ((rd_T45 l0_1 x8_2).f0))) (fun _ hk => hk.2) (.int .i64 ((rd_T45 l0_1 x8_2).f1))) (fun _ hk => hk.2) (.int .i64 ((rd_T45 l0_1 x8_2).f2))) (fun _ hk => hk.2) (.int .i64 ((rd_T45 l0_1 x8_2).f3))) (fun _ hk => hk.2) (.int .i64 ((rd_T45 l0_1 x8_2).f4))) (fun _ hk => hk.1)⟩
              have n1_ : Aside0 (Kd.R (Kd.int .i64) 3 (((((w42.setCell ⟨p0, 0, none⟩ (.int .i64 ((rd_T45 l0_1 x8_2).f0))).setCell ⟨p0, 1, none⟩ (.int .i64 ((rd_T45 l0_1 x8_2).f1))).setCell ⟨p0, 2, none⟩ (.int .i64 ((rd_T45 l0_1 x8_2).f2))).setCell ⟨p0, 3, none⟩ (.int .i64 ((rd_T45 l0_1 x8_2).f3))).setCell ⟨p0, 4, none⟩ (.int .i64 ((rd_T45 l0_1 x8_2).f4))) w.heap.size (fun k_ => some k_ ≠ (.slice Ao13 t652.length co13 : Value).ownBlock) v657 x5_2) := ⟨by (with_reducible repeat (first | apply Kd.R_alloc | apply Kd.R_drewN | apply Kd.R_drew)); exact Kd.R_mono (Kd.R_far (p := ⟨p0, 4, none⟩) (Kd.R_far (p := ⟨p0, 3, none⟩) (Kd.R_far (p := ⟨p0, 2, none⟩) (Kd.R_far (p := ⟨p0, 1, none⟩) (Kd.R_far (p := ⟨p0, 0, none⟩) (Kd.R_types HO_5.out p3.out (by decide)) (fun _ hk => hk.2) (.int .i64 ((rd_T45 l0_1 x8_2).f0))) (fun _ hk => hk.2) (.int .i64 ((rd_T45 l0_1 x8_2).f1))) (fun _ hk => hk.2) (.int .i64 ((rd_T45 l0_1 x8_2).f2))) (fun _ hk => hk.2) (.int .i64 ((rd_T45 l0_1 x8_2).f3))) (fun _ hk => hk.2) (.int .i64 ((rd_T45 l0_1 x8_2).f4))) (fun _ hk => hk.1)⟩
              have n2_ : Aside0 ((((((w42.setCell ⟨p0, 0, none⟩ (.int .i64 ((rd_T45 l0_1 x8_2).f0))).setCell ⟨p0, 1, none⟩ (.int .i64 ((rd_T45 l0_1 x8_2).f1))).setCell ⟨p0, 2, none⟩ (.int .i64 ((rd_T45 l0_1 x8_2).f2))).setCell ⟨p0, 3, none⟩ (.int .i64 ((rd_T45 l0_1 x8_2).f3))).setCell ⟨p0, 4, none⟩ (.int .i64 ((rd_T45 l0_1 x8_2).f4))).heap[p5]? = some (.cells #[.int .i64 a0_0, .slice (some q2) l0_1.length c0_1] 38 (0, 0))) := ⟨by (with_reducible repeat (first | refine blk_drewN ?_ _ | refine blk_drew ?_ | refine blk_alloc ?_ _)); refine blk_far ?_ p4.out _; (with_reducible repeat (first | refine blk_drewN ?_ _ | refine blk_drew ?_ | refine blk_alloc ?_ _)); refine blk_far ?_ p4.out _; (with_reducible repeat (first | refine blk_drewN ?_ _ | refine blk_drew ?_ | refine blk_alloc ?_ _)); refine blk_far ?_ p4.out _; (with_reducible repeat (first | refine blk_drewN ?_ _ | refine blk_drew ?_ | refine blk_alloc ?_ _)); refine blk_far ?_ p4.out _; (with_reducible repeat (first | refine blk_drewN ?_ _ | refine blk_drew ?_ | refine blk_alloc ?_ _)); refine blk_far ?_ p4.out _; (with_reducible repeat (first | refine blk_drewN ?_ _ | refine blk_drew ?_ | refine blk_alloc ?_ _)); exact p1.out⟩
              have n3_ : Aside0 ((((((w42.setCell ⟨p0, 0, none⟩ (.int .i64 ((rd_T45 l0_1 x8_2).f0))).setCell ⟨p0, 1, none⟩ (.int .i64 ((rd_T45 l0_1 x8_2).f1))).setCell ⟨p0, 2, none⟩ (.int .i64 ((rd_T45 l0_1 x8_2).f2))).setCell ⟨p0, 3, none⟩ (.int .i64 ((rd_T45 l0_1 x8_2).f3))).setCell ⟨p0, 4, none⟩ (.int .i64 ((rd_T45 l0_1 x8_2).f4))).heap[p0]? = some (.cells #[.int .i64 ((rd_T45 l0_1 x8_2).f0), .int .i64 ((rd_T45 l0_1 x8_2).f1), .int .i64 ((rd_T45 l0_1 x8_2).f2), .int .i64 ((rd_T45 l0_1 x8_2).f3), .int .i64 ((rd_T45 l0_1 x8_2).f4)] 45 (0, 0))) := ⟨by (with_reducible repeat (first | refine blk_drewN ?_ _ | refine blk_drew ?_ | refine blk_alloc ?_ _)); refine blk_put (cs := #[.int .i64 ((rd_T45 l0_1 x8_2).f0), .int .i64 ((rd_T45 l0_1 x8_2).f1), .int .i64 ((rd_T45 l0_1 x8_2).f2), .int .i64 ((rd_T45 l0_1 x8_2).f3), .int .i64 0]) ?_ 4 _ rfl; (with_reducible repeat (first | refine blk_drewN ?_ _ | refine blk_drew ?_ | refine blk_alloc ?_ _)); refine blk_put (cs := #[.int .i64 ((rd_T45 l0_1 x8_2).f0), .int .i64 ((rd_T45 l0_1 x8_2).f1), .int .i64 ((rd_T45 l0_1 x8_2).f2), .int .i64 0, .int .i64 0]) ?_ 3 _ rfl; (with_reducible repeat (first | refine blk_drewN ?_ _ | refine blk_drew ?_ | refine blk_alloc ?_ _)); refine blk_put (cs := #[.int .i64 ((rd_T45 l0_1 x8_2).f0), .int .i64 ((rd_T45 l0_1 x8_2).f1), .int .i64 0, .int .i64 0, .int .i64 0]) ?_ 2 _ rfl; (with_reducible repeat (first | refine blk_drewN ?_ _ | refine blk_drew ?_ | refine blk_alloc ?_ _)); refine blk_put (cs := #[.int .i64 ((rd_T45 l0_1 x8_2).f0), .int .i64 0, .int .i64 0, .int .i64 0, .int .i64 0]) ?_ 1 _ rfl; (with_reducible repeat (first | refine blk_drewN ?_ _ | refine blk_drew ?_ | refine blk_alloc ?_ _)); refine blk_put (cs := #[.int .i64 0, .int .i64 0, .int .i64 0, .int .i64 0, .int .i64 0]) ?_ 0 _ rfl; (with_reducible repeat (first | refine blk_drewN ?_ _ | refine blk_drew ?_ | refine blk_alloc ?_ _)); exact p3.out⟩
              have n4_ : Aside0 (Below w.heap.size w (((((w42.setCell ⟨p0, 0, none⟩ (.int .i64 ((rd_T45 l0_1 x8_2).f0))).setCell ⟨p0, 1, none⟩ (.int .i64 ((rd_T45 l0_1 x8_2).f1))).setCell ⟨p0, 2, none⟩ (.int .i64 ((rd_T45 l0_1 x8_2).f2))).setCell ⟨p0, 3, none⟩ (.int .i64 ((rd_T45 l0_1 x8_2).f3))).setCell ⟨p0, 4, none⟩ (.int .i64 ((rd_T45 l0_1 x8_2).f4)))) := ⟨by repeat (first | (with_reducible first | exact HB.out | apply below_alloc | apply pw_below_drewN | apply below_drew1 | refine below_set ?_ q4.out | refine below_set ?_ q9.out) | exact HB.out)⟩
              (try clear HO_3)
              (try clear HO_5)
              (try clear p1)
              (try clear p3)
              (try clear HB)
              generalize (((((w42.setCell ⟨p0, 0, none⟩ (.int .i64 ((rd_T45 l0_1 x8_2).f0))).setCell ⟨p0, 1, none⟩ (.int .i64 ((rd_T45 l0_1 x8_2).f1))).setCell ⟨p0, 2, none⟩ (.int .i64 ((rd_T45 l0_1 x8_2).f2))).setCell ⟨p0, 3, none⟩ (.int .i64 ((rd_T45 l0_1 x8_2).f3))).setCell ⟨p0, 4, none⟩ (.int .i64 ((rd_T45 l0_1 x8_2).f4))) = w45 at n0_ n1_ n2_ n3_ n4_ ⊢
              have HO_3 := n0_
              have HO_5 := n1_
              have p1 := n2_
              have p3 := n3_
              have HB := n4_
              clear n0_ n1_ n2_ n3_ n4_
              have n0_ := Aside0.mk (Kd.R_drew HO_3.out)
              have n1_ := Aside0.mk (Kd.R_drew HO_5.out)
              have n2_ := Aside0.mk (blk_drew p1.out)
              have n3_ := Aside0.mk (blk_drew p3.out)
              have n4_ := Aside0.mk (below_drew1 HB.out)
              clear HO_3
              clear HO_5
              clear p1
              clear p3
              clear HB
              have HO_3 := n0_
              have HO_5 := n1_
              have p1 := n2_
              have p3 := n3_
              have HB := n4_
              clear n0_ n1_ n2_ n3_ n4_
              have p661 : 0 ≤ (x7_1 : Int) := of_decide_eq_true (by first | (with_reducible assumption) | assumption)
              have q661 : x7_1 < (t652.length : Int) := of_decide_eq_true (by first | (with_reducible assumption) | assumption)
              obtain ⟨r3, e661, q3⟩ := Kd.at_int (Kd.R_reads' HO_3.out).2.2 x7_1 p661 q661
              cases e661
              replace p661 := eq_true p661
              replace q661 := eq_true q661
              refine start_ (n := 23) (S := fun w' => w'.cell? ⟨p0, 0, none⟩ = some (.int .i64 ((rd_T45 l0_1 x8_2).f0)) ∧ w'.cell? ⟨p0, 1, none⟩ = some (.int .i64 ((rd_T45 l0_1 x8_2).f1)) ∧ w'.cell? ⟨p0, 2, none⟩ = some (.int .i64 ((rd_T45 l0_1 x8_2).f2)) ∧ w'.cell? ⟨p0, 3, none⟩ = some (.int .i64 ((rd_T45 l0_1 x8_2).f3)) ∧ w'.cell? ⟨p0, 4, none⟩ = some (.int .i64 ((rd_T45 l0_1 x8_2).f4)) ∧ w'.cell? (r3.add (x7_1).toNat) = some (.int .i64 (rd t652 x7_1))) (ds := []) #[N81,N81,N81,N81,N81,N81,N81,N81,N81,N81,N81,N81,N81,N81,N81,N81,N81,N81,N81,N81,N81,N81,N81] (by kernel_rfl) rfl rfl ⟨(blk_cell p3.out 0).trans rfl, (blk_cell p3.out 1).trans rfl, (blk_cell p3.out 2).trans rfl, (blk_cell p3.out 3).trans rfl, (blk_cell p3.out 4).trans rfl, q3⟩ (fun hHeld => ?_); refine with_tabW spec_RingLong.tab13 spec_RingLong.bits13 (fun HT_ HW_ => ?_)
              generalize w45.drew = w46 at HO_3 HO_5 p1 p3 HB q3 hHeld ⊢
              refine pure_ (i := 0) (N := some 38) (v := ?_) (a' := ?_) #[Y81,N81,N81,N81,N81,N81,N81,N81,N81,N81,N81,N81,N81,N81,N81,N81,N81,N81,N81,N81,N81,N81,N81] rfl rfl (any_of HT_.out (by kernel_rfl)) (fun _ _ _ h => h) (Or.inl ⟨by rfl, ?_⟩) ?_ ?_
              rotate_left
              ·intro w'
               go_simp
               with_reducible rfl
              rotate_left
              ·simp only [Act.put, List.setIfInBounds_toArray, List.set_cons_zero, List.set_cons_succ, i64_w, i32_w]
               rfl
              refine pure_ (i := 2) (N := some 40) (v := ?_) (a' := ?_) #[Y81,N81,Y81,N81,N81,N81,N81,N81,N81,N81,N81,N81,N81,N81,N81,N81,N81,N81,N81,N81,N81,N81,N81] rfl rfl (any_of HT_.out (by kernel_rfl)) (fun _ _ _ h => h) (Or.inl ⟨by rfl, ?_⟩) ?_ ?_
              rotate_left
              ·intro w'
               go_simp
               with_reducible rfl
              rotate_left
              ·simp only [Act.put, List.setIfInBounds_toArray, List.set_cons_zero, List.set_cons_succ, i64_w, i32_w]
               rfl
              refine pure_ (i := 3) (N := some 41) (v := ?_) (a' := ?_) #[Y81,N81,Y81,Y81,N81,N81,N81,N81,N81,N81,N81,N81,N81,N81,N81,N81,N81,N81,N81,N81,N81,N81,N81] rfl rfl (any_of HT_.out (by kernel_rfl)) (fun _ _ _ h => h) (Or.inl ⟨by rfl, ?_⟩) ?_ ?_
              rotate_left
              ·intro w'
               go_simp
               with_reducible rfl
              rotate_left
              ·simp only [Act.put, List.setIfInBounds_toArray, List.set_cons_zero, List.set_cons_succ, i64_w, i32_w]
               rfl
              refine pure_ (i := 4) (N := some 42) (v := ?_) (a' := ?_) #[Y81,N81,Y81,Y81,Y81,N81,N81,N81,N81,N81,N81,N81,N81,N81,N81,N81,N81,N81,N81,N81,N81,N81,N81] rfl rfl (any_of HT_.out (by kernel_rfl)) (fun _ _ _ h => h) (Or.inl ⟨by rfl, ?_⟩) ?_ ?_
              rotate_left
              ·intro w'
               go_simp
               with_reducible rfl
              rotate_left
              ·simp only [Act.put, List.setIfInBounds_toArray, List.set_cons_zero, List.set_cons_succ, i64_w, i32_w]
               rfl
              refine take_ (i := 1) (N := some 39) (v := ?_) (a' := ?_) #[Y81,Y81,Y81,Y81,Y81,N81,N81,N81,N81,N81,N81,N81,N81,N81,N81,N81,N81,N81,N81,N81,N81,N81,N81] rfl rfl (take_ofW HT_.out HW_.out (by kernel_rfl)) (fun _ _ _ h => h) (Or.inl ⟨by rfl, ?_⟩) hHeld ?_ ?_
              rotate_left
              ·rintro w' ⟨s0, s1, s2, s3, s4, s5⟩
               go_simp
               with_reducible rfl
              rotate_left
              ·simp only [Act.put, List.setIfInBounds_toArray, List.set_cons_zero, List.set_cons_succ, i64_w, i32_w]
               rfl
              refine take_ (i := 5) (N := some 43) (v := ?_) (a' := ?_) #[Y81,Y81,Y81,Y81,Y81,Y81,N81,N81,N81,N81,N81,N81,N81,N81,N81,N81,N81,N81,N81,N81,N81,N81,N81] rfl rfl (take_ofW HT_.out HW_.out (by kernel_rfl)) (fun _ _ _ h => h) (Or.inl ⟨by rfl, ?_⟩) hHeld ?_ ?_
              rotate_left
              ·rintro w' ⟨s0, s1, s2, s3, s4, s5⟩
               go_simp
               with_reducible rfl
              rotate_left
              ·simp only [Act.put, List.setIfInBounds_toArray, List.set_cons_zero, List.set_cons_succ, i64_w, i32_w]
               rfl
              refine pure_ (i := 6) (N := some 44) (v := ?_) (a' := ?_) #[Y81,Y81,Y81,Y81,Y81,Y81,Y81,N81,N81,N81,N81,N81,N81,N81,N81,N81,N81,N81,N81,N81,N81,N81,N81] rfl rfl (any_of HT_.out (by kernel_rfl)) (fun _ _ _ h => h) (Or.inl ⟨by rfl, ?_⟩) ?_ ?_
              rotate_left
              ·intro w'
               go_simp
               with_reducible rfl
              rotate_left
              ·simp only [Act.put, List.setIfInBounds_toArray, List.set_cons_zero, List.set_cons_succ, i64_w, i32_w]
               rfl
              refine pure_ (i := 7) (N := some 45) (v := ?_) (a' := ?_) #[Y81,Y81,Y81,Y81,Y81,Y81,Y81,Y81,N81,N81,N81,N81,N81,N81,N81,N81,N81,N81,N81,N81,N81,N81,N81] rfl rfl (any_of HT_.out (by kernel_rfl)) (fun _ _ _ h => h) (Or.inl ⟨by rfl, ?_⟩) ?_ ?_
              rotate_left
              ·intro w'
               go_simp
               with_reducible rfl
              rotate_left
              ·simp only [Act.put, List.setIfInBounds_toArray, List.set_cons_zero, List.set_cons_succ, i64_w, i32_w]
               rfl
              refine pure_ (i := 8) (N := some 46) (v := undef) (a' := ?_) #[Y81,Y81,Y81,Y81,Y81,Y81,Y81,Y81,Y81,N81,N81,N81,N81,N81,N81,N81,N81,N81,N81,N81,N81,N81,N81] rfl rfl (any_of HT_.out (by kernel_rfl)) (fun _ _ _ h => h) (Or.inr ⟨by rfl, rfl⟩) ?_ ?_
              rotate_left
              ·simp only [Act.put, List.setIfInBounds_toArray, List.set_cons_zero, List.set_cons_succ, i64_w, i32_w]
               rfl
              refine pure_ (i := 9) (N := some 47) (v := undef) (a' := ?_) #[Y81,Y81,Y81,Y81,Y81,Y81,Y81,Y81,Y81,Y81,N81,N81,N81,N81,N81,N81,N81,N81,N81,N81,N81,N81,N81] rfl rfl (any_of HT_.out (by kernel_rfl)) (fun _ _ _ h => h) (Or.inr ⟨by rfl, rfl⟩) ?_ ?_
              rotate_left
              ·simp only [Act.put, List.setIfInBounds_toArray, List.set_cons_zero, List.set_cons_succ, i64_w, i32_w]
               rfl
              refine pure_ (i := 10) (N := some 48) (v := undef) (a' := ?_) #[Y81,Y81,Y81,Y81,Y81,Y81,Y81,Y81,Y81,Y81,Y81,N81,N81,N81,N81,N81,N81,N81,N81,N81,N81,N81,N81] rfl rfl (any_of HT_.out (by kernel_rfl)) (fun _ _ _ h => h) (Or.inr ⟨by rfl, rfl⟩) ?_ ?_
              rotate_left
              ·simp only [Act.put, List.setIfInBounds_toArray, List.set_cons_zero, List.set_cons_succ, i64_w, i32_w]
               rfl
              refine pure_ (i := 11) (N := some 49) (v := undef) (a' := ?_) #[Y81,Y81,Y81,Y81,Y81,Y81,Y81,Y81,Y81,Y81,Y81,Y81,N81,N81,N81,N81,N81,N81,N81,N81,N81,N81,N81] rfl rfl (any_of HT_.out (by kernel_rfl)) (fun _ _ _ h => h) (Or.inr ⟨by rfl, rfl⟩) ?_ ?_
              rotate_left
              ·simp only [Act.put, List.setIfInBounds_toArray, List.set_cons_zero, List.set_cons_succ, i64_w, i32_w]
               rfl
              refine pure_ (i := 12) (N := some 50) (v := undef) (a' := ?_) #[Y81,Y81,Y81,Y81,Y81,Y81,Y81,Y81,Y81,Y81,Y81,Y81,Y81,N81,N81,N81,N81,N81,N81,N81,N81,N81,N81] rfl rfl (any_of HT_.out (by kernel_rfl)) (fun _ _ _ h => h) (Or.inr ⟨by rfl, rfl⟩) ?_ ?_
              rotate_left
              ·simp only [Act.put, List.setIfInBounds_toArray, List.set_cons_zero, List.set_cons_succ, i64_w, i32_w]
               rfl
              refine pure_ (i := 13) (N := some 51) (v := undef) (a' := ?_) #[Y81,Y81,Y81,Y81,Y81,Y81,Y81,Y81,Y81,Y81,Y81,Y81,Y81,Y81,N81,N81,N81,N81,N81,N81,N81,N81,N81] rfl rfl (any_of HT_.out (by kernel_rfl)) (fun _ _ _ h => h) (Or.inr ⟨by rfl, rfl⟩) ?_ ?_
              rotate_left
              ·simp only [Act.put, List.setIfInBounds_toArray, List.set_cons_zero, List.set_cons_succ, i64_w, i32_w]
               rfl
              refine pure_ (i := 14) (N := some 52) (v := undef) (a' := ?_) #[Y81,Y81,Y81,Y81,Y81,Y81,Y81,Y81,Y81,Y81,Y81,Y81,Y81,Y81,Y81,N81,N81,N81,N81,N81,N81,N81,N81] rfl rfl (any_of HT_.out (by kernel_rfl)) (fun _ _ _ h => h) (Or.inr ⟨by rfl, rfl⟩) ?_ ?_
              rotate_left
              ·simp only [Act.put, List.setIfInBounds_toArray, List.set_cons_zero, List.set_cons_succ, i64_w, i32_w]
               rfl
              refine pure_ (i := 15) (N := some 53) (v := undef) (a' := ?_) #[Y81,Y81,Y81,Y81,Y81,Y81,Y81,Y81,Y81,Y81,Y81,Y81,Y81,Y81,Y81,Y81,N81,N81,N81,N81,N81,N81,N81] rfl rfl (any_of HT_.out (by kernel_rfl)) (fun _ _ _ h => h) (Or.inr ⟨by rfl, rfl⟩) ?_ ?_
              rotate_left
              ·simp only [Act.put, List.setIfInBounds_toArray, List.set_cons_zero, List.set_cons_succ, i64_w, i32_w]
               rfl
              refine pure_ (i := 16) (N := some 54) (v := undef) (a' := ?_) #[Y81,Y81,Y81,Y81,Y81,Y81,Y81,Y81,Y81,Y81,Y81,Y81,Y81,Y81,Y81,Y81,Y81,N81,N81,N81,N81,N81,N81] rfl rfl (any_of HT_.out (by kernel_rfl)) (fun _ _ _ h => h) (Or.inr ⟨by rfl, rfl⟩) ?_ ?_
              rotate_left
              ·simp only [Act.put, List.setIfInBounds_toArray, List.set_cons_zero, List.set_cons_succ, i64_w, i32_w]
               rfl
              refine pure_ (i := 17) (N := some 55) (v := undef) (a' := ?_) #[Y81,Y81,Y81,Y81,Y81,Y81,Y81,Y81,Y81,Y81,Y81,Y81,Y81,Y81,Y81,Y81,Y81,Y81,N81,N81,N81,N81,N81] rfl rfl (any_of HT_.out (by kernel_rfl)) (fun _ _ _ h => h) (Or.inr ⟨by rfl, rfl⟩) ?_ ?_
              rotate_left
              ·simp only [Act.put, List.setIfInBounds_toArray, List.set_cons_zero, List.set_cons_succ, i64_w, i32_w]
               rfl
              refine pure_ (i := 18) (N := some 56) (v := undef) (a' := ?_) #[Y81,Y81,Y81,Y81,Y81,Y81,Y81,Y81,Y81,Y81,Y81,Y81,Y81,Y81,Y81,Y81,Y81,Y81,Y81,N81,N81,N81,N81] rfl rfl (any_of HT_.out (by kernel_rfl)) (fun _ _ _ h => h) (Or.inr ⟨by rfl, rfl⟩) ?_ ?_
              rotate_left
              ·simp only [Act.put, List.setIfInBounds_toArray, List.set_cons_zero, List.set_cons_succ, i64_w, i32_w]
               rfl
              refine pure_ (i := 19) (N := some 57) (v := undef) (a' := ?_) #[Y81,Y81,Y81,Y81,Y81,Y81,Y81,Y81,Y81,Y81,Y81,Y81,Y81,Y81,Y81,Y81,Y81,Y81,Y81,Y81,N81,N81,N81] rfl rfl (any_of HT_.out (by kernel_rfl)) (fun _ _ _ h => h) (Or.inr ⟨by rfl, rfl⟩) ?_ ?_
              rotate_left
              ·simp only [Act.put, List.setIfInBounds_toArray, List.set_cons_zero, List.set_cons_succ, i64_w, i32_w]
               rfl
              refine pure_ (i := 20) (N := some 58) (v := undef) (a' := ?_) #[Y81,Y81,Y81,Y81,Y81,Y81,Y81,Y81,Y81,Y81,Y81,Y81,Y81,Y81,Y81,Y81,Y81,Y81,Y81,Y81,Y81,N81,N81] rfl rfl (any_of HT_.out (by kernel_rfl)) (fun _ _ _ h => h) (Or.inr ⟨by rfl, rfl⟩) ?_ ?_
              rotate_left
              ·simp only [Act.put, List.setIfInBounds_toArray, List.set_cons_zero, List.set_cons_succ, i64_w, i32_w]
               rfl
              refine pure_ (i := 21) (N := some 59) (v := undef) (a' := ?_) #[Y81,Y81,Y81,Y81,Y81,Y81,Y81,Y81,Y81,Y81,Y81,Y81,Y81,Y81,Y81,Y81,Y81,Y81,Y81,Y81,Y81,Y81,N81] rfl rfl (any_of HT_.out (by kernel_rfl)) (fun _ _ _ h => h) (Or.inr ⟨by rfl, rfl⟩) ?_ ?_
              rotate_left
              ·simp only [Act.put, List.setIfInBounds_toArray, List.set_cons_zero, List.set_cons_succ, i64_w, i32_w]
               rfl
              refine pure_ (i := 22) (N := some 60) (v := ?_) (a' := ?_) #[Y81,Y81,Y81,Y81,Y81,Y81,Y81,Y81,Y81,Y81,Y81,Y81,Y81,Y81,Y81,Y81,Y81,Y81,Y81,Y81,Y81,Y81,Y81] rfl rfl (any_of HT_.out (by kernel_rfl)) (fun _ _ _ h => h) (Or.inl ⟨by rfl, ?_⟩) ?_ ?_
              rotate_left
              ·intro w'
               go_simp
               with_reducible rfl
              rotate_left
              ·simp only [Act.put, List.setIfInBounds_toArray, List.set_cons_zero, List.set_cons_succ, i64_w, i32_w]
               rfl
              refine done_ (done_of HT_.out (by kernel_rfl)) ?_
              try go_wp2
              go_roundg k2
              case measure => have := HK1.out; have := HK2.out; omega
              case rel => exact ⟨(x5_2), (wrap64 (x8_2 + 1)), (by first | rfl | (simp; done) | (simp [*]; done)), H', ⟨by have := HK1.out; have := HK2.out; omega⟩, ⟨by (with_reducible repeat (first | apply Kd.R_alloc | apply Kd.R_drewN | apply Kd.R_drew)); exact HO_3.out⟩, ⟨by (with_reducible repeat (first | apply Kd.R_alloc | apply Kd.R_drewN | apply Kd.R_drew)); exact HO_5.out⟩, ⟨by (with_reducible repeat (first | refine blk_drewN ?_ _ | refine blk_drew ?_ | refine blk_alloc ?_ _)); exact p1.out⟩, ⟨by repeat (first | (with_reducible first | exact HB.out | apply below_alloc | apply pw_below_drewN | apply below_drew1 | refine below_set ?_ q4.out | refine below_set ?_ q9.out) | exact HB.out)⟩⟩
            ·rw [if_neg c17] at H
             exact absurd H (by simp)
           ·rw [if_neg c16] at H
            exact absurd H (by simp)
          ·rw [if_neg c15] at H
           exact absurd H (by simp)
         ·rw [if_neg c14] at H
          have c14b0 : decide (x8_2 < (l0_1.length : Int)) = false := decide_eq_false c14
          clear c14
          by_cases c47 : 0 ≤ x7_1
          ·rw [if_pos c47] at H
           have c47b0 : decide (0 ≤ x7_1) = true := decide_eq_true c47
           clear c47
           by_cases c48 : x7_1 < (t652.length : Int)
           ·rw [if_pos c48] at H
            have c48b0 : decide (x7_1 < (t652.length : Int)) = true := decide_eq_true c48
            clear c48
            by_cases c49 : 0 ≤ (rd t652 x7_1)
            ·rw [if_pos c49] at H
             have c49b0 : decide (0 ≤ (rd t652 x7_1)) = true := decide_eq_true c49
             clear c49
             by_cases c50 : (rd t652 x7_1) < (x5_2.length : Int)
             ·rw [if_pos c50] at H
              have c50b0 : decide ((rd t652 x7_1) < (x5_2.length : Int)) = true := decide_eq_true c50
              clear c50
              by_cases c51 : (rd x5_2 (rd t652 x7_1)) > x6_1
              ·rw [if_pos c51] at H
               have c51b0 : decide (x6_1 < (rd x5_2 (rd t652 x7_1))) = true := decide_eq_true c51
               clear c51
               have H' := Aside0.mk H
               clear H
               have hcz52_0 : wr.cell? ⟨p5, 0, none⟩ = some (.int .i64 a0_0) := (blk_cell p1.out 0).trans rfl
               have hcz52_1 : wr.cell? ⟨p5, 1, none⟩ = some (.slice A0_1 l0_1.length c0_1) := (blk_cell p1.out 1).trans rfl
               have hfz52_0 := blk_frozen p1.out 0
               have hfz52_1 := blk_frozen p1.out 1
               have p666 : 0 ≤ (x7_1 : Int) := of_decide_eq_true (by first | (with_reducible assumption) | assumption)
               have q666 : x7_1 < (t652.length : Int) := of_decide_eq_true (by first | (with_reducible assumption) | assumption)
               obtain ⟨ad666, e666, t1⟩ := Kd.at_int (Kd.R_reads' HO_3.out).2.2 x7_1 p666 q666
               cases e666
               replace p666 := eq_true p666
               replace q666 := eq_true q666
               obtain ⟨Ao53, co53, eo53⟩ := Kd.R_slice HO_5.out
               subst eo53
               have p667 : 0 ≤ ((rd t652 x7_1) : Int) := of_decide_eq_true (by first | (with_reducible assumption) | assumption)
               have q667 : (rd t652 x7_1) < (x5_2.length : Int) := of_decide_eq_true (by first | (with_reducible assumption) | assumption)
               obtain ⟨ad667, e667, t2⟩ := Kd.at_int (Kd.R_reads' HO_5.out).2.2 (rd t652 x7_1) p667 q667
               cases e667
               replace p667 := eq_true p667
               replace q667 := eq_true q667
               have p668 : 0 ≤ (x7_1 : Int) := of_decide_eq_true (by first | (with_reducible assumption) | assumption)
               have q668 : x7_1 < (t652.length : Int) := of_decide_eq_true (by first | (with_reducible assumption) | assumption)
               obtain ⟨ad668, e668, hx668_0⟩ := Kd.at_int (Kd.R_reads' HO_3.out).2.2 x7_1 p668 q668
               obtain rfl : ad666 = ad668 := (by injection e668)
               replace p668 := eq_true p668
               replace q668 := eq_true q668
               have p669 : 0 ≤ ((rd t652 x7_1) : Int) := of_decide_eq_true (by first | (with_reducible assumption) | assumption)
               have q669 : (rd t652 x7_1) < (x5_2.length : Int) := of_decide_eq_true (by first | (with_reducible assumption) | assumption)
               obtain ⟨ad669, e669, hx669_0⟩ := Kd.at_int (Kd.R_reads' HO_5.out).2.2 (rd t652 x7_1) p669 q669
               obtain rfl : ad667 = ad669 := (by injection e669)
               replace p669 := eq_true p669
               replace q669 := eq_true q669
               go_wp2
               go_roundg k2
               case measure => have := HK1.out; have := HK2.out; omega
               case rel => exact ⟨(x5_2), (rd x5_2 (rd t652 x7_1)), (wrap64 (x7_1 + 1)), (by first | rfl | (simp; done) | (simp [*]; done)), (by first | rfl | (simp; done) | (simp [*]; done)), H', ⟨by have := HK1.out; have := HK2.out; omega⟩, ⟨by (with_reducible repeat (first | apply Kd.R_alloc | apply Kd.R_drewN | apply Kd.R_drew)); exact HO_3.out⟩, ⟨by (with_reducible repeat (first | apply Kd.R_alloc | apply Kd.R_drewN | apply Kd.R_drew)); exact HO_5.out⟩, ⟨by (with_reducible repeat (first | refine blk_drewN ?_ _ | refine blk_drew ?_ | refine blk_alloc ?_ _)); exact p1.out⟩, ⟨by repeat (first | (with_reducible first | exact HB.out | apply below_alloc | apply pw_below_drewN | apply below_drew1 | refine below_set ?_ q4.out) | exact HB.out)⟩⟩
              ·rw [if_neg c51] at H
               have c51b0 : decide (x6_1 < (rd x5_2 (rd t652 x7_1))) = false := decide_eq_false c51
               clear c51
               have H' := Aside0.mk H
               clear H
               have hcz54_0 : wr.cell? ⟨p5, 0, none⟩ = some (.int .i64 a0_0) := (blk_cell p1.out 0).trans rfl
               have hcz54_1 : wr.cell? ⟨p5, 1, none⟩ = some (.slice A0_1 l0_1.length c0_1) := (blk_cell p1.out 1).trans rfl
               have hfz54_0 := blk_frozen p1.out 0
               have hfz54_1 := blk_frozen p1.out 1
               have p666 : 0 ≤ (x7_1 : Int) := of_decide_eq_true (by first | (with_reducible assumption) | assumption)
               have q666 : x7_1 < (t652.length : Int) := of_decide_eq_true (by first | (with_reducible assumption) | assumption)
               obtain ⟨ad666, e666, t1⟩ := Kd.at_int (Kd.R_reads' HO_3.out).2.2 x7_1 p666 q666
               cases e666
               replace p666 := eq_true p666
               replace q666 := eq_true q666
               obtain ⟨Ao55, co55, eo55⟩ := Kd.R_slice HO_5.out
               subst eo55
               have p667 : 0 ≤ ((rd t652 x7_1) : Int) := of_decide_eq_true (by first | (with_reducible assumption) | assumption)
               have q667 : (rd t652 x7_1) < (x5_2.length : Int) := of_decide_eq_true (by first | (with_reducible assumption) | assumption)
               obtain ⟨ad667, e667, t2⟩ := Kd.at_int (Kd.R_reads' HO_5.out).2.2 (rd t652 x7_1) p667 q667
               cases e667
               replace p667 := eq_true p667
               replace q667 := eq_true q667
               go_wp2
               go_roundg k2
               case measure => have := HK1.out; have := HK2.out; omega
               case rel => exact ⟨(x5_2), (x6_1), (wrap64 (x7_1 + 1)), (by first | rfl | (simp; done) | (simp [*]; done)), (by first | rfl | (simp; done) | (simp [*]; done)), H', ⟨by have := HK1.out; have := HK2.out; omega⟩, ⟨by (with_reducible repeat (first | apply Kd.R_alloc | apply Kd.R_drewN | apply Kd.R_drew)); exact HO_3.out⟩, ⟨by (with_reducible repeat (first | apply Kd.R_alloc | apply Kd.R_drewN | apply Kd.R_drew)); exact HO_5.out⟩, ⟨by (with_reducible repeat (first | refine blk_drewN ?_ _ | refine blk_drew ?_ | refine blk_alloc ?_ _)); exact p1.out⟩, ⟨by repeat (first | (with_reducible first | exact HB.out | apply below_alloc | apply pw_below_drewN | apply below_drew1 | refine below_set ?_ q4.out) | exact HB.out)⟩⟩
             ·rw [if_neg c50] at H
              exact absurd H (by simp)
            ·rw [if_neg c49] at H
             exact absurd H (by simp)
           ·rw [if_neg c48] at H
            exact absurd H (by simp)
          ·rw [if_neg c47] at H
           exact absurd H (by simp)
      ·rw [if_neg c12] at H
       have c12b0 : decide (x7_1 < (t652.length : Int)) = false := decide_eq_false c12
       clear c12
       obtain rfl := Option.some.inj H
       obtain ⟨Ao56, co56, eo56⟩ := Kd.R_slice HO_3.out
       subst eo56
       go_wp2
       go_ret
       exact ⟨by first | rfl | (simp [errW_none, errW_some] <;> rfl) | (simp [*, errW_none, errW_some] <;> rfl), by repeat (first | (with_reducible first | exact HB.out | apply below_alloc | apply pw_below_drewN | apply below_drew1 | refine below_set ?_ q4.out) | exact HB.out)⟩
   ·rw [if_neg c5] at H
    exact absurd H (by simp)
  ·rw [if_neg c4] at H
   exact absurd H (by simp)
 ·replace c3 := Bool.eq_false_iff.mpr c3
  subst c3
  have H1 : (some (-1)) = some r := by rw [if_neg (show ¬ (false = true) by decide)] at H; exact H
  clear H
  have H := H1
  clear H1
  obtain rfl := Option.some.inj H
  go_enter Try.func43, Try.ntmps43
  go_wp2_with (first | ((with_reducible refine gate_dst (N := 1) rfl ?_); refine box_event ?hg (N := 1) ?hd (cs := #[.int .i64 a0_0, .slice A0_1 l0_1.length c0_1]) (t := 38) ?hr ?_; (case hd => rfl); (case hg => rfl); (case hr => first | (go_simp; done) | (go_simp; rfl)); intro p5 hg w57 hbox hb; have n0_ := Aside0.mk (below_step HB.out hb); have n1_ := Aside0.mk (hbox); have n2_ := Aside0.mk ((by rw [hg]; exact (below_size HB.out) : w.heap.size ≤ p5)); have n3_ := Aside0.mk ((by rw [hg]; exact (below_size HB.out) : w.heap.size ≤ p5)); clear HB; have HB := n0_; have p1 := n1_; have GW651 := n2_; have q4 := n3_; clear n0_ n1_ n2_ n3_; clear hb hbox hg; have hcz58_0 : w57.cell? ⟨p5, 0, none⟩ = some (.int .i64 a0_0) := (blk_cell p1.out 0).trans rfl; have hcz58_1 : w57.cell? ⟨p5, 1, none⟩ = some (.slice A0_1 l0_1.length c0_1) := (blk_cell p1.out 1).trans rfl; have hfz58_0 := blk_frozen p1.out 0; have hfz58_1 := blk_frozen p1.out 1) | ((with_reducible refine gate_callee (f := 25) rfl ?_); refine goesL_ (some 12) rfl rfl Try.func25 (by kernel_rfl) rfl #[.agg #[.int .i64 a0_0, .slice A0_1 l0_1.length c0_1]] rfl (by (try simp only [List.map_toArray, List.map_cons, List.map_nil]); first | done | rfl | (simp only [List.length_drop, List.length_take]; rfl)) ?_; (with_reducible refine (spec_RingOrder.calls k a0_0 _ _ l0_1 t652 false _ ?side1 ?side2 A2.out).mono ?_); (case side1 => repeat (first | exact (Kd.C_below r2.out HB.out) | (with_reducible refine Kd.C_alloc ?_ _) | (with_reducible refine Kd.C_drewN ?_ _) | (with_reducible refine Kd.C_drew ?_))); (case side2 => exact HC0_1.out); rintro e w59 ⟨v653, rfl, ho0, hb⟩; refine ⟨_, rfl, ?_⟩; have n0_ := Aside0.mk (Kd.R_lower ho0 (below_size HB.out)); have n1_ := Aside0.mk (blk_below (g := p5) (o := .cells #[.int .i64 a0_0, .slice A0_1 l0_1.length c0_1] 38 (0, 0)) p1.out hb); have n2_ := Aside0.mk (below_step HB.out hb); clear p1; clear HB; have HO654 := n0_; have p1 := n1_; have HB := n2_; clear n0_ n1_ n2_; (try clear hb); (try clear hb2); (try clear hk); (try clear hi); (try clear ho0)))
  go_ret
  exact ⟨by first | rfl | (simp [errW_none, errW_some] <;> rfl) | (simp [*, errW_none, errW_some] <;> rfl), by repeat (first | (with_reducible first | exact HB.out | apply below_alloc | apply pw_below_drewN | apply below_drew1 | refine below_set ?_ q4.out) | exact HB.out)⟩
end Go.Proofs.Ytmabopomecdidaa.Pr
end
section
namespace Go.Proofs.Ytmabopomecdidaa.Pr
open Go.RowKit Go.Proofs.YtmabopomecdidaaW.PrintWords Go.Proofs.YtmabopomecdidaaW.PrintLast Go.Proofs.YtmabopomecdidaaW.PrintMore
attribute [local go_sem] max2_int min2_int max_two min_two max_three min_three max_four min_four
set_option linter.unusedVariables false
set_option linter.unusedSimpArgs false
def slices_Index_int_int.l0 : Nat → List Int → Int → Int → Int → Option (Int)
 | 0, _, _, _, _ => none
 | k + 1, x0, x1, x7, x8 => if x8 < x7 then (if 0 ≤ x8 then (if x8 < (x0.length : Int) then (if x1 = (rd x0 x8) then (some x8) else (slices_Index_int_int.l0 k x0 x1 x7 (wrap64 (x8 + 1)))) else (none)) else (none)) else (some (-1))
def slices_Index_int_int.f (k : Nat) (l0 : List Int) (a1 : Int) : Option (Int) := slices_Index_int_int.l0 k l0 a1 (l0.length : Int) 0
set_option maxHeartbeats 8000000 in
set_option maxRecDepth 100000 in
theorem slices_Index_int_int.calls (k : Nat) (A0 : Option Addr) (c0 : Nat) (l0 : List Int) (a1 : Int) (r : Int) (w : World) (hr0 : Kd.C (Kd.int .i64) w A0 l0.length l0) (hc0 : l0.length ≤ c0) (h : slices_Index_int_int.f k l0 a1 = some r) :
  Calls Try.prog 132 #[.slice A0 l0.length c0, .int .i64 a1] w fun e w' => e = .returned (.int .i64 r) ∧ Drawn0 w w' := by
 have HR0 := Aside0.mk hr0
 have HC0 := Aside0.mk hc0
 clear hr0 hc0
 have H : (slices_Index_int_int.l0 k l0 a1 (l0.length : Int) 0) = some r := h
 clear h
 have H' := Aside0.mk H
 clear H
 go_enter Try.func132, Try.ntmps132
 go_wp2
 go_loopg [8] k (fun kq v8 w' => ∃ (x8_1 : Int), v8 = .int .i64 x8_1 ∧ Aside0 (slices_Index_int_int.l0 kq l0 a1 (l0.length : Int) x8_1 = some r) ∧ Aside0 (kq ≤ k) ∧ Drawn0 w w')
 case atStart => exact ⟨(0), (by first | rfl | (simp; done) | (simp [*]; done)), H', ⟨Nat.le_refl _⟩, by repeat (first | exact Drawn0.refl _ | apply Drawn0.step)⟩
 case round =>
  clear H'
  try clear c1
  try clear p2
  obtain ⟨x8_1, rfl, HA, HK1, ⟨m1, rfl⟩⟩ := hrel
  cases gk with
  | zero => exact absurd HA.out (by simp [slices_Index_int_int.l0])
  | succ k1 =>
   have H := HA.out
   clear HA
   simp only [slices_Index_int_int.l0] at H
   by_cases c3 : x8_1 < (l0.length : Int)
   ·rw [if_pos c3] at H
    have c3b0 : decide (x8_1 < (l0.length : Int)) = true := decide_eq_true c3
    clear c3
    by_cases c4 : 0 ≤ x8_1
    ·rw [if_pos c4] at H
     have c4b0 : decide (0 ≤ x8_1) = true := decide_eq_true c4
     clear c4
     by_cases c5 : x8_1 < (l0.length : Int)
     ·rw [if_pos c5] at H
      have c5b0 : decide (x8_1 < (l0.length : Int)) = true := decide_eq_true c5
      clear c5
      by_cases c6 : a1 = (rd l0 x8_1)
      ·rw [if_pos c6] at H
       have c6b0 : (a1 == (rd l0 x8_1)) = true := beq_iff_eq.mpr c6
       have c6b1 : (a1 != (rd l0 x8_1)) = false := bne_eq_false_iff_eq.mpr c6
       clear c6
       obtain rfl := Option.some.inj H
       have p294 : 0 ≤ (x8_1 : Int) := of_decide_eq_true (by first | (with_reducible assumption) | assumption)
       have q294 : x8_1 < (l0.length : Int) := of_decide_eq_true (by first | (with_reducible assumption) | assumption)
       obtain ⟨ad294, e294, hx294_0⟩ := Kd.at_int HR0.out x8_1 p294 q294
       cases e294
       replace p294 := eq_true p294
       replace q294 := eq_true q294
       go_wp2
       go_ret
       exact ⟨by first | rfl | (simp; done) | (simp [*]; done), by repeat (first | exact Drawn0.refl _ | apply Drawn0.step)⟩
      ·rw [if_neg c6] at H
       have c6b0 : (a1 == (rd l0 x8_1)) = false := beq_eq_false_iff_ne.mpr c6
       have c6b1 : (a1 != (rd l0 x8_1)) = true := bne_iff_ne.mpr c6
       have H' := Aside0.mk H
       clear H
       have p294 : 0 ≤ (x8_1 : Int) := of_decide_eq_true (by first | (with_reducible assumption) | assumption)
       have q294 : x8_1 < (l0.length : Int) := of_decide_eq_true (by first | (with_reducible assumption) | assumption)
       obtain ⟨ad294, e294, hx294_0⟩ := Kd.at_int HR0.out x8_1 p294 q294
       cases e294
       replace p294 := eq_true p294
       replace q294 := eq_true q294
       go_wp2
       go_roundg k1
       case measure => have := HK1.out; omega
       case rel => exact ⟨(wrap64 (x8_1 + 1)), (by first | rfl | (simp; done) | (simp [*]; done)), H', ⟨by have := HK1.out; omega⟩, by repeat (first | exact Drawn0.refl _ | apply Drawn0.step)⟩
     ·rw [if_neg c5] at H
      exact absurd H (by simp)
    ·rw [if_neg c4] at H
     exact absurd H (by simp)
   ·rw [if_neg c3] at H
    have c3b0 : decide (x8_1 < (l0.length : Int)) = false := decide_eq_false c3
    clear c3
    obtain rfl := Option.some.inj H
    go_wp2
    go_ret
    exact ⟨by first | rfl | (simp; done) | (simp [*]; done), by repeat (first | exact Drawn0.refl _ | apply Drawn0.step)⟩
end Go.Proofs.Ytmabopomecdidaa.Pr
end
section
namespace Go.Proofs.Ytmabopomecdidaa.Pr
open Go.RowKit Go.Proofs.YtmabopomecdidaaW.PrintWords Go.Proofs.YtmabopomecdidaaW.PrintLast Go.Proofs.YtmabopomecdidaaW.PrintMore
attribute [local go_sem] max2_int min2_int max_two min_two max_three min_three max_four min_four
set_option linter.unusedVariables false
set_option linter.unusedSimpArgs false
def slices_Contains_int_int.f (k : Nat) (l0 : List Int) (a1 : Int) : Option (Bool) := (slices_Index_int_int.f k l0 a1).bind fun t295 => (some (decide (t295 ≥ 0)))
set_option maxHeartbeats 8000000 in
set_option maxRecDepth 100000 in
theorem slices_Contains_int_int.calls (k : Nat) (A0 : Option Addr) (c0 : Nat) (l0 : List Int) (a1 : Int) (r : Bool) (w : World) (hr0 : Kd.C (Kd.int .i64) w A0 l0.length l0) (hc0 : l0.length ≤ c0) (h : slices_Contains_int_int.f k l0 a1 = some r) :
  Calls Try.prog 114 #[.slice A0 l0.length c0, .int .i64 a1] w fun e w' => e = .returned (.bool r) ∧ Drawn0 w w' := by
 have HR0 := Aside0.mk hr0
 have HC0 := Aside0.mk hc0
 clear hr0 hc0
 have H : ((slices_Index_int_int.f k l0 a1).bind fun t295 => (some (decide (t295 ≥ 0)))) = some r := h
 clear h
 replace H := Option.bind_eq_some_iff.mp H
 obtain ⟨t295, A30, H⟩ := H
 replace H : (some (decide (t295 ≥ 0))) = some r := H
 have A3 := Aside0.mk A30
 clear A30
 obtain rfl := Option.some.inj H
 go_enter Try.func114, Try.ntmps114
 go_wp2_with (first | ((with_reducible refine gate_callee (f := 132) rfl ?_); refine goesL_ (some 7) rfl rfl Try.func132 (by kernel_rfl) rfl #[.slice A0 l0.length c0, .int .i64 a1] rfl (by (try simp only [List.map_toArray, List.map_cons, List.map_nil]); first | done | rfl | (simp only [List.length_drop, List.length_take]; rfl)) ?_; (with_reducible refine (slices_Index_int_int.calls k _ _ l0 a1 t295 _ ?side1 ?side2 A3.out).mono ?_); (case side1 => repeat (first | exact HR0.out | (with_reducible refine Kd.C_alloc ?_ _) | (with_reducible refine Kd.C_drewN ?_ _) | (with_reducible refine Kd.C_drew ?_))); (case side2 => exact HC0.out); rintro e w' ⟨rfl, ⟨nd, rfl⟩⟩; refine ⟨_, rfl, ?_⟩))
 go_ret
 exact ⟨by first | rfl | (simp; done) | (simp [*]; done), by repeat (first | exact Drawn0.refl _ | apply Drawn0.step)⟩
end Go.Proofs.Ytmabopomecdidaa.Pr
end
section
namespace Go.Proofs.Ytmabopomecdidaa.Pr
open Go.RowKit Go.Proofs.YtmabopomecdidaaW.PrintWords Go.Proofs.YtmabopomecdidaaW.PrintLast Go.Proofs.YtmabopomecdidaaW.PrintMore
attribute [local go_sem] max2_int min2_int max_two min_two max_three min_three max_four min_four
set_option linter.unusedVariables false
set_option linter.unusedSimpArgs false
theorem idx_some (l : List Int) (v : Int) (hl : l.length ≤ 64) : ∀ (d j : Nat), j + d = l.length → ∀ k, d < k → ∃ t, slices_Index_int_int.l0 k l v (l.length : Int) (j : Int) = some t ∧ decide (t ≥ 0) = (l.drop j).contains v
 | 0, j, hj, k + 1, _ => by
  refine ⟨-1, ?_, ?_⟩
  ·unfold slices_Index_int_int.l0
   rw [if_neg (by omega)]
  ·rw [List.drop_of_length_le (by omega)]
   simp
 | d + 1, j, hj, k + 1, hk => by
  have hlt : j < l.length := by omega
  have hr : rd l (j : Int) = l[j] := by simp [rd, hlt]
  have hd : l.drop j = l[j] :: l.drop (j + 1) := List.drop_eq_getElem_cons hlt
  unfold slices_Index_int_int.l0
  rw [if_pos (by omega), if_pos (by omega), if_pos (by omega), hr]
  by_cases hv : v = l[j]
  ·rw [if_pos hv]
   refine ⟨_, rfl, ?_⟩
   rw [hd, List.contains_cons, hv]
   simp
  ·rw [if_neg hv]
   obtain ⟨t, h1, h2⟩ := idx_some l v hl d (j + 1) (by omega) k (by omega)
   refine ⟨t, ?_, ?_⟩
   ·rw [show wrap64 ((j : Int) + 1) = ((j + 1 : Nat) : Int) by unfold wrap64; omega]
    exact h1
   ·rw [h2, hd, List.contains_cons]
    simp [hv]
theorem contains_some (l : List Int) (v : Int) (hl : l.length ≤ 64) : slices_Contains_int_int.f 66 l v = some (l.contains v) := by
 obtain ⟨t, h1, h2⟩ := idx_some l v hl l.length 0 (by omega) 66 (by omega)
 unfold slices_Contains_int_int.f slices_Index_int_int.f
 rw [show ((0 : Nat) : Int) = 0 from rfl] at h1
 rw [h1]
 show some (decide (t ≥ 0)) = _
 rw [h2]; rfl
theorem contains_ok (l : List Int) (v : Int) (hl : l.length ≤ 64) (A : Option Addr) (c : Nat) (w : World) (hK : Kd.C (Kd.int .i64) w A l.length l) (hc : l.length ≤ c) :
  Calls Try.prog 114 #[.slice A l.length c, .int .i64 v] w fun e w' => e = .returned (.bool (l.contains v)) ∧ Drawn0 w w' :=
 slices_Contains_int_int.calls 66 A c l v _ w hK hc (contains_some l v hl)
set_option maxHeartbeats 4000000 in
set_option maxRecDepth 100000 in
theorem order_closure (a : S45) (v : Int) (g1 g2 : Nat) (l : List Int) (hl : l.length ≤ 64) (A : Option Addr) (c : Nat) (w : World) (h1 : w.heap[g1]? = some (.cells #[.int .i64 v] 3 (0, 0))) (h2 : w.heap[g2]? = some (.cells #[.slice A l.length c] 22 (0, 0))) (hK : Kd.C (Kd.int .i64) w A l.length l) (hc : l.length ≤ c) :
  Calls Try.prog 113 #[encA a, .pointer (some ⟨g1, 0, none⟩), .pointer (some ⟨g2, 0, none⟩)] w fun e w' => e = .returned (.bool (decide (a.f1 = v) && !l.contains a.f0)) ∧ Below w.heap.size w w' := by
 have c1 : w.cell? ⟨g1, 0, none⟩ = some (.int .i64 v) := (blk_cell h1 0).trans rfl
 have c2 : w.cell? ⟨g2, 0, none⟩ = some (.slice A l.length c) := (blk_cell h2 0).trans rfl
 have hcall := fun (W : World) (hB : Below w.heap.size w W) => contains_ok l a.f0 hl A c W (Kd.C_below hK hB) hc
 have hu := Try.underlying45
 have l1 := blk_lt h1
 have l2 := blk_lt h2
 clear h1 h2 hK
 generalize l.contains a.f0 = b at hcall
 unfold encA
 by_cases hv : a.f1 = v
 ·have d1 : decide (a.f1 = v) = true := decide_eq_true hv
  rw [d1]
  go_enter Try.func113, Try.ntmps113
  go_wp2_with (go_at_call 114; refine (hcall _ ?hB).mono ?_; (case hB => exact below_alloc (Below.refl _ _) _); rintro e w' ⟨rfl, ⟨nd, rfl⟩⟩)
  go_ret
  exact ⟨rfl, pw_below_drewN (below_alloc (Below.refl _ _) _) _⟩
 ·have d1 : decide (a.f1 = v) = false := decide_eq_false hv
  rw [d1]
  go_enter Try.func113, Try.ntmps113
  go_wp2
  go_ret
  exact ⟨rfl, below_alloc (Below.refl _ _) _⟩
def candB (l : List S45) (out : List Int) (v : Int) : Bool := !(out.contains v) && !(l.any fun a => decide (a.f1 = v) && !out.contains a.f0)
def lowN (c : Int → Bool) : Nat → Int → Int
 | 0, nx => nx
 | n + 1, nx => lowN c n (if c (n : Int) = true then (n : Int) else nx)
def ordF (l : List S45) (N : Nat) : Nat → List Int → List Int × Bool
 | 0, out => (out, true)
 | k + 1, out => if lowN (candB l out) N (-1) < 0 then ([], false) else ordF l N k (out ++ [lowN (candB l out) N (-1)])
def impl_Net_order.f (a0_0 : Int) (l0_1 : List S45) : Option (List Int × Bool) := if 0 ≤ a0_0 then if a0_0 ≤ 64 then some (ordF l0_1 a0_0.toNat a0_0.toNat []) else none else none
theorem lowN_lt (c : Int → Bool) : ∀ (n : Nat) (nx : Int), nx ≤ 64 → -1 ≤ nx → n ≤ 64 → lowN c n nx ≤ 64 ∧ -1 ≤ lowN c n nx
 | 0, nx, h, h1, _ => ⟨h, h1⟩
 | n + 1, nx, h, h1, hn => by
  unfold lowN
  split
  ·exact lowN_lt c n _ (by omega) (by omega) (by omega)
  ·exact lowN_lt c n _ h h1 (by omega)
def OSt (w W : World) (gN g2 : Nat) (a0 : Int) (AV : Value) (out : List Int) (ok : Nat → Prop) : Prop :=
 W.heap[gN]? = some (.cells #[.int .i64 a0, AV] 38 (0, 0)) ∧ (∃ A c, W.heap[g2]? = some (.cells #[.slice A out.length c] 22 (0, 0)) ∧ Kd.R (Kd.int .i64) 3 W w.heap.size (fun k => ok k) (.slice A out.length c) out) ∧ Below w.heap.size w W ∧ w.heap.size ≤ gN ∧ w.heap.size ≤ g2
theorem OSt.below {w W W1 : World} {gN g2 : Nat} {a0 : Int} {AV : Value} {out : List Int} {ok : Nat → Prop} (h : OSt w W gN g2 a0 AV out ok) (hb : Below W.heap.size W W1) : OSt w W1 gN g2 a0 AV out ok := by
 obtain ⟨h1, ⟨A, c, h2, h3⟩, h4, h5, h6⟩ := h
 exact ⟨blk_below h1 hb, ⟨A, c, blk_below h2 hb, Kd.R_below h3 hb⟩, below_step h4 hb, h5, h6⟩
def St (w W : World) (gN g2 : Nat) (a0 : Int) (AV : Value) (out : List Int) (gv : Nat) (v : Int) : Prop :=
 OSt w W gN g2 a0 AV out (fun k => k ≠ gv) ∧ W.heap[gv]? = some (.cells #[.int .i64 v] 3 (0, 0)) ∧ w.heap.size ≤ gv
theorem OSt.box {w W W1 : World} {gN g2 : Nat} {a0 : Int} {AV : Value} {out : List Int} {ok : Nat → Prop} (h : OSt w W gN g2 a0 AV out ok) {g : Nat} (hg : g = W.heap.size) {v : Int} (hbox : W1.heap[g]? = some (.cells #[.int .i64 v] 3 (0, 0))) (hb : Below W.heap.size W W1) : St w W1 gN g2 a0 AV out g v := by
 obtain ⟨h1, ⟨A, c, h2, h3⟩, h4, h5, h6⟩ := h
 subst hg
 exact ⟨⟨blk_below h1 hb, ⟨A, c, blk_below h2 hb, Kd.R_mono (Kd.R_below (Kd.R_elderB h3 _ (Nat.le_refl _)) hb) (fun k hk => hk.2)⟩, below_step h4 hb, h5, h6⟩, hbox, below_size h4⟩
theorem St.below {w W W1 : World} {gN g2 : Nat} {a0 : Int} {AV : Value} {out : List Int} {gv : Nat} {v : Int} (h : St w W gN g2 a0 AV out gv v) (hb : Below W.heap.size W W1) : St w W1 gN g2 a0 AV out gv v :=
 ⟨h.1.below hb, blk_below h.2.1 hb, h.2.2⟩
theorem St.put {w W W1 : World} {gN g2 : Nat} {a0 : Int} {AV : Value} {out : List Int} {gv : Nat} {v v' : Int} (h : St w W gN g2 a0 AV out gv v) (hh : W1.heap[gv]? = some (.cells #[.int .i64 v'] 3 (0, 0))) (hg : W.grownBy W1 (some gv)) : St w W1 gN g2 a0 AV out gv v' := by
 obtain ⟨⟨h1, ⟨A, c, h2, h3⟩, h4, h5, h6⟩, h7, h8⟩ := h
 have e1 : some gN ≠ some gv := fun e => by
  injection e with e
  subst e
  rw [h1] at h7
  simp at h7
 have e2 : some g2 ≠ some gv := fun e => by
  injection e with e
  subst e
  rw [h2] at h7
  simp at h7
 exact ⟨⟨blk_grown h1 hg e1, ⟨A, c, blk_grown h2 hg e2, Kd.R_grown h3 hg (fun k hk e => hk (Option.some.inj e))⟩, pw_below_grown h4 _ (below_size h4) hg (fun k hk => by obtain rfl := Option.some.inj hk; exact h8), h5, h6⟩, hh, h8⟩
theorem St.mv {w W W1 : World} {gN g2 : Nat} {a0 : Int} {AV : Value} {out : List Int} {gv : Nat} {v : Int} (h : St w W gN g2 a0 AV out gv v) {g : Nat} (hg : g = W.heap.size) {x : Int} (hbox : W1.heap[g]? = some (.cells #[.int .i64 x] 3 (0, 0))) (hb : Below W.heap.size W W1) : St w W1 gN g2 a0 AV out g x := h.1.box hg hbox hb
theorem OSt.push {w W1 W2 : World} {gN g2 : Nat} {a0 : Int} {AV : Value} (h5 : w.heap.size ≤ gN) (h6 : w.heap.size ≤ g2) {v : Value} {out1 : List Int} {ok1 : Nat → Prop} (hr : Kd.R (Kd.int .i64) 3 W1 w.heap.size ok1 v out1) (hb : Below w.heap.size w W1) (h1 : W1.heap[gN]? = some (.cells #[.int .i64 a0, AV] 38 (0, 0))) {u : Value} (hu : W1.heap[g2]? = some (.cells #[u] 22 (0, 0))) (h2 : W2.heap[g2]? = some (.cells #[v] 22 (0, 0))) (hg : W1.grownBy W2 (some g2)) : OSt w W2 gN g2 a0 AV out1 (fun _ => True) := by
 have e1 : some gN ≠ some g2 := fun e => by
  injection e with e
  subst e
  rw [h1] at hu
  simp at hu
 obtain ⟨r0, inner, ro, rr⟩ := hr
 have ha : ∃ A c, v = .slice A out1.length c := by
  rcases ro.2 with ⟨hv, hn⟩ | ⟨g, cap, cur, hv, _⟩
  ·exact ⟨none, 0, by rw [hn]; exact hv⟩
  ·exact ⟨_, _, hv⟩
 have hr : Kd.R (Kd.int .i64) 3 W1 w.heap.size ok1 v out1 := ⟨r0, inner, ro, rr⟩
 have hr2 : Kd.R (Kd.int .i64) 3 W2 w.heap.size (fun k => ok1 k ∧ k ≠ g2) v out1 := by
  refine Kd.R_grown (Kd.R_types hr hu (fun q hq => ?_)) hg (fun k hk e => hk.2 (Option.some.inj e))
  rcases List.mem_cons.1 hq with rfl | hq
  ·decide
  ·cases hq
 obtain ⟨A, c, rfl⟩ := ha
 exact ⟨blk_grown h1 hg e1, ⟨A, c, h2, Kd.R_mono hr2 (fun _ _ => trivial)⟩, pw_below_grown hb _ (below_size hb) hg (fun k hk => by obtain rfl := Option.some.inj hk; exact h6), h5, h6⟩
theorem R_shape {w : World} {base : Nat} {ok : Nat → Prop} {v : Value} {xs : List Int} (h : Kd.R (Kd.int .i64) 3 w base ok v xs) : ∃ A c, v = .slice A xs.length c := by
 obtain ⟨r0, inner, ro, rr⟩ := h
 rcases ro.2 with ⟨hv, hn⟩ | ⟨g, cap, cur, hv, _⟩
 ·exact ⟨none, 0, by rw [hn]; exact hv⟩
 ·exact ⟨_, _, hv⟩
set_option maxHeartbeats 4000000 in
set_option maxRecDepth 100000 in
theorem order_walk (N : Nat) (hN : N ≤ 64) (A0 : Option Addr) (c0 : Nat) (l0 : List S45) (w : World) (hr0 : Kd.C k45 w A0 l0.length l0) (hc0 : l0.length ≤ c0) :
  Calls Try.prog 68 #[.agg #[.int .i64 (N : Int), .slice A0 l0.length c0]] w fun e w' => ∃ v0_ : Value, e = .returned (.tuple #[v0_, .bool (ordF l0 N N []).2]) ∧ Kd.R (Kd.int .i64) 3 w' w.heap.size (fun _ => True) v0_ (ordF l0 N N []).1 ∧ Below w.heap.size w w' := by
 have hu := Try.underlying38
 obtain ⟨RR, hRR⟩ : ∃ r, ordF l0 N N [] = r := ⟨_, rfl⟩
 rw [hRR]
 have HRR := Aside0.mk hRR
 have HR0 := Aside0.mk hr0
 have HC0 := Aside0.mk hc0
 have HN := Aside0.mk hN
 clear hRR hr0 hc0 hN
 go_enter Try.func68, Try.ntmps68
 go_wp2_with (first
  | ((with_reducible refine gate_dst (N := 1) rfl ?_); refine box_event ?hg (N := 1) ?hd (cs := #[.int .i64 (N : Int), .slice A0 l0.length c0]) (t := 38) ?hr ?_; (case hd => rfl); (case hg => rfl); (case hr => first | (go_simp; done) | (go_simp; rfl)); intro gN hgN w1 hbox hb; have P1 := Aside0.mk hbox; have P2 := Aside0.mk hb; have P3 := Aside0.mk (show w.heap.size ≤ gN by rw [hgN]; exact Nat.le_refl _); have q1 : w1.cell? ⟨gN, 0, none⟩ = some (.int .i64 (N : Int)) := (blk_cell hbox 0).trans rfl; clear hbox hb hgN)
  | ((with_reducible refine gate_dst (N := 10) rfl ?_); refine Kd.R_make0 (Kd.int .i64) (w0 := w) w.heap.size 3 rfl rfl 22 (.const (.int .i64 0)) (.tmp 9) rfl (N : Int) rfl rfl Try.underlying22 (.int .i64 0) 8 info3 rfl (by decide) (by decide) (0 : Int) (ok := fun _ => True) (okp := fun _ => False) rfl (fun _ hk => hk.elim) trivial (by omega) (by have := HN.out; omega) P2.out (below_size P2.out) ?_; intro v1 w2 hR hB hG hO; obtain ⟨A1, c1, rfl⟩ := R_shape hR; have P4 := Aside0.mk hR; have P5 := Aside0.mk hB; have P6 := Aside0.mk (blk_grown P1.out hG (by simp)); clear q1 P1 P2 hR hB hG hO)
  | ((with_reducible refine gate_dst (N := 4) rfl ?_); refine box_event ?hg (N := 4) ?hd (cs := #[.slice none 0 0]) (t := 22) ?hr ?_; (case hd => rfl); (case hg => rfl); (case hr => first | (go_simp; done) | (go_simp; rfl)); intro g2 hg2 w3 hbox hb; have P7 := Aside0.mk hbox; have P8 := Aside0.mk (below_step P5.out hb); have P9 := Aside0.mk (show w.heap.size ≤ g2 by rw [hg2]; exact below_size P5.out); have P10 := Aside0.mk (blk_below P6.out hb); have P11 := Aside0.mk (Kd.R_below P4.out hb); clear P4 P5 P6 hbox hb hg2)
  | ((with_reducible refine gate_store (t := 22) (p := 4) (v := .tmp 10) rfl ?_); refine put_event rfl rfl rfl P7.out 0 #[.slice A1 ([] : List Int).length c1] (.slice A1 ([] : List Int).length c1) [.slice A1 ([] : List Int).length c1] (by first | rfl | (go_simp; done) | (go_simp; rfl)) (by first | rfl | (go_simp; done) | (go_simp; rfl)) rfl (by kernel_rfl) (by simp) (by simp [Value.oneCell']) rfl ?_; intro w4 hc hg; have S0 := Aside0.mk (OSt.push P3.out P9.out P11.out P8.out P10.out P7.out hc hg); clear hc hg P7 P8 P10 P11; have q4 : w4.cell? ⟨gN, 0, none⟩ = some (.int .i64 (N : Int)) := (blk_cell S0.out.1 0).trans rfl))
 clear q4
 go_loopg [13] N (fun gg s13 wr => ∃ (i : Nat) (out : List Int), s13 = .int .i64 (i : Int) ∧ Aside0 (i ≤ N) ∧ Aside0 (N - i ≤ gg) ∧ Aside0 (OSt w wr gN g2 (N : Int) (.slice A0 l0.length c0) out (fun _ => True)) ∧ Aside0 (out.length = i) ∧ Aside0 (ordF l0 N (N - i) out = RR))
 case atStart => exact ⟨0, [], rfl, ⟨by omega⟩, ⟨by omega⟩, S0, ⟨rfl⟩, HRR⟩
 case round =>
  clear S0 HRR
  obtain ⟨i, out, rfl, I0, I1, S1, L1, R1⟩ := hrel
  by_cases hi : i < N
  ·have c1 : decide ((i : Int) < (N : Int)) = true := decide_eq_true (by omega)
   have c2 : decide (i < N) = true := decide_eq_true hi
   have hR := R1.out
   obtain ⟨m, hm⟩ : ∃ m, N - i = m + 1 := ⟨N - i - 1, by omega⟩
   rw [hm] at hR
   unfold ordF at hR
   obtain ⟨NX, hNX⟩ : ∃ x, lowN (candB l0 out) N (-1) = x := ⟨_, rfl⟩
   rw [hNX] at hR
   have R2 := Aside0.mk hR
   have M1 := Aside0.mk hm
   have HNX := Aside0.mk hNX
   have HI := Aside0.mk hi
   have q5 : wr.cell? ⟨gN, 0, none⟩ = some (.int .i64 (N : Int)) := (blk_cell S1.out.1 0).trans rfl
   have hw : wrap64 ((N : Int) - 1) = (N : Int) - 1 := by have := HN.out; unfold wrap64; omega
   clear hR hm hNX hi R1
   go_wp2_with (first
    | ((with_reducible refine gate_dst (N := 6) rfl ?_); refine box_event ?hg (N := 6) ?hd (cs := #[.int .i64 0]) (t := 3) ?hr ?_; (case hd => rfl); (case hg => rfl); (case hr => first | (go_simp; done) | (go_simp; rfl)); intro gv hgv w5 hbox hb; have S2 := Aside0.mk (OSt.box S1.out hgv hbox hb); clear q5 S1 hbox hb hgv)
    | ((with_reducible refine gate_store (t := 3) (p := 6) (v := .tmp 17) rfl ?_); refine put_event rfl rfl rfl S2.out.2.1 0 #[.int .i64 ((N : Int) - 1)] (.int .i64 ((N : Int) - 1)) [.int .i64 ((N : Int) - 1)] (by first | rfl | (go_simp; done) | (go_simp; rfl)) (by rw [← hw]; first | rfl | (go_simp; done) | (go_simp; rfl)) rfl (by kernel_rfl) (by simp) (by simp [Value.oneCell']) rfl ?_; intro w6 hc hg; have S3 := Aside0.mk (St.put S2.out hc hg); clear S2 hc hg))
   have M2 : Aside0 (-1 ≤ NX ∧ NX ≤ 64) := ⟨by have h := lowN_lt (candB l0 out) N (-1) (by omega) (by omega) HN.out; rw [HNX.out] at h; exact ⟨h.2, h.1⟩⟩
   go_simp
   go_loopg [5, 6] N (fun gg s5 s6 wr => ∃ (n : Nat) (nx : Int) (gv : Nat), s5 = .int .i64 nx ∧ s6 = .pointer (some ⟨gv, 0, none⟩) ∧ Aside0 (n ≤ N) ∧ Aside0 (n ≤ gg) ∧ Aside0 (St w wr gN g2 (N : Int) (.slice A0 l0.length c0) out gv ((n : Int) - 1)) ∧ Aside0 (lowN (candB l0 out) n nx = NX))
   case atStart => exact ⟨N, -1, gv, rfl, rfl, ⟨Nat.le_refl _⟩, ⟨Nat.le_refl _⟩, S3, HNX⟩
   case round =>
    clear S3 HNX
    obtain ⟨n, nx, gu, rfl, rfl, J0, J1, S4, J2⟩ := hrel
    rcases n with _ | n
    ·obtain rfl : nx = NX := J2.out
     obtain ⟨⟨b1, ⟨A, c, b2, b3⟩, b4, _, _⟩, b5, b6⟩ := S4.out
     have q6 : wr.cell? ⟨gu, 0, none⟩ = some (.int .i64 (-1)) := (blk_cell b5 0).trans rfl
     have q7 : wr.cell? ⟨g2, 0, none⟩ = some (.slice A out.length c) := (blk_cell b2 0).trans rfl
     have B1 := Aside0.mk b1
     have B2 := Aside0.mk b2
     have B3 := Aside0.mk b3
     have B4 := Aside0.mk b4
     have B5 := Aside0.mk b5
     clear b1 b2 b3 b4 b5 b6 S4 J0 J1 J2
     by_cases hneg : nx < 0
     ·have d1 : decide (nx < 0) = true := decide_eq_true hneg
      have hRR : ([], false) = RR := by have := R2.out; rwa [if_pos hneg] at this
      subst hRR
      clear hneg R2
      go_wp2
      go_ret2
      exact ⟨_, rfl, Kd.R_nil _ _ _ _ _, B4.out⟩
     ·have d1 : decide (nx < 0) = false := decide_eq_false hneg
      have hRR : ordF l0 N m (out ++ [nx]) = RR := by have := R2.out; rwa [if_neg hneg] at this
      have R3 := Aside0.mk hRR
      have hw2 : wrap64 ((i : Int) + 1) = ((i + 1 : Nat) : Int) := by have h1 := HN.out; have h2 := HI.out; unfold wrap64; omega
      clear hneg R2 hRR
      go_wp2_with (first
       | ((with_reducible refine gate_builtin (b := .append) (xs := #[.tmp 38, .tmp 40]) rfl ?_); at_builtin; refine Kd.R_append (Kd.int .i64) (w0 := w) w.heap.size rfl (.tmp 38) (.tmp 40) 22 3 (.int .i64 0) 8 rfl Try.underlying22 info3 rfl (by decide) (by omega) (.slice A out.length c) out nx [.int .i64 nx] (fun k => k ≠ gu) (fun _ => False) rfl rfl ?aP (fun _ hk => hk.elim) ?aF B3.out B4.out ?aS ?aL ?_; (case aP => exact rfl); (case aF => intro k hk e; subst e; exact absurd (blk_lt B5.out) (by omega)); (case aS => exact below_size B4.out); (case aL => have h1 := HN.out; have h2 := HI.out; have h3 := L1.out; omega); intro v7 w7 ho hb hg hat; obtain ⟨A7, c7, rfl⟩ := R_shape ho; have D1 := Aside0.mk (blk_grown B1.out hg (Kd.R_ne B3.out B1.out (by decide))); have D2 := Aside0.mk (blk_grown B2.out hg (Kd.R_ne B3.out B2.out (by decide))); have D3 := Aside0.mk ho; have D4 := Aside0.mk hb; clear q6 q7 ho hb hg hat)
       | ((with_reducible refine gate_store (t := 22) (p := 4) (v := .tmp 41) rfl ?_); refine put_event rfl rfl rfl D2.out 0 #[.slice A7 (out ++ [nx]).length c7] (.slice A7 (out ++ [nx]).length c7) [.slice A7 (out ++ [nx]).length c7] (by first | rfl | (go_simp; done) | (go_simp; rfl)) (by first | rfl | (go_simp; done) | (go_simp; rfl)) rfl (by kernel_rfl) (by simp) (by simp [Value.oneCell']) rfl ?_; intro w8 hc hg; have S8 := Aside0.mk (OSt.push P3.out P9.out D3.out D4.out D1.out D2.out hc hg); clear hc hg D1 D2 D3 D4))
      have hi2 := HI.out
      have hm2 := M1.out
      go_roundg (N - (i + 1))
      case measure => have := I1.out; omega
      case rel => exact ⟨i + 1, out ++ [nx], by first | rfl | (rw [hw2]; done) | (simp [hw2]; done), ⟨by omega⟩, ⟨Nat.le_refl _⟩, S8, ⟨by rw [List.length_append, L1.out]; rfl⟩, ⟨by rw [show N - (i + 1) = m by omega]; exact R3.out⟩⟩
    ·have J3 := J2.out
     unfold lowN at J3
     have J4 := Aside0.mk J3
     obtain ⟨⟨b1, ⟨A, c, b2, b3⟩, b4, _, _⟩, b5, b6⟩ := S4.out
     have hv : ((n + 1 : Nat) : Int) - 1 = (n : Int) := by omega
     have S5 := S4.out
     rw [hv] at b5 S5
     have S6 := Aside0.mk S5
     have q6 : wr.cell? ⟨gu, 0, none⟩ = some (.int .i64 (n : Int)) := (blk_cell b5 0).trans rfl
     have q7 : wr.cell? ⟨g2, 0, none⟩ = some (.slice A out.length c) := (blk_cell b2 0).trans rfl
     have q8 : wr.cell? ⟨gN, 1, none⟩ = some (.slice A0 l0.length c0) := (blk_cell b1 1).trans rfl
     obtain ⟨_, e2, e3⟩ := Kd.R_reads' b3
     have hl : out.length ≤ 64 := by have h1 := HN.out; have h2 := HI.out; have h3 := L1.out; omega
     have hcon := (contains_ok out (n : Int) hl A c wr e3 e2).mono (R' := fun e w' => e = .returned (.bool (out.contains (n : Int))) ∧ Below wr.heap.size wr w') (fun e w' h => ⟨h.1, by obtain ⟨nd, rfl⟩ := h.2; exact pw_below_drewN (Below.refl _ _) nd⟩)
     have hfun := fun (W : World) (hB : Below wr.heap.size wr W) => slices_ContainsFunc_Arc.calls (fun a => decide (a.f1 = (n : Int)) && !out.contains a.f0) 113 #[.pointer (some ⟨gu, 0, none⟩), .pointer (some ⟨g2, 0, none⟩)] (enters_of Try.func113 (by kernel_rfl) rfl) A0 c0 l0 W (Kd.C_below (Kd.C_below HR0.out b4) hB) HC0.out (fun W1 x _ hB1 => order_closure x (n : Int) gu g2 out hl A c W1 (blk_below (blk_below b5 hB) hB1) (blk_below (blk_below b2 hB) hB1) (Kd.C_below (Kd.C_below e3 hB) hB1) e2)
     have hcand : candB l0 out (n : Int) = (!(out.contains (n : Int)) && !(l0.any fun a => decide (a.f1 = (n : Int)) && !out.contains a.f0)) := rfl
     generalize hb1 : out.contains (n : Int) = x1 at hcon hcand
     generalize hb2 : (l0.any fun a => decide (a.f1 = (n : Int)) && !out.contains a.f0) = x2 at hfun hcand
     have HF := Aside0.mk hfun
     have HC := Aside0.mk hcon
     have HCA := Aside0.mk hcand
     have d0 : decide ((n : Int) ≥ 0) = true := decide_eq_true (by omega)
     have hw3 : wrap64 ((n : Int) - 1) = (n : Int) - 1 := by have h1 := HN.out; have h2 := J0.out; unfold wrap64; omega
     have HW3 := Aside0.mk hw3
     clear b1 b2 b3 b4 b5 b6 S4 S5 J2 J3 hv e2 e3 hl hcon hfun hcand hb1 hb2 hw3
     cases x1
     ·cases x2
      ·go_wp2_with (first
        | (go_at_call 114; refine HC.out.mono ?_; rintro e w5 ⟨rfl, hb5⟩; have SY := Aside0.mk (S6.out.below hb5); have HF5 := Aside0.mk (HF.out _ hb5); clear q6 q7 q8 hb5; have q8 : w5.cell? ⟨gN, 1, none⟩ = some (.slice A0 l0.length c0) := (blk_cell SY.out.1.1 1).trans rfl)
        | (go_at_call 110; refine HF5.out.mono ?_; rintro e w6 ⟨rfl, hb'⟩; have SX := Aside0.mk (SY.out.below hb'); clear q8 hb'; have q6 : w6.cell? ⟨gu, 0, none⟩ = some (.int .i64 (n : Int)) := (blk_cell SX.out.2.1 0).trans rfl)
        | ((with_reducible refine gate_dst (N := 6) rfl ?_); refine box_event ?hg (N := 6) ?hd (cs := #[.int .i64 0]) (t := 3) ?hr ?_; (case hd => rfl); (case hg => rfl); (case hr => first | (go_simp; done) | (go_simp; rfl)); intro gx hgx w7 hbox hb; have T1 := Aside0.mk (St.mv SX.out hgx hbox hb); clear hbox hb hgx)
        | ((with_reducible refine gate_store (t := 3) (p := 6) (v := .tmp 35) rfl ?_); refine put_event rfl rfl rfl T1.out.2.1 0 #[.int .i64 (n : Int)] (.int .i64 (n : Int)) [.int .i64 (n : Int)] (by first | rfl | (go_simp; done) | (go_simp; rfl)) (by first | rfl | (go_simp; done) | (go_simp; rfl)) rfl (by kernel_rfl) (by simp) (by simp [Value.oneCell']) rfl ?_; intro w8 hc hg; have T2 := Aside0.mk (St.put T1.out hc hg); clear hc hg T1; have q9 : w8.cell? ⟨gx, 0, none⟩ = some (.int .i64 (n : Int)) := (blk_cell T2.out.2.1 0).trans rfl)
        | ((with_reducible refine gate_store (t := 3) (p := 6) (v := .tmp 21) rfl ?_); refine put_event rfl rfl rfl T2.out.2.1 0 #[.int .i64 (wrap64 ((n : Int) - 1))] (.int .i64 (wrap64 ((n : Int) - 1))) [.int .i64 (wrap64 ((n : Int) - 1))] (by first | rfl | (go_simp; done) | (go_simp; rfl)) (by first | rfl | (go_simp; done) | (go_simp; rfl)) rfl (by kernel_rfl) (by simp) (by simp [Value.oneCell']) rfl ?_; clear q9; intro w9 hc hg; have T3 := Aside0.mk (St.put T2.out hc hg); clear hc hg T2))
       go_roundg n
       case measure => have := J1.out; omega
       case rel => exact ⟨n, n, gx, rfl, rfl, ⟨by have := J0.out; omega⟩, ⟨Nat.le_refl _⟩, ⟨by have h := T3.out; rw [HW3.out] at h; exact h⟩, ⟨by have h := J4.out; rw [HCA.out] at h; exact h⟩⟩
      ·go_wp2_with (first
        | (go_at_call 114; refine HC.out.mono ?_; rintro e w5 ⟨rfl, hb5⟩; have SY := Aside0.mk (S6.out.below hb5); have HF5 := Aside0.mk (HF.out _ hb5); clear q6 q7 q8 hb5; have q8 : w5.cell? ⟨gN, 1, none⟩ = some (.slice A0 l0.length c0) := (blk_cell SY.out.1.1 1).trans rfl)
        | (go_at_call 110; refine HF5.out.mono ?_; rintro e w6 ⟨rfl, hb'⟩; have SX := Aside0.mk (SY.out.below hb'); clear q8 hb'; have q6 : w6.cell? ⟨gu, 0, none⟩ = some (.int .i64 (n : Int)) := (blk_cell SX.out.2.1 0).trans rfl)
        | ((with_reducible refine gate_dst (N := 6) rfl ?_); refine box_event ?hg (N := 6) ?hd (cs := #[.int .i64 0]) (t := 3) ?hr ?_; (case hd => rfl); (case hg => rfl); (case hr => first | (go_simp; done) | (go_simp; rfl)); intro gx hgx w7 hbox hb; have T1 := Aside0.mk (St.mv SX.out hgx hbox hb); clear hbox hb hgx)
        | ((with_reducible refine gate_store (t := 3) (p := 6) (v := .tmp 35) rfl ?_); refine put_event rfl rfl rfl T1.out.2.1 0 #[.int .i64 (n : Int)] (.int .i64 (n : Int)) [.int .i64 (n : Int)] (by first | rfl | (go_simp; done) | (go_simp; rfl)) (by first | rfl | (go_simp; done) | (go_simp; rfl)) rfl (by kernel_rfl) (by simp) (by simp [Value.oneCell']) rfl ?_; intro w8 hc hg; have T2 := Aside0.mk (St.put T1.out hc hg); clear hc hg T1; have q9 : w8.cell? ⟨gx, 0, none⟩ = some (.int .i64 (n : Int)) := (blk_cell T2.out.2.1 0).trans rfl)
        | ((with_reducible refine gate_store (t := 3) (p := 6) (v := .tmp 21) rfl ?_); refine put_event rfl rfl rfl T2.out.2.1 0 #[.int .i64 (wrap64 ((n : Int) - 1))] (.int .i64 (wrap64 ((n : Int) - 1))) [.int .i64 (wrap64 ((n : Int) - 1))] (by first | rfl | (go_simp; done) | (go_simp; rfl)) (by first | rfl | (go_simp; done) | (go_simp; rfl)) rfl (by kernel_rfl) (by simp) (by simp [Value.oneCell']) rfl ?_; clear q9; intro w9 hc hg; have T3 := Aside0.mk (St.put T2.out hc hg); clear hc hg T2))
       go_roundg n
       case measure => have := J1.out; omega
       case rel => exact ⟨n, nx, gx, rfl, rfl, ⟨by have := J0.out; omega⟩, ⟨Nat.le_refl _⟩, ⟨by have h := T3.out; rw [HW3.out] at h; exact h⟩, ⟨by have h := J4.out; rw [HCA.out] at h; exact h⟩⟩
     ·go_wp2_with (first
       | (go_at_call 114; refine HC.out.mono ?_; rintro e w5 ⟨rfl, hb5⟩; have SX := Aside0.mk (S6.out.below hb5); clear q6 q7 q8 hb5; have q6 : w5.cell? ⟨gu, 0, none⟩ = some (.int .i64 (n : Int)) := (blk_cell SX.out.2.1 0).trans rfl)
       | ((with_reducible refine gate_dst (N := 6) rfl ?_); refine box_event ?hg (N := 6) ?hd (cs := #[.int .i64 0]) (t := 3) ?hr ?_; (case hd => rfl); (case hg => rfl); (case hr => first | (go_simp; done) | (go_simp; rfl)); intro gx hgx w7 hbox hb; have T1 := Aside0.mk (St.mv SX.out hgx hbox hb); clear hbox hb hgx)
       | ((with_reducible refine gate_store (t := 3) (p := 6) (v := .tmp 35) rfl ?_); refine put_event rfl rfl rfl T1.out.2.1 0 #[.int .i64 (n : Int)] (.int .i64 (n : Int)) [.int .i64 (n : Int)] (by first | rfl | (go_simp; done) | (go_simp; rfl)) (by first | rfl | (go_simp; done) | (go_simp; rfl)) rfl (by kernel_rfl) (by simp) (by simp [Value.oneCell']) rfl ?_; intro w8 hc hg; have T2 := Aside0.mk (St.put T1.out hc hg); clear hc hg T1; have q9 : w8.cell? ⟨gx, 0, none⟩ = some (.int .i64 (n : Int)) := (blk_cell T2.out.2.1 0).trans rfl)
       | ((with_reducible refine gate_store (t := 3) (p := 6) (v := .tmp 21) rfl ?_); refine put_event rfl rfl rfl T2.out.2.1 0 #[.int .i64 (wrap64 ((n : Int) - 1))] (.int .i64 (wrap64 ((n : Int) - 1))) [.int .i64 (wrap64 ((n : Int) - 1))] (by first | rfl | (go_simp; done) | (go_simp; rfl)) (by first | rfl | (go_simp; done) | (go_simp; rfl)) rfl (by kernel_rfl) (by simp) (by simp [Value.oneCell']) rfl ?_; clear q9; intro w9 hc hg; have T3 := Aside0.mk (St.put T2.out hc hg); clear hc hg T2))
      go_roundg n
      case measure => have := J1.out; omega
      case rel => exact ⟨n, nx, gx, rfl, rfl, ⟨by have := J0.out; omega⟩, ⟨Nat.le_refl _⟩, ⟨by have h := T3.out; rw [HW3.out] at h; exact h⟩, ⟨by have h := J4.out; rw [HCA.out] at h; exact h⟩⟩
  ·have c1 : decide ((i : Int) < (N : Int)) = false := decide_eq_false (by omega)
   have c2 : decide (i < N) = false := decide_eq_false hi
   have hiN : i = N := by have := I0.out; omega
   subst hiN
   have c3 : decide (i < i) = false := decide_eq_false (by omega)
   have hRR : (out, true) = RR := by have := R1.out; rwa [Nat.sub_self] at this
   subst hRR
   obtain ⟨b1, ⟨A, c, b2, b3⟩, b4, _, _⟩ := S1.out
   have q7 : wr.cell? ⟨g2, 0, none⟩ = some (.slice A out.length c) := (blk_cell b2 0).trans rfl
   have B3 := Aside0.mk b3
   have B4 := Aside0.mk b4
   clear b1 b2 b3 b4 S1 R1 hi I0 I1
   go_wp2
   go_ret2
   exact ⟨_, rfl, Kd.R_mono B3.out (fun _ _ => trivial), B4.out⟩
set_option maxHeartbeats 4000000 in
set_option maxRecDepth 100000 in
theorem impl_Net_order.calls (a0_0 : Int) (A0_1 : Option Addr) (c0_1 : Nat) (l0_1 : List S45) (r1 : List Int) (r2 : Bool) (w : World) (hr0_1 : Kd.C k45 w A0_1 l0_1.length l0_1) (hc0_1 : l0_1.length ≤ c0_1) (h : impl_Net_order.f a0_0 l0_1 = some (r1, r2)) :
  Calls Try.prog 68 #[.agg #[.int .i64 a0_0, .slice A0_1 l0_1.length c0_1]] w fun e w' => ∃ v0_ : Value, e = .returned (.tuple #[v0_, .bool r2]) ∧ Kd.R (Kd.int .i64) 3 w' w.heap.size (fun _ => True) v0_ r1 ∧ Below w.heap.size w w' := by
 unfold impl_Net_order.f at h
 by_cases h1 : 0 ≤ a0_0
 ·rw [if_pos h1] at h
  by_cases h2 : a0_0 ≤ 64
  ·rw [if_pos h2] at h
   obtain ⟨N, rfl⟩ := Int.eq_ofNat_of_zero_le h1
   have hw := order_walk N (by omega) A0_1 c0_1 l0_1 w hr0_1 hc0_1
   have he := Option.some.inj h
   rw [Int.toNat_natCast] at he
   rw [he] at hw
   exact hw
  ·rw [if_neg h2] at h; cases h
 ·rw [if_neg h1] at h; cases h
end Go.Proofs.Ytmabopomecdidaa.Pr
end
section
namespace Go.Proofs.Ytmabopomecdidaa.Pr
open Go.RowKit Go.Proofs.YtmabopomecdidaaW.PrintWords Go.Proofs.YtmabopomecdidaaW.PrintLast Go.Proofs.YtmabopomecdidaaW.PrintMore
attribute [local go_sem] max2_int min2_int max_two min_two max_three min_three max_four min_four
set_option linter.unusedVariables false
set_option linter.unusedSimpArgs false
def impl_RingOrder.f (a0_0 : Int) (l0_1 : List (S45)) : Option (List Int × Bool) := (impl_NetOk.f a0_0 l0_1).bind fun t297 => (if t297 = true then ((impl_Net_order.f a0_0 l0_1).bind fun bt298 => (some (bt298.1, bt298.2))) else (some (([] : List Int), false)))
set_option maxHeartbeats 8000000 in
set_option maxRecDepth 100000 in
theorem impl_RingOrder.calls (a0_0 : Int) (A0_1 : Option Addr) (c0_1 : Nat) (l0_1 : List (S45)) (r1 : List Int) (r2 : Bool) (w : World) (hr0_1 : Kd.C k45 w A0_1 l0_1.length l0_1) (hc0_1 : l0_1.length ≤ c0_1) (h : impl_RingOrder.f a0_0 l0_1 = some (r1, r2)) :
  Calls Try.prog 24 #[.agg #[.int .i64 a0_0, .slice A0_1 l0_1.length c0_1]] w fun e w' => ∃ v0_ : Value, e = .returned (.tuple #[v0_, .bool r2]) ∧ Kd.R (Kd.int .i64) 3 w' w.heap.size (fun _ => True) v0_ r1 ∧ Below w.heap.size w w' := by
 have hu38 := Try.underlying38
 have p2 := Aside0.mk hr0_1
 have p3 := Aside0.mk hc0_1
 clear hr0_1 hc0_1
 have HB := Aside0.mk (Below.refl w.heap.size w)
 have H : ((impl_NetOk.f a0_0 l0_1).bind fun t297 => (if t297 = true then ((impl_Net_order.f a0_0 l0_1).bind fun bt298 => (some (bt298.1, bt298.2))) else (some (([] : List Int), false)))) = some (r1, r2) := h
 clear h
 replace H := Option.bind_eq_some_iff.mp H
 obtain ⟨t297, A20, H⟩ := H
 replace H : (if t297 = true then ((impl_Net_order.f a0_0 l0_1).bind fun bt298 => (some (bt298.1, bt298.2))) else (some (([] : List Int), false))) = some (r1, r2) := H
 have A2 := Aside0.mk A20
 clear A20
 by_cases c3 : t297 = true
 ·subst c3
  have H1 : ((impl_Net_order.f a0_0 l0_1).bind fun bt298 => (some (bt298.1, bt298.2))) = some (r1, r2) := by rw [if_pos rfl] at H; exact H
  clear H
  have H := H1
  clear H1
  replace H := Option.bind_eq_some_iff.mp H
  obtain ⟨⟨t298, t301⟩, A40, H⟩ := H
  replace H : (some (t298, t301)) = some (r1, r2) := H
  have A4 := Aside0.mk A40
  clear A40
  simp only [Option.some.injEq, Prod.mk.injEq] at H
  obtain ⟨rfl, rfl⟩ := H
  go_enter Try.func24, Try.ntmps24
  go_wp2_with (first | ((with_reducible refine gate_dst (N := 1) rfl ?_); refine box_event ?hg (N := 1) ?hd (cs := #[.int .i64 a0_0, .slice A0_1 l0_1.length c0_1]) (t := 38) ?hr ?_; (case hd => rfl); (case hg => rfl); (case hr => first | (go_simp; done) | (go_simp; rfl)); intro p1 hg w5 hbox hb; have n0_ := Aside0.mk (below_step HB.out hb); have n1_ := Aside0.mk (hbox); have n2_ := Aside0.mk ((by rw [hg]; exact (below_size HB.out) : w.heap.size ≤ p1)); have n3_ := Aside0.mk ((by rw [hg]; exact (below_size HB.out) : w.heap.size ≤ p1)); clear HB; have HB := n0_; have p0 := n1_; have GW296 := n2_; have p4 := n3_; clear n0_ n1_ n2_ n3_; clear hb hbox hg; have hcz6_0 : w5.cell? ⟨p1, 0, none⟩ = some (.int .i64 a0_0) := (blk_cell p0.out 0).trans rfl; have hcz6_1 : w5.cell? ⟨p1, 1, none⟩ = some (.slice A0_1 l0_1.length c0_1) := (blk_cell p0.out 1).trans rfl; have hfz6_0 := blk_frozen p0.out 0; have hfz6_1 := blk_frozen p0.out 1) | ((with_reducible refine gate_callee (f := 67) rfl ?_); refine goesL_ (some 5) rfl rfl Try.func67 (by kernel_rfl) rfl #[.agg #[.int .i64 a0_0, .slice A0_1 l0_1.length c0_1]] rfl (by (try simp only [List.map_toArray, List.map_cons, List.map_nil]); first | done | rfl | (simp only [List.length_drop, List.length_take]; rfl)) ?_; (with_reducible refine (impl_NetOk.calls a0_0 _ _ l0_1 true _ ?side1 ?side2 A2.out).mono ?_); (case side1 => repeat (first | exact (Kd.C_below p2.out HB.out) | (with_reducible refine Kd.C_alloc ?_ _) | (with_reducible refine Kd.C_drewN ?_ _) | (with_reducible refine Kd.C_drew ?_))); (case side2 => exact p3.out); rintro e w7 ⟨rfl, hb⟩; refine ⟨_, rfl, ?_⟩; have n0_ := Aside0.mk (blk_below (g := p1) (o := .cells #[.int .i64 a0_0, .slice A0_1 l0_1.length c0_1] 38 (0, 0)) p0.out hb); have n1_ := Aside0.mk (below_step HB.out hb); clear p0; clear HB; have p0 := n0_; have HB := n1_; clear n0_ n1_; (try clear hb); (try clear hb2); (try clear hk); (try clear hi); have hcz8_0 : w7.cell? ⟨p1, 0, none⟩ = some (.int .i64 a0_0) := (blk_cell p0.out 0).trans rfl; have hcz8_1 : w7.cell? ⟨p1, 1, none⟩ = some (.slice A0_1 l0_1.length c0_1) := (blk_cell p0.out 1).trans rfl; have hfz8_0 := blk_frozen p0.out 0; have hfz8_1 := blk_frozen p0.out 1) | ((with_reducible refine gate_callee (f := 68) rfl ?_); refine goesL_ (some 8) rfl rfl Try.func68 (by kernel_rfl) rfl #[.agg #[.int .i64 a0_0, .slice A0_1 l0_1.length c0_1]] rfl (by (try simp only [List.map_toArray, List.map_cons, List.map_nil]); first | done | rfl | (simp only [List.length_drop, List.length_take]; rfl)) ?_; (with_reducible refine (impl_Net_order.calls a0_0 _ _ l0_1 t298 t301 _ ?side1 ?side2 A4.out).mono ?_); (case side1 => repeat (first | exact (Kd.C_below p2.out HB.out) | (with_reducible refine Kd.C_alloc ?_ _) | (with_reducible refine Kd.C_drewN ?_ _) | (with_reducible refine Kd.C_drew ?_))); (case side2 => exact p3.out); rintro e w9 ⟨v299, rfl, ho0, hb⟩; refine ⟨_, rfl, ?_⟩; have n0_ := Aside0.mk (Kd.R_lower ho0 (below_size HB.out)); have n1_ := Aside0.mk (blk_below (g := p1) (o := .cells #[.int .i64 a0_0, .slice A0_1 l0_1.length c0_1] 38 (0, 0)) p0.out hb); have n2_ := Aside0.mk (below_step HB.out hb); clear p0; clear HB; have HO300 := n0_; have p0 := n1_; have HB := n2_; clear n0_ n1_ n2_; (try clear hb); (try clear hb2); (try clear hk); (try clear hi); (try clear ho0)))
  go_ret2
  exact ⟨_, by first | rfl | (simp [errW_none, errW_some] <;> rfl) | (simp [*, errW_none, errW_some] <;> rfl), by (with_reducible repeat (first | apply Kd.R_alloc | apply Kd.R_drewN | apply Kd.R_drew)); exact HO300.out, by repeat (first | (with_reducible first | exact HB.out | apply below_alloc | apply pw_below_drewN | apply below_drew1 | refine below_set ?_ p4.out) | exact HB.out)⟩
 ·replace c3 := Bool.eq_false_iff.mpr c3
  subst c3
  have H1 : (some (([] : List Int), false)) = some (r1, r2) := by rw [if_neg (show ¬ (false = true) by decide)] at H; exact H
  clear H
  have H := H1
  clear H1
  simp only [Option.some.injEq, Prod.mk.injEq] at H
  obtain ⟨rfl, rfl⟩ := H
  go_enter Try.func24, Try.ntmps24
  go_wp2_with (first | ((with_reducible refine gate_dst (N := 1) rfl ?_); refine box_event ?hg (N := 1) ?hd (cs := #[.int .i64 a0_0, .slice A0_1 l0_1.length c0_1]) (t := 38) ?hr ?_; (case hd => rfl); (case hg => rfl); (case hr => first | (go_simp; done) | (go_simp; rfl)); intro p1 hg w10 hbox hb; have n0_ := Aside0.mk (below_step HB.out hb); have n1_ := Aside0.mk (hbox); have n2_ := Aside0.mk ((by rw [hg]; exact (below_size HB.out) : w.heap.size ≤ p1)); have n3_ := Aside0.mk ((by rw [hg]; exact (below_size HB.out) : w.heap.size ≤ p1)); clear HB; have HB := n0_; have p0 := n1_; have GW296 := n2_; have p4 := n3_; clear n0_ n1_ n2_ n3_; clear hb hbox hg; have hcz11_0 : w10.cell? ⟨p1, 0, none⟩ = some (.int .i64 a0_0) := (blk_cell p0.out 0).trans rfl; have hcz11_1 : w10.cell? ⟨p1, 1, none⟩ = some (.slice A0_1 l0_1.length c0_1) := (blk_cell p0.out 1).trans rfl; have hfz11_0 := blk_frozen p0.out 0; have hfz11_1 := blk_frozen p0.out 1) | ((with_reducible refine gate_callee (f := 67) rfl ?_); refine goesL_ (some 5) rfl rfl Try.func67 (by kernel_rfl) rfl #[.agg #[.int .i64 a0_0, .slice A0_1 l0_1.length c0_1]] rfl (by (try simp only [List.map_toArray, List.map_cons, List.map_nil]); first | done | rfl | (simp only [List.length_drop, List.length_take]; rfl)) ?_; (with_reducible refine (impl_NetOk.calls a0_0 _ _ l0_1 false _ ?side1 ?side2 A2.out).mono ?_); (case side1 => repeat (first | exact (Kd.C_below p2.out HB.out) | (with_reducible refine Kd.C_alloc ?_ _) | (with_reducible refine Kd.C_drewN ?_ _) | (with_reducible refine Kd.C_drew ?_))); (case side2 => exact p3.out); rintro e w12 ⟨rfl, hb⟩; refine ⟨_, rfl, ?_⟩; have n0_ := Aside0.mk (blk_below (g := p1) (o := .cells #[.int .i64 a0_0, .slice A0_1 l0_1.length c0_1] 38 (0, 0)) p0.out hb); have n1_ := Aside0.mk (below_step HB.out hb); clear p0; clear HB; have p0 := n0_; have HB := n1_; clear n0_ n1_; (try clear hb); (try clear hb2); (try clear hk); (try clear hi)))
  go_ret2
  exact ⟨_, by first | rfl | (simp [errW_none, errW_some] <;> rfl) | (simp [*, errW_none, errW_some] <;> rfl), by first | exact Kd.R_nil _ _ _ _ _ | exact Kd.N_nil _ _ _ _ _ | exact Kd.V_nil _ _ _ _ _ | exact Kd.Q_nil _ _ _ _ _ | exact Kd.S_nil _ _ _ _ _, by repeat (first | (with_reducible first | exact HB.out | apply below_alloc | apply pw_below_drewN | apply below_drew1 | refine below_set ?_ p4.out) | exact HB.out)⟩
end Go.Proofs.Ytmabopomecdidaa.Pr
end
section
namespace Go.Proofs.Ytmabopomecdidaa.Pr
open Go.RowKit Go.Proofs.YtmabopomecdidaaW.PrintWords Go.Proofs.YtmabopomecdidaaW.PrintLast Go.Proofs.YtmabopomecdidaaW.PrintMore
attribute [local go_sem] max2_int min2_int max_two min_two max_three min_three max_four min_four
set_option linter.unusedVariables false
set_option linter.unusedSimpArgs false
def mxI : List Int → Int
 | [] => 0
 | a :: r => r.foldl (fun m x => if m < x then x else m) a
theorem mxI_step {xs : List Int} (h : xs ≠ []) (y : Int) : mxI (xs ++ [y]) = if mxI xs < y then y else mxI xs := by
 cases xs with
 | nil => exact absurd rfl h
 | cons a r => simp [mxI, List.foldl_append]; try rfl
def slices_Max_int_int.f (l0 : List Int) : Option Int := if l0.length = 0 then none else some (mxI l0)
set_option maxHeartbeats 4000000 in
set_option maxRecDepth 100000 in
theorem slices_Max_int_int.calls (A0 : Option Addr) (c0 : Nat) (l0 : List Int) (r : Int) (w : World) (hr0 : Kd.C (Kd.int .i64) w A0 l0.length l0) (hc0 : l0.length ≤ c0) (h : slices_Max_int_int.f l0 = some r) :
  Calls Try.prog 88 #[.slice A0 l0.length c0] w fun e w' => e = .returned (.int .i64 r) ∧ Below w.heap.size w w' := by
 have hlen := Kd.C_max hr0
 have HR0 := Aside0.mk hr0
 have HL := Aside0.mk hlen
 have h0 : l0.length ≠ 0 := fun e => by unfold slices_Max_int_int.f at h; rw [if_pos e] at h; cases h
 have hr : mxI l0 = r := by unfold slices_Max_int_int.f at h; rw [if_neg h0] at h; exact Option.some.inj h
 have HRR := Aside0.mk hr
 have H0 := Aside0.mk h0
 have d0 : decide ((l0.length : Int) < 1) = false := decide_eq_false (by omega)
 have d1 : decide (l0.length < 1) = false := decide_eq_false (by omega)
 have d2 : ((l0.length : Int) < 1) = False := eq_false (by omega)
 obtain ⟨ad, e, hx0⟩ := Kd.at_int HR0.out 0 (by omega) (by omega)
 cases e
 have hx1 : w.cell? ad = some (.int .i64 (rd l0 0)) := by simpa [Addr.add] using hx0
 clear hx0
 have p0 : (0 : Int) < (l0.length : Int) := by omega
 have q0 := eq_true p0
 have q0n : (0 < l0.length) = True := eq_true (by omega)
 clear hr hlen h h0 hr0 p0
 go_enter Try.func88, Try.ntmps88
 go_wp2
 clear hx1
 go_loopg [3, 4] l0.length (fun gg s3 s4 wr => ∃ n : Nat, s3 = .int .i64 (mxI (l0.take n)) ∧ s4 = .int .i64 (n : Int) ∧ Aside0 (1 ≤ n ∧ n ≤ l0.length) ∧ Aside0 (l0.length - n ≤ gg) ∧ Drawn0 w wr)
 case atStart => exact ⟨1, by
  have h := H0.out
  cases l0 with
  | nil => exact absurd rfl h
  | cons a r => rfl, rfl, ⟨by have := H0.out; omega⟩, ⟨by omega⟩, by repeat (first | exact Drawn0.refl _ | apply Drawn0.step)⟩
 case round =>
  obtain ⟨n, rfl, rfl, N1, N2, ⟨m1, rfl⟩⟩ := hrel
  by_cases hn : n < l0.length
  ·have c1 : decide ((n : Int) < (l0.length : Int)) = true := decide_eq_true (by omega)
   have c2 : decide (n < l0.length) = true := decide_eq_true hn
   have p1 : (0 : Int) ≤ (n : Int) := by omega
   have q1 : (n : Int) < (l0.length : Int) := by omega
   obtain ⟨ad2, e, hx2⟩ := Kd.at_int HR0.out (n : Int) p1 q1
   cases e
   have hx3 : w.cell? (ad.add n) = some (.int .i64 (rd l0 (n : Int))) := by simpa using hx2
   clear hx2
   have hw : wrap64 ((n : Int) + 1) = ((n + 1 : Nat) : Int) := by have := HL.out; unfold wrap64; omega
   have hs : mxI (l0.take (n + 1)) = if mxI (l0.take n) < rd l0 (n : Int) then rd l0 (n : Int) else mxI (l0.take n) := by
    rw [List.take_succ_eq_append_getElem hn, mxI_step (by
     intro h
     have h2 : (l0.take n).length = 0 := by rw [h]; rfl
     rw [List.length_take] at h2
     have := N1.out
     have := H0.out
     omega)]
    have : rd l0 (n : Int) = l0[n] := by simp [rd, hn]
    rw [this]
   have HS := Aside0.mk hs
   have HW := Aside0.mk hw
   have HNN := Aside0.mk hn
   have p2 := eq_true p1
   have q2 := eq_true q1
   clear hs hw hn p1 q1
   generalize mxI (l0.take n) = mm at HS
   go_wp2
   all_goals
    go_roundg (l0.length - (n + 1))
    case measure => have := N2.out; have := HNN.out; omega
    case rel => exact ⟨n + 1, by rw [HS.out]; first | rfl | (split <;> first | rfl | omega), by rw [HW.out], ⟨by have := HNN.out; omega⟩, ⟨Nat.le_refl _⟩, by repeat (first | exact Drawn0.refl _ | apply Drawn0.step)⟩
  ·have c1 : decide ((n : Int) < (l0.length : Int)) = false := decide_eq_false (by omega)
   have c2 : decide (n < l0.length) = false := decide_eq_false hn
   have hr2 : mxI (l0.take n) = r := by rw [List.take_of_length_le (by omega)]; exact HRR.out
   clear hn
   go_wp2
   go_ret
   exact ⟨by first | rfl | (rw [hr2]; rfl), pw_below_drewN (Below.refl _ _) _⟩
end Go.Proofs.Ytmabopomecdidaa.Pr
end
