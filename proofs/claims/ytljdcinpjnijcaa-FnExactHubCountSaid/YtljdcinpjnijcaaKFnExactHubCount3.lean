/- For the statement FnExactHubCount of this seat: it is proved here, with no further conditions (part 4 of its texts: words, walks of the functions, the plain law, the row). -/
import Derived.StillTailTactics
import Derived.Test.YtljdcinpjnijcaaKFnExactHubCount2
section
namespace Go.Proofs.Ytljdcinpjnijcaa.Pr
open Go.RowKit Go.Proofs.YtljdcinpjnijcaaW.PrintWords Go.Proofs.YtljdcinpjnijcaaW.PrintLast Go.Proofs.YtljdcinpjnijcaaW.PrintMore
attribute [local go_sem] max2_int min2_int max_two min_two max_three min_three max_four min_four
set_option linter.unusedVariables false
set_option linter.unusedSimpArgs false
def impl_measure_less.f (a0_0 : Int) (a0_1 : Int) (a1_0 : Int) (a1_1 : Int) : Option (Bool) := if a0_0 < a1_0 then (some true) else (if a0_0 = a1_0 then (some (decide (a0_1 < a1_1))) else (some false))
set_option maxHeartbeats 8000000 in
set_option maxRecDepth 100000 in
theorem impl_measure_less.calls (a0_0 : Int) (a0_1 : Int) (a1_0 : Int) (a1_1 : Int) (r : Bool) (w : World) (h : impl_measure_less.f a0_0 a0_1 a1_0 a1_1 = some r) :
  Calls Try.prog 127 #[.agg #[.int .i64 a0_0, .int .i64 a0_1], .agg #[.int .i64 a1_0, .int .i64 a1_1]] w fun e w' => e = .returned (.bool r) ∧ Below w.heap.size w w' := by
 have hu104 := Try.underlying104
 have HB := Aside0.mk (Below.refl w.heap.size w)
 have H : (if a0_0 < a1_0 then (some true) else (if a0_0 = a1_0 then (some (decide (a0_1 < a1_1))) else (some false))) = some r := h
 clear h
 by_cases c3 : a0_0 < a1_0
 case pos =>
  rw [if_pos c3] at H
  have c3b0 : decide (a0_0 < a1_0) = true := decide_eq_true c3
  clear c3
  obtain rfl := Option.some.inj H
  go_enter Try.func127, Try.ntmps127
  go_wp2_with (first | ((with_reducible refine gate_dst (N := 2) rfl ?_); refine box_event ?hg (N := 2) ?hd (cs := #[.int .i64 a0_0, .int .i64 a0_1]) (t := 104) ?hr ?_; (case hd => rfl); (case hg => rfl); (case hr => first | (go_simp; done) | (go_simp; rfl)); intro p0 hg w4 hbox hb; have n0_ := Aside0.mk (below_step HB.out hb); have n1_ := Aside0.mk (hbox); have n2_ := Aside0.mk ((by rw [hg]; exact (below_size HB.out) : w.heap.size ≤ p0)); have n3_ := Aside0.mk ((by rw [hg]; exact (below_size HB.out) : w.heap.size ≤ p0)); clear HB; have HB := n0_; have p1 := n1_; have GW221 := n2_; have p6 := n3_; clear n0_ n1_ n2_ n3_; clear hb hbox hg) | ((with_reducible refine gate_dst (N := 3) rfl ?_); refine box_event ?hg (N := 3) ?hd (cs := #[.int .i64 a1_0, .int .i64 a1_1]) (t := 104) ?hr ?_; (case hd => rfl); (case hg => rfl); (case hr => first | (go_simp; done) | (go_simp; rfl)); intro p2 hg w5 hbox hb; have n0_ := Aside0.mk (blk_below (g := p0) (o := .cells #[.int .i64 a0_0, .int .i64 a0_1] 104 (0, 0)) p1.out hb); have n1_ := Aside0.mk (below_step HB.out hb); have n2_ := Aside0.mk (hbox); have n3_ := Aside0.mk ((by rw [hg]; exact (below_size HB.out) : w.heap.size ≤ p2)); have n4_ := Aside0.mk ((by rw [hg]; exact (below_size HB.out) : w.heap.size ≤ p2)); have n5_ := Aside0.mk ((by rw [hg]; exact Nat.ne_of_lt (blk_lt (g := p0) (o := .cells #[.int .i64 a0_0, .int .i64 a0_1] 104 (0, 0)) p1.out) : p0 ≠ p2)); have n6_ := Aside0.mk ((by rw [hg]; exact Nat.ne_of_gt (blk_lt (g := p0) (o := .cells #[.int .i64 a0_0, .int .i64 a0_1] 104 (0, 0)) p1.out) : p2 ≠ p0)); clear p1; clear HB; have p1 := n0_; have HB := n1_; have p3 := n2_; have GW222 := n3_; have p7 := n4_; have p4 := n5_; have p5 := n6_; clear n0_ n1_ n2_ n3_ n4_ n5_ n6_; clear hb hbox hg; have hnb6 := p4.out; have hnc6 := p5.out; have hcz7_0 : w5.cell? ⟨p0, 0, none⟩ = some (.int .i64 a0_0) := (blk_cell p1.out 0).trans rfl; have hcz7_1 : w5.cell? ⟨p0, 1, none⟩ = some (.int .i64 a0_1) := (blk_cell p1.out 1).trans rfl; have hfz7_0 := blk_frozen p1.out 0; have hfz7_1 := blk_frozen p1.out 1; have hcz8_0 : w5.cell? ⟨p2, 0, none⟩ = some (.int .i64 a1_0) := (blk_cell p3.out 0).trans rfl; have hcz8_1 : w5.cell? ⟨p2, 1, none⟩ = some (.int .i64 a1_1) := (blk_cell p3.out 1).trans rfl; have hfz8_0 := blk_frozen p3.out 0; have hfz8_1 := blk_frozen p3.out 1))
  go_ret
  exact ⟨by first | rfl | (simp [errW_none, errW_some] <;> rfl) | (simp [*, errW_none, errW_some] <;> rfl), by repeat (first | (with_reducible first | exact HB.out | apply below_alloc | apply pw_below_drewN | apply below_drew1 | refine below_set ?_ p6.out | refine below_set ?_ p7.out) | exact HB.out)⟩
 rw [if_neg c3] at H
 have c3b0 : decide (a0_0 < a1_0) = false := decide_eq_false c3
 clear c3
 by_cases c9 : a0_0 = a1_0
 case neg =>
  rw [if_neg c9] at H
  have c9b0 : (a0_0 == a1_0) = false := beq_eq_false_iff_ne.mpr c9
  have c9b1 : (a0_0 != a1_0) = true := bne_iff_ne.mpr c9
  obtain rfl := Option.some.inj H
  go_enter Try.func127, Try.ntmps127
  go_wp2_with (first | ((with_reducible refine gate_dst (N := 2) rfl ?_); refine box_event ?hg (N := 2) ?hd (cs := #[.int .i64 a0_0, .int .i64 a0_1]) (t := 104) ?hr ?_; (case hd => rfl); (case hg => rfl); (case hr => first | (go_simp; done) | (go_simp; rfl)); intro p0 hg w15 hbox hb; have n0_ := Aside0.mk (below_step HB.out hb); have n1_ := Aside0.mk (hbox); have n2_ := Aside0.mk ((by rw [hg]; exact (below_size HB.out) : w.heap.size ≤ p0)); have n3_ := Aside0.mk ((by rw [hg]; exact (below_size HB.out) : w.heap.size ≤ p0)); clear HB; have HB := n0_; have p1 := n1_; have GW221 := n2_; have p6 := n3_; clear n0_ n1_ n2_ n3_; clear hb hbox hg) | ((with_reducible refine gate_dst (N := 3) rfl ?_); refine box_event ?hg (N := 3) ?hd (cs := #[.int .i64 a1_0, .int .i64 a1_1]) (t := 104) ?hr ?_; (case hd => rfl); (case hg => rfl); (case hr => first | (go_simp; done) | (go_simp; rfl)); intro p2 hg w16 hbox hb; have n0_ := Aside0.mk (blk_below (g := p0) (o := .cells #[.int .i64 a0_0, .int .i64 a0_1] 104 (0, 0)) p1.out hb); have n1_ := Aside0.mk (below_step HB.out hb); have n2_ := Aside0.mk (hbox); have n3_ := Aside0.mk ((by rw [hg]; exact (below_size HB.out) : w.heap.size ≤ p2)); have n4_ := Aside0.mk ((by rw [hg]; exact (below_size HB.out) : w.heap.size ≤ p2)); have n5_ := Aside0.mk ((by rw [hg]; exact Nat.ne_of_lt (blk_lt (g := p0) (o := .cells #[.int .i64 a0_0, .int .i64 a0_1] 104 (0, 0)) p1.out) : p0 ≠ p2)); have n6_ := Aside0.mk ((by rw [hg]; exact Nat.ne_of_gt (blk_lt (g := p0) (o := .cells #[.int .i64 a0_0, .int .i64 a0_1] 104 (0, 0)) p1.out) : p2 ≠ p0)); clear p1; clear HB; have p1 := n0_; have HB := n1_; have p3 := n2_; have GW222 := n3_; have p7 := n4_; have p4 := n5_; have p5 := n6_; clear n0_ n1_ n2_ n3_ n4_ n5_ n6_; clear hb hbox hg; have hnb17 := p4.out; have hnc17 := p5.out; have hcz18_0 : w16.cell? ⟨p0, 0, none⟩ = some (.int .i64 a0_0) := (blk_cell p1.out 0).trans rfl; have hcz18_1 : w16.cell? ⟨p0, 1, none⟩ = some (.int .i64 a0_1) := (blk_cell p1.out 1).trans rfl; have hfz18_0 := blk_frozen p1.out 0; have hfz18_1 := blk_frozen p1.out 1; have hcz19_0 : w16.cell? ⟨p2, 0, none⟩ = some (.int .i64 a1_0) := (blk_cell p3.out 0).trans rfl; have hcz19_1 : w16.cell? ⟨p2, 1, none⟩ = some (.int .i64 a1_1) := (blk_cell p3.out 1).trans rfl; have hfz19_0 := blk_frozen p3.out 0; have hfz19_1 := blk_frozen p3.out 1))
  go_ret
  exact ⟨by first | rfl | (simp [errW_none, errW_some] <;> rfl) | (simp [*, errW_none, errW_some] <;> rfl), by repeat (first | (with_reducible first | exact HB.out | apply below_alloc | apply pw_below_drewN | apply below_drew1 | refine below_set ?_ p6.out | refine below_set ?_ p7.out) | exact HB.out)⟩
 rw [if_pos c9] at H
 have c9b0 : (a0_0 == a1_0) = true := beq_iff_eq.mpr c9
 have c9b1 : (a0_0 != a1_0) = false := bne_eq_false_iff_eq.mpr c9
 clear c9
 obtain rfl := Option.some.inj H
 go_enter Try.func127, Try.ntmps127
 go_wp2_with (first | ((with_reducible refine gate_dst (N := 2) rfl ?_); refine box_event ?hg (N := 2) ?hd (cs := #[.int .i64 a0_0, .int .i64 a0_1]) (t := 104) ?hr ?_; (case hd => rfl); (case hg => rfl); (case hr => first | (go_simp; done) | (go_simp; rfl)); intro p0 hg w10 hbox hb; have n0_ := Aside0.mk (below_step HB.out hb); have n1_ := Aside0.mk (hbox); have n2_ := Aside0.mk ((by rw [hg]; exact (below_size HB.out) : w.heap.size ≤ p0)); have n3_ := Aside0.mk ((by rw [hg]; exact (below_size HB.out) : w.heap.size ≤ p0)); clear HB; have HB := n0_; have p1 := n1_; have GW221 := n2_; have p6 := n3_; clear n0_ n1_ n2_ n3_; clear hb hbox hg) | ((with_reducible refine gate_dst (N := 3) rfl ?_); refine box_event ?hg (N := 3) ?hd (cs := #[.int .i64 a1_0, .int .i64 a1_1]) (t := 104) ?hr ?_; (case hd => rfl); (case hg => rfl); (case hr => first | (go_simp; done) | (go_simp; rfl)); intro p2 hg w11 hbox hb; have n0_ := Aside0.mk (blk_below (g := p0) (o := .cells #[.int .i64 a0_0, .int .i64 a0_1] 104 (0, 0)) p1.out hb); have n1_ := Aside0.mk (below_step HB.out hb); have n2_ := Aside0.mk (hbox); have n3_ := Aside0.mk ((by rw [hg]; exact (below_size HB.out) : w.heap.size ≤ p2)); have n4_ := Aside0.mk ((by rw [hg]; exact (below_size HB.out) : w.heap.size ≤ p2)); have n5_ := Aside0.mk ((by rw [hg]; exact Nat.ne_of_lt (blk_lt (g := p0) (o := .cells #[.int .i64 a0_0, .int .i64 a0_1] 104 (0, 0)) p1.out) : p0 ≠ p2)); have n6_ := Aside0.mk ((by rw [hg]; exact Nat.ne_of_gt (blk_lt (g := p0) (o := .cells #[.int .i64 a0_0, .int .i64 a0_1] 104 (0, 0)) p1.out) : p2 ≠ p0)); clear p1; clear HB; have p1 := n0_; have HB := n1_; have p3 := n2_; have GW222 := n3_; have p7 := n4_; have p4 := n5_; have p5 := n6_; clear n0_ n1_ n2_ n3_ n4_ n5_ n6_; clear hb hbox hg; have hnb12 := p4.out; have hnc12 := p5.out; have hcz13_0 : w11.cell? ⟨p0, 0, none⟩ = some (.int .i64 a0_0) := (blk_cell p1.out 0).trans rfl; have hcz13_1 : w11.cell? ⟨p0, 1, none⟩ = some (.int .i64 a0_1) := (blk_cell p1.out 1).trans rfl; have hfz13_0 := blk_frozen p1.out 0; have hfz13_1 := blk_frozen p1.out 1; have hcz14_0 : w11.cell? ⟨p2, 0, none⟩ = some (.int .i64 a1_0) := (blk_cell p3.out 0).trans rfl; have hcz14_1 : w11.cell? ⟨p2, 1, none⟩ = some (.int .i64 a1_1) := (blk_cell p3.out 1).trans rfl; have hfz14_0 := blk_frozen p3.out 0; have hfz14_1 := blk_frozen p3.out 1))
 go_ret
 exact ⟨by first | rfl | (simp [errW_none, errW_some] <;> rfl) | (simp [*, errW_none, errW_some] <;> rfl), by repeat (first | (with_reducible first | exact HB.out | apply below_alloc | apply pw_below_drewN | apply below_drew1 | refine below_set ?_ p6.out | refine below_set ?_ p7.out) | exact HB.out)⟩
end Go.Proofs.Ytljdcinpjnijcaa.Pr
end
section
namespace Go.Proofs.Ytljdcinpjnijcaa.Pr
open Go.RowKit Go.Proofs.YtljdcinpjnijcaaW.PrintWords Go.Proofs.YtljdcinpjnijcaaW.PrintLast Go.Proofs.YtljdcinpjnijcaaW.PrintMore
attribute [local go_sem] max2_int min2_int max_two min_two max_three min_three max_four min_four
set_option linter.unusedVariables false
set_option linter.unusedSimpArgs false
theorem add_block (ad : Addr) (k : Nat) : (ad.add k).block = ad.block := by
 unfold Addr.add
 split <;> rfl
theorem heap_at {W : World} {o : Obj} {k : Nat} (h : k = W.heap.size) : (W.alloc o).heap[k]? = some o := by subst h; exact heap_alloc_new W o
def farc (L : List S104) (v : Int) (want : S104) (a : S34) : Bool := decide (a.f0 = v) && (!decide ((rd_T104 L a.f1).f0 = 99999) && (decide (wrap64 ((rd_T104 L a.f1).f0 + a.f2) = want.f0) && decide (wrap64 ((rd_T104 L a.f1).f1 + 1) = want.f1)))
set_option maxHeartbeats 4000000 in
set_option maxRecDepth 100000 in
theorem first_closure (a : S34) (g1 g2 g3 : Nat) (A : Option Addr) (c : Nat) (L : List S104) (v : Int) (want : S104) (w : World) (h1 : w.heap[g1]? = some (.cells #[.slice A L.length c] 100 (0, 0))) (h2 : w.heap[g2]? = some (.cells #[.int .i64 v] 3 (0, 0))) (h3 : w.heap[g3]? = some (.cells #[.int .i64 want.f0, .int .i64 want.f1] 104 (0, 0))) (hK : Kd.C k104 w A L.length L) (hc : L.length ≤ c) (b0 : 0 ≤ a.f1) (b1 : a.f1 < (L.length : Int)) :
  Calls Try.prog 129 #[encA a, .pointer (some ⟨g1, 0, none⟩), .pointer (some ⟨g2, 0, none⟩), .pointer (some ⟨g3, 0, none⟩)] w fun e w' => e = .returned (.bool (farc L v want a)) ∧ Below w.heap.size w w' := by
 have c1 : w.cell? ⟨g1, 0, none⟩ = some (.slice A L.length c) := (blk_cell h1 0).trans rfl
 have c2 : w.cell? ⟨g2, 0, none⟩ = some (.int .i64 v) := (blk_cell h2 0).trans rfl
 have c3 : w.cell? ⟨g3, 0, none⟩ = some (.int .i64 want.f0) := (blk_cell h3 0).trans rfl
 have c4 : w.cell? ⟨g3, 1, none⟩ = some (.int .i64 want.f1) := (blk_cell h3 1).trans rfl
 have l1 := blk_lt h1
 have l2 := blk_lt h2
 have l3 := blk_lt h3
 obtain ⟨ad, e, hx0, hx1⟩ := at_T104 hK a.f1 b0 b1
 cases e
 have l4 := World.block_lt_of_cell? w _ hx0
 have hu := Try.underlying34
 have hu2 := Try.underlying104
 clear h1 h2 h3 hK
 have l4 : ad.block < w.heap.size := by rw [add_block] at l4; exact l4
 have p0 := eq_true b0
 have p1 := eq_true b1
 unfold farc
 generalize rd_T104 L a.f1 = nx at hx0 hx1
 unfold encA
 clear b0 b1 hc
 by_cases hv : a.f0 = v
 case neg =>
  have d1 : decide (a.f0 = v) = false := decide_eq_false hv
  have d1' : (a.f0 == v) = false := beq_eq_false_iff_ne.2 hv
  rw [d1]
  go_enter Try.func129, Try.ntmps129
  go_wp2
  go_ret
  exact ⟨rfl, by repeat (first | apply below_alloc | exact Below.refl _ _)⟩
 have d1 : decide (a.f0 = v) = true := decide_eq_true hv
 have d1' : (a.f0 == v) = true := beq_iff_eq.2 hv
 by_cases hf : nx.f0 = 99999
 case pos =>
  have d2 : decide (nx.f0 = 99999) = true := decide_eq_true hf
  have d2' : (nx.f0 == 99999) = true := beq_iff_eq.2 hf
  have d2'' : (nx.f0 != 99999) = false := bne_eq_false_iff_eq.2 hf
  rw [d1, d2]
  go_enter Try.func129, Try.ntmps129
  go_wp2
  go_ret
  exact ⟨rfl, by repeat (first | apply below_alloc | exact Below.refl _ _)⟩
 have d2 : decide (nx.f0 = 99999) = false := decide_eq_false hf
 have d2' : (nx.f0 == 99999) = false := beq_eq_false_iff_ne.2 hf
 have d2'' : (nx.f0 != 99999) = true := bne_iff_ne.2 hf
 rw [d1, d2]
 go_enter Try.func129, Try.ntmps129
 go_wp2
 all_goals go_ret
 all_goals exact ⟨by simp [*], by repeat (first | apply below_alloc | exact Below.refl _ _)⟩
def impl_Net_firstArc.f (_a0_0 : Int) (l0_1 : List S34) (l1 : List S104) (a2 : Int) : Option Int := if 0 ≤ a2 then if a2 < (l1.length : Int) then if (l0_1.all fun a => decide (0 ≤ a.f1) && decide (a.f1 < (l1.length : Int))) = true then some (idxI (farc l1 a2 (rd_T104 l1 a2)) l0_1) else none else none else none
set_option maxHeartbeats 4000000 in
set_option maxRecDepth 100000 in
theorem impl_Net_firstArc.calls (a0_0 : Int) (A0_1 : Option Addr) (c0_1 : Nat) (l0_1 : List S34) (A1 : Option Addr) (c1 : Nat) (l1 : List S104) (a2 : Int) (r : Int) (w : World) (hr0_1 : Kd.C k34 w A0_1 l0_1.length l0_1) (hc0_1 : l0_1.length ≤ c0_1) (hr1 : Kd.C k104 w A1 l1.length l1) (hc1 : l1.length ≤ c1) (h : impl_Net_firstArc.f a0_0 l0_1 l1 a2 = some r) :
  Calls Try.prog 94 #[.agg #[.int .i64 a0_0, .slice A0_1 l0_1.length c0_1], .slice A1 l1.length c1, .int .i64 a2] w fun e w' => e = .returned (.int .i64 r) ∧ Below w.heap.size w w' := by
 have b0 : 0 ≤ a2 := by
  apply Decidable.byContradiction
  intro c
  unfold impl_Net_firstArc.f at h
  rw [if_neg c] at h
  cases h
 have b1 : a2 < (l1.length : Int) := by
  apply Decidable.byContradiction
  intro c
  unfold impl_Net_firstArc.f at h
  rw [if_pos b0, if_neg c] at h
  cases h
 have b2 : (l0_1.all fun a => decide (0 ≤ a.f1) && decide (a.f1 < (l1.length : Int))) = true := by
  apply Decidable.byContradiction
  intro c
  unfold impl_Net_firstArc.f at h
  rw [if_pos b0, if_pos b1, if_neg c] at h
  cases h
 have hr : idxI (farc l1 a2 (rd_T104 l1 a2)) l0_1 = r := by
  unfold impl_Net_firstArc.f at h
  rw [if_pos b0, if_pos b1, if_pos b2] at h
  exact Option.some.inj h
 clear h
 subst hr
 have hall : ∀ x ∈ l0_1, 0 ≤ x.f1 ∧ x.f1 < (l1.length : Int) := by
  intro x hx
  have := List.all_eq_true.1 b2 x hx
  simpa using this
 clear b2
 obtain ⟨ad, e, hx0, hx1⟩ := at_T104 hr1 a2 b0 b1
 have l4 : ad.block < w.heap.size := by have := World.block_lt_of_cell? w _ hx0; rw [add_block] at this; exact this
 have hu := Try.underlying25
 have hu2 := Try.underlying104
 generalize hwant : rd_T104 l1 a2 = want at hx0 hx1
 have hcall := fun (W : World) (hB : Below w.heap.size w W) (g1 g2 g3 : Nat) (q1 : W.heap[g1]? = some (.cells #[.slice A1 l1.length c1] 100 (0, 0))) (q2 : W.heap[g2]? = some (.cells #[.int .i64 a2] 3 (0, 0))) (q3 : W.heap[g3]? = some (.cells #[.int .i64 want.f0, .int .i64 want.f1] 104 (0, 0))) => slices_IndexFunc_Arc.calls (farc l1 a2 want) 129 #[.pointer (some ⟨g1, 0, none⟩), .pointer (some ⟨g2, 0, none⟩), .pointer (some ⟨g3, 0, none⟩)] (enters_of Try.func129 (by kernel_rfl) rfl) A0_1 c0_1 l0_1 W (Kd.C_below hr0_1 hB) hc0_1
  (fun W1 x hx hB1 => first_closure x g1 g2 g3 A1 c1 l1 a2 want W1 (blk_below q1 hB1) (blk_below q2 hB1) (blk_below q3 hB1) (Kd.C_below (Kd.C_below hr1 hB) hB1) hc1 (hall x hx).1 (hall x hx).2)
 have HC := Aside0.mk hcall
 cases e
 have l5 : (ad.add (a2.toNat * 2)).block < w.heap.size := by rw [add_block]; exact l4
 have hb3 := below_alloc (below_alloc (below_alloc (Below.refl w.heap.size w) (.cells #[.int .i64 a0_0, .slice A0_1 l0_1.length c0_1] 25)) (.cells #[.slice (some ad) l1.length c1] 100)) (.cells #[.int .i64 a2] 3)
 have hy0 := (hb3.cell (p := ad.add (a2.toNat * 2)) l5).trans hx0
 have hy1 := (hb3.cell (p := ⟨(ad.add (a2.toNat * 2)).block, (ad.add (a2.toNat * 2)).off + 1, none⟩) l5).trans hx1
 clear hb3 hx0 hx1
 have p0 := eq_true b0
 have p1 := eq_true b1
 clear hcall hall hr0_1 hr1 hc0_1 hc1 hwant b0 b1
 generalize idxI (farc l1 a2 want) l0_1 = R at HC
 go_enter Try.func94, Try.ntmps94
 go_wp2_with (go_at_call 128; refine (HC.out _ ?hB _ _ _ ?q1 ?q2 ?q3).mono ?_; (case hB => repeat (first | exact Below.refl _ _ | apply below_alloc)); (case q1 => exact blk_alloc (blk_alloc (heap_at (by simp)) _) _); (case q2 => exact blk_alloc (heap_at (by simp)) _); (case q3 => exact heap_at (by simp)); rintro e w' ⟨rfl, hb'⟩)
 go_ret
 exact ⟨rfl, below_then (by repeat (first | apply below_alloc | exact Below.refl _ _)) (by simp; omega) hb'⟩
end Go.Proofs.Ytljdcinpjnijcaa.Pr
end
section
namespace Go.Proofs.Ytljdcinpjnijcaa.Pr
open Go.RowKit Go.Proofs.YtljdcinpjnijcaaW.PrintWords Go.Proofs.YtljdcinpjnijcaaW.PrintLast Go.Proofs.YtljdcinpjnijcaaW.PrintMore
attribute [local go_sem] max2_int min2_int max_two min_two max_three min_three max_four min_four
set_option linter.unusedVariables false
set_option linter.unusedSimpArgs false
mutual
def impl_Net_toward.l0 : Nat → List (S104) → Bool → Int → List (S34) → Option ((List (S104)))
 | 0, _, _, _, _ => none
 | k + 1, x5, x6, t3, s9 => if x6 = true then (impl_Net_toward.l1 k x5 false s9 (s9.length : Int) 0 t3 s9) else (some x5)
def impl_Net_toward.l1 : Nat → List (S104) → Bool → List (S34) → Int → Int → Int → List (S34) → Option ((List (S104)))
 | 0, _, _, _, _, _, _, _ => none
 | k + 1, x5, x6, x21, x22, x23, t3, s9 => if x23 < x22 then (if 0 ≤ x23 then (if x23 < (x21.length : Int) then (if 0 ≤ ((rd_T34 x21 x23).f1) then (if ((rd_T34 x21 x23).f1) < (x5.length : Int) then (if ((rd_T104 x5 ((rd_T34 x21 x23).f1)).f0) = 99999 then (impl_Net_toward.l1 k x5 x6 x21 x22 (wrap64 (x23 + 1)) t3 s9) else (if 0 ≤ ((rd_T34 x21 x23).f0) then (if ((rd_T34 x21 x23).f0) < (x5.length : Int) then ((impl_measure_less.f (wrap64 (((rd_T104 x5 ((rd_T34 x21 x23).f1)).f0) + ((rd_T34 x21 x23).f2))) (wrap64 (((rd_T104 x5 ((rd_T34 x21 x23).f1)).f1) + 1)) ((rd_T104 x5 ((rd_T34 x21 x23).f0)).f0) ((rd_T104 x5 ((rd_T34 x21 x23).f0)).f1)).bind fun t236 => (if t236 = true then (impl_Net_toward.l1 k (x5.set (((rd_T34 x21 x23).f0) : Int).toNat (⟨wrap64 (((rd_T104 x5 ((rd_T34 x21 x23).f1)).f0) + ((rd_T34 x21 x23).f2)), wrap64 (((rd_T104 x5 ((rd_T34 x21 x23).f1)).f1) + 1)⟩ : S104)) true x21 x22 (wrap64 (x23 + 1)) t3 s9) else (impl_Net_toward.l1 k x5 x6 x21 x22 (wrap64 (x23 + 1)) t3 s9))) else (none)) else (none))) else (none)) else (none)) else (none)) else (none)) else (impl_Net_toward.l0 k x5 x6 t3 s9)
end
def impl_Net_toward.f (k : Nat) (a0_0 : Int) (l0_1 : List (S34)) (a1 : Int) : Option ((List (S104))) := (impl_measure.f (([(⟨99999, 0⟩ : S104)] : List (S104))) a0_0).bind fun t227 => (if 0 ≤ a1 then (if a1 < (t227.length : Int) then (impl_Net_toward.l0 k (t227.set (a1 : Int).toNat (⟨0, 0⟩ : S104)) true a0_0 l0_1) else (none)) else (none))
set_option maxHeartbeats 8000000 in
set_option maxRecDepth 100000 in
theorem impl_Net_toward.calls (k : Nat) (a0_0 : Int) (A0_1 : Option Addr) (c0_1 : Nat) (l0_1 : List (S34)) (a1 : Int) (r : List (S104)) (w : World) (hr0_1 : Kd.C k34 w A0_1 l0_1.length l0_1) (hc0_1 : l0_1.length ≤ c0_1) (h : impl_Net_toward.f k a0_0 l0_1 a1 = some r) :
  Calls Try.prog 93 #[.agg #[.int .i64 a0_0, .slice A0_1 l0_1.length c0_1], .int .i64 a1] w fun e w' => ∃ v0_ : Value, e = .returned (v0_) ∧ Kd.R k104 104 w' w.heap.size (fun _ => True) v0_ r ∧ Below w.heap.size w w' := by
 have hu25 := Try.underlying25
 have hu104 := Try.underlying104
 have hu34 := Try.underlying34
 have u4 := Aside0.mk hr0_1
 have HC0_1 := Aside0.mk hc0_1
 clear hr0_1 hc0_1
 have HB := Aside0.mk (Below.refl w.heap.size w)
 have H : ((impl_measure.f (([(⟨99999, 0⟩ : S104)] : List (S104))) a0_0).bind fun t227 => (if 0 ≤ a1 then (if a1 < (t227.length : Int) then (impl_Net_toward.l0 k (t227.set (a1 : Int).toNat (⟨0, 0⟩ : S104)) true a0_0 l0_1) else (none)) else (none))) = some r := h
 clear h
 obtain ⟨y224, hy224⟩ : ∃ y_ : List (S104), y_ = (([(⟨99999, 0⟩ : S104)] : List (S104))) := ⟨_, rfl⟩
 replace H : ((impl_measure.f y224 a0_0).bind fun t227 => (if 0 ≤ a1 then (if a1 < (t227.length : Int) then (impl_Net_toward.l0 k (t227.set (a1 : Int).toNat (⟨0, 0⟩ : S104)) true a0_0 l0_1) else (none)) else (none))) = some r := by first | (rw [hy224]; with_reducible exact H) | (have H2_ := (Option.bind_some _ _).symm.trans H; rw [hy224]; with_reducible exact H2_) | (have H2_ := (Option.bind_some _ _).symm.trans H; with_reducible exact H2_) | with_reducible exact H | (rw [hy224]; exact H) | exact H
 have Ny224 := Aside0.mk hy224
 clear hy224
 replace H := Option.bind_eq_some_iff.mp H
 obtain ⟨t227, A30, H⟩ := H
 replace H : (if 0 ≤ a1 then (if a1 < (t227.length : Int) then (impl_Net_toward.l0 k (t227.set (a1 : Int).toNat (⟨0, 0⟩ : S104)) true a0_0 l0_1) else (none)) else (none)) = some r := H
 have A3 := Aside0.mk A30
 clear A30
 by_cases c4 : 0 ≤ a1
 case neg =>
  rw [if_neg c4] at H
  exact absurd H (by simp)
 rw [if_pos c4] at H
 have c4b0 : decide (0 ≤ a1) = true := decide_eq_true c4
 clear c4
 by_cases c5 : a1 < (t227.length : Int)
 case neg =>
  rw [if_neg c5] at H
  exact absurd H (by simp)
 rw [if_pos c5] at H
 have c5b0 : decide (a1 < (t227.length : Int)) = true := decide_eq_true c5
 clear c5
 obtain ⟨y230, hy230⟩ : ∃ y_ : List (S104), y_ = (t227.set (a1 : Int).toNat (⟨0, 0⟩ : S104)) := ⟨_, rfl⟩
 replace H : (impl_Net_toward.l0 k y230 true a0_0 l0_1) = some r := by first | (rw [hy230]; with_reducible exact H) | (have H2_ := (Option.bind_some _ _).symm.trans H; rw [hy230]; with_reducible exact H2_) | (have H2_ := (Option.bind_some _ _).symm.trans H; with_reducible exact H2_) | with_reducible exact H | (rw [hy230]; exact H) | exact H
 have Ny230 := Aside0.mk hy230
 clear hy230
 have H' := Aside0.mk H
 clear H
 go_enter Try.func93, Try.ntmps93
 go_wp2_with (first | ((with_reducible refine gate_dst (N := 2) rfl ?_); refine box_event ?hg (N := 2) ?hd (cs := #[.int .i64 a0_0, .slice A0_1 l0_1.length c0_1]) (t := 25) ?hr ?_; (case hd => rfl); (case hg => rfl); (case hr => first | (go_simp; done) | (go_simp; rfl)); intro q1 hg w7 hbox hb; have n0_ := Aside0.mk (below_step HB.out hb); have n1_ := Aside0.mk (hbox); have n2_ := Aside0.mk ((by rw [hg]; exact (below_size HB.out) : w.heap.size ≤ q1)); have n3_ := Aside0.mk ((by rw [hg]; exact (below_size HB.out) : w.heap.size ≤ q1)); clear HB; have HB := n0_; have p7 := n1_; have GW223 := n2_; have r8 := n3_; clear n0_ n1_ n2_ n3_; clear hb hbox hg) | ((with_reducible refine gate_dst (N := 11) rfl ?_); refine Kd.R_lit k104 _ 104 ?hg (N := 11) ?hd (xs := ([(⟨99999, 0⟩ : S104)] : List (S104))) (inner := [.int .i64 99999, .int .i64 0]) (ok := fun _ => True) (okp := fun _ => True) ?hr ?hp (fun _ hk => hk) trivial (Below.refl _ _) (Nat.le_refl _) (by simp) ?_; (case hd => rfl); (case hg => rfl); (case hr => first | (go_simp; done) | (go_simp; rfl)); (case hp => exact (Reps.c2 (show Kd.M k104 _ _ _ (⟨99999, 0⟩ : S104) [.int .i64 99999, .int .i64 0] from (k104_mkM _ _ _ (⟨99999, 0⟩ : S104) )) (Reps.none _ _))); intro v225 w8 ho9 hb hg_ hnew_; clear hg_ hnew_; (first | rw [← Ny224.out] at ho9 | (simp only [Int.reduceToNat] at ho9; rw [← Ny224.out] at ho9)); have n0_ := Aside0.mk (Kd.R_lower ho9 (below_size HB.out)); have n1_ := Aside0.mk (blk_below (g := q1) (o := .cells #[.int .i64 a0_0, .slice A0_1 l0_1.length c0_1] 25 (0, 0)) p7.out hb); have n2_ := Aside0.mk (below_step HB.out hb); clear p7; clear HB; have HO226 := n0_; have p7 := n1_; have HB := n2_; clear n0_ n1_ n2_; clear hb ho9; have t8 : w8.cell? ⟨q1, 0, none⟩ = some (.int .i64 a0_0) := (blk_cell p7.out 0).trans rfl; have t9 : w8.cell? ⟨q1, 1, none⟩ = some (.slice A0_1 l0_1.length c0_1) := (blk_cell p7.out 1).trans rfl; have u0 := blk_frozen p7.out 0; have u1 := blk_frozen p7.out 1; obtain ⟨Ao11, co11, eo11⟩ := Kd.R_slice HO226.out; subst eo11) | ((with_reducible refine gate_callee (f := 126) rfl ?_); refine goesL_ (some 14) rfl rfl Try.func126 (by kernel_rfl) rfl #[.slice Ao11 y224.length co11, .int .i64 a0_0] rfl (by (try simp only [List.map_toArray, List.map_cons, List.map_nil]); first | done | rfl | (simp only [List.length_drop, List.length_take]; rfl)) ?_; (with_reducible refine (impl_measure.calls _ _ y224 a0_0 t227 _ ?side1 ?side2 A3.out).mono ?_); (case side1 => repeat (first | exact (Kd.R_reads' HO226.out).2.2 | (with_reducible refine Kd.C_alloc ?_ _) | (with_reducible refine Kd.C_drewN ?_ _) | (with_reducible refine Kd.C_drew ?_))); (case side2 => exact (Kd.R_reads' HO226.out).2.1); rintro e w12 ⟨v228, rfl, ho0, hb⟩; refine ⟨_, rfl, ?_⟩; have n0_ := Aside0.mk (Kd.R_elder' HO226.out (Kd.R_base ho0) hb); have n1_ := Aside0.mk (Kd.R_lower (Kd.R_new' ho0 (Kd.R_lt HO226.out)) (below_size HB.out)); have n2_ := Aside0.mk (blk_below (g := q1) (o := .cells #[.int .i64 a0_0, .slice A0_1 l0_1.length c0_1] 25 (0, 0)) p7.out hb); have n3_ := Aside0.mk (below_step HB.out hb); clear HO226; clear p7; clear HB; have HO226 := n0_; have HO229 := n1_; have p7 := n2_; have HB := n3_; clear n0_ n1_ n2_ n3_; (try clear hb); (try clear hb2); (try clear hk); (try clear hi); (try clear ho0); have p6 : 0 ≤ (a1 : Int) := of_decide_eq_true (by first | (with_reducible assumption) | assumption); have q6 : (a1 : Int) < ((t227.length : Int) : Int) := of_decide_eq_true (by first | (with_reducible assumption) | assumption); obtain ⟨go6, co6, eo6, gb6, gl6, cl6, HG6⟩ := Kd.R_form HO229.out (by omega); (first | cases eo6 | (injection eo6 with ea_ en_ ec_; (first | subst ea_ | (injection ea_ with ea_; subst ea_)); subst ec_; clear en_)); have GB6 := Aside0.mk gb6; have GG6 := Aside0.mk HG6; clear gb6 gl6 HG6; obtain ⟨ce6, hcl6, hM6, hcc6, hfr6⟩ := Kd.R_elem HO229.out z104 (a1 : Int) p6 q6; obtain rfl := k104_openM hM6; have hx6_0 : w12.cell? ⟨go6, (a1 : Int).toNat * 2, none⟩ = some (.int .i64 ((rd_T104 t227 a1).f0)) := hcc6 0 _ rfl; have hx6_1 : w12.cell? ⟨go6, (a1 : Int).toNat * 2 + 1, none⟩ = some (.int .i64 ((rd_T104 t227 a1).f1)) := hcc6 1 _ rfl; have hf6_0 : w12.frozen? ⟨go6, (a1 : Int).toNat * 2, none⟩ = false := hfr6 0; have hf6_1 : w12.frozen? ⟨go6, (a1 : Int).toNat * 2 + 1, none⟩ = false := hfr6 1; clear hcl6 hcc6 hfr6; (try clear hM6); replace p6 := eq_true p6; replace q6 := eq_true q6; have n_ := Aside0.mk (Kd.R_mono (ok' := (fun k_ => some k_ ≠ (.slice Ao11 y224.length co11 : Value).ownBlock)) HO229.out (fun k_ hk => hk.2)); clear HO229; have HO229 := n_; clear n_; have HX13 := Aside0.mk (show Kd.R k104 104 w12 w.heap.size (fun k_ => some k_ ≠ (.slice Ao11 y224.length co11 : Value).ownBlock) (.slice (some ⟨go6, 0, none⟩) t227.length co6) t227 from HO229.out); obtain ⟨ce13, hcl13, hM13, u2, hfr13⟩ := Kd.R_elem HX13.out z104 (a1 : Int) (of_decide_eq_true (by first | (with_reducible assumption) | assumption)) (by have h_ : (a1 : Int) < ((t227.length : Int) : Int) := of_decide_eq_true (by first | (with_reducible assumption) | assumption); first | exact h_ | (have e_ := (Kd.R_reads' HO229.out).1; omega) | simpa using h_); obtain rfl := k104_openM hM13; have HP13 := Kd.R_seg HX13.out (a1 : Int) (of_decide_eq_true (by first | (with_reducible assumption) | assumption)) (by have h_ : (a1 : Int) < ((t227.length : Int) : Int) := of_decide_eq_true (by first | (with_reducible assumption) | assumption); first | exact h_ | (have e_ := (Kd.R_reads' HO229.out).1; omega) | simpa using h_) (seg := [.int .i64 0, .int .i64 0]) (j := 0) hcl13 u2 (show 2 ≤ 2 from by decide) (x' := (⟨0, 0⟩ : S104)) (k104_mkM _ _ _ (⟨0, 0⟩ : S104) ) (fun _ hk => hk); have t6 := u2 0 _ rfl; (try simp only [show (k104).sz = 2 from rfl, Nat.mul_one, Nat.add_zero] at t6); have hf13_0 := hfr13 0; (try simp only [show (k104).sz = 2 from rfl, Nat.mul_one, Nat.add_zero] at hf13_0); have t7 := u2 1 _ rfl; (try simp only [show (k104).sz = 2 from rfl, Nat.mul_one, Nat.add_zero] at t7); have hf13_1 := hfr13 1; (try simp only [show (k104).sz = 2 from rfl, Nat.mul_one, Nat.add_zero] at hf13_1); clear hcl13 u2 hfr13; (try clear hM13)) | ((with_reducible refine gate_store (t := 104) (p := 18) rfl ?_); refine store_event (t := 104) (p := 18) (v := ?vo_w14) (w1 := ((w12.setCell ⟨go6, (a1 : Int).toNat * 2, none⟩ (.int .i64 0)).setCell ⟨go6, (a1 : Int).toNat * 2 + 1, none⟩ (.int .i64 0))) ?hg ?ho ?hn ?hr ?_; (case ho => rfl); (case hg => rfl); (case hn => rfl); (case hr => first | (go_simp; done) | (go_simp; rfl)); intro w14 hw; have hg : w12.grownBy w14 (some go6) := (by rw [hw]; exact HP13.2); have hp_ : Kd.R k104 104 w14 w.heap.size (fun k_ => some k_ ≠ (.slice Ao11 y224.length co11 : Value).ownBlock) (.slice (some ⟨go6, 0, none⟩) t227.length co6) y230 := (by rw [hw, Ny230.out]; exact HP13.1); clear HP13; have n0_ := Aside0.mk (blk_grown (g := q1) (o := .cells #[.int .i64 a0_0, .slice A0_1 l0_1.length c0_1] 25 (0, 0)) p7.out hg (Kd.R_ne HO229.out p7.out (by decide))); have n1_ := Aside0.mk (Kd.R_after (v := (.slice (some ⟨go6, 0, none⟩) t227.length co6)) (v1 := (.slice (some ⟨go6, 0, none⟩) t227.length co6)) (ok := (fun _ => True)) HO226.out hg (.inl rfl)); have n2_ := Aside0.mk (hp_); have n3_ := Aside0.mk ((by rw [hw]; exact below_set (below_set (HB.out) GB6.out) GB6.out : Below w.heap.size w w14)); clear p7; clear HO226; clear HO229; clear HB; have p7 := n0_; have HO226 := n1_; have HO229 := n2_; have HB := n3_; clear n0_ n1_ n2_ n3_; clear hg hw hp_))
 go_loopg [6] k (fun kq v6 w' => ∃ (x5_1 : List (S104)) (x6_1 : Bool), v6 = .bool x6_1 ∧ Aside0 (impl_Net_toward.l0 kq x5_1 x6_1 a0_0 l0_1 = some r) ∧ Aside0 (kq ≤ k) ∧ Aside0 (Kd.R k104 104 w' w.heap.size (fun _ => True) (.slice (some ⟨go6, 0, none⟩) t227.length co6) x5_1) ∧ Aside0 (w'.heap[q1]? = some (.cells #[.int .i64 a0_0, (.slice A0_1 l0_1.length c0_1)] 25 (0, 0))) ∧ Aside0 (Below w.heap.size w w'))
 case atStart => exact ⟨(y230), (true), (by first | rfl | (simp; done) | (simp [*]; done)), H', ⟨Nat.le_refl _⟩, ⟨by exact Kd.R_mono HO229.out (fun _ hk => trivial)⟩, ⟨by exact p7.out⟩, ⟨by repeat (first | (with_reducible first | exact HB.out | apply below_alloc | apply pw_below_drewN | apply below_drew1 | refine below_set ?_ r8.out) | exact HB.out)⟩⟩
 case round =>
  clear H'
  try clear c1
  try clear hx1
  try clear c2
  try clear p2
  try clear c4
  try clear c4b0
  try clear c5
  try clear c5b0
  try clear c6
  try clear p6
  try clear q6
  try clear hx6
  try clear hf6
  try clear c9
  try clear c12
  try clear c13
  try clear hx13
  try clear hf13
  try clear t8
  try clear t9
  try clear u0
  try clear u1
  try clear t6
  try clear t7
  try clear hx6_0
  try clear hx6_1
  try clear p6
  try clear q6
  obtain ⟨x5_1, x6_1, rfl, HA, HK1, HO_5, p7, HB⟩ := hrel
  have hl5_1 := (Kd.R_reads' HO_5.out).1
  rw [hl5_1] at HO_5
  (try simp only [hl5_1])
  (try simp only [hl5_1] at p7)
  cases gk with
  | zero => exact absurd HA.out (by simp [impl_Net_toward.l0])
  | succ k1 =>
   have H := HA.out
   clear HA
   simp only [impl_Net_toward.l0] at H
   by_cases c15 : x6_1 = true
   case neg =>
    replace c15 := Bool.eq_false_iff.mpr c15
    subst c15
    have H1 : (some x5_1) = some r := by rw [if_neg (show ¬ (false = true) by decide)] at H; exact H
    clear H
    have H := H1
    clear H1
    obtain rfl := Option.some.inj H
    go_wp2
    go_ret
    exact ⟨_, by first | rfl | (simp [errW_none, errW_some] <;> rfl) | (simp [*, errW_none, errW_some] <;> rfl), by exact HO_5.out, by repeat (first | (with_reducible first | exact HB.out | apply below_alloc | apply pw_below_drewN | apply below_drew1 | refine below_set ?_ r8.out) | exact HB.out)⟩
   subst c15
   have H1 : (impl_Net_toward.l1 k1 x5_1 false l0_1 (l0_1.length : Int) 0 a0_0 l0_1) = some r := by rw [if_pos rfl] at H; exact H
   clear H
   have H := H1
   clear H1
   have H' := Aside0.mk H
   clear H
   have u7 : wr.cell? ⟨q1, 0, none⟩ = some (.int .i64 a0_0) := (blk_cell p7.out 0).trans rfl
   have u8 : wr.cell? ⟨q1, 1, none⟩ = some (.slice A0_1 l0_1.length c0_1) := (blk_cell p7.out 1).trans rfl
   have u9 := blk_frozen p7.out 0
   have v0 := blk_frozen p7.out 1
   go_wp2
   go_loopg [6, 23] k1 (fun kq v6 v23 w' => ∃ (x5_2 : List (S104)) (x6_2 : Bool) (p0 : Int), v6 = .bool x6_2 ∧ v23 = .int .i64 p0 ∧ Aside0 (impl_Net_toward.l1 kq x5_2 x6_2 l0_1 (l0_1.length : Int) p0 a0_0 l0_1 = some r) ∧ Aside0 (kq ≤ k1) ∧ Aside0 (Kd.R k104 104 w' w.heap.size (fun _ => True) (.slice (some ⟨go6, 0, none⟩) x5_1.length co6) x5_2) ∧ Aside0 (w'.heap[q1]? = some (.cells #[.int .i64 a0_0, (.slice A0_1 l0_1.length c0_1)] 25 (0, 0))) ∧ Aside0 (Below w.heap.size w w'))
   case atStart => exact ⟨(x5_1), (false), (0), (by first | rfl | (simp; done) | (simp [*]; done)), (by first | rfl | (simp; done) | (simp [*]; done)), H', ⟨Nat.le_refl _⟩, ⟨by (try simp only [hl5_1]); exact HO_5.out⟩, ⟨by (try simp only [hl5_1]); exact p7.out⟩, ⟨by repeat (first | (with_reducible first | exact HB.out | apply below_alloc | apply pw_below_drewN | apply below_drew1 | refine below_set ?_ r8.out) | exact HB.out)⟩⟩
   case round =>
    clear H'
    try clear c1
    try clear hx1
    try clear c2
    try clear p2
    try clear c4
    try clear c4b0
    try clear c5
    try clear c5b0
    try clear c6
    try clear p6
    try clear q6
    try clear hx6
    try clear hf6
    try clear c9
    try clear c12
    try clear c13
    try clear hx13
    try clear hf13
    try clear c15
    try clear t8
    try clear t9
    try clear u7
    try clear u8
    try clear u0
    try clear u1
    try clear u9
    try clear v0
    try clear t6
    try clear t7
    try clear hx6_0
    try clear hx6_1
    try clear p2
    try clear p6
    try clear q6
    obtain ⟨x5_2, x6_2, p0, rfl, rfl, HA, HK2, HO_5, p7, HB⟩ := hrel
    have hl5_2 := (Kd.R_reads' HO_5.out).1
    rw [hl5_2] at HO_5
    (try simp only [hl5_2])
    (try simp only [hl5_2] at p7)
    cases gk with
    | zero => exact absurd HA.out (by simp [impl_Net_toward.l1])
    | succ k2 =>
     have H := HA.out
     clear HA
     simp only [impl_Net_toward.l1] at H
     by_cases c17 : p0 < (l0_1.length : Int)
     case neg =>
      rw [if_neg c17] at H
      have c17b0 : decide (p0 < (l0_1.length : Int)) = false := decide_eq_false c17
      clear c17
      have H' := Aside0.mk H
      clear H
      go_wp2
      (try simp only [← hl5_1, ← hl5_2])
      go_roundg k2
      case measure => have := HK1.out; have := HK2.out; omega
      case rel => exact ⟨(x5_2), (x6_2), (by first | rfl | (simp; done) | (simp [*]; done)), H', ⟨by have := HK1.out; have := HK2.out; omega⟩, ⟨by (try simp only [hl5_1]); (try simp only [hl5_2]); exact HO_5.out⟩, ⟨by (try simp only [hl5_1]); (try simp only [hl5_2]); exact p7.out⟩, ⟨by repeat (first | (with_reducible first | exact HB.out | apply below_alloc | apply pw_below_drewN | apply below_drew1 | refine below_set ?_ r8.out) | exact HB.out)⟩⟩
     rw [if_pos c17] at H
     have c17b0 : decide (p0 < (l0_1.length : Int)) = true := decide_eq_true c17
     clear c17
     by_cases c18 : 0 ≤ p0
     case neg =>
      rw [if_neg c18] at H
      exact absurd H (by simp)
     rw [if_pos c18] at H
     have c18b0 : decide (0 ≤ p0) = true := decide_eq_true c18
     clear c18
     by_cases c19 : p0 < (l0_1.length : Int)
     case neg =>
      rw [if_neg c19] at H
      exact absurd H (by simp)
     rw [if_pos c19] at H
     have c19b0 : decide (p0 < (l0_1.length : Int)) = true := decide_eq_true c19
     clear c19
     by_cases c20 : 0 ≤ ((rd_T34 l0_1 p0).f1)
     case neg =>
      rw [if_neg c20] at H
      exact absurd H (by simp)
     rw [if_pos c20] at H
     have c20b0 : decide (0 ≤ ((rd_T34 l0_1 p0).f1)) = true := decide_eq_true c20
     clear c20
     by_cases c21 : ((rd_T34 l0_1 p0).f1) < (x5_2.length : Int)
     case neg =>
      rw [if_neg c21] at H
      exact absurd H (by simp)
     rw [if_pos c21] at H
     have c21b0 : decide (((rd_T34 l0_1 p0).f1) < (x5_2.length : Int)) = true := decide_eq_true c21
     clear c21
     by_cases c22 : ((rd_T104 x5_2 ((rd_T34 l0_1 p0).f1)).f0) = 99999
     case pos =>
      rw [if_pos c22] at H
      have c22b0 : (((rd_T104 x5_2 ((rd_T34 l0_1 p0).f1)).f0) == 99999) = true := beq_iff_eq.mpr c22
      have c22b1 : (((rd_T104 x5_2 ((rd_T34 l0_1 p0).f1)).f0) != 99999) = false := bne_eq_false_iff_eq.mpr c22
      clear c22
      have H' := Aside0.mk H
      clear H
      have p231 : 0 ≤ (p0 : Int) := of_decide_eq_true (by first | (with_reducible assumption) | assumption)
      have q231 : p0 < (l0_1.length : Int) := of_decide_eq_true (by first | (with_reducible assumption) | assumption)
      obtain ⟨r0, e231, r1, r2, r3, r4, r5⟩ := at_T34 u4.out p0 p231 q231
      cases e231
      replace r1 := (HB.out.cell (World.block_lt_of_cell? w _ r1)).trans r1
      replace r2 := (HB.out.cell (World.block_lt_of_cell? w _ r2)).trans r2
      replace r3 := (HB.out.cell (World.block_lt_of_cell? w _ r3)).trans r3
      replace r4 := (HB.out.cell (World.block_lt_of_cell? w _ r4)).trans r4
      replace r5 := (HB.out.cell (World.block_lt_of_cell? w _ r5)).trans r5
      replace p231 := eq_true p231
      replace q231 := eq_true q231
      go_wp2_with (first | ((with_reducible refine gate_dst (N := 8) rfl ?_); refine box_event ?hg (N := 8) ?hd (cs := #[.int .i64 0, .int .i64 0, .int .i64 0, .int .i64 0, .int .i64 0]) (t := 34) ?hr ?_; (case hd => rfl); (case hg => rfl); (case hr => first | (go_simp; done) | (go_simp; rfl)); intro p3 hg w23 hbox hb; have n0_ := Aside0.mk (Kd.R_below HO_5.out hb); have n1_ := Aside0.mk (blk_below (g := q1) (o := .cells #[.int .i64 a0_0, .slice (some r0) l0_1.length c0_1] 25 (0, 0)) p7.out hb); have n2_ := Aside0.mk (below_step HB.out hb); have n3_ := Aside0.mk (hbox); have n4_ := Aside0.mk ((by rw [hg]; exact (below_size HB.out) : w.heap.size ≤ p3)); have n5_ := Aside0.mk ((by rw [hg]; exact (below_size HB.out) : w.heap.size ≤ p3)); have n6_ := Aside0.mk ((by rw [hg]; exact Nat.ne_of_lt (blk_lt (g := q1) (o := .cells #[.int .i64 a0_0, .slice (some r0) l0_1.length c0_1] 25 (0, 0)) p7.out) : q1 ≠ p3)); have n7_ := Aside0.mk ((by rw [hg]; exact Nat.ne_of_gt (blk_lt (g := q1) (o := .cells #[.int .i64 a0_0, .slice (some r0) l0_1.length c0_1] 25 (0, 0)) p7.out) : p3 ≠ q1)); clear HO_5; clear p7; clear HB; have HO_5 := n0_; have p7 := n1_; have HB := n2_; have p1 := n3_; have GW232 := n4_; have r9 := n5_; have p4 := n6_; have t0 := n7_; clear n0_ n1_ n2_ n3_ n4_ n5_ n6_ n7_; clear hb hbox hg; have hnb24 := t0.out; have hnc24 := p4.out; have hcz25_0 : w23.cell? ⟨p3, 0, none⟩ = some (.int .i64 0) := (blk_cell p1.out 0).trans rfl; have hcz25_1 : w23.cell? ⟨p3, 1, none⟩ = some (.int .i64 0) := (blk_cell p1.out 1).trans rfl; have hcz25_2 : w23.cell? ⟨p3, 2, none⟩ = some (.int .i64 0) := (blk_cell p1.out 2).trans rfl; have hcz25_3 : w23.cell? ⟨p3, 3, none⟩ = some (.int .i64 0) := (blk_cell p1.out 3).trans rfl; have hcz25_4 : w23.cell? ⟨p3, 4, none⟩ = some (.int .i64 0) := (blk_cell p1.out 4).trans rfl; have hfz25_0 := blk_frozen p1.out 0; have hfz25_1 := blk_frozen p1.out 1; have hfz25_2 := blk_frozen p1.out 2; have hfz25_3 := blk_frozen p1.out 3; have hfz25_4 := blk_frozen p1.out 4; have p233 : 0 ≤ (((rd_T34 l0_1 p0).f1) : Int) := of_decide_eq_true (by first | (with_reducible assumption) | assumption); have q233 : ((rd_T34 l0_1 p0).f1) < (x5_2.length : Int) := of_decide_eq_true (by first | (with_reducible assumption) | assumption); obtain ⟨t5, e233, p8, p9⟩ := at_T104 (Kd.R_reads' HO_5.out).2.2 ((rd_T34 l0_1 p0).f1) p233 q233; obtain rfl : (⟨go6, 0, none⟩ : Addr) = t5 := (by injection e233); (first | simp only [add_plain] at p8 | simp only [add_at] at p8 | simp only [Addr.add, Nat.zero_add] at p8 | skip); (first | simp only [add_plain] at p9 | simp only [add_at] at p9 | simp only [Addr.add, Nat.zero_add] at p9 | skip); have q2 : (⟨go6, 0, none⟩ : Addr).block ≠ p3 := Kd.own_blk (Kd.R_ne HO_5.out p1.out (by decide)); have q3 : (⟨go6, 0, none⟩ : Addr).block ≠ p3 := Kd.own_blk (Kd.R_ne HO_5.out p1.out (by decide)); have q4 : (⟨go6, 0, none⟩ : Addr).block ≠ p3 := Kd.own_blk (Kd.R_ne HO_5.out p1.out (by decide)); have q5 : (⟨go6, 0, none⟩ : Addr).block ≠ p3 := Kd.own_blk (Kd.R_ne HO_5.out p1.out (by decide)); have q7 : (⟨go6, 0, none⟩ : Addr).block ≠ p3 := Kd.own_blk (Kd.R_ne HO_5.out p1.out (by decide)); replace p8 := (cell_far (p := ⟨p3, 0, none⟩) (by first | (rw [add_block]; exact q2) | (show (Addr.add _ _).block ≠ _; rw [add_block]; exact q2) | exact q2) (.int .i64 ((rd_T34 l0_1 p0).f0))).trans p8; replace p9 := (cell_far (p := ⟨p3, 0, none⟩) (by first | (rw [add_block]; exact q2) | (show (Addr.add _ _).block ≠ _; rw [add_block]; exact q2) | exact q2) (.int .i64 ((rd_T34 l0_1 p0).f0))).trans p9; replace p8 := (cell_far (p := ⟨p3, 1, none⟩) (by first | (rw [add_block]; exact q3) | (show (Addr.add _ _).block ≠ _; rw [add_block]; exact q3) | exact q3) (.int .i64 ((rd_T34 l0_1 p0).f1))).trans p8; replace p9 := (cell_far (p := ⟨p3, 1, none⟩) (by first | (rw [add_block]; exact q3) | (show (Addr.add _ _).block ≠ _; rw [add_block]; exact q3) | exact q3) (.int .i64 ((rd_T34 l0_1 p0).f1))).trans p9; replace p8 := (cell_far (p := ⟨p3, 2, none⟩) (by first | (rw [add_block]; exact q4) | (show (Addr.add _ _).block ≠ _; rw [add_block]; exact q4) | exact q4) (.int .i64 ((rd_T34 l0_1 p0).f2))).trans p8; replace p9 := (cell_far (p := ⟨p3, 2, none⟩) (by first | (rw [add_block]; exact q4) | (show (Addr.add _ _).block ≠ _; rw [add_block]; exact q4) | exact q4) (.int .i64 ((rd_T34 l0_1 p0).f2))).trans p9; replace p8 := (cell_far (p := ⟨p3, 3, none⟩) (by first | (rw [add_block]; exact q5) | (show (Addr.add _ _).block ≠ _; rw [add_block]; exact q5) | exact q5) (.int .i64 ((rd_T34 l0_1 p0).f3))).trans p8; replace p9 := (cell_far (p := ⟨p3, 3, none⟩) (by first | (rw [add_block]; exact q5) | (show (Addr.add _ _).block ≠ _; rw [add_block]; exact q5) | exact q5) (.int .i64 ((rd_T34 l0_1 p0).f3))).trans p9; replace p8 := (cell_far (p := ⟨p3, 4, none⟩) (by first | (rw [add_block]; exact q7) | (show (Addr.add _ _).block ≠ _; rw [add_block]; exact q7) | exact q7) (.int .i64 ((rd_T34 l0_1 p0).f4))).trans p8; replace p9 := (cell_far (p := ⟨p3, 4, none⟩) (by first | (rw [add_block]; exact q7) | (show (Addr.add _ _).block ≠ _; rw [add_block]; exact q7) | exact q7) (.int .i64 ((rd_T34 l0_1 p0).f4))).trans p9; clear q2; clear q3; clear q4; clear q5; clear q7; replace p233 := eq_true p233; replace q233 := eq_true q233) | ((with_reducible refine gate_dst (N := 9) rfl ?_); refine box_event ?hg (N := 9) ?hd (cs := #[.int .i64 0, .int .i64 0]) (t := 104) ?hr ?_; (case hd => rfl); (case hg => rfl); (case hr => first | (go_simp; done) | (go_simp; rfl)); intro p5 hg w26 hbox hb; have n0_ := Aside0.mk (Kd.R_below (Kd.R_elderB (Kd.R_mono (Kd.R_far (p := ⟨p3, 4, none⟩) (Kd.R_far (p := ⟨p3, 3, none⟩) (Kd.R_far (p := ⟨p3, 2, none⟩) (Kd.R_far (p := ⟨p3, 1, none⟩) (Kd.R_far (p := ⟨p3, 0, none⟩) (Kd.R_types HO_5.out p1.out (by decide)) (fun _ hk => hk.2) (.int .i64 ((rd_T34 l0_1 p0).f0))) (fun _ hk => hk.2) (.int .i64 ((rd_T34 l0_1 p0).f1))) (fun _ hk => hk.2) (.int .i64 ((rd_T34 l0_1 p0).f2))) (fun _ hk => hk.2) (.int .i64 ((rd_T34 l0_1 p0).f3))) (fun _ hk => hk.2) (.int .i64 ((rd_T34 l0_1 p0).f4))) (fun _ h_ => h_.1)) p5 (Nat.le_of_eq hg.symm)) hb); have n1_ := Aside0.mk (blk_below (g := q1) (o := .cells #[.int .i64 a0_0, .slice (some r0) l0_1.length c0_1] 25 (0, 0)) (by refine blk_far ?_ p4.out _; refine blk_far ?_ p4.out _; refine blk_far ?_ p4.out _; refine blk_far ?_ p4.out _; refine blk_far ?_ p4.out _; exact p7.out) hb); have n2_ := Aside0.mk (blk_below (g := p3) (o := .cells #[.int .i64 ((rd_T34 l0_1 p0).f0), .int .i64 ((rd_T34 l0_1 p0).f1), .int .i64 ((rd_T34 l0_1 p0).f2), .int .i64 ((rd_T34 l0_1 p0).f3), .int .i64 ((rd_T34 l0_1 p0).f4)] 34 (0, 0)) (by refine blk_put (cs := #[.int .i64 ((rd_T34 l0_1 p0).f0), .int .i64 ((rd_T34 l0_1 p0).f1), .int .i64 ((rd_T34 l0_1 p0).f2), .int .i64 ((rd_T34 l0_1 p0).f3), .int .i64 0]) ?_ 4 _ rfl; refine blk_put (cs := #[.int .i64 ((rd_T34 l0_1 p0).f0), .int .i64 ((rd_T34 l0_1 p0).f1), .int .i64 ((rd_T34 l0_1 p0).f2), .int .i64 0, .int .i64 0]) ?_ 3 _ rfl; refine blk_put (cs := #[.int .i64 ((rd_T34 l0_1 p0).f0), .int .i64 ((rd_T34 l0_1 p0).f1), .int .i64 0, .int .i64 0, .int .i64 0]) ?_ 2 _ rfl; refine blk_put (cs := #[.int .i64 ((rd_T34 l0_1 p0).f0), .int .i64 0, .int .i64 0, .int .i64 0, .int .i64 0]) ?_ 1 _ rfl; refine blk_put (cs := #[.int .i64 0, .int .i64 0, .int .i64 0, .int .i64 0, .int .i64 0]) ?_ 0 _ rfl; exact p1.out) hb); have n3_ := Aside0.mk (below_step (by repeat (first | (with_reducible first | exact HB.out | apply below_alloc | apply pw_below_drewN | apply below_drew1 | refine below_set ?_ r8.out | refine below_set ?_ r9.out) | exact HB.out)) hb); have n4_ := Aside0.mk (hbox); have n5_ := Aside0.mk ((by rw [hg]; exact (below_size (by repeat (first | (with_reducible first | exact HB.out | apply below_alloc | apply pw_below_drewN | apply below_drew1 | refine below_set ?_ r8.out | refine below_set ?_ r9.out) | exact HB.out))) : w.heap.size ≤ p5)); have n6_ := Aside0.mk ((by rw [hg]; exact (below_size (by repeat (first | (with_reducible first | exact HB.out | apply below_alloc | apply pw_below_drewN | apply below_drew1 | refine below_set ?_ r8.out | refine below_set ?_ r9.out) | exact HB.out))) : w.heap.size ≤ p5)); have n7_ := Aside0.mk ((by rw [hg]; exact Nat.ne_of_lt (blk_lt (g := q1) (o := .cells #[.int .i64 a0_0, .slice (some r0) l0_1.length c0_1] 25 (0, 0)) (by refine blk_far ?_ p4.out _; refine blk_far ?_ p4.out _; refine blk_far ?_ p4.out _; refine blk_far ?_ p4.out _; refine blk_far ?_ p4.out _; exact p7.out)) : q1 ≠ p5)); have n8_ := Aside0.mk ((by rw [hg]; exact Nat.ne_of_gt (blk_lt (g := q1) (o := .cells #[.int .i64 a0_0, .slice (some r0) l0_1.length c0_1] 25 (0, 0)) (by refine blk_far ?_ p4.out _; refine blk_far ?_ p4.out _; refine blk_far ?_ p4.out _; refine blk_far ?_ p4.out _; refine blk_far ?_ p4.out _; exact p7.out)) : p5 ≠ q1)); have n9_ := Aside0.mk ((by rw [hg]; exact Nat.ne_of_lt (blk_lt (g := p3) (o := .cells #[.int .i64 ((rd_T34 l0_1 p0).f0), .int .i64 ((rd_T34 l0_1 p0).f1), .int .i64 ((rd_T34 l0_1 p0).f2), .int .i64 ((rd_T34 l0_1 p0).f3), .int .i64 ((rd_T34 l0_1 p0).f4)] 34 (0, 0)) (by refine blk_put (cs := #[.int .i64 ((rd_T34 l0_1 p0).f0), .int .i64 ((rd_T34 l0_1 p0).f1), .int .i64 ((rd_T34 l0_1 p0).f2), .int .i64 ((rd_T34 l0_1 p0).f3), .int .i64 0]) ?_ 4 _ rfl; refine blk_put (cs := #[.int .i64 ((rd_T34 l0_1 p0).f0), .int .i64 ((rd_T34 l0_1 p0).f1), .int .i64 ((rd_T34 l0_1 p0).f2), .int .i64 0, .int .i64 0]) ?_ 3 _ rfl; refine blk_put (cs := #[.int .i64 ((rd_T34 l0_1 p0).f0), .int .i64 ((rd_T34 l0_1 p0).f1), .int .i64 0, .int .i64 0, .int .i64 0]) ?_ 2 _ rfl; refine blk_put (cs := #[.int .i64 ((rd_T34 l0_1 p0).f0), .int .i64 0, .int .i64 0, .int .i64 0, .int .i64 0]) ?_ 1 _ rfl; refine blk_put (cs := #[.int .i64 0, .int .i64 0, .int .i64 0, .int .i64 0, .int .i64 0]) ?_ 0 _ rfl; exact p1.out)) : p3 ≠ p5)); have n10_ := Aside0.mk ((by rw [hg]; exact Nat.ne_of_gt (blk_lt (g := p3) (o := .cells #[.int .i64 ((rd_T34 l0_1 p0).f0), .int .i64 ((rd_T34 l0_1 p0).f1), .int .i64 ((rd_T34 l0_1 p0).f2), .int .i64 ((rd_T34 l0_1 p0).f3), .int .i64 ((rd_T34 l0_1 p0).f4)] 34 (0, 0)) (by refine blk_put (cs := #[.int .i64 ((rd_T34 l0_1 p0).f0), .int .i64 ((rd_T34 l0_1 p0).f1), .int .i64 ((rd_T34 l0_1 p0).f2), .int .i64 ((rd_T34 l0_1 p0).f3), .int .i64 0]) ?_ 4 _ rfl; refine blk_put (cs := #[.int .i64 ((rd_T34 l0_1 p0).f0), .int .i64 ((rd_T34 l0_1 p0).f1), .int .i64 ((rd_T34 l0_1 p0).f2), .int .i64 0, .int .i64 0]) ?_ 3 _ rfl; refine blk_put (cs := #[.int .i64 ((rd_T34 l0_1 p0).f0), .int .i64 ((rd_T34 l0_1 p0).f1), .int .i64 0, .int .i64 0, .int .i64 0]) ?_ 2 _ rfl; refine blk_put (cs := #[.int .i64 ((rd_T34 l0_1 p0).f0), .int .i64 0, .int .i64 0, .int .i64 0, .int .i64 0]) ?_ 1 _ rfl; refine blk_put (cs := #[.int .i64 0, .int .i64 0, .int .i64 0, .int .i64 0, .int .i64 0]) ?_ 0 _ rfl; exact p1.out)) : p5 ≠ p3)); clear HO_5; clear p7; clear p1; clear HB; have HO_5 := n0_; have p7 := n1_; have p1 := n2_; have HB := n3_; have q0 := n4_; have GW234 := n5_; have t4 := n6_; have q8 := n7_; have t1 := n8_; have q9 := n9_; have t2 := n10_; clear n0_ n1_ n2_ n3_ n4_ n5_ n6_ n7_ n8_ n9_ n10_; clear hb hbox hg; have hnb27 := t1.out; have hnc27 := q8.out; have hnb28 := t2.out; have hnc28 := q9.out; have hcz29_0 : w26.cell? ⟨p5, 0, none⟩ = some (.int .i64 0) := (blk_cell q0.out 0).trans rfl; have hcz29_1 : w26.cell? ⟨p5, 1, none⟩ = some (.int .i64 0) := (blk_cell q0.out 1).trans rfl; have hfz29_0 := blk_frozen q0.out 0; have hfz29_1 := blk_frozen q0.out 1))
      (try simp only [← hl5_2])
      go_roundg k2
      case measure => have := HK1.out; have := HK2.out; omega
      case rel => exact ⟨(x5_2), (x6_2), (wrap64 (p0 + 1)), (by first | rfl | (simp; done) | (simp [*]; done)), (by first | rfl | (simp; done) | (simp [*]; done)), H', ⟨by have := HK1.out; have := HK2.out; omega⟩, ⟨by (try simp only [hl5_1]); (try simp only [hl5_2]); exact Kd.R_mono (Kd.R_far (p := ⟨p5, 1, none⟩) (Kd.R_far (p := ⟨p5, 0, none⟩) (Kd.R_mono HO_5.out (fun k_ hk => (⟨hk, hk.2⟩ : _ ∧ k_ ≠ p5))) (fun _ hk => hk.2) (.int .i64 ((rd_T104 x5_2 ((rd_T34 l0_1 p0).f1)).f0))) (fun _ hk => hk.2) (.int .i64 ((rd_T104 x5_2 ((rd_T34 l0_1 p0).f1)).f1))) (fun _ hk => trivial)⟩, ⟨by (try simp only [hl5_1]); (try simp only [hl5_2]); refine blk_far ?_ q8.out _; refine blk_far ?_ q8.out _; exact p7.out⟩, ⟨by repeat (first | (with_reducible first | exact HB.out | apply below_alloc | apply pw_below_drewN | apply below_drew1 | refine below_set ?_ r8.out | refine below_set ?_ r9.out | refine below_set ?_ t4.out) | exact HB.out)⟩⟩
     rw [if_neg c22] at H
     have c22b0 : (((rd_T104 x5_2 ((rd_T34 l0_1 p0).f1)).f0) == 99999) = false := beq_eq_false_iff_ne.mpr c22
     have c22b1 : (((rd_T104 x5_2 ((rd_T34 l0_1 p0).f1)).f0) != 99999) = true := bne_iff_ne.mpr c22
     by_cases c30 : 0 ≤ ((rd_T34 l0_1 p0).f0)
     case neg =>
      rw [if_neg c30] at H
      exact absurd H (by simp)
     rw [if_pos c30] at H
     have c30b0 : decide (0 ≤ ((rd_T34 l0_1 p0).f0)) = true := decide_eq_true c30
     clear c30
     by_cases c31 : ((rd_T34 l0_1 p0).f0) < (x5_2.length : Int)
     case neg =>
      rw [if_neg c31] at H
      exact absurd H (by simp)
     rw [if_pos c31] at H
     have c31b0 : decide (((rd_T34 l0_1 p0).f0) < (x5_2.length : Int)) = true := decide_eq_true c31
     clear c31
     replace H := Option.bind_eq_some_iff.mp H
     obtain ⟨t236, A320, H⟩ := H
     replace H : (if t236 = true then (impl_Net_toward.l1 k2 (x5_2.set (((rd_T34 l0_1 p0).f0) : Int).toNat (⟨wrap64 (((rd_T104 x5_2 ((rd_T34 l0_1 p0).f1)).f0) + ((rd_T34 l0_1 p0).f2)), wrap64 (((rd_T104 x5_2 ((rd_T34 l0_1 p0).f1)).f1) + 1)⟩ : S104)) true l0_1 (l0_1.length : Int) (wrap64 (p0 + 1)) a0_0 l0_1) else (impl_Net_toward.l1 k2 x5_2 x6_2 l0_1 (l0_1.length : Int) (wrap64 (p0 + 1)) a0_0 l0_1)) = some r := H
     have A32 := Aside0.mk A320
     clear A320
     by_cases c33 : t236 = true
     case neg =>
      replace c33 := Bool.eq_false_iff.mpr c33
      subst c33
      have H1 : (impl_Net_toward.l1 k2 x5_2 x6_2 l0_1 (l0_1.length : Int) (wrap64 (p0 + 1)) a0_0 l0_1) = some r := by rw [if_neg (show ¬ (false = true) by decide)] at H; exact H
      clear H
      have H := H1
      clear H1
      have H' := Aside0.mk H
      clear H
      have p231 : 0 ≤ (p0 : Int) := of_decide_eq_true (by first | (with_reducible assumption) | assumption)
      have q231 : p0 < (l0_1.length : Int) := of_decide_eq_true (by first | (with_reducible assumption) | assumption)
      obtain ⟨r0, e231, r1, r2, r3, r4, r5⟩ := at_T34 u4.out p0 p231 q231
      cases e231
      replace r1 := (HB.out.cell (World.block_lt_of_cell? w _ r1)).trans r1
      replace r2 := (HB.out.cell (World.block_lt_of_cell? w _ r2)).trans r2
      replace r3 := (HB.out.cell (World.block_lt_of_cell? w _ r3)).trans r3
      replace r4 := (HB.out.cell (World.block_lt_of_cell? w _ r4)).trans r4
      replace r5 := (HB.out.cell (World.block_lt_of_cell? w _ r5)).trans r5
      replace p231 := eq_true p231
      replace q231 := eq_true q231
      try go_wp2_with (first | ((with_reducible refine gate_dst (N := 8) rfl ?_); refine box_event ?hg (N := 8) ?hd (cs := #[.int .i64 0, .int .i64 0, .int .i64 0, .int .i64 0, .int .i64 0]) (t := 34) ?hr ?_; (case hd => rfl); (case hg => rfl); (case hr => first | (go_simp; done) | (go_simp; rfl)); intro p3 hg w50 hbox hb; have n0_ := Aside0.mk (Kd.R_below HO_5.out hb); have n1_ := Aside0.mk (blk_below (g := q1) (o := .cells #[.int .i64 a0_0, .slice (some r0) l0_1.length c0_1] 25 (0, 0)) p7.out hb); have n2_ := Aside0.mk (below_step HB.out hb); have n3_ := Aside0.mk (hbox); have n4_ := Aside0.mk ((by rw [hg]; exact (below_size HB.out) : w.heap.size ≤ p3)); have n5_ := Aside0.mk ((by rw [hg]; exact (below_size HB.out) : w.heap.size ≤ p3)); have n6_ := Aside0.mk ((by rw [hg]; exact Nat.ne_of_lt (blk_lt (g := q1) (o := .cells #[.int .i64 a0_0, .slice (some r0) l0_1.length c0_1] 25 (0, 0)) p7.out) : q1 ≠ p3)); have n7_ := Aside0.mk ((by rw [hg]; exact Nat.ne_of_gt (blk_lt (g := q1) (o := .cells #[.int .i64 a0_0, .slice (some r0) l0_1.length c0_1] 25 (0, 0)) p7.out) : p3 ≠ q1)); clear HO_5; clear p7; clear HB; have HO_5 := n0_; have p7 := n1_; have HB := n2_; have p1 := n3_; have GW232 := n4_; have r9 := n5_; have p4 := n6_; have t0 := n7_; clear n0_ n1_ n2_ n3_ n4_ n5_ n6_ n7_; clear hb hbox hg; have hnb51 := t0.out; have hnc51 := p4.out; have hcz52_0 : w50.cell? ⟨p3, 0, none⟩ = some (.int .i64 0) := (blk_cell p1.out 0).trans rfl; have hcz52_1 : w50.cell? ⟨p3, 1, none⟩ = some (.int .i64 0) := (blk_cell p1.out 1).trans rfl; have hcz52_2 : w50.cell? ⟨p3, 2, none⟩ = some (.int .i64 0) := (blk_cell p1.out 2).trans rfl; have hcz52_3 : w50.cell? ⟨p3, 3, none⟩ = some (.int .i64 0) := (blk_cell p1.out 3).trans rfl; have hcz52_4 : w50.cell? ⟨p3, 4, none⟩ = some (.int .i64 0) := (blk_cell p1.out 4).trans rfl; have hfz52_0 := blk_frozen p1.out 0; have hfz52_1 := blk_frozen p1.out 1; have hfz52_2 := blk_frozen p1.out 2; have hfz52_3 := blk_frozen p1.out 3; have hfz52_4 := blk_frozen p1.out 4; have p233 : 0 ≤ (((rd_T34 l0_1 p0).f1) : Int) := of_decide_eq_true (by first | (with_reducible assumption) | assumption); have q233 : ((rd_T34 l0_1 p0).f1) < (x5_2.length : Int) := of_decide_eq_true (by first | (with_reducible assumption) | assumption); obtain ⟨t5, e233, p8, p9⟩ := at_T104 (Kd.R_reads' HO_5.out).2.2 ((rd_T34 l0_1 p0).f1) p233 q233; obtain rfl : (⟨go6, 0, none⟩ : Addr) = t5 := (by injection e233); (first | simp only [add_plain] at p8 | simp only [add_at] at p8 | simp only [Addr.add, Nat.zero_add] at p8 | skip); (first | simp only [add_plain] at p9 | simp only [add_at] at p9 | simp only [Addr.add, Nat.zero_add] at p9 | skip); have q2 : (⟨go6, 0, none⟩ : Addr).block ≠ p3 := Kd.own_blk (Kd.R_ne HO_5.out p1.out (by decide)); have q3 : (⟨go6, 0, none⟩ : Addr).block ≠ p3 := Kd.own_blk (Kd.R_ne HO_5.out p1.out (by decide)); have q4 : (⟨go6, 0, none⟩ : Addr).block ≠ p3 := Kd.own_blk (Kd.R_ne HO_5.out p1.out (by decide)); have q5 : (⟨go6, 0, none⟩ : Addr).block ≠ p3 := Kd.own_blk (Kd.R_ne HO_5.out p1.out (by decide)); have q7 : (⟨go6, 0, none⟩ : Addr).block ≠ p3 := Kd.own_blk (Kd.R_ne HO_5.out p1.out (by decide)); replace p8 := (cell_far (p := ⟨p3, 0, none⟩) (by first | (rw [add_block]; exact q2) | (show (Addr.add _ _).block ≠ _; rw [add_block]; exact q2) | exact q2) (.int .i64 ((rd_T34 l0_1 p0).f0))).trans p8; replace p9 := (cell_far (p := ⟨p3, 0, none⟩) (by first | (rw [add_block]; exact q2) | (show (Addr.add _ _).block ≠ _; rw [add_block]; exact q2) | exact q2) (.int .i64 ((rd_T34 l0_1 p0).f0))).trans p9; replace p8 := (cell_far (p := ⟨p3, 1, none⟩) (by first | (rw [add_block]; exact q3) | (show (Addr.add _ _).block ≠ _; rw [add_block]; exact q3) | exact q3) (.int .i64 ((rd_T34 l0_1 p0).f1))).trans p8; replace p9 := (cell_far (p := ⟨p3, 1, none⟩) (by first | (rw [add_block]; exact q3) | (show (Addr.add _ _).block ≠ _; rw [add_block]; exact q3) | exact q3) (.int .i64 ((rd_T34 l0_1 p0).f1))).trans p9; replace p8 := (cell_far (p := ⟨p3, 2, none⟩) (by first | (rw [add_block]; exact q4) | (show (Addr.add _ _).block ≠ _; rw [add_block]; exact q4) | exact q4) (.int .i64 ((rd_T34 l0_1 p0).f2))).trans p8; replace p9 := (cell_far (p := ⟨p3, 2, none⟩) (by first | (rw [add_block]; exact q4) | (show (Addr.add _ _).block ≠ _; rw [add_block]; exact q4) | exact q4) (.int .i64 ((rd_T34 l0_1 p0).f2))).trans p9; replace p8 := (cell_far (p := ⟨p3, 3, none⟩) (by first | (rw [add_block]; exact q5) | (show (Addr.add _ _).block ≠ _; rw [add_block]; exact q5) | exact q5) (.int .i64 ((rd_T34 l0_1 p0).f3))).trans p8; replace p9 := (cell_far (p := ⟨p3, 3, none⟩) (by first | (rw [add_block]; exact q5) | (show (Addr.add _ _).block ≠ _; rw [add_block]; exact q5) | exact q5) (.int .i64 ((rd_T34 l0_1 p0).f3))).trans p9; replace p8 := (cell_far (p := ⟨p3, 4, none⟩) (by first | (rw [add_block]; exact q7) | (show (Addr.add _ _).block ≠ _; rw [add_block]; exact q7) | exact q7) (.int .i64 ((rd_T34 l0_1 p0).f4))).trans p8; replace p9 := (cell_far (p := ⟨p3, 4, none⟩) (by first | (rw [add_block]; exact q7) | (show (Addr.add _ _).block ≠ _; rw [add_block]; exact q7) | exact q7) (.int .i64 ((rd_T34 l0_1 p0).f4))).trans p9; clear q2; clear q3; clear q4; clear q5; clear q7; replace p233 := eq_true p233; replace q233 := eq_true q233) | ((with_reducible refine gate_dst (N := 9) rfl ?_); refine box_event ?hg (N := 9) ?hd (cs := #[.int .i64 0, .int .i64 0]) (t := 104) ?hr ?_; (case hd => rfl); (case hg => rfl); (case hr => first | (go_simp; done) | (go_simp; rfl)); intro p5 hg w53 hbox hb; have n0_ := Aside0.mk (Kd.R_below (Kd.R_elderB (Kd.R_mono (Kd.R_far (p := ⟨p3, 4, none⟩) (Kd.R_far (p := ⟨p3, 3, none⟩) (Kd.R_far (p := ⟨p3, 2, none⟩) (Kd.R_far (p := ⟨p3, 1, none⟩) (Kd.R_far (p := ⟨p3, 0, none⟩) (Kd.R_types HO_5.out p1.out (by decide)) (fun _ hk => hk.2) (.int .i64 ((rd_T34 l0_1 p0).f0))) (fun _ hk => hk.2) (.int .i64 ((rd_T34 l0_1 p0).f1))) (fun _ hk => hk.2) (.int .i64 ((rd_T34 l0_1 p0).f2))) (fun _ hk => hk.2) (.int .i64 ((rd_T34 l0_1 p0).f3))) (fun _ hk => hk.2) (.int .i64 ((rd_T34 l0_1 p0).f4))) (fun _ h_ => h_.1)) p5 (Nat.le_of_eq hg.symm)) hb); have n1_ := Aside0.mk (blk_below (g := q1) (o := .cells #[.int .i64 a0_0, .slice (some r0) l0_1.length c0_1] 25 (0, 0)) (by refine blk_far ?_ p4.out _; refine blk_far ?_ p4.out _; refine blk_far ?_ p4.out _; refine blk_far ?_ p4.out _; refine blk_far ?_ p4.out _; exact p7.out) hb); have n2_ := Aside0.mk (blk_below (g := p3) (o := .cells #[.int .i64 ((rd_T34 l0_1 p0).f0), .int .i64 ((rd_T34 l0_1 p0).f1), .int .i64 ((rd_T34 l0_1 p0).f2), .int .i64 ((rd_T34 l0_1 p0).f3), .int .i64 ((rd_T34 l0_1 p0).f4)] 34 (0, 0)) (by refine blk_put (cs := #[.int .i64 ((rd_T34 l0_1 p0).f0), .int .i64 ((rd_T34 l0_1 p0).f1), .int .i64 ((rd_T34 l0_1 p0).f2), .int .i64 ((rd_T34 l0_1 p0).f3), .int .i64 0]) ?_ 4 _ rfl; refine blk_put (cs := #[.int .i64 ((rd_T34 l0_1 p0).f0), .int .i64 ((rd_T34 l0_1 p0).f1), .int .i64 ((rd_T34 l0_1 p0).f2), .int .i64 0, .int .i64 0]) ?_ 3 _ rfl; refine blk_put (cs := #[.int .i64 ((rd_T34 l0_1 p0).f0), .int .i64 ((rd_T34 l0_1 p0).f1), .int .i64 0, .int .i64 0, .int .i64 0]) ?_ 2 _ rfl; refine blk_put (cs := #[.int .i64 ((rd_T34 l0_1 p0).f0), .int .i64 0, .int .i64 0, .int .i64 0, .int .i64 0]) ?_ 1 _ rfl; refine blk_put (cs := #[.int .i64 0, .int .i64 0, .int .i64 0, .int .i64 0, .int .i64 0]) ?_ 0 _ rfl; exact p1.out) hb); have n3_ := Aside0.mk (below_step (by repeat (first | (with_reducible first | exact HB.out | apply below_alloc | apply pw_below_drewN | apply below_drew1 | refine below_set ?_ r8.out | refine below_set ?_ r9.out) | exact HB.out)) hb); have n4_ := Aside0.mk (hbox); have n5_ := Aside0.mk ((by rw [hg]; exact (below_size (by repeat (first | (with_reducible first | exact HB.out | apply below_alloc | apply pw_below_drewN | apply below_drew1 | refine below_set ?_ r8.out | refine below_set ?_ r9.out) | exact HB.out))) : w.heap.size ≤ p5)); have n6_ := Aside0.mk ((by rw [hg]; exact (below_size (by repeat (first | (with_reducible first | exact HB.out | apply below_alloc | apply pw_below_drewN | apply below_drew1 | refine below_set ?_ r8.out | refine below_set ?_ r9.out) | exact HB.out))) : w.heap.size ≤ p5)); have n7_ := Aside0.mk ((by rw [hg]; exact Nat.ne_of_lt (blk_lt (g := q1) (o := .cells #[.int .i64 a0_0, .slice (some r0) l0_1.length c0_1] 25 (0, 0)) (by refine blk_far ?_ p4.out _; refine blk_far ?_ p4.out _; refine blk_far ?_ p4.out _; refine blk_far ?_ p4.out _; refine blk_far ?_ p4.out _; exact p7.out)) : q1 ≠ p5)); have n8_ := Aside0.mk ((by rw [hg]; exact Nat.ne_of_gt (blk_lt (g := q1) (o := .cells #[.int .i64 a0_0, .slice (some r0) l0_1.length c0_1] 25 (0, 0)) (by refine blk_far ?_ p4.out _; refine blk_far ?_ p4.out _; refine blk_far ?_ p4.out _; refine blk_far ?_ p4.out _; refine blk_far ?_ p4.out _; exact p7.out)) : p5 ≠ q1)); have n9_ := Aside0.mk ((by rw [hg]; exact Nat.ne_of_lt (blk_lt (g := p3) (o := .cells #[.int .i64 ((rd_T34 l0_1 p0).f0), .int .i64 ((rd_T34 l0_1 p0).f1), .int .i64 ((rd_T34 l0_1 p0).f2), .int .i64 ((rd_T34 l0_1 p0).f3), .int .i64 ((rd_T34 l0_1 p0).f4)] 34 (0, 0)) (by refine blk_put (cs := #[.int .i64 ((rd_T34 l0_1 p0).f0), .int .i64 ((rd_T34 l0_1 p0).f1), .int .i64 ((rd_T34 l0_1 p0).f2), .int .i64 ((rd_T34 l0_1 p0).f3), .int .i64 0]) ?_ 4 _ rfl; refine blk_put (cs := #[.int .i64 ((rd_T34 l0_1 p0).f0), .int .i64 ((rd_T34 l0_1 p0).f1), .int .i64 ((rd_T34 l0_1 p0).f2), .int .i64 0, .int .i64 0]) ?_ 3 _ rfl; refine blk_put (cs := #[.int .i64 ((rd_T34 l0_1 p0).f0), .int .i64 ((rd_T34 l0_1 p0).f1), .int .i64 0, .int .i64 0, .int .i64 0]) ?_ 2 _ rfl; refine blk_put (cs := #[.int .i64 ((rd_T34 l0_1 p0).f0), .int .i64 0, .int .i64 0, .int .i64 0, .int .i64 0]) ?_ 1 _ rfl; refine blk_put (cs := #[.int .i64 0, .int .i64 0, .int .i64 0, .int .i64 0, .int .i64 0]) ?_ 0 _ rfl; exact p1.out)) : p3 ≠ p5)); have n10_ := Aside0.mk ((by rw [hg]; exact Nat.ne_of_gt (blk_lt (g := p3) (o := .cells #[.int .i64 ((rd_T34 l0_1 p0).f0), .int .i64 ((rd_T34 l0_1 p0).f1), .int .i64 ((rd_T34 l0_1 p0).f2), .int .i64 ((rd_T34 l0_1 p0).f3), .int .i64 ((rd_T34 l0_1 p0).f4)] 34 (0, 0)) (by refine blk_put (cs := #[.int .i64 ((rd_T34 l0_1 p0).f0), .int .i64 ((rd_T34 l0_1 p0).f1), .int .i64 ((rd_T34 l0_1 p0).f2), .int .i64 ((rd_T34 l0_1 p0).f3), .int .i64 0]) ?_ 4 _ rfl; refine blk_put (cs := #[.int .i64 ((rd_T34 l0_1 p0).f0), .int .i64 ((rd_T34 l0_1 p0).f1), .int .i64 ((rd_T34 l0_1 p0).f2), .int .i64 0, .int .i64 0]) ?_ 3 _ rfl; refine blk_put (cs := #[.int .i64 ((rd_T34 l0_1 p0).f0), .int .i64 ((rd_T34 l0_1 p0).f1), .int .i64 0, .int .i64 0, .int .i64 0]) ?_ 2 _ rfl; refine blk_put (cs := #[.int .i64 ((rd_T34 l0_1 p0).f0), .int .i64 0, .int .i64 0, .int .i64 0, .int .i64 0]) ?_ 1 _ rfl; refine blk_put (cs := #[.int .i64 0, .int .i64 0, .int .i64 0, .int .i64 0, .int .i64 0]) ?_ 0 _ rfl; exact p1.out)) : p5 ≠ p3)); clear HO_5; clear p7; clear p1; clear HB; have HO_5 := n0_; have p7 := n1_; have p1 := n2_; have HB := n3_; have q0 := n4_; have GW234 := n5_; have t4 := n6_; have q8 := n7_; have t1 := n8_; have q9 := n9_; have t2 := n10_; clear n0_ n1_ n2_ n3_ n4_ n5_ n6_ n7_ n8_ n9_ n10_; clear hb hbox hg; have hnb54 := t1.out; have hnc54 := q8.out; have hnb55 := t2.out; have hnc55 := q9.out; have hcz56_0 : w53.cell? ⟨p5, 0, none⟩ = some (.int .i64 0) := (blk_cell q0.out 0).trans rfl; have hcz56_1 : w53.cell? ⟨p5, 1, none⟩ = some (.int .i64 0) := (blk_cell q0.out 1).trans rfl; have hfz56_0 := blk_frozen q0.out 0; have hfz56_1 := blk_frozen q0.out 1; have hcz57_0 : w53.cell? ⟨p3, 0, none⟩ = some (.int .i64 ((rd_T34 l0_1 p0).f0)) := (blk_cell p1.out 0).trans rfl; have hcz57_1 : w53.cell? ⟨p3, 1, none⟩ = some (.int .i64 ((rd_T34 l0_1 p0).f1)) := (blk_cell p1.out 1).trans rfl; have hcz57_2 : w53.cell? ⟨p3, 2, none⟩ = some (.int .i64 ((rd_T34 l0_1 p0).f2)) := (blk_cell p1.out 2).trans rfl; have hcz57_3 : w53.cell? ⟨p3, 3, none⟩ = some (.int .i64 ((rd_T34 l0_1 p0).f3)) := (blk_cell p1.out 3).trans rfl; have hcz57_4 : w53.cell? ⟨p3, 4, none⟩ = some (.int .i64 ((rd_T34 l0_1 p0).f4)) := (blk_cell p1.out 4).trans rfl; have hfz57_0 := blk_frozen p1.out 0; have hfz57_1 := blk_frozen p1.out 1; have hfz57_2 := blk_frozen p1.out 2; have hfz57_3 := blk_frozen p1.out 3; have hfz57_4 := blk_frozen p1.out 4))
      have n0_ : Aside0 (Kd.R k104 104 ((((w53.setCell ⟨p5, 0, none⟩ (.int .i64 ((rd_T104 x5_2 ((rd_T34 l0_1 p0).f1)).f0))).setCell ⟨p5, 1, none⟩ (.int .i64 ((rd_T104 x5_2 ((rd_T34 l0_1 p0).f1)).f1))).setCell ⟨p5, 0, none⟩ (.int .i64 (wrap64 (((rd_T104 x5_2 ((rd_T34 l0_1 p0).f1)).f0) + ((rd_T34 l0_1 p0).f2))))).setCell ⟨p5, 1, none⟩ (.int .i64 (wrap64 (((rd_T104 x5_2 ((rd_T34 l0_1 p0).f1)).f1) + 1)))) w.heap.size (fun k_ => k_ ≠ p5) (.slice (some ⟨go6, 0, none⟩) x5_2.length co6) x5_2) := ⟨by exact Kd.R_mono (Kd.R_far (p := ⟨p5, 1, none⟩) (Kd.R_far (p := ⟨p5, 0, none⟩) (Kd.R_far (p := ⟨p5, 1, none⟩) (Kd.R_far (p := ⟨p5, 0, none⟩) (Kd.R_mono HO_5.out (fun k_ hk => (⟨hk, hk.2⟩ : _ ∧ k_ ≠ p5))) (fun _ hk => hk.2) (.int .i64 ((rd_T104 x5_2 ((rd_T34 l0_1 p0).f1)).f0))) (fun _ hk => hk.2) (.int .i64 ((rd_T104 x5_2 ((rd_T34 l0_1 p0).f1)).f1))) (fun _ hk => hk.2) (.int .i64 (wrap64 (((rd_T104 x5_2 ((rd_T34 l0_1 p0).f1)).f0) + ((rd_T34 l0_1 p0).f2))))) (fun _ hk => hk.2) (.int .i64 (wrap64 (((rd_T104 x5_2 ((rd_T34 l0_1 p0).f1)).f1) + 1)))) (fun _ hk => hk.1.2)⟩
      have n1_ : Aside0 (((((w53.setCell ⟨p5, 0, none⟩ (.int .i64 ((rd_T104 x5_2 ((rd_T34 l0_1 p0).f1)).f0))).setCell ⟨p5, 1, none⟩ (.int .i64 ((rd_T104 x5_2 ((rd_T34 l0_1 p0).f1)).f1))).setCell ⟨p5, 0, none⟩ (.int .i64 (wrap64 (((rd_T104 x5_2 ((rd_T34 l0_1 p0).f1)).f0) + ((rd_T34 l0_1 p0).f2))))).setCell ⟨p5, 1, none⟩ (.int .i64 (wrap64 (((rd_T104 x5_2 ((rd_T34 l0_1 p0).f1)).f1) + 1)))).heap[q1]? = some (.cells #[.int .i64 a0_0, .slice (some r0) l0_1.length c0_1] 25 (0, 0))) := ⟨by refine blk_far ?_ q8.out _; refine blk_far ?_ q8.out _; refine blk_far ?_ q8.out _; refine blk_far ?_ q8.out _; exact p7.out⟩
      have n2_ : Aside0 (((((w53.setCell ⟨p5, 0, none⟩ (.int .i64 ((rd_T104 x5_2 ((rd_T34 l0_1 p0).f1)).f0))).setCell ⟨p5, 1, none⟩ (.int .i64 ((rd_T104 x5_2 ((rd_T34 l0_1 p0).f1)).f1))).setCell ⟨p5, 0, none⟩ (.int .i64 (wrap64 (((rd_T104 x5_2 ((rd_T34 l0_1 p0).f1)).f0) + ((rd_T34 l0_1 p0).f2))))).setCell ⟨p5, 1, none⟩ (.int .i64 (wrap64 (((rd_T104 x5_2 ((rd_T34 l0_1 p0).f1)).f1) + 1)))).heap[p3]? = some (.cells #[.int .i64 ((rd_T34 l0_1 p0).f0), .int .i64 ((rd_T34 l0_1 p0).f1), .int .i64 ((rd_T34 l0_1 p0).f2), .int .i64 ((rd_T34 l0_1 p0).f3), .int .i64 ((rd_T34 l0_1 p0).f4)] 34 (0, 0))) := ⟨by refine blk_far ?_ q9.out _; refine blk_far ?_ q9.out _; refine blk_far ?_ q9.out _; refine blk_far ?_ q9.out _; exact p1.out⟩
      have n3_ : Aside0 (((((w53.setCell ⟨p5, 0, none⟩ (.int .i64 ((rd_T104 x5_2 ((rd_T34 l0_1 p0).f1)).f0))).setCell ⟨p5, 1, none⟩ (.int .i64 ((rd_T104 x5_2 ((rd_T34 l0_1 p0).f1)).f1))).setCell ⟨p5, 0, none⟩ (.int .i64 (wrap64 (((rd_T104 x5_2 ((rd_T34 l0_1 p0).f1)).f0) + ((rd_T34 l0_1 p0).f2))))).setCell ⟨p5, 1, none⟩ (.int .i64 (wrap64 (((rd_T104 x5_2 ((rd_T34 l0_1 p0).f1)).f1) + 1)))).heap[p5]? = some (.cells #[.int .i64 (wrap64 (((rd_T104 x5_2 ((rd_T34 l0_1 p0).f1)).f0) + ((rd_T34 l0_1 p0).f2))), .int .i64 (wrap64 (((rd_T104 x5_2 ((rd_T34 l0_1 p0).f1)).f1) + 1))] 104 (0, 0))) := ⟨by refine blk_put (cs := #[.int .i64 (wrap64 (((rd_T104 x5_2 ((rd_T34 l0_1 p0).f1)).f0) + ((rd_T34 l0_1 p0).f2))), .int .i64 ((rd_T104 x5_2 ((rd_T34 l0_1 p0).f1)).f1)]) ?_ 1 _ rfl; refine blk_put (cs := #[.int .i64 ((rd_T104 x5_2 ((rd_T34 l0_1 p0).f1)).f0), .int .i64 ((rd_T104 x5_2 ((rd_T34 l0_1 p0).f1)).f1)]) ?_ 0 _ rfl; refine blk_put (cs := #[.int .i64 ((rd_T104 x5_2 ((rd_T34 l0_1 p0).f1)).f0), .int .i64 0]) ?_ 1 _ rfl; refine blk_put (cs := #[.int .i64 0, .int .i64 0]) ?_ 0 _ rfl; exact q0.out⟩
      have n4_ : Aside0 (Below w.heap.size w ((((w53.setCell ⟨p5, 0, none⟩ (.int .i64 ((rd_T104 x5_2 ((rd_T34 l0_1 p0).f1)).f0))).setCell ⟨p5, 1, none⟩ (.int .i64 ((rd_T104 x5_2 ((rd_T34 l0_1 p0).f1)).f1))).setCell ⟨p5, 0, none⟩ (.int .i64 (wrap64 (((rd_T104 x5_2 ((rd_T34 l0_1 p0).f1)).f0) + ((rd_T34 l0_1 p0).f2))))).setCell ⟨p5, 1, none⟩ (.int .i64 (wrap64 (((rd_T104 x5_2 ((rd_T34 l0_1 p0).f1)).f1) + 1))))) := ⟨by repeat (first | (with_reducible first | exact HB.out | apply below_alloc | apply pw_below_drewN | apply below_drew1 | refine below_set ?_ r8.out | refine below_set ?_ r9.out | refine below_set ?_ t4.out) | exact HB.out)⟩
      (try clear HO_5)
      (try clear p7)
      (try clear p1)
      (try clear q0)
      (try clear HB)
      generalize ((((w53.setCell ⟨p5, 0, none⟩ (.int .i64 ((rd_T104 x5_2 ((rd_T34 l0_1 p0).f1)).f0))).setCell ⟨p5, 1, none⟩ (.int .i64 ((rd_T104 x5_2 ((rd_T34 l0_1 p0).f1)).f1))).setCell ⟨p5, 0, none⟩ (.int .i64 (wrap64 (((rd_T104 x5_2 ((rd_T34 l0_1 p0).f1)).f0) + ((rd_T34 l0_1 p0).f2))))).setCell ⟨p5, 1, none⟩ (.int .i64 (wrap64 (((rd_T104 x5_2 ((rd_T34 l0_1 p0).f1)).f1) + 1)))) = w58 at n0_ n1_ n2_ n3_ n4_ ⊢
      have HO_5 := n0_
      have p7 := n1_
      have p1 := n2_
      have q0 := n3_
      have HB := n4_
      clear n0_ n1_ n2_ n3_ n4_
      have n0_ := Aside0.mk (Kd.R_drew HO_5.out)
      have n1_ := Aside0.mk (blk_drew p7.out)
      have n2_ := Aside0.mk (blk_drew p1.out)
      have n3_ := Aside0.mk (blk_drew q0.out)
      have n4_ := Aside0.mk (below_drew1 HB.out)
      clear HO_5
      clear p7
      clear p1
      clear q0
      clear HB
      have HO_5 := n0_
      have p7 := n1_
      have p1 := n2_
      have q0 := n3_
      have HB := n4_
      clear n0_ n1_ n2_ n3_ n4_
      have p235 : 0 ≤ (((rd_T34 l0_1 p0).f0) : Int) := of_decide_eq_true (by first | (with_reducible assumption) | assumption)
      have q235 : ((rd_T34 l0_1 p0).f0) < (x5_2.length : Int) := of_decide_eq_true (by first | (with_reducible assumption) | assumption)
      obtain ⟨u5, e235, r6, r7⟩ := at_T104 (Kd.R_reads' HO_5.out).2.2 ((rd_T34 l0_1 p0).f0) p235 q235
      obtain rfl : (⟨go6, 0, none⟩ : Addr) = u5 := (by injection e235)
      (first | simp only [add_plain] at r6 | simp only [add_at] at r6 | simp only [Addr.add, Nat.zero_add] at r6 | skip)
      (first | simp only [add_plain] at r7 | simp only [add_at] at r7 | simp only [Addr.add, Nat.zero_add] at r7 | skip)
      replace p235 := eq_true p235
      replace q235 := eq_true q235
      refine start_ (n := 7) (S := fun w' => w'.cell? ⟨p5, 0, none⟩ = some (.int .i64 (wrap64 (((rd_T104 x5_2 ((rd_T34 l0_1 p0).f1)).f0) + ((rd_T34 l0_1 p0).f2)))) ∧ w'.cell? ⟨p5, 1, none⟩ = some (.int .i64 (wrap64 (((rd_T104 x5_2 ((rd_T34 l0_1 p0).f1)).f1) + 1))) ∧ w'.cell? ⟨p3, 0, none⟩ = some (.int .i64 ((rd_T34 l0_1 p0).f0)) ∧ w'.cell? ⟨p3, 1, none⟩ = some (.int .i64 ((rd_T34 l0_1 p0).f1)) ∧ w'.cell? ⟨p3, 2, none⟩ = some (.int .i64 ((rd_T34 l0_1 p0).f2)) ∧ w'.cell? ⟨p3, 3, none⟩ = some (.int .i64 ((rd_T34 l0_1 p0).f3)) ∧ w'.cell? ⟨p3, 4, none⟩ = some (.int .i64 ((rd_T34 l0_1 p0).f4)) ∧ w'.cell? ⟨go6, (((rd_T34 l0_1 p0).f0)).toNat * 2, none⟩ = some (.int .i64 ((rd_T104 x5_2 ((rd_T34 l0_1 p0).f0)).f0)) ∧ w'.cell? ⟨go6, (((rd_T34 l0_1 p0).f0)).toNat * 2 + 1, none⟩ = some (.int .i64 ((rd_T104 x5_2 ((rd_T34 l0_1 p0).f0)).f1))) (ds := []) #[false, false, false, false, false, false, false] (by kernel_rfl) rfl rfl ⟨(blk_cell q0.out 0).trans rfl, (blk_cell q0.out 1).trans rfl, (blk_cell p1.out 0).trans rfl, (blk_cell p1.out 1).trans rfl, (blk_cell p1.out 2).trans rfl, (blk_cell p1.out 3).trans rfl, (blk_cell p1.out 4).trans rfl, r6, r7⟩ (fun hHeld => ?_)
      generalize w58.drew = w59 at HO_5 p7 p1 q0 HB r6 r7 hHeld ⊢
      refine pure_ (i := 1) (N := some 45) (v := ?_) (a' := ?_) #[false, true, false, false, false, false, false] rfl rfl (by kernel_rfl) (fun _ _ _ h => h) (Or.inl ⟨by rfl, ?_⟩) ?_ ?_
      rotate_left
      ·intro w'
       go_simp
       with_reducible rfl
      rotate_left
      ·simp only [Act.put, List.setIfInBounds_toArray, List.set_cons_zero, List.set_cons_succ, i64_w, i32_w]
       rfl
      refine pure_ (i := 2) (N := some 46) (v := ?_) (a' := ?_) #[false, true, true, false, false, false, false] rfl rfl (by kernel_rfl) (fun _ _ _ h => h) (Or.inl ⟨by rfl, ?_⟩) ?_ ?_
      rotate_left
      ·intro w'
       go_simp
       with_reducible rfl
      rotate_left
      ·simp only [Act.put, List.setIfInBounds_toArray, List.set_cons_zero, List.set_cons_succ, i64_w, i32_w]
       rfl
      refine take_ (i := 0) (N := some 44) (v := ?_) (a' := ?_) #[true, true, true, false, false, false, false] rfl rfl (by kernel_rfl) (fun _ _ _ h => h) (Or.inl ⟨by rfl, ?_⟩) hHeld ?_ ?_
      rotate_left
      ·rintro w' ⟨s0, s1, s2, s3, s4, s5, s6, s7, s8⟩
       go_simp
       with_reducible rfl
      rotate_left
      ·simp only [Act.put, List.setIfInBounds_toArray, List.set_cons_zero, List.set_cons_succ, i64_w, i32_w]
       rfl
      refine take_ (i := 3) (N := some 47) (v := ?_) (a' := ?_) #[true, true, true, true, false, false, false] rfl rfl (by kernel_rfl) (fun _ _ _ h => h) (Or.inl ⟨by rfl, ?_⟩) hHeld ?_ ?_
      rotate_left
      ·rintro w' ⟨s0, s1, s2, s3, s4, s5, s6, s7, s8⟩
       go_simp
       with_reducible rfl
      rotate_left
      ·simp only [Act.put, List.setIfInBounds_toArray, List.set_cons_zero, List.set_cons_succ, i64_w, i32_w]
       rfl
      refine pure_ (i := 4) (N := some 48) (v := ?_) (a' := ?_) #[true, true, true, true, true, false, false] rfl rfl (by kernel_rfl) (fun _ _ _ h => h) (Or.inl ⟨by rfl, ?_⟩) ?_ ?_
      rotate_left
      ·intro w'
       go_simp
       with_reducible rfl
      rotate_left
      ·simp only [Act.put, List.setIfInBounds_toArray, List.set_cons_zero, List.set_cons_succ, i64_w, i32_w]
       rfl
      refine take_ (i := 5) (N := some 49) (v := ?_) (a' := ?_) #[true, true, true, true, true, true, false] rfl rfl (by kernel_rfl) (fun _ _ _ h => h) (Or.inl ⟨by rfl, ?_⟩) hHeld ?_ ?_
      rotate_left
      ·rintro w' ⟨s0, s1, s2, s3, s4, s5, s6, s7, s8⟩
       go_simp
       with_reducible rfl
      rotate_left
      ·simp only [Act.put, List.setIfInBounds_toArray, List.set_cons_zero, List.set_cons_succ, i64_w, i32_w]
       rfl
      refine one_ (i := 6) (N := some 50) #[true, true, true, true, true, true, true] rfl rfl (by kernel_rfl) (by decide) (fun K hK => ?_)
      refine goes_ Try.func127 (by kernel_rfl) rfl #[.agg #[.int .i64 (wrap64 (((rd_T104 x5_2 ((rd_T34 l0_1 p0).f1)).f0) + ((rd_T34 l0_1 p0).f2))), .int .i64 (wrap64 (((rd_T104 x5_2 ((rd_T34 l0_1 p0).f1)).f1) + 1))], .agg #[.int .i64 ((rd_T104 x5_2 ((rd_T34 l0_1 p0).f0)).f0), .int .i64 ((rd_T104 x5_2 ((rd_T34 l0_1 p0).f0)).f1)]] (by rfl) rfl rfl (by (try simp only [List.map_toArray, List.map_cons, List.map_nil]); first | done | rfl | (simp only [List.length_drop, List.length_take]; rfl)) ?_
      with_reducible refine (impl_measure_less.calls (wrap64 (((rd_T104 x5_2 ((rd_T34 l0_1 p0).f1)).f0) + ((rd_T34 l0_1 p0).f2))) (wrap64 (((rd_T104 x5_2 ((rd_T34 l0_1 p0).f1)).f1) + 1)) ((rd_T104 x5_2 ((rd_T34 l0_1 p0).f0)).f0) ((rd_T104 x5_2 ((rd_T34 l0_1 p0).f0)).f1) false _ A32.out).mono ?_
      rintro e w60 ⟨rfl, hb⟩
      have HS7_ := (hb.cell (World.block_lt_of_cell? _ _ (hHeld.2.2.2.2.2.2.2.1))).trans (hHeld.2.2.2.2.2.2.2.1)
      have HS8_ := (hb.cell (World.block_lt_of_cell? _ _ (hHeld.2.2.2.2.2.2.2.2))).trans (hHeld.2.2.2.2.2.2.2.2)
      refine ⟨_, rfl, ?_⟩
      have n0_ := Aside0.mk (Kd.R_below HO_5.out hb)
      have n1_ := Aside0.mk (blk_below (g := q1) (o := .cells #[.int .i64 a0_0, .slice (some r0) l0_1.length c0_1] 25 (0, 0)) p7.out hb)
      have n2_ := Aside0.mk (blk_below (g := p3) (o := .cells #[.int .i64 ((rd_T34 l0_1 p0).f0), .int .i64 ((rd_T34 l0_1 p0).f1), .int .i64 ((rd_T34 l0_1 p0).f2), .int .i64 ((rd_T34 l0_1 p0).f3), .int .i64 ((rd_T34 l0_1 p0).f4)] 34 (0, 0)) p1.out hb)
      have n3_ := Aside0.mk (blk_below (g := p5) (o := .cells #[.int .i64 (wrap64 (((rd_T104 x5_2 ((rd_T34 l0_1 p0).f1)).f0) + ((rd_T34 l0_1 p0).f2))), .int .i64 (wrap64 (((rd_T104 x5_2 ((rd_T34 l0_1 p0).f1)).f1) + 1))] 104 (0, 0)) q0.out hb)
      have n4_ := Aside0.mk (below_step HB.out hb)
      clear HO_5
      clear p7
      clear p1
      clear q0
      clear HB
      have HO_5 := n0_
      have p7 := n1_
      have p1 := n2_
      have q0 := n3_
      have HB := n4_
      clear n0_ n1_ n2_ n3_ n4_
      (try clear hb)
      (try clear hb2)
      (try clear hk)
      (try clear hi)
      refine hK.out _ _ ⟨(blk_cell q0.out 0).trans rfl, (blk_cell q0.out 1).trans rfl, (blk_cell p1.out 0).trans rfl, (blk_cell p1.out 1).trans rfl, (blk_cell p1.out 2).trans rfl, (blk_cell p1.out 3).trans rfl, (blk_cell p1.out 4).trans rfl, HS7_, HS8_⟩ (fun hHeld => ?_)
      clear hK K
      refine norm_ (a' := ?_) ?_ ?_
      rotate_left
      ·show Act.put _ (some 50) _ = _
       simp only [Act.put, List.setIfInBounds_toArray, List.set_cons_zero, List.set_cons_succ, i64_w, i32_w]
       rfl
      refine done_ (by kernel_rfl) ?_
      try go_wp2
      (try simp only [← hl5_2])
      go_roundg k2
      case measure => have := HK1.out; have := HK2.out; omega
      case rel => exact ⟨(x5_2), (x6_2), (wrap64 (p0 + 1)), (by first | rfl | (simp; done) | (simp [*]; done)), (by first | rfl | (simp; done) | (simp [*]; done)), H', ⟨by have := HK1.out; have := HK2.out; omega⟩, ⟨by (try simp only [hl5_1]); (try simp only [hl5_2]); exact Kd.R_mono HO_5.out (fun _ hk => trivial)⟩, ⟨by (try simp only [hl5_1]); (try simp only [hl5_2]); exact p7.out⟩, ⟨by repeat (first | (with_reducible first | exact HB.out | apply below_alloc | apply pw_below_drewN | apply below_drew1 | refine below_set ?_ r8.out | refine below_set ?_ r9.out | refine below_set ?_ t4.out) | exact HB.out)⟩⟩
     subst c33
     have H1 : (impl_Net_toward.l1 k2 (x5_2.set (((rd_T34 l0_1 p0).f0) : Int).toNat (⟨wrap64 (((rd_T104 x5_2 ((rd_T34 l0_1 p0).f1)).f0) + ((rd_T34 l0_1 p0).f2)), wrap64 (((rd_T104 x5_2 ((rd_T34 l0_1 p0).f1)).f1) + 1)⟩ : S104)) true l0_1 (l0_1.length : Int) (wrap64 (p0 + 1)) a0_0 l0_1) = some r := by rw [if_pos rfl] at H; exact H
     clear H
     have H := H1
     clear H1
     obtain ⟨y237, hy237⟩ : ∃ y_ : List (S104), y_ = (x5_2.set (((rd_T34 l0_1 p0).f0) : Int).toNat (⟨wrap64 (((rd_T104 x5_2 ((rd_T34 l0_1 p0).f1)).f0) + ((rd_T34 l0_1 p0).f2)), wrap64 (((rd_T104 x5_2 ((rd_T34 l0_1 p0).f1)).f1) + 1)⟩ : S104)) := ⟨_, rfl⟩
     replace H : (impl_Net_toward.l1 k2 y237 true l0_1 (l0_1.length : Int) (wrap64 (p0 + 1)) a0_0 l0_1) = some r := by first | (rw [hy237]; with_reducible exact H) | (have H2_ := (Option.bind_some _ _).symm.trans H; rw [hy237]; with_reducible exact H2_) | (have H2_ := (Option.bind_some _ _).symm.trans H; with_reducible exact H2_) | with_reducible exact H | (rw [hy237]; exact H) | exact H
     have Ny237 := Aside0.mk hy237
     clear hy237
     have H' := Aside0.mk H
     clear H
     have p231 : 0 ≤ (p0 : Int) := of_decide_eq_true (by first | (with_reducible assumption) | assumption)
     have q231 : p0 < (l0_1.length : Int) := of_decide_eq_true (by first | (with_reducible assumption) | assumption)
     obtain ⟨r0, e231, r1, r2, r3, r4, r5⟩ := at_T34 u4.out p0 p231 q231
     cases e231
     replace r1 := (HB.out.cell (World.block_lt_of_cell? w _ r1)).trans r1
     replace r2 := (HB.out.cell (World.block_lt_of_cell? w _ r2)).trans r2
     replace r3 := (HB.out.cell (World.block_lt_of_cell? w _ r3)).trans r3
     replace r4 := (HB.out.cell (World.block_lt_of_cell? w _ r4)).trans r4
     replace r5 := (HB.out.cell (World.block_lt_of_cell? w _ r5)).trans r5
     replace p231 := eq_true p231
     replace q231 := eq_true q231
     try go_wp2_with (first | ((with_reducible refine gate_dst (N := 8) rfl ?_); refine box_event ?hg (N := 8) ?hd (cs := #[.int .i64 0, .int .i64 0, .int .i64 0, .int .i64 0, .int .i64 0]) (t := 34) ?hr ?_; (case hd => rfl); (case hg => rfl); (case hr => first | (go_simp; done) | (go_simp; rfl)); intro p3 hg w35 hbox hb; have n0_ := Aside0.mk (Kd.R_below HO_5.out hb); have n1_ := Aside0.mk (blk_below (g := q1) (o := .cells #[.int .i64 a0_0, .slice (some r0) l0_1.length c0_1] 25 (0, 0)) p7.out hb); have n2_ := Aside0.mk (below_step HB.out hb); have n3_ := Aside0.mk (hbox); have n4_ := Aside0.mk ((by rw [hg]; exact (below_size HB.out) : w.heap.size ≤ p3)); have n5_ := Aside0.mk ((by rw [hg]; exact (below_size HB.out) : w.heap.size ≤ p3)); have n6_ := Aside0.mk ((by rw [hg]; exact Nat.ne_of_lt (blk_lt (g := q1) (o := .cells #[.int .i64 a0_0, .slice (some r0) l0_1.length c0_1] 25 (0, 0)) p7.out) : q1 ≠ p3)); have n7_ := Aside0.mk ((by rw [hg]; exact Nat.ne_of_gt (blk_lt (g := q1) (o := .cells #[.int .i64 a0_0, .slice (some r0) l0_1.length c0_1] 25 (0, 0)) p7.out) : p3 ≠ q1)); clear HO_5; clear p7; clear HB; have HO_5 := n0_; have p7 := n1_; have HB := n2_; have p1 := n3_; have GW232 := n4_; have r9 := n5_; have p4 := n6_; have t0 := n7_; clear n0_ n1_ n2_ n3_ n4_ n5_ n6_ n7_; clear hb hbox hg; have hnb36 := t0.out; have hnc36 := p4.out; have hcz37_0 : w35.cell? ⟨p3, 0, none⟩ = some (.int .i64 0) := (blk_cell p1.out 0).trans rfl; have hcz37_1 : w35.cell? ⟨p3, 1, none⟩ = some (.int .i64 0) := (blk_cell p1.out 1).trans rfl; have hcz37_2 : w35.cell? ⟨p3, 2, none⟩ = some (.int .i64 0) := (blk_cell p1.out 2).trans rfl; have hcz37_3 : w35.cell? ⟨p3, 3, none⟩ = some (.int .i64 0) := (blk_cell p1.out 3).trans rfl; have hcz37_4 : w35.cell? ⟨p3, 4, none⟩ = some (.int .i64 0) := (blk_cell p1.out 4).trans rfl; have hfz37_0 := blk_frozen p1.out 0; have hfz37_1 := blk_frozen p1.out 1; have hfz37_2 := blk_frozen p1.out 2; have hfz37_3 := blk_frozen p1.out 3; have hfz37_4 := blk_frozen p1.out 4; have p233 : 0 ≤ (((rd_T34 l0_1 p0).f1) : Int) := of_decide_eq_true (by first | (with_reducible assumption) | assumption); have q233 : ((rd_T34 l0_1 p0).f1) < (x5_2.length : Int) := of_decide_eq_true (by first | (with_reducible assumption) | assumption); obtain ⟨t5, e233, p8, p9⟩ := at_T104 (Kd.R_reads' HO_5.out).2.2 ((rd_T34 l0_1 p0).f1) p233 q233; obtain rfl : (⟨go6, 0, none⟩ : Addr) = t5 := (by injection e233); (first | simp only [add_plain] at p8 | simp only [add_at] at p8 | simp only [Addr.add, Nat.zero_add] at p8 | skip); (first | simp only [add_plain] at p9 | simp only [add_at] at p9 | simp only [Addr.add, Nat.zero_add] at p9 | skip); have q2 : (⟨go6, 0, none⟩ : Addr).block ≠ p3 := Kd.own_blk (Kd.R_ne HO_5.out p1.out (by decide)); have q3 : (⟨go6, 0, none⟩ : Addr).block ≠ p3 := Kd.own_blk (Kd.R_ne HO_5.out p1.out (by decide)); have q4 : (⟨go6, 0, none⟩ : Addr).block ≠ p3 := Kd.own_blk (Kd.R_ne HO_5.out p1.out (by decide)); have q5 : (⟨go6, 0, none⟩ : Addr).block ≠ p3 := Kd.own_blk (Kd.R_ne HO_5.out p1.out (by decide)); have q7 : (⟨go6, 0, none⟩ : Addr).block ≠ p3 := Kd.own_blk (Kd.R_ne HO_5.out p1.out (by decide)); replace p8 := (cell_far (p := ⟨p3, 0, none⟩) (by first | (rw [add_block]; exact q2) | (show (Addr.add _ _).block ≠ _; rw [add_block]; exact q2) | exact q2) (.int .i64 ((rd_T34 l0_1 p0).f0))).trans p8; replace p9 := (cell_far (p := ⟨p3, 0, none⟩) (by first | (rw [add_block]; exact q2) | (show (Addr.add _ _).block ≠ _; rw [add_block]; exact q2) | exact q2) (.int .i64 ((rd_T34 l0_1 p0).f0))).trans p9; replace p8 := (cell_far (p := ⟨p3, 1, none⟩) (by first | (rw [add_block]; exact q3) | (show (Addr.add _ _).block ≠ _; rw [add_block]; exact q3) | exact q3) (.int .i64 ((rd_T34 l0_1 p0).f1))).trans p8; replace p9 := (cell_far (p := ⟨p3, 1, none⟩) (by first | (rw [add_block]; exact q3) | (show (Addr.add _ _).block ≠ _; rw [add_block]; exact q3) | exact q3) (.int .i64 ((rd_T34 l0_1 p0).f1))).trans p9; replace p8 := (cell_far (p := ⟨p3, 2, none⟩) (by first | (rw [add_block]; exact q4) | (show (Addr.add _ _).block ≠ _; rw [add_block]; exact q4) | exact q4) (.int .i64 ((rd_T34 l0_1 p0).f2))).trans p8; replace p9 := (cell_far (p := ⟨p3, 2, none⟩) (by first | (rw [add_block]; exact q4) | (show (Addr.add _ _).block ≠ _; rw [add_block]; exact q4) | exact q4) (.int .i64 ((rd_T34 l0_1 p0).f2))).trans p9; replace p8 := (cell_far (p := ⟨p3, 3, none⟩) (by first | (rw [add_block]; exact q5) | (show (Addr.add _ _).block ≠ _; rw [add_block]; exact q5) | exact q5) (.int .i64 ((rd_T34 l0_1 p0).f3))).trans p8; replace p9 := (cell_far (p := ⟨p3, 3, none⟩) (by first | (rw [add_block]; exact q5) | (show (Addr.add _ _).block ≠ _; rw [add_block]; exact q5) | exact q5) (.int .i64 ((rd_T34 l0_1 p0).f3))).trans p9; replace p8 := (cell_far (p := ⟨p3, 4, none⟩) (by first | (rw [add_block]; exact q7) | (show (Addr.add _ _).block ≠ _; rw [add_block]; exact q7) | exact q7) (.int .i64 ((rd_T34 l0_1 p0).f4))).trans p8; replace p9 := (cell_far (p := ⟨p3, 4, none⟩) (by first | (rw [add_block]; exact q7) | (show (Addr.add _ _).block ≠ _; rw [add_block]; exact q7) | exact q7) (.int .i64 ((rd_T34 l0_1 p0).f4))).trans p9; clear q2; clear q3; clear q4; clear q5; clear q7; replace p233 := eq_true p233; replace q233 := eq_true q233) | ((with_reducible refine gate_dst (N := 9) rfl ?_); refine box_event ?hg (N := 9) ?hd (cs := #[.int .i64 0, .int .i64 0]) (t := 104) ?hr ?_; (case hd => rfl); (case hg => rfl); (case hr => first | (go_simp; done) | (go_simp; rfl)); intro p5 hg w38 hbox hb; have n0_ := Aside0.mk (Kd.R_below (Kd.R_elderB (Kd.R_mono (Kd.R_far (p := ⟨p3, 4, none⟩) (Kd.R_far (p := ⟨p3, 3, none⟩) (Kd.R_far (p := ⟨p3, 2, none⟩) (Kd.R_far (p := ⟨p3, 1, none⟩) (Kd.R_far (p := ⟨p3, 0, none⟩) (Kd.R_types HO_5.out p1.out (by decide)) (fun _ hk => hk.2) (.int .i64 ((rd_T34 l0_1 p0).f0))) (fun _ hk => hk.2) (.int .i64 ((rd_T34 l0_1 p0).f1))) (fun _ hk => hk.2) (.int .i64 ((rd_T34 l0_1 p0).f2))) (fun _ hk => hk.2) (.int .i64 ((rd_T34 l0_1 p0).f3))) (fun _ hk => hk.2) (.int .i64 ((rd_T34 l0_1 p0).f4))) (fun _ h_ => h_.1)) p5 (Nat.le_of_eq hg.symm)) hb); have n1_ := Aside0.mk (blk_below (g := q1) (o := .cells #[.int .i64 a0_0, .slice (some r0) l0_1.length c0_1] 25 (0, 0)) (by refine blk_far ?_ p4.out _; refine blk_far ?_ p4.out _; refine blk_far ?_ p4.out _; refine blk_far ?_ p4.out _; refine blk_far ?_ p4.out _; exact p7.out) hb); have n2_ := Aside0.mk (blk_below (g := p3) (o := .cells #[.int .i64 ((rd_T34 l0_1 p0).f0), .int .i64 ((rd_T34 l0_1 p0).f1), .int .i64 ((rd_T34 l0_1 p0).f2), .int .i64 ((rd_T34 l0_1 p0).f3), .int .i64 ((rd_T34 l0_1 p0).f4)] 34 (0, 0)) (by refine blk_put (cs := #[.int .i64 ((rd_T34 l0_1 p0).f0), .int .i64 ((rd_T34 l0_1 p0).f1), .int .i64 ((rd_T34 l0_1 p0).f2), .int .i64 ((rd_T34 l0_1 p0).f3), .int .i64 0]) ?_ 4 _ rfl; refine blk_put (cs := #[.int .i64 ((rd_T34 l0_1 p0).f0), .int .i64 ((rd_T34 l0_1 p0).f1), .int .i64 ((rd_T34 l0_1 p0).f2), .int .i64 0, .int .i64 0]) ?_ 3 _ rfl; refine blk_put (cs := #[.int .i64 ((rd_T34 l0_1 p0).f0), .int .i64 ((rd_T34 l0_1 p0).f1), .int .i64 0, .int .i64 0, .int .i64 0]) ?_ 2 _ rfl; refine blk_put (cs := #[.int .i64 ((rd_T34 l0_1 p0).f0), .int .i64 0, .int .i64 0, .int .i64 0, .int .i64 0]) ?_ 1 _ rfl; refine blk_put (cs := #[.int .i64 0, .int .i64 0, .int .i64 0, .int .i64 0, .int .i64 0]) ?_ 0 _ rfl; exact p1.out) hb); have n3_ := Aside0.mk (below_step (by repeat (first | (with_reducible first | exact HB.out | apply below_alloc | apply pw_below_drewN | apply below_drew1 | refine below_set ?_ r8.out | refine below_set ?_ r9.out) | exact HB.out)) hb); have n4_ := Aside0.mk (hbox); have n5_ := Aside0.mk ((by rw [hg]; exact (below_size (by repeat (first | (with_reducible first | exact HB.out | apply below_alloc | apply pw_below_drewN | apply below_drew1 | refine below_set ?_ r8.out | refine below_set ?_ r9.out) | exact HB.out))) : w.heap.size ≤ p5)); have n6_ := Aside0.mk ((by rw [hg]; exact (below_size (by repeat (first | (with_reducible first | exact HB.out | apply below_alloc | apply pw_below_drewN | apply below_drew1 | refine below_set ?_ r8.out | refine below_set ?_ r9.out) | exact HB.out))) : w.heap.size ≤ p5)); have n7_ := Aside0.mk ((by rw [hg]; exact Nat.ne_of_lt (blk_lt (g := q1) (o := .cells #[.int .i64 a0_0, .slice (some r0) l0_1.length c0_1] 25 (0, 0)) (by refine blk_far ?_ p4.out _; refine blk_far ?_ p4.out _; refine blk_far ?_ p4.out _; refine blk_far ?_ p4.out _; refine blk_far ?_ p4.out _; exact p7.out)) : q1 ≠ p5)); have n8_ := Aside0.mk ((by rw [hg]; exact Nat.ne_of_gt (blk_lt (g := q1) (o := .cells #[.int .i64 a0_0, .slice (some r0) l0_1.length c0_1] 25 (0, 0)) (by refine blk_far ?_ p4.out _; refine blk_far ?_ p4.out _; refine blk_far ?_ p4.out _; refine blk_far ?_ p4.out _; refine blk_far ?_ p4.out _; exact p7.out)) : p5 ≠ q1)); have n9_ := Aside0.mk ((by rw [hg]; exact Nat.ne_of_lt (blk_lt (g := p3) (o := .cells #[.int .i64 ((rd_T34 l0_1 p0).f0), .int .i64 ((rd_T34 l0_1 p0).f1), .int .i64 ((rd_T34 l0_1 p0).f2), .int .i64 ((rd_T34 l0_1 p0).f3), .int .i64 ((rd_T34 l0_1 p0).f4)] 34 (0, 0)) (by refine blk_put (cs := #[.int .i64 ((rd_T34 l0_1 p0).f0), .int .i64 ((rd_T34 l0_1 p0).f1), .int .i64 ((rd_T34 l0_1 p0).f2), .int .i64 ((rd_T34 l0_1 p0).f3), .int .i64 0]) ?_ 4 _ rfl; refine blk_put (cs := #[.int .i64 ((rd_T34 l0_1 p0).f0), .int .i64 ((rd_T34 l0_1 p0).f1), .int .i64 ((rd_T34 l0_1 p0).f2), .int .i64 0, .int .i64 0]) ?_ 3 _ rfl; refine blk_put (cs := #[.int .i64 ((rd_T34 l0_1 p0).f0), .int .i64 ((rd_T34 l0_1 p0).f1), .int .i64 0, .int .i64 0, .int .i64 0]) ?_ 2 _ rfl; refine blk_put (cs := #[.int .i64 ((rd_T34 l0_1 p0).f0), .int .i64 0, .int .i64 0, .int .i64 0, .int .i64 0]) ?_ 1 _ rfl; refine blk_put (cs := #[.int .i64 0, .int .i64 0, .int .i64 0, .int .i64 0, .int .i64 0]) ?_ 0 _ rfl; exact p1.out)) : p3 ≠ p5)); have n10_ := Aside0.mk ((by rw [hg]; exact Nat.ne_of_gt (blk_lt (g := p3) (o := .cells #[.int .i64 ((rd_T34 l0_1 p0).f0), .int .i64 ((rd_T34 l0_1 p0).f1), .int .i64 ((rd_T34 l0_1 p0).f2), .int .i64 ((rd_T34 l0_1 p0).f3), .int .i64 ((rd_T34 l0_1 p0).f4)] 34 (0, 0)) (by refine blk_put (cs := #[.int .i64 ((rd_T34 l0_1 p0).f0), .int .i64 ((rd_T34 l0_1 p0).f1), .int .i64 ((rd_T34 l0_1 p0).f2), .int .i64 ((rd_T34 l0_1 p0).f3), .int .i64 0]) ?_ 4 _ rfl; refine blk_put (cs := #[.int .i64 ((rd_T34 l0_1 p0).f0), .int .i64 ((rd_T34 l0_1 p0).f1), .int .i64 ((rd_T34 l0_1 p0).f2), .int .i64 0, .int .i64 0]) ?_ 3 _ rfl; refine blk_put (cs := #[.int .i64 ((rd_T34 l0_1 p0).f0), .int .i64 ((rd_T34 l0_1 p0).f1), .int .i64 0, .int .i64 0, .int .i64 0]) ?_ 2 _ rfl; refine blk_put (cs := #[.int .i64 ((rd_T34 l0_1 p0).f0), .int .i64 0, .int .i64 0, .int .i64 0, .int .i64 0]) ?_ 1 _ rfl; refine blk_put (cs := #[.int .i64 0, .int .i64 0, .int .i64 0, .int .i64 0, .int .i64 0]) ?_ 0 _ rfl; exact p1.out)) : p5 ≠ p3)); clear HO_5; clear p7; clear p1; clear HB; have HO_5 := n0_; have p7 := n1_; have p1 := n2_; have HB := n3_; have q0 := n4_; have GW234 := n5_; have t4 := n6_; have q8 := n7_; have t1 := n8_; have q9 := n9_; have t2 := n10_; clear n0_ n1_ n2_ n3_ n4_ n5_ n6_ n7_ n8_ n9_ n10_; clear hb hbox hg; have hnb39 := t1.out; have hnc39 := q8.out; have hnb40 := t2.out; have hnc40 := q9.out; have hcz41_0 : w38.cell? ⟨p5, 0, none⟩ = some (.int .i64 0) := (blk_cell q0.out 0).trans rfl; have hcz41_1 : w38.cell? ⟨p5, 1, none⟩ = some (.int .i64 0) := (blk_cell q0.out 1).trans rfl; have hfz41_0 := blk_frozen q0.out 0; have hfz41_1 := blk_frozen q0.out 1; have hcz42_0 : w38.cell? ⟨p3, 0, none⟩ = some (.int .i64 ((rd_T34 l0_1 p0).f0)) := (blk_cell p1.out 0).trans rfl; have hcz42_1 : w38.cell? ⟨p3, 1, none⟩ = some (.int .i64 ((rd_T34 l0_1 p0).f1)) := (blk_cell p1.out 1).trans rfl; have hcz42_2 : w38.cell? ⟨p3, 2, none⟩ = some (.int .i64 ((rd_T34 l0_1 p0).f2)) := (blk_cell p1.out 2).trans rfl; have hcz42_3 : w38.cell? ⟨p3, 3, none⟩ = some (.int .i64 ((rd_T34 l0_1 p0).f3)) := (blk_cell p1.out 3).trans rfl; have hcz42_4 : w38.cell? ⟨p3, 4, none⟩ = some (.int .i64 ((rd_T34 l0_1 p0).f4)) := (blk_cell p1.out 4).trans rfl; have hfz42_0 := blk_frozen p1.out 0; have hfz42_1 := blk_frozen p1.out 1; have hfz42_2 := blk_frozen p1.out 2; have hfz42_3 := blk_frozen p1.out 3; have hfz42_4 := blk_frozen p1.out 4))
     have n0_ : Aside0 (Kd.R k104 104 ((((w38.setCell ⟨p5, 0, none⟩ (.int .i64 ((rd_T104 x5_2 ((rd_T34 l0_1 p0).f1)).f0))).setCell ⟨p5, 1, none⟩ (.int .i64 ((rd_T104 x5_2 ((rd_T34 l0_1 p0).f1)).f1))).setCell ⟨p5, 0, none⟩ (.int .i64 (wrap64 (((rd_T104 x5_2 ((rd_T34 l0_1 p0).f1)).f0) + ((rd_T34 l0_1 p0).f2))))).setCell ⟨p5, 1, none⟩ (.int .i64 (wrap64 (((rd_T104 x5_2 ((rd_T34 l0_1 p0).f1)).f1) + 1)))) w.heap.size (fun k_ => k_ ≠ p5) (.slice (some ⟨go6, 0, none⟩) x5_2.length co6) x5_2) := ⟨by exact Kd.R_mono (Kd.R_far (p := ⟨p5, 1, none⟩) (Kd.R_far (p := ⟨p5, 0, none⟩) (Kd.R_far (p := ⟨p5, 1, none⟩) (Kd.R_far (p := ⟨p5, 0, none⟩) (Kd.R_mono HO_5.out (fun k_ hk => (⟨hk, hk.2⟩ : _ ∧ k_ ≠ p5))) (fun _ hk => hk.2) (.int .i64 ((rd_T104 x5_2 ((rd_T34 l0_1 p0).f1)).f0))) (fun _ hk => hk.2) (.int .i64 ((rd_T104 x5_2 ((rd_T34 l0_1 p0).f1)).f1))) (fun _ hk => hk.2) (.int .i64 (wrap64 (((rd_T104 x5_2 ((rd_T34 l0_1 p0).f1)).f0) + ((rd_T34 l0_1 p0).f2))))) (fun _ hk => hk.2) (.int .i64 (wrap64 (((rd_T104 x5_2 ((rd_T34 l0_1 p0).f1)).f1) + 1)))) (fun _ hk => hk.1.2)⟩
     have n1_ : Aside0 (((((w38.setCell ⟨p5, 0, none⟩ (.int .i64 ((rd_T104 x5_2 ((rd_T34 l0_1 p0).f1)).f0))).setCell ⟨p5, 1, none⟩ (.int .i64 ((rd_T104 x5_2 ((rd_T34 l0_1 p0).f1)).f1))).setCell ⟨p5, 0, none⟩ (.int .i64 (wrap64 (((rd_T104 x5_2 ((rd_T34 l0_1 p0).f1)).f0) + ((rd_T34 l0_1 p0).f2))))).setCell ⟨p5, 1, none⟩ (.int .i64 (wrap64 (((rd_T104 x5_2 ((rd_T34 l0_1 p0).f1)).f1) + 1)))).heap[q1]? = some (.cells #[.int .i64 a0_0, .slice (some r0) l0_1.length c0_1] 25 (0, 0))) := ⟨by refine blk_far ?_ q8.out _; refine blk_far ?_ q8.out _; refine blk_far ?_ q8.out _; refine blk_far ?_ q8.out _; exact p7.out⟩
     have n2_ : Aside0 (((((w38.setCell ⟨p5, 0, none⟩ (.int .i64 ((rd_T104 x5_2 ((rd_T34 l0_1 p0).f1)).f0))).setCell ⟨p5, 1, none⟩ (.int .i64 ((rd_T104 x5_2 ((rd_T34 l0_1 p0).f1)).f1))).setCell ⟨p5, 0, none⟩ (.int .i64 (wrap64 (((rd_T104 x5_2 ((rd_T34 l0_1 p0).f1)).f0) + ((rd_T34 l0_1 p0).f2))))).setCell ⟨p5, 1, none⟩ (.int .i64 (wrap64 (((rd_T104 x5_2 ((rd_T34 l0_1 p0).f1)).f1) + 1)))).heap[p3]? = some (.cells #[.int .i64 ((rd_T34 l0_1 p0).f0), .int .i64 ((rd_T34 l0_1 p0).f1), .int .i64 ((rd_T34 l0_1 p0).f2), .int .i64 ((rd_T34 l0_1 p0).f3), .int .i64 ((rd_T34 l0_1 p0).f4)] 34 (0, 0))) := ⟨by refine blk_far ?_ q9.out _; refine blk_far ?_ q9.out _; refine blk_far ?_ q9.out _; refine blk_far ?_ q9.out _; exact p1.out⟩
     have n3_ : Aside0 (((((w38.setCell ⟨p5, 0, none⟩ (.int .i64 ((rd_T104 x5_2 ((rd_T34 l0_1 p0).f1)).f0))).setCell ⟨p5, 1, none⟩ (.int .i64 ((rd_T104 x5_2 ((rd_T34 l0_1 p0).f1)).f1))).setCell ⟨p5, 0, none⟩ (.int .i64 (wrap64 (((rd_T104 x5_2 ((rd_T34 l0_1 p0).f1)).f0) + ((rd_T34 l0_1 p0).f2))))).setCell ⟨p5, 1, none⟩ (.int .i64 (wrap64 (((rd_T104 x5_2 ((rd_T34 l0_1 p0).f1)).f1) + 1)))).heap[p5]? = some (.cells #[.int .i64 (wrap64 (((rd_T104 x5_2 ((rd_T34 l0_1 p0).f1)).f0) + ((rd_T34 l0_1 p0).f2))), .int .i64 (wrap64 (((rd_T104 x5_2 ((rd_T34 l0_1 p0).f1)).f1) + 1))] 104 (0, 0))) := ⟨by refine blk_put (cs := #[.int .i64 (wrap64 (((rd_T104 x5_2 ((rd_T34 l0_1 p0).f1)).f0) + ((rd_T34 l0_1 p0).f2))), .int .i64 ((rd_T104 x5_2 ((rd_T34 l0_1 p0).f1)).f1)]) ?_ 1 _ rfl; refine blk_put (cs := #[.int .i64 ((rd_T104 x5_2 ((rd_T34 l0_1 p0).f1)).f0), .int .i64 ((rd_T104 x5_2 ((rd_T34 l0_1 p0).f1)).f1)]) ?_ 0 _ rfl; refine blk_put (cs := #[.int .i64 ((rd_T104 x5_2 ((rd_T34 l0_1 p0).f1)).f0), .int .i64 0]) ?_ 1 _ rfl; refine blk_put (cs := #[.int .i64 0, .int .i64 0]) ?_ 0 _ rfl; exact q0.out⟩
     have n4_ : Aside0 (Below w.heap.size w ((((w38.setCell ⟨p5, 0, none⟩ (.int .i64 ((rd_T104 x5_2 ((rd_T34 l0_1 p0).f1)).f0))).setCell ⟨p5, 1, none⟩ (.int .i64 ((rd_T104 x5_2 ((rd_T34 l0_1 p0).f1)).f1))).setCell ⟨p5, 0, none⟩ (.int .i64 (wrap64 (((rd_T104 x5_2 ((rd_T34 l0_1 p0).f1)).f0) + ((rd_T34 l0_1 p0).f2))))).setCell ⟨p5, 1, none⟩ (.int .i64 (wrap64 (((rd_T104 x5_2 ((rd_T34 l0_1 p0).f1)).f1) + 1))))) := ⟨by repeat (first | (with_reducible first | exact HB.out | apply below_alloc | apply pw_below_drewN | apply below_drew1 | refine below_set ?_ r8.out | refine below_set ?_ r9.out | refine below_set ?_ t4.out) | exact HB.out)⟩
     (try clear HO_5)
     (try clear p7)
     (try clear p1)
     (try clear q0)
     (try clear HB)
     generalize ((((w38.setCell ⟨p5, 0, none⟩ (.int .i64 ((rd_T104 x5_2 ((rd_T34 l0_1 p0).f1)).f0))).setCell ⟨p5, 1, none⟩ (.int .i64 ((rd_T104 x5_2 ((rd_T34 l0_1 p0).f1)).f1))).setCell ⟨p5, 0, none⟩ (.int .i64 (wrap64 (((rd_T104 x5_2 ((rd_T34 l0_1 p0).f1)).f0) + ((rd_T34 l0_1 p0).f2))))).setCell ⟨p5, 1, none⟩ (.int .i64 (wrap64 (((rd_T104 x5_2 ((rd_T34 l0_1 p0).f1)).f1) + 1)))) = w43 at n0_ n1_ n2_ n3_ n4_ ⊢
     have HO_5 := n0_
     have p7 := n1_
     have p1 := n2_
     have q0 := n3_
     have HB := n4_
     clear n0_ n1_ n2_ n3_ n4_
     have n0_ := Aside0.mk (Kd.R_drew HO_5.out)
     have n1_ := Aside0.mk (blk_drew p7.out)
     have n2_ := Aside0.mk (blk_drew p1.out)
     have n3_ := Aside0.mk (blk_drew q0.out)
     have n4_ := Aside0.mk (below_drew1 HB.out)
     clear HO_5
     clear p7
     clear p1
     clear q0
     clear HB
     have HO_5 := n0_
     have p7 := n1_
     have p1 := n2_
     have q0 := n3_
     have HB := n4_
     clear n0_ n1_ n2_ n3_ n4_
     have p235 : 0 ≤ (((rd_T34 l0_1 p0).f0) : Int) := of_decide_eq_true (by first | (with_reducible assumption) | assumption)
     have q235 : ((rd_T34 l0_1 p0).f0) < (x5_2.length : Int) := of_decide_eq_true (by first | (with_reducible assumption) | assumption)
     obtain ⟨u5, e235, r6, r7⟩ := at_T104 (Kd.R_reads' HO_5.out).2.2 ((rd_T34 l0_1 p0).f0) p235 q235
     obtain rfl : (⟨go6, 0, none⟩ : Addr) = u5 := (by injection e235)
     (first | simp only [add_plain] at r6 | simp only [add_at] at r6 | simp only [Addr.add, Nat.zero_add] at r6 | skip)
     (first | simp only [add_plain] at r7 | simp only [add_at] at r7 | simp only [Addr.add, Nat.zero_add] at r7 | skip)
     replace p235 := eq_true p235
     replace q235 := eq_true q235
     refine start_ (n := 7) (S := fun w' => w'.cell? ⟨p5, 0, none⟩ = some (.int .i64 (wrap64 (((rd_T104 x5_2 ((rd_T34 l0_1 p0).f1)).f0) + ((rd_T34 l0_1 p0).f2)))) ∧ w'.cell? ⟨p5, 1, none⟩ = some (.int .i64 (wrap64 (((rd_T104 x5_2 ((rd_T34 l0_1 p0).f1)).f1) + 1))) ∧ w'.cell? ⟨p3, 0, none⟩ = some (.int .i64 ((rd_T34 l0_1 p0).f0)) ∧ w'.cell? ⟨p3, 1, none⟩ = some (.int .i64 ((rd_T34 l0_1 p0).f1)) ∧ w'.cell? ⟨p3, 2, none⟩ = some (.int .i64 ((rd_T34 l0_1 p0).f2)) ∧ w'.cell? ⟨p3, 3, none⟩ = some (.int .i64 ((rd_T34 l0_1 p0).f3)) ∧ w'.cell? ⟨p3, 4, none⟩ = some (.int .i64 ((rd_T34 l0_1 p0).f4)) ∧ w'.cell? ⟨go6, (((rd_T34 l0_1 p0).f0)).toNat * 2, none⟩ = some (.int .i64 ((rd_T104 x5_2 ((rd_T34 l0_1 p0).f0)).f0)) ∧ w'.cell? ⟨go6, (((rd_T34 l0_1 p0).f0)).toNat * 2 + 1, none⟩ = some (.int .i64 ((rd_T104 x5_2 ((rd_T34 l0_1 p0).f0)).f1))) (ds := []) #[false, false, false, false, false, false, false] (by kernel_rfl) rfl rfl ⟨(blk_cell q0.out 0).trans rfl, (blk_cell q0.out 1).trans rfl, (blk_cell p1.out 0).trans rfl, (blk_cell p1.out 1).trans rfl, (blk_cell p1.out 2).trans rfl, (blk_cell p1.out 3).trans rfl, (blk_cell p1.out 4).trans rfl, r6, r7⟩ (fun hHeld => ?_)
     generalize w43.drew = w44 at HO_5 p7 p1 q0 HB r6 r7 hHeld ⊢
     refine pure_ (i := 1) (N := some 45) (v := ?_) (a' := ?_) #[false, true, false, false, false, false, false] rfl rfl (by kernel_rfl) (fun _ _ _ h => h) (Or.inl ⟨by rfl, ?_⟩) ?_ ?_
     rotate_left
     ·intro w'
      go_simp
      with_reducible rfl
     rotate_left
     ·simp only [Act.put, List.setIfInBounds_toArray, List.set_cons_zero, List.set_cons_succ, i64_w, i32_w]
      rfl
     refine pure_ (i := 2) (N := some 46) (v := ?_) (a' := ?_) #[false, true, true, false, false, false, false] rfl rfl (by kernel_rfl) (fun _ _ _ h => h) (Or.inl ⟨by rfl, ?_⟩) ?_ ?_
     rotate_left
     ·intro w'
      go_simp
      with_reducible rfl
     rotate_left
     ·simp only [Act.put, List.setIfInBounds_toArray, List.set_cons_zero, List.set_cons_succ, i64_w, i32_w]
      rfl
     refine take_ (i := 0) (N := some 44) (v := ?_) (a' := ?_) #[true, true, true, false, false, false, false] rfl rfl (by kernel_rfl) (fun _ _ _ h => h) (Or.inl ⟨by rfl, ?_⟩) hHeld ?_ ?_
     rotate_left
     ·rintro w' ⟨s0, s1, s2, s3, s4, s5, s6, s7, s8⟩
      go_simp
      with_reducible rfl
     rotate_left
     ·simp only [Act.put, List.setIfInBounds_toArray, List.set_cons_zero, List.set_cons_succ, i64_w, i32_w]
      rfl
     refine take_ (i := 3) (N := some 47) (v := ?_) (a' := ?_) #[true, true, true, true, false, false, false] rfl rfl (by kernel_rfl) (fun _ _ _ h => h) (Or.inl ⟨by rfl, ?_⟩) hHeld ?_ ?_
     rotate_left
     ·rintro w' ⟨s0, s1, s2, s3, s4, s5, s6, s7, s8⟩
      go_simp
      with_reducible rfl
     rotate_left
     ·simp only [Act.put, List.setIfInBounds_toArray, List.set_cons_zero, List.set_cons_succ, i64_w, i32_w]
      rfl
     refine pure_ (i := 4) (N := some 48) (v := ?_) (a' := ?_) #[true, true, true, true, true, false, false] rfl rfl (by kernel_rfl) (fun _ _ _ h => h) (Or.inl ⟨by rfl, ?_⟩) ?_ ?_
     rotate_left
     ·intro w'
      go_simp
      with_reducible rfl
     rotate_left
     ·simp only [Act.put, List.setIfInBounds_toArray, List.set_cons_zero, List.set_cons_succ, i64_w, i32_w]
      rfl
     refine take_ (i := 5) (N := some 49) (v := ?_) (a' := ?_) #[true, true, true, true, true, true, false] rfl rfl (by kernel_rfl) (fun _ _ _ h => h) (Or.inl ⟨by rfl, ?_⟩) hHeld ?_ ?_
     rotate_left
     ·rintro w' ⟨s0, s1, s2, s3, s4, s5, s6, s7, s8⟩
      go_simp
      with_reducible rfl
     rotate_left
     ·simp only [Act.put, List.setIfInBounds_toArray, List.set_cons_zero, List.set_cons_succ, i64_w, i32_w]
      rfl
     refine one_ (i := 6) (N := some 50) #[true, true, true, true, true, true, true] rfl rfl (by kernel_rfl) (by decide) (fun K hK => ?_)
     refine goes_ Try.func127 (by kernel_rfl) rfl #[.agg #[.int .i64 (wrap64 (((rd_T104 x5_2 ((rd_T34 l0_1 p0).f1)).f0) + ((rd_T34 l0_1 p0).f2))), .int .i64 (wrap64 (((rd_T104 x5_2 ((rd_T34 l0_1 p0).f1)).f1) + 1))], .agg #[.int .i64 ((rd_T104 x5_2 ((rd_T34 l0_1 p0).f0)).f0), .int .i64 ((rd_T104 x5_2 ((rd_T34 l0_1 p0).f0)).f1)]] (by rfl) rfl rfl (by (try simp only [List.map_toArray, List.map_cons, List.map_nil]); first | done | rfl | (simp only [List.length_drop, List.length_take]; rfl)) ?_
     with_reducible refine (impl_measure_less.calls (wrap64 (((rd_T104 x5_2 ((rd_T34 l0_1 p0).f1)).f0) + ((rd_T34 l0_1 p0).f2))) (wrap64 (((rd_T104 x5_2 ((rd_T34 l0_1 p0).f1)).f1) + 1)) ((rd_T104 x5_2 ((rd_T34 l0_1 p0).f0)).f0) ((rd_T104 x5_2 ((rd_T34 l0_1 p0).f0)).f1) true _ A32.out).mono ?_
     rintro e w45 ⟨rfl, hb⟩
     have HS7_ := (hb.cell (World.block_lt_of_cell? _ _ (hHeld.2.2.2.2.2.2.2.1))).trans (hHeld.2.2.2.2.2.2.2.1)
     have HS8_ := (hb.cell (World.block_lt_of_cell? _ _ (hHeld.2.2.2.2.2.2.2.2))).trans (hHeld.2.2.2.2.2.2.2.2)
     refine ⟨_, rfl, ?_⟩
     have n0_ := Aside0.mk (Kd.R_below HO_5.out hb)
     have n1_ := Aside0.mk (blk_below (g := q1) (o := .cells #[.int .i64 a0_0, .slice (some r0) l0_1.length c0_1] 25 (0, 0)) p7.out hb)
     have n2_ := Aside0.mk (blk_below (g := p3) (o := .cells #[.int .i64 ((rd_T34 l0_1 p0).f0), .int .i64 ((rd_T34 l0_1 p0).f1), .int .i64 ((rd_T34 l0_1 p0).f2), .int .i64 ((rd_T34 l0_1 p0).f3), .int .i64 ((rd_T34 l0_1 p0).f4)] 34 (0, 0)) p1.out hb)
     have n3_ := Aside0.mk (blk_below (g := p5) (o := .cells #[.int .i64 (wrap64 (((rd_T104 x5_2 ((rd_T34 l0_1 p0).f1)).f0) + ((rd_T34 l0_1 p0).f2))), .int .i64 (wrap64 (((rd_T104 x5_2 ((rd_T34 l0_1 p0).f1)).f1) + 1))] 104 (0, 0)) q0.out hb)
     have n4_ := Aside0.mk (below_step HB.out hb)
     clear HO_5
     clear p7
     clear p1
     clear q0
     clear HB
     have HO_5 := n0_
     have p7 := n1_
     have p1 := n2_
     have q0 := n3_
     have HB := n4_
     clear n0_ n1_ n2_ n3_ n4_
     (try clear hb)
     (try clear hb2)
     (try clear hk)
     (try clear hi)
     refine hK.out _ _ ⟨(blk_cell q0.out 0).trans rfl, (blk_cell q0.out 1).trans rfl, (blk_cell p1.out 0).trans rfl, (blk_cell p1.out 1).trans rfl, (blk_cell p1.out 2).trans rfl, (blk_cell p1.out 3).trans rfl, (blk_cell p1.out 4).trans rfl, HS7_, HS8_⟩ (fun hHeld => ?_)
     clear hK K
     refine norm_ (a' := ?_) ?_ ?_
     rotate_left
     ·show Act.put _ (some 50) _ = _
      simp only [Act.put, List.setIfInBounds_toArray, List.set_cons_zero, List.set_cons_succ, i64_w, i32_w]
      rfl
     refine done_ (by kernel_rfl) ?_
     have hcz46_0 : w45.cell? ⟨p3, 0, none⟩ = some (.int .i64 ((rd_T34 l0_1 p0).f0)) := (blk_cell p1.out 0).trans rfl
     have hcz46_1 : w45.cell? ⟨p3, 1, none⟩ = some (.int .i64 ((rd_T34 l0_1 p0).f1)) := (blk_cell p1.out 1).trans rfl
     have hcz46_2 : w45.cell? ⟨p3, 2, none⟩ = some (.int .i64 ((rd_T34 l0_1 p0).f2)) := (blk_cell p1.out 2).trans rfl
     have hcz46_3 : w45.cell? ⟨p3, 3, none⟩ = some (.int .i64 ((rd_T34 l0_1 p0).f3)) := (blk_cell p1.out 3).trans rfl
     have hcz46_4 : w45.cell? ⟨p3, 4, none⟩ = some (.int .i64 ((rd_T34 l0_1 p0).f4)) := (blk_cell p1.out 4).trans rfl
     have hfz46_0 := blk_frozen p1.out 0
     have hfz46_1 := blk_frozen p1.out 1
     have hfz46_2 := blk_frozen p1.out 2
     have hfz46_3 := blk_frozen p1.out 3
     have hfz46_4 := blk_frozen p1.out 4
     have hcz47_0 : w45.cell? ⟨p5, 0, none⟩ = some (.int .i64 (wrap64 (((rd_T104 x5_2 ((rd_T34 l0_1 p0).f1)).f0) + ((rd_T34 l0_1 p0).f2)))) := (blk_cell q0.out 0).trans rfl
     have hcz47_1 : w45.cell? ⟨p5, 1, none⟩ = some (.int .i64 (wrap64 (((rd_T104 x5_2 ((rd_T34 l0_1 p0).f1)).f1) + 1))) := (blk_cell q0.out 1).trans rfl
     have hfz47_0 := blk_frozen q0.out 0
     have hfz47_1 := blk_frozen q0.out 1
     have p34 : 0 ≤ (((rd_T34 l0_1 p0).f0) : Int) := of_decide_eq_true (by first | (with_reducible assumption) | assumption)
     have q34 : (((rd_T34 l0_1 p0).f0) : Int) < ((x5_2.length : Int) : Int) := of_decide_eq_true (by first | (with_reducible assumption) | assumption)
     obtain ⟨ce34, hcl34, hM34, u6, hfr34⟩ := Kd.R_elem HO_5.out z104 (((rd_T34 l0_1 p0).f0) : Int) p34 q34
     obtain rfl := k104_openM hM34
     have hx34_0 : w45.cell? ⟨go6, (((rd_T34 l0_1 p0).f0) : Int).toNat * 2, none⟩ = some (.int .i64 ((rd_T104 x5_2 ((rd_T34 l0_1 p0).f0)).f0)) := u6 0 _ rfl
     have hx34_1 : w45.cell? ⟨go6, (((rd_T34 l0_1 p0).f0) : Int).toNat * 2 + 1, none⟩ = some (.int .i64 ((rd_T104 x5_2 ((rd_T34 l0_1 p0).f0)).f1)) := u6 1 _ rfl
     have hf34_0 : w45.frozen? ⟨go6, (((rd_T34 l0_1 p0).f0) : Int).toNat * 2, none⟩ = false := hfr34 0
     have hf34_1 : w45.frozen? ⟨go6, (((rd_T34 l0_1 p0).f0) : Int).toNat * 2 + 1, none⟩ = false := hfr34 1
     clear hcl34 u6 hfr34; (try clear hM34)
     replace p34 := eq_true p34
     replace q34 := eq_true q34
     have HX48 := Aside0.mk (show Kd.R k104 104 w45 w.heap.size (fun k_ => k_ ≠ p5) (.slice (some ⟨go6, 0, none⟩) x5_2.length co6) x5_2 from HO_5.out)
     obtain ⟨ce48, hcl48, hM48, u3, hfr48⟩ := Kd.R_elem HX48.out z104 (((rd_T34 l0_1 p0).f0) : Int) (of_decide_eq_true (by first | (with_reducible assumption) | assumption)) (by have h_ : (((rd_T34 l0_1 p0).f0) : Int) < ((x5_2.length : Int) : Int) := of_decide_eq_true (by first | (with_reducible assumption) | assumption); first | exact h_ | (have e_ := (Kd.R_reads' HO_5.out).1; omega) | simpa using h_)
     obtain rfl := k104_openM hM48
     have HP48 := Kd.R_seg HX48.out (((rd_T34 l0_1 p0).f0) : Int) (of_decide_eq_true (by first | (with_reducible assumption) | assumption)) (by have h_ : (((rd_T34 l0_1 p0).f0) : Int) < ((x5_2.length : Int) : Int) := of_decide_eq_true (by first | (with_reducible assumption) | assumption); first | exact h_ | (have e_ := (Kd.R_reads' HO_5.out).1; omega) | simpa using h_) (seg := [.int .i64 (wrap64 (((rd_T104 x5_2 ((rd_T34 l0_1 p0).f1)).f0) + ((rd_T34 l0_1 p0).f2))), .int .i64 (wrap64 (((rd_T104 x5_2 ((rd_T34 l0_1 p0).f1)).f1) + 1))]) (j := 0) hcl48 u3 (show 2 ≤ 2 from by decide) (x' := (⟨wrap64 (((rd_T104 x5_2 ((rd_T34 l0_1 p0).f1)).f0) + ((rd_T34 l0_1 p0).f2)), wrap64 (((rd_T104 x5_2 ((rd_T34 l0_1 p0).f1)).f1) + 1)⟩ : S104)) (k104_mkM _ _ _ (⟨wrap64 (((rd_T104 x5_2 ((rd_T34 l0_1 p0).f1)).f0) + ((rd_T34 l0_1 p0).f2)), wrap64 (((rd_T104 x5_2 ((rd_T34 l0_1 p0).f1)).f1) + 1)⟩ : S104) ) (fun _ hk => hk)
     have hx48_0 := u3 0 _ rfl
     (try simp only [show (k104).sz = 2 from rfl, Nat.mul_one, Nat.add_zero] at hx48_0)
     have hf48_0 := hfr48 0
     (try simp only [show (k104).sz = 2 from rfl, Nat.mul_one, Nat.add_zero] at hf48_0)
     have hx48_1 := u3 1 _ rfl
     (try simp only [show (k104).sz = 2 from rfl, Nat.mul_one, Nat.add_zero] at hx48_1)
     have hf48_1 := hfr48 1
     (try simp only [show (k104).sz = 2 from rfl, Nat.mul_one, Nat.add_zero] at hf48_1)
     clear hcl48 u3 hfr48; (try clear hM48)
     try go_wp2_with (first | ((with_reducible refine gate_store (t := 104) (p := 55) rfl ?_); refine store_event (t := 104) (p := 55) (v := ?vo_w49) (w1 := ((w45.setCell ⟨go6, (((rd_T34 l0_1 p0).f0) : Int).toNat * 2, none⟩ (.int .i64 (wrap64 (((rd_T104 x5_2 ((rd_T34 l0_1 p0).f1)).f0) + ((rd_T34 l0_1 p0).f2))))).setCell ⟨go6, (((rd_T34 l0_1 p0).f0) : Int).toNat * 2 + 1, none⟩ (.int .i64 (wrap64 (((rd_T104 x5_2 ((rd_T34 l0_1 p0).f1)).f1) + 1))))) ?hg ?ho ?hn ?hr ?_; (case ho => rfl); (case hg => rfl); (case hn => rfl); (case hr => first | (go_simp; done) | (go_simp; rfl)); intro w49 hw; have hg : w45.grownBy w49 (some go6) := (by rw [hw]; exact HP48.2); have hp_ : Kd.R k104 104 w49 w.heap.size (fun k_ => k_ ≠ p5) (.slice (some ⟨go6, 0, none⟩) x5_2.length co6) y237 := (by rw [hw, Ny237.out]; exact HP48.1); clear HP48; have n0_ := Aside0.mk (hp_); have n1_ := Aside0.mk (blk_grown (g := q1) (o := .cells #[.int .i64 a0_0, .slice (some r0) l0_1.length c0_1] 25 (0, 0)) p7.out hg (Kd.R_ne HO_5.out p7.out (by decide))); have n2_ := Aside0.mk (blk_grown (g := p3) (o := .cells #[.int .i64 ((rd_T34 l0_1 p0).f0), .int .i64 ((rd_T34 l0_1 p0).f1), .int .i64 ((rd_T34 l0_1 p0).f2), .int .i64 ((rd_T34 l0_1 p0).f3), .int .i64 ((rd_T34 l0_1 p0).f4)] 34 (0, 0)) p1.out hg (Kd.R_ne HO_5.out p1.out (by decide))); have n3_ := Aside0.mk (blk_grown (g := p5) (o := .cells #[.int .i64 (wrap64 (((rd_T104 x5_2 ((rd_T34 l0_1 p0).f1)).f0) + ((rd_T34 l0_1 p0).f2))), .int .i64 (wrap64 (((rd_T104 x5_2 ((rd_T34 l0_1 p0).f1)).f1) + 1))] 104 (0, 0)) q0.out hg (Kd.R_away HO_5.out (fun _ hk => hk))); have n4_ := Aside0.mk ((by rw [hw]; exact below_set (below_set (HB.out) GB6.out) GB6.out : Below w.heap.size w w49)); clear HO_5; clear p7; clear p1; clear q0; clear HB; have HO_5 := n0_; have p7 := n1_; have p1 := n2_; have q0 := n3_; have HB := n4_; clear n0_ n1_ n2_ n3_ n4_; clear hg hw hp_))
     (try simp only [← hl5_2])
     go_roundg k2
     case measure => have := HK1.out; have := HK2.out; omega
     case rel => exact ⟨(y237), (true), (wrap64 (p0 + 1)), (by first | rfl | (simp; done) | (simp [*]; done)), (by first | rfl | (simp; done) | (simp [*]; done)), H', ⟨by have := HK1.out; have := HK2.out; omega⟩, ⟨by (try simp only [hl5_1]); (try simp only [hl5_2]); exact Kd.R_mono HO_5.out (fun _ hk => trivial)⟩, ⟨by (try simp only [hl5_1]); (try simp only [hl5_2]); exact p7.out⟩, ⟨by repeat (first | (with_reducible first | exact HB.out | apply below_alloc | apply pw_below_drewN | apply below_drew1 | refine below_set ?_ r8.out | refine below_set ?_ r9.out | refine below_set ?_ t4.out) | exact HB.out)⟩⟩
end Go.Proofs.Ytljdcinpjnijcaa.Pr
end
section
namespace Go.Proofs.Ytljdcinpjnijcaa.Pr
open Go.RowKit Go.Proofs.YtljdcinpjnijcaaW.PrintWords Go.Proofs.YtljdcinpjnijcaaW.PrintLast Go.Proofs.YtljdcinpjnijcaaW.PrintMore
attribute [local go_sem] max2_int min2_int max_two min_two max_three min_three max_four min_four
set_option linter.unusedVariables false
set_option linter.unusedSimpArgs false
def impl_Net_best.l0 : Nat → Int → Int → List (S104) → List Int → Int → List (S34) → Option (List Int × Bool)
 | 0, _, _, _, _, _, _ => none
 | k + 1, x1, x2, x8, x9, q1, p4 => if x1 = x2 then (some (x9, true)) else ((impl_Net_firstArc.f q1 p4 x8 x1).bind fun t314 => (if x9.length < 17592186044416 then (if 0 ≤ t314 then (if t314 < (p4.length : Int) then (impl_Net_best.l0 k ((rd_T34 p4 t314).f1) x2 x8 (x9 ++ [t314]) q1 p4) else (none)) else (none)) else (none)))
def impl_Net_best.f (k : Nat) (a0_0 : Int) (l0_1 : List (S34)) (a1 : Int) (a2 : Int) : Option (List Int × Bool) := (impl_Net_toward.f k a0_0 l0_1 a2).bind fun t306 => (if 0 ≤ a1 then (if a1 < (t306.length : Int) then (if ((rd_T104 t306 a1).f0) = 99999 then (some (([] : List Int), false)) else (if 0 ≤ ((rd_T104 t306 a1).f1) then (if ((rd_T104 t306 a1).f1 : Int).toNat ≤ 35184372088832 then (impl_Net_best.l0 k a1 a2 t306 (([] : List Int)) a0_0 l0_1) else (none)) else (none))) else (none)) else (none))
set_option maxHeartbeats 8000000 in
set_option maxRecDepth 100000 in
theorem impl_Net_best.calls (k : Nat) (a0_0 : Int) (A0_1 : Option Addr) (c0_1 : Nat) (l0_1 : List (S34)) (a1 : Int) (a2 : Int) (r1 : List Int) (r2 : Bool) (w : World) (hr0_1 : Kd.C k34 w A0_1 l0_1.length l0_1) (hc0_1 : l0_1.length ≤ c0_1) (h : impl_Net_best.f k a0_0 l0_1 a1 a2 = some (r1, r2)) :
  Calls Try.prog 56 #[.agg #[.int .i64 a0_0, .slice A0_1 l0_1.length c0_1], .int .i64 a1, .int .i64 a2] w fun e w' => ∃ v0_ : Value, e = .returned (.tuple #[v0_, .bool r2]) ∧ Kd.R (Kd.int .i64) 3 w' w.heap.size (fun _ => True) v0_ r1 ∧ Below w.heap.size w w' := by
 have hu25 := Try.underlying25
 have q2 := Aside0.mk hr0_1
 have q7 := Aside0.mk hc0_1
 clear hr0_1 hc0_1
 have HB := Aside0.mk (Below.refl w.heap.size w)
 have H : ((impl_Net_toward.f k a0_0 l0_1 a2).bind fun t306 => (if 0 ≤ a1 then (if a1 < (t306.length : Int) then (if ((rd_T104 t306 a1).f0) = 99999 then (some (([] : List Int), false)) else (if 0 ≤ ((rd_T104 t306 a1).f1) then (if ((rd_T104 t306 a1).f1 : Int).toNat ≤ 35184372088832 then (impl_Net_best.l0 k a1 a2 t306 (([] : List Int)) a0_0 l0_1) else (none)) else (none))) else (none)) else (none))) = some (r1, r2) := h
 clear h
 replace H := Option.bind_eq_some_iff.mp H
 obtain ⟨t306, A40, H⟩ := H
 replace H : (if 0 ≤ a1 then (if a1 < (t306.length : Int) then (if ((rd_T104 t306 a1).f0) = 99999 then (some (([] : List Int), false)) else (if 0 ≤ ((rd_T104 t306 a1).f1) then (if ((rd_T104 t306 a1).f1 : Int).toNat ≤ 35184372088832 then (impl_Net_best.l0 k a1 a2 t306 (([] : List Int)) a0_0 l0_1) else (none)) else (none))) else (none)) else (none)) = some (r1, r2) := H
 have A4 := Aside0.mk A40
 clear A40
 by_cases c5 : 0 ≤ a1
 case neg =>
  rw [if_neg c5] at H
  exact absurd H (by simp)
 rw [if_pos c5] at H
 have c5b0 : decide (0 ≤ a1) = true := decide_eq_true c5
 clear c5
 by_cases c6 : a1 < (t306.length : Int)
 case neg =>
  rw [if_neg c6] at H
  exact absurd H (by simp)
 rw [if_pos c6] at H
 have c6b0 : decide (a1 < (t306.length : Int)) = true := decide_eq_true c6
 clear c6
 by_cases c7 : ((rd_T104 t306 a1).f0) = 99999
 case pos =>
  rw [if_pos c7] at H
  have c7b0 : (((rd_T104 t306 a1).f0) == 99999) = true := beq_iff_eq.mpr c7
  have c7b1 : (((rd_T104 t306 a1).f0) != 99999) = false := bne_eq_false_iff_eq.mpr c7
  clear c7
  simp only [Option.some.injEq, Prod.mk.injEq] at H
  obtain ⟨rfl, rfl⟩ := H
  go_enter Try.func56, Try.ntmps56
  go_wp2_with (first | ((with_reducible refine gate_dst (N := 3) rfl ?_); refine box_event ?hg (N := 3) ?hd (cs := #[.int .i64 a0_0, .slice A0_1 l0_1.length c0_1]) (t := 25) ?hr ?_; (case hd => rfl); (case hg => rfl); (case hr => first | (go_simp; done) | (go_simp; rfl)); intro p1 hg w8 hbox hb; have n0_ := Aside0.mk (below_step HB.out hb); have n1_ := Aside0.mk (hbox); have n2_ := Aside0.mk ((by rw [hg]; exact (below_size HB.out) : w.heap.size ≤ p1)); have n3_ := Aside0.mk ((by rw [hg]; exact (below_size HB.out) : w.heap.size ≤ p1)); clear HB; have HB := n0_; have p0 := n1_; have GW305 := n2_; have q0 := n3_; clear n0_ n1_ n2_ n3_; clear hb hbox hg; have hcz9_0 : w8.cell? ⟨p1, 0, none⟩ = some (.int .i64 a0_0) := (blk_cell p0.out 0).trans rfl; have hcz9_1 : w8.cell? ⟨p1, 1, none⟩ = some (.slice A0_1 l0_1.length c0_1) := (blk_cell p0.out 1).trans rfl; have hfz9_0 := blk_frozen p0.out 0; have hfz9_1 := blk_frozen p0.out 1) | ((with_reducible refine gate_callee (f := 93) rfl ?_); refine goesL_ (some 13) rfl rfl Try.func93 (by kernel_rfl) rfl #[.agg #[.int .i64 a0_0, .slice A0_1 l0_1.length c0_1], .int .i64 a2] rfl (by (try simp only [List.map_toArray, List.map_cons, List.map_nil]); first | done | rfl | (simp only [List.length_drop, List.length_take]; rfl)) ?_; (with_reducible refine (impl_Net_toward.calls k a0_0 _ _ l0_1 a2 t306 _ ?side1 ?side2 A4.out).mono ?_); (case side1 => repeat (first | exact (Kd.C_below q2.out HB.out) | (with_reducible refine Kd.C_alloc ?_ _) | (with_reducible refine Kd.C_drewN ?_ _) | (with_reducible refine Kd.C_drew ?_))); (case side2 => exact q7.out); rintro e w10 ⟨v307, rfl, ho0, hb⟩; refine ⟨_, rfl, ?_⟩; have n0_ := Aside0.mk (Kd.R_lower ho0 (below_size HB.out)); have n1_ := Aside0.mk (blk_below (g := p1) (o := .cells #[.int .i64 a0_0, .slice A0_1 l0_1.length c0_1] 25 (0, 0)) p0.out hb); have n2_ := Aside0.mk (below_step HB.out hb); clear p0; clear HB; have HO308 := n0_; have p0 := n1_; have HB := n2_; clear n0_ n1_ n2_; (try clear hb); (try clear hb2); (try clear hk); (try clear hi); (try clear ho0); obtain ⟨Ao11, co11, eo11⟩ := Kd.R_slice HO308.out; subst eo11; have p309 : 0 ≤ (a1 : Int) := of_decide_eq_true (by first | (with_reducible assumption) | assumption); have q309 : a1 < (t306.length : Int) := of_decide_eq_true (by first | (with_reducible assumption) | assumption); obtain ⟨q4, e309, q5, q6⟩ := at_T104 (Kd.R_reads' HO308.out).2.2 a1 p309 q309; cases e309; replace p309 := eq_true p309; replace q309 := eq_true q309))
  go_ret2
  exact ⟨_, by first | rfl | (simp [errW_none, errW_some] <;> rfl) | (simp [*, errW_none, errW_some] <;> rfl), by first | exact Kd.R_nil _ _ _ _ _ | exact Kd.N_nil _ _ _ _ _ | exact Kd.V_nil _ _ _ _ _ | exact Kd.Q_nil _ _ _ _ _ | exact Kd.S_nil _ _ _ _ _, by repeat (first | (with_reducible first | exact HB.out | apply below_alloc | apply pw_below_drewN | apply below_drew1 | refine below_set ?_ q0.out) | exact HB.out)⟩
 rw [if_neg c7] at H
 have c7b0 : (((rd_T104 t306 a1).f0) == 99999) = false := beq_eq_false_iff_ne.mpr c7
 have c7b1 : (((rd_T104 t306 a1).f0) != 99999) = true := bne_iff_ne.mpr c7
 by_cases c12 : 0 ≤ ((rd_T104 t306 a1).f1)
 case neg =>
  rw [if_neg c12] at H
  exact absurd H (by simp)
 rw [if_pos c12] at H
 have c12b0 := eq_true c12
 have c12b1 : decide (0 ≤ ((rd_T104 t306 a1).f1)) = true := decide_eq_true c12
 clear c12
 by_cases c13 : ((rd_T104 t306 a1).f1 : Int).toNat ≤ 35184372088832
 case neg =>
  rw [if_neg c13] at H
  exact absurd H (by simp)
 rw [if_pos c13] at H
 have c13b0 := eq_true c13
 have c13b1 : decide (((rd_T104 t306 a1).f1 : Int).toNat ≤ 35184372088832) = true := decide_eq_true c13
 clear c13
 obtain ⟨y311, hy311⟩ : ∃ y_ : List Int, y_ = (([] : List Int)) := ⟨_, rfl⟩
 replace H : (impl_Net_best.l0 k a1 a2 t306 y311 a0_0 l0_1) = some (r1, r2) := by first | (rw [hy311]; with_reducible exact H) | (have H2_ := (Option.bind_some _ _).symm.trans H; rw [hy311]; with_reducible exact H2_) | (have H2_ := (Option.bind_some _ _).symm.trans H; with_reducible exact H2_) | with_reducible exact H | (rw [hy311]; exact H) | exact H
 have Ny311 := Aside0.mk hy311
 clear hy311
 have H' := Aside0.mk H
 clear H
 go_enter Try.func56, Try.ntmps56
 go_wp2_with (first | ((with_reducible refine gate_dst (N := 3) rfl ?_); refine box_event ?hg (N := 3) ?hd (cs := #[.int .i64 a0_0, .slice A0_1 l0_1.length c0_1]) (t := 25) ?hr ?_; (case hd => rfl); (case hg => rfl); (case hr => first | (go_simp; done) | (go_simp; rfl)); intro p1 hg w14 hbox hb; have n0_ := Aside0.mk (below_step HB.out hb); have n1_ := Aside0.mk (hbox); have n2_ := Aside0.mk ((by rw [hg]; exact (below_size HB.out) : w.heap.size ≤ p1)); have n3_ := Aside0.mk ((by rw [hg]; exact (below_size HB.out) : w.heap.size ≤ p1)); clear HB; have HB := n0_; have p0 := n1_; have GW305 := n2_; have q0 := n3_; clear n0_ n1_ n2_ n3_; clear hb hbox hg; have q8 : w14.cell? ⟨p1, 0, none⟩ = some (.int .i64 a0_0) := (blk_cell p0.out 0).trans rfl; have q9 : w14.cell? ⟨p1, 1, none⟩ = some (.slice A0_1 l0_1.length c0_1) := (blk_cell p0.out 1).trans rfl; have r0 := blk_frozen p0.out 0; have r3 := blk_frozen p0.out 1) | ((with_reducible refine gate_callee (f := 93) rfl ?_); refine goesL_ (some 13) rfl rfl Try.func93 (by kernel_rfl) rfl #[.agg #[.int .i64 a0_0, .slice A0_1 l0_1.length c0_1], .int .i64 a2] rfl (by (try simp only [List.map_toArray, List.map_cons, List.map_nil]); first | done | rfl | (simp only [List.length_drop, List.length_take]; rfl)) ?_; (with_reducible refine (impl_Net_toward.calls k a0_0 _ _ l0_1 a2 t306 _ ?side1 ?side2 A4.out).mono ?_); (case side1 => repeat (first | exact (Kd.C_below q2.out HB.out) | (with_reducible refine Kd.C_alloc ?_ _) | (with_reducible refine Kd.C_drewN ?_ _) | (with_reducible refine Kd.C_drew ?_))); (case side2 => exact q7.out); rintro e w16 ⟨v307, rfl, ho0, hb⟩; refine ⟨_, rfl, ?_⟩; have n0_ := Aside0.mk (Kd.R_lower ho0 (below_size HB.out)); have n1_ := Aside0.mk (blk_below (g := p1) (o := .cells #[.int .i64 a0_0, .slice A0_1 l0_1.length c0_1] 25 (0, 0)) p0.out hb); have n2_ := Aside0.mk (below_step HB.out hb); clear p0; clear HB; have HO308 := n0_; have p0 := n1_; have HB := n2_; clear n0_ n1_ n2_; (try clear hb); (try clear hb2); (try clear hk); (try clear hi); (try clear ho0); obtain ⟨Ao17, co17, eo17⟩ := Kd.R_slice HO308.out; subst eo17; have p309 : 0 ≤ (a1 : Int) := of_decide_eq_true (by first | (with_reducible assumption) | assumption); have q309 : a1 < (t306.length : Int) := of_decide_eq_true (by first | (with_reducible assumption) | assumption); obtain ⟨q4, e309, q5, q6⟩ := at_T104 (Kd.R_reads' HO308.out).2.2 a1 p309 q309; cases e309; replace p309 := eq_true p309; replace q309 := eq_true q309; have p310 : 0 ≤ (a1 : Int) := of_decide_eq_true (by first | (with_reducible assumption) | assumption); have q310 : a1 < (t306.length : Int) := of_decide_eq_true (by first | (with_reducible assumption) | assumption); obtain ⟨ad310, e310, r4, r5⟩ := at_T104 (Kd.R_reads' HO308.out).2.2 a1 p310 q310; obtain rfl : q4 = ad310 := (by injection e310); replace p310 := eq_true p310; replace q310 := eq_true q310) | ((with_reducible refine gate_dst (N := 25) rfl ?_); refine Kd.R_make0 (Kd.int .i64) _ 3 rfl (N := 25) rfl 29 _ _ rfl ((rd_T104 t306 a1).f1) (by first | rfl | (go_simp; done) | (go_simp; rfl)) (by first | rfl | (go_simp; done) | (go_simp; rfl)) Try.underlying29 (.int .i64 0) 8 info3 rfl (by decide) (by omega) 0 (ok := fun _ => True) (okp := fun _ => True) rfl (fun _ hk => hk) trivial (of_decide_eq_true (by first | (with_reducible assumption) | assumption)) (Nat.le_trans (Nat.mul_le_mul_right _ (of_decide_eq_true (by first | (with_reducible assumption) | assumption) : ((rd_T104 t306 a1).f1).toNat ≤ 35184372088832)) (by omega)) (Below.refl _ _) (Nat.le_refl _) ?_; intro v312 w18 ho19 hb hg_ hnew_; clear hg_ hnew_; (first | rw [← Ny311.out] at ho19 | (simp only [Int.reduceToNat] at ho19; rw [← Ny311.out] at ho19)); have n0_ := Aside0.mk (Kd.R_below HO308.out hb); have n1_ := Aside0.mk (Kd.R_lower ho19 (below_size HB.out)); have n2_ := Aside0.mk (blk_below (g := p1) (o := .cells #[.int .i64 a0_0, .slice A0_1 l0_1.length c0_1] 25 (0, 0)) p0.out hb); have n3_ := Aside0.mk (below_step HB.out hb); clear HO308; clear p0; clear HB; have HO308 := n0_; have HO313 := n1_; have p0 := n2_; have HB := n3_; clear n0_ n1_ n2_ n3_; clear hb ho19))
 go_loopg [1, 9] k (fun kq v1 v9 w' => ∃ (x1_1 : Int) (x9_1 : List Int), v1 = .int .i64 x1_1 ∧ Aside0 (impl_Net_best.l0 kq x1_1 a2 t306 x9_1 a0_0 l0_1 = some (r1, r2)) ∧ Aside0 (kq ≤ k) ∧ Aside0 (Kd.R k104 104 w' w.heap.size (fun _ => True) (.slice (some q4) t306.length co17) t306) ∧ Aside0 (Kd.R (Kd.int .i64) 3 w' w.heap.size (fun _ => True) v9 x9_1) ∧ Aside0 (w'.heap[p1]? = some (.cells #[.int .i64 a0_0, (.slice A0_1 l0_1.length c0_1)] 25 (0, 0))) ∧ Aside0 (Below w.heap.size w w'))
 case atStart => exact ⟨(a1), (y311), (by first | rfl | (simp; done) | (simp [*]; done)), H', ⟨Nat.le_refl _⟩, ⟨by (with_reducible repeat (first | apply Kd.R_alloc | apply Kd.R_drewN | apply Kd.R_drew)); exact HO308.out⟩, ⟨by (with_reducible repeat (first | apply Kd.R_alloc | apply Kd.R_drewN | apply Kd.R_drew)); exact HO313.out⟩, ⟨by (with_reducible repeat (first | refine blk_drewN ?_ _ | refine blk_drew ?_ | refine blk_alloc ?_ _)); exact p0.out⟩, ⟨by repeat (first | (with_reducible first | exact HB.out | apply below_alloc | apply pw_below_drewN | apply below_drew1 | refine below_set ?_ q0.out) | exact HB.out)⟩⟩
 case round =>
  clear H'
  try clear c1
  try clear p2
  try clear p3
  try clear q3
  try clear hx3
  try clear c5
  try clear c5b0
  try clear c6
  try clear c6b0
  try clear c7
  try clear c7b0
  try clear c7b1
  try clear c9
  try clear c12
  try clear c12b0
  try clear c12b1
  try clear c13
  try clear c13b0
  try clear c13b1
  try clear q8
  try clear q9
  try clear hcz9_0
  try clear hcz9_1
  try clear r0
  try clear r3
  try clear hfz9_0
  try clear hfz9_1
  try clear q5
  try clear q6
  try clear r4
  try clear r5
  try clear p309
  try clear p310
  try clear q309
  try clear q310
  obtain ⟨x1_1, x9_1, rfl, HA, HK1, HO_8, HO_9, p0, HB⟩ := hrel
  cases gk with
  | zero => exact absurd HA.out (by simp [impl_Net_best.l0])
  | succ k1 =>
   have H := HA.out
   clear HA
   simp only [impl_Net_best.l0] at H
   by_cases c20 : x1_1 = a2
   case pos =>
    rw [if_pos c20] at H
    have c20b0 : (x1_1 == a2) = true := beq_iff_eq.mpr c20
    have c20b1 : (x1_1 != a2) = false := bne_eq_false_iff_eq.mpr c20
    clear c20
    simp only [Option.some.injEq, Prod.mk.injEq] at H
    obtain ⟨rfl, rfl⟩ := H
    go_wp2
    go_ret2
    exact ⟨_, by first | rfl | (simp [errW_none, errW_some] <;> rfl) | (simp [*, errW_none, errW_some] <;> rfl), by (with_reducible repeat (first | apply Kd.R_alloc | apply Kd.R_drewN | apply Kd.R_drew)); exact HO_9.out, by repeat (first | (with_reducible first | exact HB.out | apply below_alloc | apply pw_below_drewN | apply below_drew1 | refine below_set ?_ q0.out) | exact HB.out)⟩
   rw [if_neg c20] at H
   have c20b0 : (x1_1 == a2) = false := beq_eq_false_iff_ne.mpr c20
   have c20b1 : (x1_1 != a2) = true := bne_iff_ne.mpr c20
   replace H := Option.bind_eq_some_iff.mp H
   obtain ⟨t314, A210, H⟩ := H
   replace H : (if x9_1.length < 17592186044416 then (if 0 ≤ t314 then (if t314 < (l0_1.length : Int) then (impl_Net_best.l0 k1 ((rd_T34 l0_1 t314).f1) a2 t306 (x9_1 ++ [t314]) a0_0 l0_1) else (none)) else (none)) else (none)) = some (r1, r2) := H
   have A21 := Aside0.mk A210
   clear A210
   by_cases c22 : x9_1.length < 17592186044416
   case neg =>
    rw [if_neg c22] at H
    exact absurd H (by simp)
   rw [if_pos c22] at H
   have LMc22 := Aside0.mk c22
   clear c22
   obtain ⟨y315, hy315⟩ : ∃ y_ : List Int, y_ = (x9_1 ++ [t314]) := ⟨_, rfl⟩
   replace H : (if 0 ≤ t314 then (if t314 < (l0_1.length : Int) then (impl_Net_best.l0 k1 ((rd_T34 l0_1 t314).f1) a2 t306 y315 a0_0 l0_1) else (none)) else (none)) = some (r1, r2) := by first | (rw [hy315]; with_reducible exact H) | (have H2_ := (Option.bind_some _ _).symm.trans H; rw [hy315]; with_reducible exact H2_) | (have H2_ := (Option.bind_some _ _).symm.trans H; with_reducible exact H2_) | with_reducible exact H | (rw [hy315]; exact H) | exact H
   have Ny315 := Aside0.mk hy315
   clear hy315
   by_cases c23 : 0 ≤ t314
   case neg =>
    rw [if_neg c23] at H
    exact absurd H (by simp)
   rw [if_pos c23] at H
   have c23b0 : decide (0 ≤ t314) = true := decide_eq_true c23
   clear c23
   by_cases c24 : t314 < (l0_1.length : Int)
   case neg =>
    rw [if_neg c24] at H
    exact absurd H (by simp)
   rw [if_pos c24] at H
   have c24b0 : decide (t314 < (l0_1.length : Int)) = true := decide_eq_true c24
   clear c24
   have H' := Aside0.mk H
   clear H
   have hcz25_0 : wr.cell? ⟨p1, 0, none⟩ = some (.int .i64 a0_0) := (blk_cell p0.out 0).trans rfl
   have hcz25_1 : wr.cell? ⟨p1, 1, none⟩ = some (.slice A0_1 l0_1.length c0_1) := (blk_cell p0.out 1).trans rfl
   have hfz25_0 := blk_frozen p0.out 0
   have hfz25_1 := blk_frozen p0.out 1
   go_wp2_with (first | ((with_reducible refine gate_callee (f := 94) rfl ?_); refine goesL_ (some 32) rfl rfl Try.func94 (by kernel_rfl) rfl #[.agg #[.int .i64 a0_0, .slice A0_1 l0_1.length c0_1], .slice (some q4) t306.length co17, .int .i64 x1_1] rfl (by (try simp only [List.map_toArray, List.map_cons, List.map_nil]); first | done | rfl | (simp only [List.length_drop, List.length_take]; rfl)) ?_; (with_reducible refine (impl_Net_firstArc.calls a0_0 _ _ l0_1 _ _ t306 x1_1 t314 _ ?side1 ?side2 ?side3 ?side4 A21.out).mono ?_); (case side1 => repeat (first | exact (Kd.C_below q2.out HB.out) | (with_reducible refine Kd.C_alloc ?_ _) | (with_reducible refine Kd.C_drewN ?_ _) | (with_reducible refine Kd.C_drew ?_))); (case side2 => exact q7.out); (case side3 => repeat (first | exact (Kd.R_reads' HO_8.out).2.2 | (with_reducible refine Kd.C_alloc ?_ _) | (with_reducible refine Kd.C_drewN ?_ _) | (with_reducible refine Kd.C_drew ?_))); (case side4 => exact (Kd.R_reads' HO_8.out).2.1); rintro e w26 ⟨rfl, hb⟩; refine ⟨_, rfl, ?_⟩; have n0_ := Aside0.mk (Kd.R_below HO_8.out hb); have n1_ := Aside0.mk (Kd.R_below HO_9.out hb); have n2_ := Aside0.mk (blk_below (g := p1) (o := .cells #[.int .i64 a0_0, .slice A0_1 l0_1.length c0_1] 25 (0, 0)) p0.out hb); have n3_ := Aside0.mk (below_step HB.out hb); clear HO_8; clear HO_9; clear p0; clear HB; have HO_8 := n0_; have HO_9 := n1_; have p0 := n2_; have HB := n3_; clear n0_ n1_ n2_ n3_; (try clear hb); (try clear hb2); (try clear hk); (try clear hi)) | ((with_reducible refine gate_builtin (b := .append) (xs := #[.tmp 33, .tmp 35]) rfl ?_); at_builtin; refine Kd.R_append (Kd.int .i64) (w0 := w) w.heap.size rfl (.tmp 33) (.tmp 35) 29 3 (.int .i64 0) 8 rfl Try.underlying29 info3 rfl (by decide) (by omega) u9 x9_1 t314 [.int .i64 t314] (fun _ => True) (fun _ => False) rfl rfl ?aP (fun _ hk => hk.elim) ?aF ?aO ?aB ?aS ?aL ?_; (case aP => exact rfl); (case aB => exact HB.out); (case aF => exact (fun _ _ => trivial)); (case aO => exact HO_9.out); (case aS => exact (below_size HB.out)); (case aL => have := LMc22.out; omega); intro v316 w27 ho hb hg hat; rw [← Ny315.out] at ho; have n0_ := Aside0.mk (Kd.R_over' HO_8.out (Kd.R_typed HO_9.out) (by decide) hg); have n1_ := Aside0.mk (blk_grown (g := p1) (o := .cells #[.int .i64 a0_0, .slice A0_1 l0_1.length c0_1] 25 (0, 0)) p0.out hg (Kd.R_ne HO_9.out p0.out (by decide))); have n2_ := Aside0.mk (hb); have n3_ := Aside0.mk (ho); clear HO_8; clear p0; clear HB; clear HO_9; have HO_8 := n0_; have p0 := n1_; have HB := n2_; have HO317 := n3_; clear n0_ n1_ n2_ n3_; clear ho hb hg hat; have hcz28_0 : w27.cell? ⟨p1, 0, none⟩ = some (.int .i64 a0_0) := (blk_cell p0.out 0).trans rfl; have hcz28_1 : w27.cell? ⟨p1, 1, none⟩ = some (.slice A0_1 l0_1.length c0_1) := (blk_cell p0.out 1).trans rfl; have hfz28_0 := blk_frozen p0.out 0; have hfz28_1 := blk_frozen p0.out 1; have p318 : 0 ≤ (t314 : Int) := of_decide_eq_true (by first | (with_reducible assumption) | assumption); have q318 : t314 < (l0_1.length : Int) := of_decide_eq_true (by first | (with_reducible assumption) | assumption); obtain ⟨ad318, e318, p5, p6, p7, p8, p9⟩ := at_T34 q2.out t314 p318 q318; cases e318; replace p5 := (HB.out.cell (World.block_lt_of_cell? w _ p5)).trans p5; replace p6 := (HB.out.cell (World.block_lt_of_cell? w _ p6)).trans p6; replace p7 := (HB.out.cell (World.block_lt_of_cell? w _ p7)).trans p7; replace p8 := (HB.out.cell (World.block_lt_of_cell? w _ p8)).trans p8; replace p9 := (HB.out.cell (World.block_lt_of_cell? w _ p9)).trans p9; replace p318 := eq_true p318; replace q318 := eq_true q318))
   go_roundg k1
   case measure => have := HK1.out; omega
   case rel => exact ⟨((rd_T34 l0_1 t314).f1), (y315), (by first | rfl | (simp; done) | (simp [*]; done)), H', ⟨by have := HK1.out; omega⟩, ⟨by (with_reducible repeat (first | apply Kd.R_alloc | apply Kd.R_drewN | apply Kd.R_drew)); exact HO_8.out⟩, ⟨by (with_reducible repeat (first | apply Kd.R_alloc | apply Kd.R_drewN | apply Kd.R_drew)); exact HO317.out⟩, ⟨by (with_reducible repeat (first | refine blk_drewN ?_ _ | refine blk_drew ?_ | refine blk_alloc ?_ _)); exact p0.out⟩, ⟨by repeat (first | (with_reducible first | exact HB.out | apply below_alloc | apply pw_below_drewN | apply below_drew1 | refine below_set ?_ q0.out) | exact HB.out)⟩⟩
end Go.Proofs.Ytljdcinpjnijcaa.Pr
end
section
namespace Go.Proofs.Ytljdcinpjnijcaa.Pr
open Go.RowKit Go.Proofs.YtljdcinpjnijcaaW.PrintWords Go.Proofs.YtljdcinpjnijcaaW.PrintLast Go.Proofs.YtljdcinpjnijcaaW.PrintMore
attribute [local go_sem] max2_int min2_int max_two min_two max_three min_three max_four min_four
set_option linter.unusedVariables false
set_option linter.unusedSimpArgs false
def hubRow (st : List Int → List Int → Option (List Int)) (k N : Nat) (l : List S34) (a : Nat) : Nat → List Int → Option (List Int)
 | 0, o => some o
 | d + 1, o => (impl_Net_best.f k (N : Int) l (a : Int) ((N - (d + 1) : Nat) : Int)).bind fun r => if r.2 = true then (if a = N - (d + 1) then hubRow st k N l a d o else (st o r.1).bind fun o' => hubRow st k N l a d o') else hubRow st k N l a d o
def hubAll (st : List Int → List Int → Option (List Int)) (k N : Nat) (l : List S34) : Nat → List Int → Option (List Int)
 | 0, o => some o
 | d + 1, o => (hubRow st k N l (N - (d + 1)) N o).bind fun o' => hubAll st k N l d o'
set_option maxHeartbeats 4000000 in
set_option maxRecDepth 100000 in
theorem bestWalks_walk (st : List Int → List Int → Option (List Int)) (k N : Nat) (hN : N ≤ 64) (A0 : Option Addr) (c0 : Nat) (l0 : List S34) (go cf : Nat) (lb : Array Value) (eg : ∀ args w, (callFunc cf args).run Try.prog w = .ok (.enter cf args) w) (I : List Int → World → Prop) (o0 r : List Int) (w : World) (hgo : go < w.heap.size)
  (hA : ∀ o W, I o W → Kd.C k34 W A0 l0.length l0) (hc0 : l0.length ≤ c0) (hI : I o0 w) (hIb : ∀ o W W1, I o W → Below W.heap.size W W1 → I o W1)
  (hcall : ∀ o o' W A c x, KeepBut w W go none → I o W → (∀ W', KeepBut W W' go none → Kd.C (Kd.int .i64) W' A x.length x) → x.length ≤ c → st o x = some o' → Calls Try.prog cf (#[.slice A x.length c] ++ lb) W fun e w' => e = .returned (.tuple #[]) ∧ I o' w' ∧ KeepBut W w' go none) (h : hubAll st k N l0 N o0 = some r) :
  Calls Try.prog 64 #[.agg #[.int .i64 (N : Int), .slice A0 l0.length c0], .func (.func cf) #[] lb] w fun e w' => e = .returned (.tuple #[]) ∧ I r w' ∧ KeepBut w w' go none := by
 have hu := Try.underlying25
 have HA := Aside0.mk hA
 have HC := Aside0.mk hc0
 have HI := Aside0.mk hI
 have HIB := Aside0.mk hIb
 have HCL := Aside0.mk hcall
 have HH := Aside0.mk h
 have HN := Aside0.mk hN
 have HGO := Aside0.mk hgo
 clear hA hc0 hI hIb hcall h hN hgo
 go_enter Try.func64, Try.ntmps64
 go_wp2_with (first
  | ((with_reducible refine gate_dst (N := 2) rfl ?_); refine box_event ?hg (N := 2) ?hd (cs := #[.int .i64 (N : Int), .slice A0 l0.length c0]) (t := 25) ?hr ?_; (case hd => rfl); (case hg => rfl); (case hr => first | (go_simp; done) | (go_simp; rfl)); intro gN hgN w1 hbox hb; have P1 := Aside0.mk hbox; have P2 := Aside0.mk (KeepBut.of_below hb go none); have P3 := Aside0.mk (show w.heap.size ≤ gN by rw [hgN]; exact Nat.le_refl _); have P4 := Aside0.mk (HIB.out _ _ _ HI.out hb); have q1 : w1.cell? ⟨gN, 0, none⟩ = some (.int .i64 (N : Int)) := (blk_cell hbox 0).trans rfl; clear hbox hb hgN))
 clear q1
 go_loopg [10] N (fun gg s10 wr => ∃ (a : Nat) (o : List Int), s10 = .int .i64 (a : Int) ∧ Aside0 (a ≤ N) ∧ Aside0 (N - a ≤ gg) ∧ Aside0 (I o wr) ∧ Aside0 (KeepBut w wr go none) ∧ Aside0 (wr.heap[gN]? = some (.cells #[.int .i64 (N : Int), .slice A0 l0.length c0] 25 (0, 0))) ∧ Aside0 (hubAll st k N l0 (N - a) o = some r))
 case atStart => exact ⟨0, o0, rfl, ⟨by omega⟩, ⟨by omega⟩, P4, P2, P1, HH⟩
 case round =>
  clear P1 P2 P4 HH HI
  obtain ⟨a, o, rfl, J0, J1, J2, J3, J4, J5⟩ := hrel
  by_cases ha : a < N
  case neg =>
   have c1 : decide ((a : Int) < (N : Int)) = false := decide_eq_false (by omega)
   have c2 : decide (a < N) = false := decide_eq_false ha
   have haN : a = N := by have := J0.out; omega
   have hall : some o = some r := by have h := J5.out; rw [haN, Nat.sub_self] at h; exact h
   obtain rfl := Option.some.inj hall
   clear hall ha J5 haN
   go_wp2
   go_end0
   exact ⟨rfl, J2.out, J3.out⟩
  have c1 : decide ((a : Int) < (N : Int)) = true := decide_eq_true (by omega)
  have c2 : decide (a < N) = true := decide_eq_true ha
  obtain ⟨m, hm⟩ : ∃ m, N - a = m + 1 := ⟨N - a - 1, by omega⟩
  have h5 := J5.out
  rw [hm] at h5
  unfold hubAll at h5
  obtain ⟨o2, ho2, h6⟩ := Option.bind_eq_some_iff.1 h5
  rw [show N - (m + 1) = a by omega] at ho2
  have R2 := Aside0.mk ho2
  have R3 := Aside0.mk h6
  have M1 := Aside0.mk hm
  have HAL := Aside0.mk ha
  have q2 : wr.cell? ⟨gN, 0, none⟩ = some (.int .i64 (N : Int)) := (blk_cell J4.out 0).trans rfl
  clear h5 ho2 h6 hm J5 ha
  go_wp2
  clear q2
  go_loopg [15] N (fun gg s15 wr => ∃ (b : Nat) (o : List Int), s15 = .int .i64 (b : Int) ∧ Aside0 (b ≤ N) ∧ Aside0 (N - b ≤ gg) ∧ Aside0 (I o wr) ∧ Aside0 (KeepBut w wr go none) ∧ Aside0 (wr.heap[gN]? = some (.cells #[.int .i64 (N : Int), .slice A0 l0.length c0] 25 (0, 0))) ∧ Aside0 (hubRow st k N l0 a (N - b) o = some o2))
  case atStart => exact ⟨0, o, rfl, ⟨by omega⟩, ⟨by omega⟩, J2, J3, J4, R2⟩
  case round =>
   clear J2 J3 J4 R2
   obtain ⟨b, o3, rfl, K0, K1, K2, K3, K4, K5⟩ := hrel
   by_cases hb : b < N
   case neg =>
    have c1 : decide ((b : Int) < (N : Int)) = false := decide_eq_false (by omega)
    have c2 : decide (b < N) = false := decide_eq_false hb
    have hbN : b = N := by have := K0.out; omega
    have hrow : some o3 = some o2 := by have h := K5.out; rw [hbN, Nat.sub_self] at h; exact h
    obtain rfl := Option.some.inj hrow
    have hw : wrap64 ((a : Int) + 1) = ((a + 1 : Nat) : Int) := by have h1 := HN.out; have h2 := HAL.out; unfold wrap64; omega
    clear hrow hb K5 hbN
    go_wp2
    have ha2 := HAL.out
    have hm3 := M1.out
    go_roundg (N - (a + 1))
    case measure => have := J1.out; omega
    case rel => exact ⟨a + 1, o3, by first | rfl | (rw [hw]; done) | (simp [hw]; done), ⟨by omega⟩, ⟨by omega⟩, K2, K3, K4, ⟨by rw [show N - (a + 1) = m by omega]; exact R3.out⟩⟩
   have c1 : decide ((b : Int) < (N : Int)) = true := decide_eq_true (by omega)
   have c2 : decide (b < N) = true := decide_eq_true hb
   obtain ⟨m2, hm2⟩ : ∃ m, N - b = m + 1 := ⟨N - b - 1, by omega⟩
   have h5 := K5.out
   rw [hm2] at h5
   unfold hubRow at h5
   obtain ⟨⟨x, ok⟩, hx, h6⟩ := Option.bind_eq_some_iff.1 h5
   rw [show N - (m2 + 1) = b by omega] at hx h6
   dsimp only at h6
   have hbest := impl_Net_best.calls k (N : Int) A0 c0 l0 (a : Int) (b : Int) x ok wr (HA.out _ _ K2.out) HC.out hx
   have HBT := Aside0.mk hbest
   have H6 := Aside0.mk h6
   have M2 := Aside0.mk hm2
   have HBL := Aside0.mk hb
   have q2 : wr.cell? ⟨gN, 0, none⟩ = some (.int .i64 (N : Int)) := (blk_cell K4.out 0).trans rfl
   have q3 : wr.cell? ⟨gN, 1, none⟩ = some (.slice A0 l0.length c0) := (blk_cell K4.out 1).trans rfl
   have hw : wrap64 ((b : Int) + 1) = ((b + 1 : Nat) : Int) := by have h1 := HN.out; have h2 := HBL.out; unfold wrap64; omega
   clear h5 h6 hx hm2 hbest K5 hb
   cases ok with
   | false =>
    have hrow : hubRow st k N l0 a m2 o3 = some o2 := by simpa using H6.out
    have H7 := Aside0.mk hrow
    clear hrow H6
    go_wp2_with (first | (go_at_call 56; refine HBT.out.mono ?_; rintro e w5 ⟨v5, rfl, hR5, hb5⟩; obtain ⟨A5, c5, rfl⟩ := Kd.R_slice hR5; have HR5 := Aside0.mk hR5; have L2 := Aside0.mk (HIB.out _ _ _ K2.out hb5); have L3 := Aside0.mk (K3.out.trans (KeepBut.of_below hb5 go none) (.inl rfl)); have L4 := Aside0.mk (blk_below K4.out hb5); clear q2 q3 hR5 hb5))
    have hb2 := HBL.out
    have hm3 := M2.out
    go_roundg (N - (b + 1))
    case measure => have := K1.out; omega
    case rel => exact ⟨b + 1, o3, by first | rfl | (rw [hw]; done) | (simp [hw]; done), ⟨by omega⟩, ⟨by omega⟩, L2, L3, L4, ⟨by rw [show N - (b + 1) = m2 by omega]; exact H7.out⟩⟩
   | true =>
    by_cases hab : a = b
    case pos =>
     have d1 : ((a : Int) != (b : Int)) = false := by simp [hab]
     have d2 : decide (a = b) = true := decide_eq_true hab
     have d3 : ((a : Int) = (b : Int)) = True := eq_true (by omega)
     have d4 : (a = b) = True := eq_true hab
     have hrow : hubRow st k N l0 a m2 o3 = some o2 := by have := H6.out; rw [if_pos rfl, if_pos hab] at this; exact this
     have H7 := Aside0.mk hrow
     clear hrow H6 hab
     go_wp2_with (first | (go_at_call 56; refine HBT.out.mono ?_; rintro e w5 ⟨v5, rfl, hR5, hb5⟩; obtain ⟨A5, c5, rfl⟩ := Kd.R_slice hR5; have HR5 := Aside0.mk hR5; have L2 := Aside0.mk (HIB.out _ _ _ K2.out hb5); have L3 := Aside0.mk (K3.out.trans (KeepBut.of_below hb5 go none) (.inl rfl)); have L4 := Aside0.mk (blk_below K4.out hb5); clear q2 q3 hR5 hb5))
     have hb2 := HBL.out
     have hm3 := M2.out
     go_roundg (N - (b + 1))
     case measure => have := K1.out; omega
     case rel => exact ⟨b + 1, o3, by first | rfl | (rw [hw]; done) | (simp [hw]; done), ⟨by omega⟩, ⟨by omega⟩, L2, L3, L4, ⟨by rw [show N - (b + 1) = m2 by omega]; exact H7.out⟩⟩
    have d1 : ((a : Int) != (b : Int)) = true := by simp; omega
    have d2 : decide (a = b) = false := decide_eq_false hab
    have d3 : ((a : Int) = (b : Int)) = False := eq_false (by omega)
    have d4 : (a = b) = False := eq_false hab
    have h7 := H6.out
    rw [if_pos rfl, if_neg hab] at h7
    obtain ⟨o4, ho4, h8⟩ := Option.bind_eq_some_iff.1 h7
    have H7 := Aside0.mk h8
    have HO4 := Aside0.mk ho4
    clear h7 h8 ho4 H6 hab
    go_wp2_with (first
     | (go_at_call 56; refine HBT.out.mono ?_; rintro e w5 ⟨v5, rfl, hR5, hb5⟩; obtain ⟨A5, c5, rfl⟩ := Kd.R_slice hR5; have HR5 := Aside0.mk hR5; have L2 := Aside0.mk (HIB.out _ _ _ K2.out hb5); have L3 := Aside0.mk (K3.out.trans (KeepBut.of_below hb5 go none) (.inl rfl)); have L4 := Aside0.mk (blk_below K4.out hb5); clear q2 q3 hR5 hb5)
     | (go_at_fn cf; refine (HCL.out o3 o4 _ A5 c5 x L3.out L2.out (Kd.C_foot_own (Kd.R_bound HR5.out) (fun q hq e => by have h1 := hq.2.1; have h2 := HGO.out; have h3 := K3.out.1; omega)) (Kd.R_reads' HR5.out).2.1 HO4.out).mono ?_; rintro e w6 ⟨rfl, hI6, hk6⟩; have N2 := Aside0.mk hI6; have N3 := Aside0.mk (L3.out.trans hk6 (.inl rfl)); have N4 := Aside0.mk (hk6.blk L4.out (fun e => by have h1 := P3.out; have h2 := HGO.out; omega) (by simp)); clear hI6 hk6))
    have hb2 := HBL.out
    have hm3 := M2.out
    go_roundg (N - (b + 1))
    case measure => have := K1.out; omega
    case rel => exact ⟨b + 1, o4, by first | rfl | (rw [hw]; done) | (simp [hw]; done), ⟨by omega⟩, ⟨by omega⟩, N2, N3, N4, ⟨by rw [show N - (b + 1) = m2 by omega]; exact H7.out⟩⟩
end Go.Proofs.Ytljdcinpjnijcaa.Pr
end
section
namespace Go.Proofs.Ytljdcinpjnijcaa.Pr
open Go.RowKit Go.Proofs.YtljdcinpjnijcaaW.PrintWords Go.Proofs.YtljdcinpjnijcaaW.PrintLast Go.Proofs.YtljdcinpjnijcaaW.PrintMore
attribute [local go_sem] max2_int min2_int max_two min_two max_three min_three max_four min_four
set_option linter.unusedVariables false
set_option linter.unusedSimpArgs false
def incL : List Int → List Int → Option (List Int)
 | o, [] => some o
 | o, k :: x => if 0 ≤ k then if k < (o.length : Int) then incL (o.set k.toNat (wrap64 (rd o k + 1))) x else none else none
theorem R_head {w : World} {base : Nat} {ok : Nat → Prop} {v : Value} {o : List Int} (h : Kd.R (Kd.int .i64) 3 w base ok v o) (hb : ∃ b, v.ownBlock = some b ∧ base ≤ b) : ∃ b cp, v = .slice (some ⟨b, 0, none⟩) o.length cp ∧ base ≤ b ∧ b < w.heap.size := by
 obtain ⟨b, hb, hl⟩ := hb
 have hlt := Kd.R_lt h b hb
 obtain ⟨r0, inner, ro, rr⟩ := h
 rcases ro.2 with ⟨hv, hn⟩ | ⟨g, cap, cur, hv, _⟩
 ·rw [hv] at hb
  simp [Value.ownBlock] at hb
 ·rw [hv] at hb
  simp [Value.ownBlock] at hb
  subst hb
  exact ⟨_, cap, hv, hl, hlt⟩
def stA (o x : List Int) : Option (List Int) := if x.length ≤ 1000 then incL o x else none
def impl_HubArcs.f (k : Nat) (a0_0 : Int) (l0_1 : List S34) : Option (List Int) := if netOkB a0_0 l0_1 = true then hubAll stA k a0_0.toNat l0_1 a0_0.toNat (List.replicate l0_1.length 0) else some []
end Go.Proofs.Ytljdcinpjnijcaa.Pr
end
section
namespace Go.Proofs.Ytljdcinpjnijcaa.Pr
open Go.RowKit Go.Proofs.YtljdcinpjnijcaaW.PrintWords Go.Proofs.YtljdcinpjnijcaaW.PrintLast Go.Proofs.YtljdcinpjnijcaaW.PrintMore
attribute [local go_sem] max2_int min2_int max_two min_two max_three min_three max_four min_four
set_option linter.unusedVariables false
set_option linter.unusedSimpArgs false
def incC (l : List S34) : List Int → List Int → Option (List Int)
 | o, [] => some o
 | o, k :: x => if 0 ≤ k then if k < (l.length : Int) then if 0 ≤ (rd_T34 l k).f0 then if (rd_T34 l k).f0 < (o.length : Int) then incC l (o.set (rd_T34 l k).f0.toNat (wrap64 (rd o (rd_T34 l k).f0 + 1))) x else none else none else none else none
set_option maxHeartbeats 4000000 in
set_option maxRecDepth 100000 in
theorem HubCount_closure (w0 : World) (go gB gN n cp : Nat) (N : Int) (A0 : Option Addr) (c0 : Nat) (l0 : List S34) (A : Option Addr) (c : Nat) (x o o' : List Int) (W : World) (hr0 : Kd.C k34 w0 A0 l0.length l0) (hx : ∀ W', KeepBut W W' go none → Kd.C (Kd.int .i64) W' A x.length x) (hc : x.length ≤ c) (hb : W.heap[gB]? = some (.cells #[.slice (some ⟨go, 0, none⟩) n cp] 29 (0, 0))) (hbn : W.heap[gN]? = some (.cells #[.int .i64 N, .slice A0 l0.length c0] 25 (0, 0))) (hR : Kd.R (Kd.int .i64) 3 W w0.heap.size (fun _ => True) (.slice (some ⟨go, 0, none⟩) n cp) o) (hne : gB ≠ go) (hneN : gN ≠ go) (hbw : Below w0.heap.size w0 W) (hgo : w0.heap.size ≤ go) (hlx : x.length ≤ 1000) (h1x : 1 ≤ x.length) (hst : incC l0 o (x.drop 1) = some o') :
  Calls Try.prog 65 #[.slice A x.length c, .pointer (some ⟨gB, 0, none⟩), .pointer (some ⟨gN, 0, none⟩)] W fun e w' => e = .returned (.tuple #[]) ∧ (w'.heap[gB]? = some (.cells #[.slice (some ⟨go, 0, none⟩) n cp] 29 (0, 0)) ∧ w'.heap[gN]? = some (.cells #[.int .i64 N, .slice A0 l0.length c0] 25 (0, 0)) ∧ Kd.R (Kd.int .i64) 3 w' w0.heap.size (fun _ => True) (.slice (some ⟨go, 0, none⟩) n cp) o' ∧ Below w0.heap.size w0 w') ∧ KeepBut W w' go none := by
 obtain ⟨i0, hi0, hz0, hsz, hby⟩ := info_parts (P := Try.prog) (e := 3) (z := (.int .i64 0)) (size := 1) (bytes := 8) (by kernel_rfl)
 have hcut := cut_from (P := Try.prog) 29 3 .i64 Try.underlying29 hi0 1 hsz A x.length c 1 (by omega) (by omega)
 have hdl : (x.drop 1).length = x.length - 1 := List.length_drop
 have hx2 : ∀ W', KeepBut W W' go none → Kd.C (Kd.int .i64) W' (if c = 1 then A else A.map (·.add (1 * (Kd.int .i64).sz))) (x.drop 1).length (x.drop 1) := fun W' hk => Kd.C_drop (hx W' hk) (by omega) hc
 have hsz1 : (Kd.int .i64).sz = 1 := rfl
 rw [hsz1] at hx2
 have hcut : ∀ W : World, (Instr.slice 29 (.slice A x.length c) (some (.int .i64 1)) none none).run Try.prog W = .ok (.slice (if c = 1 then A else A.map (·.add (1 * 1))) (x.drop 1).length (c - 1)) W := by intro W; rw [hdl]; exact hcut W
 generalize (if c = 1 then A else A.map (·.add (1 * 1))) = A1 at hx2 hcut
 generalize hy : x.drop 1 = y at hx2 hcut hst
 have hly : y.length ≤ 1000 := by rw [← hy, hdl]; omega
 have HX := Aside0.mk hx2
 have HB := Aside0.mk hb
 have HBN := Aside0.mk hbn
 have HR := Aside0.mk hR
 have HR0 := Aside0.mk hr0
 have HNE := Aside0.mk hne
 have HNN := Aside0.mk hneN
 have HLX := Aside0.mk hly
 have HBW := Aside0.mk hbw
 have HGO := Aside0.mk hgo
 have HST := Aside0.mk hst
 have hu := Try.underlying25
 have hu2 := Try.underlying34
 clear hx hb hbn hR hr0 hne hneN hlx hly hst hbw hgo hx2 hy hdl h1x hc hi0 hz0 hsz hby hsz1
 have HT : Aside0 (Try.prog.underlying 29 = some (.slice (Try.prog.elem 29))) := ⟨by
  have hel : Try.prog.elem 29 = 3 := by simp [Program.elem, Try.underlying29]
  rw [hel]
  exact Try.underlying29⟩
 have HCUT := Aside0.mk hcut
 clear hcut
 go_enter Try.func65, Try.ntmps65
 go_wp2_with (first
  | ((with_reducible refine gate_dst (N := 7) rfl ?_); refine Kd.event_run (w1 := W) (v := .slice A1 y.length (c - 1)) ?hg ?hr ?_; (case hg => rfl); (case hr => unfold execOp; simp only [Act.eval, Array.getD_eq_getD_getElem?, List.getElem?_toArray, List.getElem?_cons_succ, List.getElem?_cons_zero, Option.getD_some, Option.map_some, Option.map_none, Sem.run_bind, run_sliceAt_slice (h := HT.out), HCUT.out, Result.andThen_ok, Sem.run_pure])))
 go_loopg [9] y.length (fun gg s9 wr => ∃ (j : Nat) (o1 : List Int), s9 = .int .i64 (j : Int) ∧ Aside0 (j ≤ y.length) ∧ Aside0 (y.length - j ≤ gg) ∧ Aside0 (Kd.R (Kd.int .i64) 3 wr w0.heap.size (fun _ => True) (.slice (some ⟨go, 0, none⟩) n cp) o1) ∧ Aside0 (wr.heap[gB]? = some (.cells #[.slice (some ⟨go, 0, none⟩) n cp] 29 (0, 0))) ∧ Aside0 (KeepBut W wr go none) ∧ Aside0 (incC l0 o1 (y.drop j) = some o') ∧ Aside0 (Below w0.heap.size w0 wr) ∧ Aside0 (wr.heap[gN]? = some (.cells #[.int .i64 N, .slice A0 l0.length c0] 25 (0, 0))))
 case atStart => exact ⟨0, o, rfl, ⟨by omega⟩, ⟨by omega⟩, HR, HB, ⟨KeepBut.refl _ _ _⟩, HST, HBW, HBN⟩
 case round =>
  clear HR HB HST HBW HBN
  obtain ⟨j, o1, rfl, J0, J1, J2, J3, J4, J5, J6, J7⟩ := hrel
  by_cases hj : j < y.length
  case neg =>
   have c1 : decide ((j : Int) < (y.length : Int)) = false := decide_eq_false (by omega)
   have c2 : decide (j < y.length) = false := decide_eq_false hj
   have hjx : j = y.length := by have := J0.out; omega
   have hs : some o1 = some o' := by have h := J5.out; rw [List.drop_of_length_le (by omega)] at h; exact h
   obtain rfl := Option.some.inj hs
   clear hs hj J5 hjx
   go_wp2
   go_end0
   exact ⟨rfl, ⟨J3.out, J7.out, J2.out, J6.out⟩, J4.out⟩
  have c1 : decide ((j : Int) < (y.length : Int)) = true := decide_eq_true (by omega)
  have c2 : decide (j < y.length) = true := decide_eq_true hj
  have hrd : rd y (j : Int) = y[j] := rd_at hj
  have h5 := J5.out
  rw [List.drop_eq_getElem_cons hj, ← hrd] at h5
  unfold incC at h5
  by_cases b0 : 0 ≤ rd y (j : Int)
  case neg => rw [if_neg b0] at h5; cases h5
  rw [if_pos b0] at h5
  by_cases b1 : rd y (j : Int) < (l0.length : Int)
  case neg => rw [if_neg b1] at h5; cases h5
  rw [if_pos b1] at h5
  obtain ⟨ad, e, hxc⟩ := Kd.at_int (HX.out _ J4.out) (j : Int) (by omega) (by omega)
  cases e
  rw [Int.toNat_natCast] at hxc
  generalize rd y (j : Int) = k at hxc b0 b1 h5
  obtain ⟨ada, ea, hac, _⟩ := at_T34 (Kd.C_below HR0.out (below_drew1 J6.out)) k b0 b1
  cases ea
  generalize (rd_T34 l0 k).f0 = f at hac h5
  by_cases b2 : 0 ≤ f
  case neg => rw [if_neg b2] at h5; cases h5
  rw [if_pos b2] at h5
  by_cases b3 : f < (o1.length : Int)
  case neg => rw [if_neg b3] at h5; cases h5
  rw [if_pos b3] at h5
  have H5 := Aside0.mk h5
  have R2 := Aside0.mk (Kd.R_drew J2.out)
  have R3 := Aside0.mk (blk_drew J3.out)
  have R4 := Aside0.mk (keep_drew J4.out)
  have R6 := Aside0.mk (below_drew1 J6.out)
  have R7 := Aside0.mk (blk_drew J7.out)
  have hl : n = o1.length := (Kd.R_reads' J2.out).1
  have hbc : wr.drew.cell? ⟨gB, 0, none⟩ = some (.slice (some ⟨go, 0, none⟩) n cp) := (blk_cell R3.out 0).trans rfl
  have hnc : wr.drew.cell? ⟨gN, 1, none⟩ = some (.slice (some ada) l0.length c0) := (blk_cell R7.out 1).trans rfl
  obtain ⟨hoc, hof⟩ := Kd.R_celln 0 R2.out f b2 (by rw [hl]; exact b3)
  have hoc : wr.drew.cell? ⟨go, f.toNat, none⟩ = some (.int .i64 (rd o1 f)) := hoc
  have HP := Kd.R_putg R2.out f (wrap64 (rd o1 f + 1))
  have hw : wrap64 ((j : Int) + 1) = ((j + 1 : Nat) : Int) := by have h1 := HLX.out; unfold wrap64; omega
  have HW := Aside0.mk hw
  have p0 := eq_true b0
  have p1 := eq_true b1
  have p4 := eq_true b2
  have p5 : (f < (n : Int)) = True := eq_true (by rw [hl]; exact b3)
  have p2 : ((0 : Int) ≤ (j : Int)) = True := eq_true (by omega)
  have p3 : ((j : Int) < (y.length : Int)) = True := eq_true (by omega)
  have HJ := Aside0.mk hj
  clear hw b0 b1 b2 b3 hj h5 hrd J2 J3 J4 J5 J6 J7 hl
  go_wp2
  go_still_tail 11, (by kernel_rfl)
  change wpList _ _ _ _ _ wr.drew
  generalize wr.drew = w2 at R2 R3 R4 R6 R7 hbc hnc hoc hof hac HP ⊢
  go_wp2_with (first
   | ((with_reducible refine gate_store (t := 3) (p := 23) rfl ?_); refine store_event (t := 3) (p := 23) (v := ?vo_) (w1 := (w2.setCell ⟨go, f.toNat, none⟩ (.int .i64 (wrap64 (rd o1 f + 1))))) ?hg ?ho ?hn ?hr ?_; (case ho => rfl); (case hg => rfl); (case hn => rfl); (case hr => first | (go_simp; done) | (go_simp; rfl) | (go_simp; simp only [i64_w]; rfl)); intro w15 hw15; have hg15 : w2.grownBy w15 (some go) := (by rw [hw15]; exact HP.2); have N2 := Aside0.mk (show Kd.R (Kd.int .i64) 3 w15 w0.heap.size (fun _ => True) (.slice (some ⟨go, 0, none⟩) n cp) (o1.set f.toNat (wrap64 (rd o1 f + 1))) by rw [hw15]; exact HP.1); have N3 := Aside0.mk (blk_grown R3.out hg15 (fun e => HNE.out (Option.some.inj e))); have N7 := Aside0.mk (blk_grown R7.out hg15 (fun e => HNN.out (Option.some.inj e))); have N4 := Aside0.mk (R4.out.trans ⟨hg15.size, fun i hi hig _ => hg15.block i hi (fun e => hig (Option.some.inj e))⟩ (.inl rfl)); have N6 := Aside0.mk (show Below w0.heap.size w0 w15 by rw [hw15]; exact below_set R6.out HGO.out); clear hg15 hw15 HP))
  have hj2 := HJ.out
  go_roundg (y.length - (j + 1))
  case measure => have := J1.out; omega
  case rel => exact ⟨j + 1, _, by first | rfl | (rw [HW.out]; done) | (simp [HW.out]; done), ⟨by omega⟩, ⟨by omega⟩, N2, N3, N4, H5, N6, N7⟩
def stC (l : List S34) (o x : List Int) : Option (List Int) := if x.length ≤ 1000 then if 1 ≤ x.length then incC l o (x.drop 1) else none else none
def impl_HubCount.f (k : Nat) (a0_0 : Int) (l0_1 : List S34) : Option (List Int) := if netOkB a0_0 l0_1 = true then hubAll (stC l0_1) k a0_0.toNat l0_1 a0_0.toNat (List.replicate a0_0.toNat 0) else some []
set_option maxHeartbeats 4000000 in
set_option maxRecDepth 100000 in
theorem impl_HubCount.calls (k : Nat) (a0_0 : Int) (A0_1 : Option Addr) (c0_1 : Nat) (l0_1 : List S34) (r : List Int) (w : World) (p6 : Kd.C k34 w A0_1 l0_1.length l0_1) (p7 : l0_1.length ≤ c0_1) (h : impl_HubCount.f k a0_0 l0_1 = some r) :
  Calls Try.prog 26 #[.agg #[.int .i64 a0_0, .slice A0_1 l0_1.length c0_1]] w fun e w' => ∃ v0_ : Value, e = .returned v0_ ∧ Kd.R (Kd.int .i64) 3 w' w.heap.size (fun _ => True) v0_ r ∧ Below w.heap.size w w' := by
 have hu := Try.underlying25
 have hok := fun (W : World) (hB : Below w.heap.size w W) => impl_NetOk.calls a0_0 A0_1 c0_1 l0_1 (netOkB a0_0 l0_1) W (Kd.C_below p6 hB) p7 rfl
 have HOK := Aside0.mk hok
 clear hok
 cases hb : netOkB a0_0 l0_1 with
 | false =>
  rw [hb] at HOK
  have hr : ([] : List Int) = r := by unfold impl_HubCount.f at h; rw [hb] at h; exact Option.some.inj h
  subst hr
  clear h hb p6
  go_enter Try.func26, Try.ntmps26
  go_wp2_with (first
   | ((with_reducible refine gate_dst (N := 1) rfl ?_); refine box_event ?hg (N := 1) ?hd (cs := #[.int .i64 a0_0, .slice A0_1 l0_1.length c0_1]) (t := 25) ?hr ?_; (case hd => rfl); (case hg => rfl); (case hr => first | (go_simp; done) | (go_simp; rfl)); intro gN hgN w1 hbox hb1; have P2 := Aside0.mk hb1; have q1 : w1.cell? ⟨gN, 0, none⟩ = some (.int .i64 a0_0) := (blk_cell hbox 0).trans rfl; have q2 : w1.cell? ⟨gN, 1, none⟩ = some (.slice A0_1 l0_1.length c0_1) := (blk_cell hbox 1).trans rfl; clear hbox hb1 hgN)
   | (go_at_call 63; refine (HOK.out _ P2.out).mono ?_; rintro e w2 ⟨rfl, hb2⟩; have P3 := Aside0.mk (below_step P2.out hb2); clear hb2))
  go_ret
  exact ⟨_, rfl, Kd.R_nil _ _ _ _ _, P3.out⟩
 | true =>
  rw [hb] at HOK
  have hn := hb
  simp only [netOkB, Bool.and_eq_true, decide_eq_true_eq] at hn
  obtain ⟨N, rfl⟩ := Int.eq_ofNat_of_zero_le (show 0 ≤ a0_0 by omega)
  have hN : N ≤ 64 := by omega
  have hL : l0_1.length ≤ 16 := by omega
  have hall : hubAll (stC l0_1) k N l0_1 N (List.replicate N 0) = some r := by
   unfold impl_HubCount.f at h
   rw [if_pos hb, Int.toNat_natCast] at h
   exact h
  have HALL := Aside0.mk hall
  have HN := Aside0.mk hN
  have HL := Aside0.mk hL
  have HR0 := Aside0.mk p6
  have HC0 := Aside0.mk p7
  clear h hb hn hall hN hL p6 p7
  go_enter Try.func26, Try.ntmps26
  go_wp2_with (first
   | ((with_reducible refine gate_dst (N := 1) rfl ?_); refine box_event ?hg (N := 1) ?hd (cs := #[.int .i64 (N : Int), .slice A0_1 l0_1.length c0_1]) (t := 25) ?hr ?_; (case hd => rfl); (case hg => rfl); (case hr => first | (go_simp; done) | (go_simp; rfl)); intro gN hgN w1 hbox hb1; have P1 := Aside0.mk hbox; have P2 := Aside0.mk hb1; have q1 : w1.cell? ⟨gN, 0, none⟩ = some (.int .i64 (N : Int)) := (blk_cell hbox 0).trans rfl; have q2 : w1.cell? ⟨gN, 1, none⟩ = some (.slice A0_1 l0_1.length c0_1) := (blk_cell hbox 1).trans rfl; clear hbox hb1 hgN)
   | (go_at_call 63; refine (HOK.out _ P2.out).mono ?_; rintro e w2 ⟨rfl, hb2⟩; have P3 := Aside0.mk (below_step P2.out hb2); have P4 := Aside0.mk (blk_below P1.out hb2); clear q1 q2 P1 hb2; have q2 : w2.cell? ⟨gN, 0, none⟩ = some (.int .i64 (N : Int)) := (blk_cell P4.out 0).trans rfl)
   | ((with_reducible refine gate_dst (N := 9) rfl ?_); refine Kd.R_make (Kd.int .i64) (w0 := w) w.heap.size 3 rfl (N := 9) rfl 29 _ _ rfl (N : Int) (by first | rfl | (go_simp; done) | (go_simp; rfl)) (by first | rfl | (go_simp; done) | (go_simp; rfl)) Try.underlying29 (.int .i64 0) 8 info3 rfl (by decide) (by omega) 0 (ok := fun _ => True) (okp := fun _ => True) rfl (fun _ hk => hk) trivial (by omega) (by have := HN.out; omega) P3.out (below_size P3.out) ?_; intro v3 w3 hR hB hG hO; rw [Int.toNat_natCast] at hR; obtain ⟨go, cp, rfl, hgo1, hgo2⟩ := R_head hR (by obtain ⟨b, h1, h2⟩ := hO; exact ⟨b, h1, Nat.le_trans (below_size P3.out) h2⟩); have G1 := Aside0.mk hgo1; have G2 := Aside0.mk hgo2; have Q1 := Aside0.mk hR; have Q2 := Aside0.mk hB; have Q3 := Aside0.mk (blk_grown P4.out hG (by simp)); have Q4 := Aside0.mk (show gN ≠ go by have h1 := blk_lt P4.out; obtain ⟨b, h2, h3⟩ := hO; simp [Value.ownBlock] at h2; omega); clear q2 P4 hR hB hG hO hgo1 hgo2)
   | ((with_reducible refine gate_dst (N := 3) rfl ?_); refine box_event ?hg (N := 3) ?hd (cs := #[.slice none 0 0]) (t := 29) ?hr ?_; (case hd => rfl); (case hg => rfl); (case hr => first | (go_simp; done) | (go_simp; rfl)); intro gB hgB w4 hbox hb4; have B1 := Aside0.mk hbox; have B2 := Aside0.mk (Kd.R_below Q1.out hb4); have B3 := Aside0.mk (below_step Q2.out hb4); have B4 := Aside0.mk (show w.heap.size ≤ gB by rw [hgB]; exact below_size Q2.out); have B5 := Aside0.mk (show gB ≠ go by have := G2.out; omega); have B6 := Aside0.mk (blk_below Q3.out hb4); clear Q1 Q2 Q3 hbox hb4 hgB)
   | ((with_reducible refine gate_store (t := 29) (p := 3) (v := .tmp 9) rfl ?_); refine put_event rfl rfl rfl B1.out 0 #[.slice (some ⟨go, 0, none⟩) (List.replicate N (0 : Int)).length cp] (.slice (some ⟨go, 0, none⟩) (List.replicate N (0 : Int)).length cp) [.slice (some ⟨go, 0, none⟩) (List.replicate N (0 : Int)).length cp] (by first | rfl | (go_simp; done) | (go_simp; rfl)) (by first | rfl | (go_simp; done) | (go_simp; rfl)) rfl (by kernel_rfl) (by simp) (by simp [Value.oneCell']) rfl ?_; intro w5 hc5 hg5; have D1 := Aside0.mk hc5; have D2 := Aside0.mk (Kd.R_mono (Kd.R_grown (Kd.R_types B2.out B1.out (fun q hq => by rcases List.mem_cons.1 hq with rfl | hq; decide; cases hq)) hg5 (fun k hk e => hk.2 (Option.some.inj e))) (ok' := fun _ => True) (fun _ _ => trivial)); have D3 := Aside0.mk (pw_below_grown B3.out _ (below_size B3.out) hg5 (fun k hk => by obtain rfl := Option.some.inj hk; exact B4.out)); have D4 := Aside0.mk (blk_grown B6.out hg5 (fun e => by have h := Option.some.inj e; have hb := B6.out; rw [h, B1.out] at hb; simp at hb)); have D5 := Aside0.mk (Nat.lt_of_lt_of_le (show go < w4.heap.size from Kd.R_lt B2.out go rfl) hg5.size); clear B1 B2 B3 B6 hc5 hg5; have q1 : w5.cell? ⟨gN, 0, none⟩ = some (.int .i64 (N : Int)) := (blk_cell D4.out 0).trans rfl; have q2 : w5.cell? ⟨gN, 1, none⟩ = some (.slice A0_1 l0_1.length c0_1) := (blk_cell D4.out 1).trans rfl)
   | (go_at_call 64; refine (bestWalks_walk (stC l0_1) k N HN.out A0_1 c0_1 l0_1 go 65 #[.pointer (some ⟨gB, 0, none⟩), .pointer (some ⟨gN, 0, none⟩)] (enters_of Try.func65 (by kernel_rfl) rfl) (fun o W => W.heap[gN]? = some (.cells #[.int .i64 (N : Int), .slice A0_1 l0_1.length c0_1] 25 (0, 0)) ∧ W.heap[gB]? = some (.cells #[.slice (some ⟨go, 0, none⟩) (List.replicate N (0 : Int)).length cp] 29 (0, 0)) ∧ Kd.R (Kd.int .i64) 3 W w.heap.size (fun _ => True) (.slice (some ⟨go, 0, none⟩) (List.replicate N (0 : Int)).length cp) o ∧ Below w.heap.size w W) (List.replicate N 0) r w5 D5.out (fun o W h => Kd.C_below HR0.out h.2.2.2) HC0.out ⟨D4.out, D1.out, D2.out, D3.out⟩ (fun o W W1 h hb => ⟨blk_below h.1 hb, blk_below h.2.1 hb, Kd.R_below h.2.2.1 hb, below_step h.2.2.2 hb⟩) ?hcl HALL.out).mono ?_; (case hcl => intro o o' W A c x hk hI hx hc hst; unfold stC at hst; by_cases hlx : x.length ≤ 1000; (case pos => rw [if_pos hlx] at hst; by_cases h1x : 1 ≤ x.length; (case pos => rw [if_pos h1x] at hst; exact (HubCount_closure w go gB gN _ cp (N : Int) A0_1 c0_1 l0_1 A c x o o' W HR0.out hx hc hI.2.1 hI.1 hI.2.2.1 B5.out Q4.out hI.2.2.2 G1.out hlx h1x hst).mono (fun e w' h => ⟨h.1, ⟨h.2.1.2.1, h.2.1.1, h.2.1.2.2.1, h.2.1.2.2.2⟩, h.2.2⟩)); (case neg => rw [if_neg h1x] at hst; cases hst)); (case neg => rw [if_neg hlx] at hst; cases hst)); rintro e w6 ⟨rfl, hI6, hk6⟩; have E1 := Aside0.mk hI6.2.2.1; have E2 := Aside0.mk hI6.2.2.2; clear q1 q2; have q3 : w6.cell? ⟨gB, 0, none⟩ = some (.slice (some ⟨go, 0, none⟩) (List.replicate N (0 : Int)).length cp) := (blk_cell hI6.2.1 0).trans rfl; clear hI6 hk6))
  go_ret
  have hE := E1.out
  rw [List.length_replicate] at hE
  exact ⟨_, rfl, hE, E2.out⟩
end Go.Proofs.Ytljdcinpjnijcaa.Pr
end
section
namespace Go.Proofs.Ytljdcinpjnijcaa.Pr
open Go.RowKit Go.Proofs.YtljdcinpjnijcaaW.PrintWords Go.Proofs.YtljdcinpjnijcaaW.PrintLast Go.Proofs.YtljdcinpjnijcaaW.PrintMore
attribute [local go_sem] max2_int min2_int max_two min_two max_three min_three max_four min_four
set_option linter.unusedVariables false
set_option linter.unusedSimpArgs false
def spec_l1In.f (a0 : Int) (a1 : Int) (a2 : Int) : Option (Bool) := if a0 ≥ a1 then (some (decide (a0 ≤ a2))) else (some false)
set_option maxHeartbeats 8000000 in
set_option maxRecDepth 100000 in
theorem spec_l1In.calls (a0 : Int) (a1 : Int) (a2 : Int) (r : Bool) (w : World) (h : spec_l1In.f a0 a1 a2 = some r) :
  Calls Try.prog 54 #[.int .i64 a0, .int .i64 a1, .int .i64 a2] w fun e w' => e = .returned (.bool r) ∧ Drawn0 w w' := by
 have H : (if a0 ≥ a1 then (some (decide (a0 ≤ a2))) else (some false)) = some r := h
 clear h
 by_cases c4 : a0 ≥ a1
 case pos =>
  rw [if_pos c4] at H
  have c4b0 : decide (a1 ≤ a0) = true := decide_eq_true c4
  clear c4
  obtain rfl := Option.some.inj H
  go_enter Try.func54, Try.ntmps54
  go_wp2
  go_ret
  exact ⟨by first | rfl | (simp; done) | (simp [*]; done), by repeat (first | exact Drawn0.refl _ | apply Drawn0.step)⟩
 rw [if_neg c4] at H
 have c4b0 : decide (a1 ≤ a0) = false := decide_eq_false c4
 clear c4
 obtain rfl := Option.some.inj H
 go_enter Try.func54, Try.ntmps54
 go_wp2
 go_ret
 exact ⟨by first | rfl | (simp; done) | (simp [*]; done), by repeat (first | exact Drawn0.refl _ | apply Drawn0.step)⟩
end Go.Proofs.Ytljdcinpjnijcaa.Pr
end
section
namespace Go.Proofs.Ytljdcinpjnijcaa.Pr
open Go.RowKit Go.Proofs.YtljdcinpjnijcaaW.PrintWords Go.Proofs.YtljdcinpjnijcaaW.PrintLast Go.Proofs.YtljdcinpjnijcaaW.PrintMore
attribute [local go_sem] max2_int min2_int max_two min_two max_three min_three max_four min_four
set_option linter.unusedVariables false
set_option linter.unusedSimpArgs false
def spec_l1Ok.l0 : Nat → Int → Int → List (S34) → Option (Bool)
 | 0, _, _, _ => none
 | k + 1, x3, q6, q3 => if x3 < (q3.length : Int) then (if 0 ≤ x3 then ((spec_l1In.f ((rd_T34 q3 x3).f0) 0 (wrap64 (q6 - 1))).bind fun t266 => (if t266 = true then ((spec_l1In.f ((rd_T34 q3 x3).f1) 0 (wrap64 (q6 - 1))).bind fun t267 => (if t267 = true then (if ((rd_T34 q3 x3).f0) = ((rd_T34 q3 x3).f1) then (some false) else ((spec_l1In.f ((rd_T34 q3 x3).f2) 0 99).bind fun t268 => (if t268 = true then ((spec_l1In.f ((rd_T34 q3 x3).f3) 0 99).bind fun t269 => (if t269 = true then ((spec_l1In.f ((rd_T34 q3 x3).f4) 0 9).bind fun t270 => (if t270 = true then (spec_l1Ok.l0 k (wrap64 (x3 + 1)) q6 q3) else (some false))) else (some false))) else (some false)))) else (some false))) else (some false))) else (none)) else ((spec_l1In.f q6 1 8).bind fun t263 => (if t263 = true then (some (decide ((q3.length : Int) ≤ 16))) else (some false)))
def spec_l1Ok.f (k : Nat) (a0_0 : Int) (l0_1 : List (S34)) : Option (Bool) := spec_l1Ok.l0 k 0 a0_0 l0_1
set_option maxHeartbeats 8000000 in
set_option maxRecDepth 100000 in
theorem spec_l1Ok.calls (k : Nat) (a0_0 : Int) (A0_1 : Option Addr) (c0_1 : Nat) (l0_1 : List (S34)) (r : Bool) (w : World) (hr0_1 : Kd.C k34 w A0_1 l0_1.length l0_1) (hc0_1 : l0_1.length ≤ c0_1) (h : spec_l1Ok.f k a0_0 l0_1 = some r) :
  Calls Try.prog 53 #[.agg #[.int .i64 a0_0, .slice A0_1 l0_1.length c0_1]] w fun e w' => e = .returned (.bool r) ∧ Below w.heap.size w w' := by
 have hu25 := Try.underlying25
 have hu34 := Try.underlying34
 have q7 := Aside0.mk hr0_1
 have HC0_1 := Aside0.mk hc0_1
 clear hr0_1 hc0_1
 have HB := Aside0.mk (Below.refl w.heap.size w)
 have H : (spec_l1Ok.l0 k 0 a0_0 l0_1) = some r := h
 clear h
 have H' := Aside0.mk H
 clear H
 go_enter Try.func53, Try.ntmps53
 go_wp2_with (first | ((with_reducible refine gate_dst (N := 1) rfl ?_); (try (refine gate_guard (by rfl) ?_; dsimp only)); refine box_event ?hg (N := 1) ?hd (cs := #[.int .i64 a0_0, .slice A0_1 l0_1.length c0_1]) (t := 25) ?hr ?_; (case hd => rfl); (case hg => rfl); (case hr => first | (go_simp; done) | (go_simp; rfl)); intro p3 hg w2 hbox hb; have n0_ := Aside0.mk (below_step HB.out hb); have n1_ := Aside0.mk (hbox); have n2_ := Aside0.mk ((by rw [hg]; exact (below_size HB.out) : w.heap.size ≤ p3)); have n3_ := Aside0.mk ((by rw [hg]; exact (below_size HB.out) : w.heap.size ≤ p3)); clear HB; have HB := n0_; have p0 := n1_; have GW262 := n2_; have q5 := n3_; clear n0_ n1_ n2_ n3_; clear hb hbox hg))
 go_loopg [3] k (fun kq v3 w' => ∃ (x3_1 : Int), v3 = .int .i64 x3_1 ∧ Aside0 (spec_l1Ok.l0 kq x3_1 a0_0 l0_1 = some r) ∧ Aside0 (kq ≤ k) ∧ Aside0 (w'.heap[p3]? = some (.cells #[.int .i64 a0_0, (.slice A0_1 l0_1.length c0_1)] 25 (0, 0))) ∧ Aside0 (Below w.heap.size w w'))
 case atStart => exact ⟨(0), (by first | rfl | (simp; done) | (simp [*]; done)), H', ⟨Nat.le_refl _⟩, ⟨by exact p0.out⟩, ⟨by repeat (first | (with_reducible first | exact HB.out | apply below_alloc | apply pw_below_drewN | apply below_drew1 | refine below_set ?_ q5.out) | exact HB.out)⟩⟩
 case round =>
  clear H'
  try clear p2
  obtain ⟨x3_1, rfl, HA, HK1, p0, HB⟩ := hrel
  cases gk with
  | zero => exact absurd HA.out (by simp [spec_l1Ok.l0])
  | succ k1 =>
   have H := HA.out
   clear HA
   simp only [spec_l1Ok.l0] at H
   by_cases c3 : x3_1 < (l0_1.length : Int)
   case neg =>
    rw [if_neg c3] at H
    have c3b0 : decide (x3_1 < (l0_1.length : Int)) = false := decide_eq_false c3
    clear c3
    replace H := Option.bind_eq_some_iff.mp H
    obtain ⟨t263, A510, H⟩ := H
    replace H : (if t263 = true then (some (decide ((l0_1.length : Int) ≤ 16))) else (some false)) = some r := H
    have A51 := Aside0.mk A510
    clear A510
    by_cases c52 : t263 = true
    case pos =>
     subst c52
     have H1 : (some (decide ((l0_1.length : Int) ≤ 16))) = some r := by rw [if_pos rfl] at H; exact H
     clear H
     have H := H1
     clear H1
     obtain rfl := Option.some.inj H
     have hcz53_0 : wr.cell? ⟨p3, 0, none⟩ = some (.int .i64 a0_0) := (blk_cell p0.out 0).trans rfl
     have hcz53_1 : wr.cell? ⟨p3, 1, none⟩ = some (.slice A0_1 l0_1.length c0_1) := (blk_cell p0.out 1).trans rfl
     have hfz53_0 := blk_frozen p0.out 0
     have hfz53_1 := blk_frozen p0.out 1
     go_wp2_with (first | ((with_reducible refine gate_callee (f := 54) rfl ?_); refine goesL_ (some 60) rfl rfl Try.func54 (by kernel_rfl) rfl #[.int .i64 a0_0, .int .i64 1, .int .i64 8] rfl (by (try simp only [List.map_toArray, List.map_cons, List.map_nil]); first | done | rfl | (simp only [List.length_drop, List.length_take]; rfl)) ?_; (with_reducible refine (spec_l1In.calls a0_0 1 8 true _ A51.out).mono ?_); rintro e w' ⟨rfl, ⟨nd, rfl⟩⟩; refine ⟨_, rfl, ?_⟩))
     go_ret
     exact ⟨by first | rfl | (simp [errW_none, errW_some] <;> rfl) | (simp [*, errW_none, errW_some] <;> rfl), by repeat (first | (with_reducible first | exact HB.out | apply below_alloc | apply pw_below_drewN | apply below_drew1 | refine below_set ?_ q5.out) | exact HB.out)⟩
    replace c52 := Bool.eq_false_iff.mpr c52
    subst c52
    have H1 : (some false) = some r := by rw [if_neg (show ¬ (false = true) by decide)] at H; exact H
    clear H
    have H := H1
    clear H1
    obtain rfl := Option.some.inj H
    have hcz54_0 : wr.cell? ⟨p3, 0, none⟩ = some (.int .i64 a0_0) := (blk_cell p0.out 0).trans rfl
    have hcz54_1 : wr.cell? ⟨p3, 1, none⟩ = some (.slice A0_1 l0_1.length c0_1) := (blk_cell p0.out 1).trans rfl
    have hfz54_0 := blk_frozen p0.out 0
    have hfz54_1 := blk_frozen p0.out 1
    go_wp2_with (first | ((with_reducible refine gate_callee (f := 54) rfl ?_); refine goesL_ (some 60) rfl rfl Try.func54 (by kernel_rfl) rfl #[.int .i64 a0_0, .int .i64 1, .int .i64 8] rfl (by (try simp only [List.map_toArray, List.map_cons, List.map_nil]); first | done | rfl | (simp only [List.length_drop, List.length_take]; rfl)) ?_; (with_reducible refine (spec_l1In.calls a0_0 1 8 false _ A51.out).mono ?_); rintro e w' ⟨rfl, ⟨nd, rfl⟩⟩; refine ⟨_, rfl, ?_⟩))
    go_ret
    exact ⟨by first | rfl | (simp [errW_none, errW_some] <;> rfl) | (simp [*, errW_none, errW_some] <;> rfl), by repeat (first | (with_reducible first | exact HB.out | apply below_alloc | apply pw_below_drewN | apply below_drew1 | refine below_set ?_ q5.out) | exact HB.out)⟩
   rw [if_pos c3] at H
   have c3b0 : decide (x3_1 < (l0_1.length : Int)) = true := decide_eq_true c3
   clear c3
   by_cases c4 : 0 ≤ x3_1
   case neg =>
    rw [if_neg c4] at H
    exact absurd H (by simp)
   rw [if_pos c4] at H
   have c4b0 : decide (0 ≤ x3_1) = true := decide_eq_true c4
   clear c4
   replace H := Option.bind_eq_some_iff.mp H
   obtain ⟨t266, A50, H⟩ := H
   replace H : (if t266 = true then ((spec_l1In.f ((rd_T34 l0_1 x3_1).f1) 0 (wrap64 (a0_0 - 1))).bind fun t267 => (if t267 = true then (if ((rd_T34 l0_1 x3_1).f0) = ((rd_T34 l0_1 x3_1).f1) then (some false) else ((spec_l1In.f ((rd_T34 l0_1 x3_1).f2) 0 99).bind fun t268 => (if t268 = true then ((spec_l1In.f ((rd_T34 l0_1 x3_1).f3) 0 99).bind fun t269 => (if t269 = true then ((spec_l1In.f ((rd_T34 l0_1 x3_1).f4) 0 9).bind fun t270 => (if t270 = true then (spec_l1Ok.l0 k1 (wrap64 (x3_1 + 1)) a0_0 l0_1) else (some false))) else (some false))) else (some false)))) else (some false))) else (some false)) = some r := H
   have A5 := Aside0.mk A50
   clear A50
   by_cases c6 : t266 = true
   case neg =>
    replace c6 := Bool.eq_false_iff.mpr c6
    subst c6
    have H1 : (some false) = some r := by rw [if_neg (show ¬ (false = true) by decide)] at H; exact H
    clear H
    have H := H1
    clear H1
    obtain rfl := Option.some.inj H
    have hcz46_0 : wr.cell? ⟨p3, 0, none⟩ = some (.int .i64 a0_0) := (blk_cell p0.out 0).trans rfl
    have hcz46_1 : wr.cell? ⟨p3, 1, none⟩ = some (.slice A0_1 l0_1.length c0_1) := (blk_cell p0.out 1).trans rfl
    have hfz46_0 := blk_frozen p0.out 0
    have hfz46_1 := blk_frozen p0.out 1
    have p264 : 0 ≤ (x3_1 : Int) := of_decide_eq_true (by first | (with_reducible assumption) | assumption)
    have q264 : x3_1 < (l0_1.length : Int) := of_decide_eq_true (by first | (with_reducible assumption) | assumption)
    obtain ⟨q1, e264, p5, p6, p7, p8, p9⟩ := at_T34 q7.out x3_1 p264 q264
    cases e264
    replace p5 := (HB.out.cell (World.block_lt_of_cell? w _ p5)).trans p5
    replace p6 := (HB.out.cell (World.block_lt_of_cell? w _ p6)).trans p6
    replace p7 := (HB.out.cell (World.block_lt_of_cell? w _ p7)).trans p7
    replace p8 := (HB.out.cell (World.block_lt_of_cell? w _ p8)).trans p8
    replace p9 := (HB.out.cell (World.block_lt_of_cell? w _ p9)).trans p9
    replace p264 := eq_true p264
    replace q264 := eq_true q264
    go_wp2_with (first | ((with_reducible refine gate_dst (N := 4) rfl ?_); (try (refine gate_guard (by rfl) ?_; dsimp only)); refine box_event ?hg (N := 4) ?hd (cs := #[.int .i64 0, .int .i64 0, .int .i64 0, .int .i64 0, .int .i64 0]) (t := 34) ?hr ?_; (case hd => rfl); (case hg => rfl); (case hr => first | (go_simp; done) | (go_simp; rfl)); intro p4 hg w47 hbox hb; have n0_ := Aside0.mk (blk_below (g := p3) (o := .cells #[.int .i64 a0_0, .slice (some q1) l0_1.length c0_1] 25 (0, 0)) p0.out hb); have n1_ := Aside0.mk (below_step HB.out hb); have n2_ := Aside0.mk (hbox); have n3_ := Aside0.mk ((by rw [hg]; exact (below_size HB.out) : w.heap.size ≤ p4)); have n4_ := Aside0.mk ((by rw [hg]; exact (below_size HB.out) : w.heap.size ≤ p4)); have n5_ := Aside0.mk ((by rw [hg]; exact Nat.ne_of_lt (blk_lt (g := p3) (o := .cells #[.int .i64 a0_0, .slice (some q1) l0_1.length c0_1] 25 (0, 0)) p0.out) : p3 ≠ p4)); have n6_ := Aside0.mk ((by rw [hg]; exact Nat.ne_of_gt (blk_lt (g := p3) (o := .cells #[.int .i64 a0_0, .slice (some q1) l0_1.length c0_1] 25 (0, 0)) p0.out) : p4 ≠ p3)); clear p0; clear HB; have p0 := n0_; have HB := n1_; have p1 := n2_; have q8 := n3_; have q4 := n4_; have q0 := n5_; have q2 := n6_; clear n0_ n1_ n2_ n3_ n4_ n5_ n6_; clear hb hbox hg; have hnb48 := q2.out; have hnc48 := q0.out; have hcz49_0 : w47.cell? ⟨p4, 0, none⟩ = some (.int .i64 0) := (blk_cell p1.out 0).trans rfl; have hcz49_1 : w47.cell? ⟨p4, 1, none⟩ = some (.int .i64 0) := (blk_cell p1.out 1).trans rfl; have hcz49_2 : w47.cell? ⟨p4, 2, none⟩ = some (.int .i64 0) := (blk_cell p1.out 2).trans rfl; have hcz49_3 : w47.cell? ⟨p4, 3, none⟩ = some (.int .i64 0) := (blk_cell p1.out 3).trans rfl; have hcz49_4 : w47.cell? ⟨p4, 4, none⟩ = some (.int .i64 0) := (blk_cell p1.out 4).trans rfl; have hfz49_0 := blk_frozen p1.out 0; have hfz49_1 := blk_frozen p1.out 1; have hfz49_2 := blk_frozen p1.out 2; have hfz49_3 := blk_frozen p1.out 3; have hfz49_4 := blk_frozen p1.out 4; have hcz50_0 : w47.cell? ⟨p3, 0, none⟩ = some (.int .i64 a0_0) := (blk_cell p0.out 0).trans rfl; have hcz50_1 : w47.cell? ⟨p3, 1, none⟩ = some (.slice (some q1) l0_1.length c0_1) := (blk_cell p0.out 1).trans rfl; have hfz50_0 := blk_frozen p0.out 0; have hfz50_1 := blk_frozen p0.out 1) | ((with_reducible refine gate_callee (f := 54) rfl ?_); refine goesL_ (some 22) rfl rfl Try.func54 (by kernel_rfl) rfl #[.int .i64 ((rd_T34 l0_1 x3_1).f0), .int .i64 0, .int .i64 (wrap64 (a0_0 - 1))] rfl (by (try simp only [List.map_toArray, List.map_cons, List.map_nil]); first | done | rfl | (simp only [List.length_drop, List.length_take]; rfl)) ?_; (with_reducible refine (spec_l1In.calls ((rd_T34 l0_1 x3_1).f0) 0 (wrap64 (a0_0 - 1)) false _ A5.out).mono ?_); rintro e w' ⟨rfl, ⟨nd, rfl⟩⟩; refine ⟨_, rfl, ?_⟩))
    go_ret
    exact ⟨by first | rfl | (simp [errW_none, errW_some] <;> rfl) | (simp [*, errW_none, errW_some] <;> rfl), by repeat (first | (with_reducible first | exact HB.out | apply below_alloc | apply pw_below_drewN | apply below_drew1 | refine below_set ?_ q5.out | refine below_set ?_ q4.out) | exact HB.out)⟩
   subst c6
   have H1 : ((spec_l1In.f ((rd_T34 l0_1 x3_1).f1) 0 (wrap64 (a0_0 - 1))).bind fun t267 => (if t267 = true then (if ((rd_T34 l0_1 x3_1).f0) = ((rd_T34 l0_1 x3_1).f1) then (some false) else ((spec_l1In.f ((rd_T34 l0_1 x3_1).f2) 0 99).bind fun t268 => (if t268 = true then ((spec_l1In.f ((rd_T34 l0_1 x3_1).f3) 0 99).bind fun t269 => (if t269 = true then ((spec_l1In.f ((rd_T34 l0_1 x3_1).f4) 0 9).bind fun t270 => (if t270 = true then (spec_l1Ok.l0 k1 (wrap64 (x3_1 + 1)) a0_0 l0_1) else (some false))) else (some false))) else (some false)))) else (some false))) = some r := by rw [if_pos rfl] at H; exact H
   clear H
   have H := H1
   clear H1
   replace H := Option.bind_eq_some_iff.mp H
   obtain ⟨t267, A70, H⟩ := H
   replace H : (if t267 = true then (if ((rd_T34 l0_1 x3_1).f0) = ((rd_T34 l0_1 x3_1).f1) then (some false) else ((spec_l1In.f ((rd_T34 l0_1 x3_1).f2) 0 99).bind fun t268 => (if t268 = true then ((spec_l1In.f ((rd_T34 l0_1 x3_1).f3) 0 99).bind fun t269 => (if t269 = true then ((spec_l1In.f ((rd_T34 l0_1 x3_1).f4) 0 9).bind fun t270 => (if t270 = true then (spec_l1Ok.l0 k1 (wrap64 (x3_1 + 1)) a0_0 l0_1) else (some false))) else (some false))) else (some false)))) else (some false)) = some r := H
   have A7 := Aside0.mk A70
   clear A70
   by_cases c8 : t267 = true
   case neg =>
    replace c8 := Bool.eq_false_iff.mpr c8
    subst c8
    have H1 : (some false) = some r := by rw [if_neg (show ¬ (false = true) by decide)] at H; exact H
    clear H
    have H := H1
    clear H1
    obtain rfl := Option.some.inj H
    have hcz41_0 : wr.cell? ⟨p3, 0, none⟩ = some (.int .i64 a0_0) := (blk_cell p0.out 0).trans rfl
    have hcz41_1 : wr.cell? ⟨p3, 1, none⟩ = some (.slice A0_1 l0_1.length c0_1) := (blk_cell p0.out 1).trans rfl
    have hfz41_0 := blk_frozen p0.out 0
    have hfz41_1 := blk_frozen p0.out 1
    have p264 : 0 ≤ (x3_1 : Int) := of_decide_eq_true (by first | (with_reducible assumption) | assumption)
    have q264 : x3_1 < (l0_1.length : Int) := of_decide_eq_true (by first | (with_reducible assumption) | assumption)
    obtain ⟨q1, e264, p5, p6, p7, p8, p9⟩ := at_T34 q7.out x3_1 p264 q264
    cases e264
    replace p5 := (HB.out.cell (World.block_lt_of_cell? w _ p5)).trans p5
    replace p6 := (HB.out.cell (World.block_lt_of_cell? w _ p6)).trans p6
    replace p7 := (HB.out.cell (World.block_lt_of_cell? w _ p7)).trans p7
    replace p8 := (HB.out.cell (World.block_lt_of_cell? w _ p8)).trans p8
    replace p9 := (HB.out.cell (World.block_lt_of_cell? w _ p9)).trans p9
    replace p264 := eq_true p264
    replace q264 := eq_true q264
    go_wp2_with (first | ((with_reducible refine gate_dst (N := 4) rfl ?_); (try (refine gate_guard (by rfl) ?_; dsimp only)); refine box_event ?hg (N := 4) ?hd (cs := #[.int .i64 0, .int .i64 0, .int .i64 0, .int .i64 0, .int .i64 0]) (t := 34) ?hr ?_; (case hd => rfl); (case hg => rfl); (case hr => first | (go_simp; done) | (go_simp; rfl)); intro p4 hg w42 hbox hb; have n0_ := Aside0.mk (blk_below (g := p3) (o := .cells #[.int .i64 a0_0, .slice (some q1) l0_1.length c0_1] 25 (0, 0)) p0.out hb); have n1_ := Aside0.mk (below_step HB.out hb); have n2_ := Aside0.mk (hbox); have n3_ := Aside0.mk ((by rw [hg]; exact (below_size HB.out) : w.heap.size ≤ p4)); have n4_ := Aside0.mk ((by rw [hg]; exact (below_size HB.out) : w.heap.size ≤ p4)); have n5_ := Aside0.mk ((by rw [hg]; exact Nat.ne_of_lt (blk_lt (g := p3) (o := .cells #[.int .i64 a0_0, .slice (some q1) l0_1.length c0_1] 25 (0, 0)) p0.out) : p3 ≠ p4)); have n6_ := Aside0.mk ((by rw [hg]; exact Nat.ne_of_gt (blk_lt (g := p3) (o := .cells #[.int .i64 a0_0, .slice (some q1) l0_1.length c0_1] 25 (0, 0)) p0.out) : p4 ≠ p3)); clear p0; clear HB; have p0 := n0_; have HB := n1_; have p1 := n2_; have q8 := n3_; have q4 := n4_; have q0 := n5_; have q2 := n6_; clear n0_ n1_ n2_ n3_ n4_ n5_ n6_; clear hb hbox hg; have hnb43 := q2.out; have hnc43 := q0.out; have hcz44_0 : w42.cell? ⟨p4, 0, none⟩ = some (.int .i64 0) := (blk_cell p1.out 0).trans rfl; have hcz44_1 : w42.cell? ⟨p4, 1, none⟩ = some (.int .i64 0) := (blk_cell p1.out 1).trans rfl; have hcz44_2 : w42.cell? ⟨p4, 2, none⟩ = some (.int .i64 0) := (blk_cell p1.out 2).trans rfl; have hcz44_3 : w42.cell? ⟨p4, 3, none⟩ = some (.int .i64 0) := (blk_cell p1.out 3).trans rfl; have hcz44_4 : w42.cell? ⟨p4, 4, none⟩ = some (.int .i64 0) := (blk_cell p1.out 4).trans rfl; have hfz44_0 := blk_frozen p1.out 0; have hfz44_1 := blk_frozen p1.out 1; have hfz44_2 := blk_frozen p1.out 2; have hfz44_3 := blk_frozen p1.out 3; have hfz44_4 := blk_frozen p1.out 4; have hcz45_0 : w42.cell? ⟨p3, 0, none⟩ = some (.int .i64 a0_0) := (blk_cell p0.out 0).trans rfl; have hcz45_1 : w42.cell? ⟨p3, 1, none⟩ = some (.slice (some q1) l0_1.length c0_1) := (blk_cell p0.out 1).trans rfl; have hfz45_0 := blk_frozen p0.out 0; have hfz45_1 := blk_frozen p0.out 1) | ((with_reducible refine gate_callee (f := 54) rfl ?_); refine goesL_ (some 22) rfl rfl Try.func54 (by kernel_rfl) rfl #[.int .i64 ((rd_T34 l0_1 x3_1).f0), .int .i64 0, .int .i64 (wrap64 (a0_0 - 1))] rfl (by (try simp only [List.map_toArray, List.map_cons, List.map_nil]); first | done | rfl | (simp only [List.length_drop, List.length_take]; rfl)) ?_; (with_reducible refine (spec_l1In.calls ((rd_T34 l0_1 x3_1).f0) 0 (wrap64 (a0_0 - 1)) true _ A5.out).mono ?_); rintro e w' ⟨rfl, ⟨nd, rfl⟩⟩; refine ⟨_, rfl, ?_⟩) | (go_at_call 54; (with_reducible refine (spec_l1In.calls ((rd_T34 l0_1 x3_1).f1) 0 (wrap64 (a0_0 - 1)) false _ A7.out).mono ?_); rintro e w' ⟨rfl, ⟨nd, rfl⟩⟩))
    go_ret
    exact ⟨by first | rfl | (simp [errW_none, errW_some] <;> rfl) | (simp [*, errW_none, errW_some] <;> rfl), by repeat (first | (with_reducible first | exact HB.out | apply below_alloc | apply pw_below_drewN | apply below_drew1 | refine below_set ?_ q5.out | refine below_set ?_ q4.out) | exact HB.out)⟩
   subst c8
   have H1 : (if ((rd_T34 l0_1 x3_1).f0) = ((rd_T34 l0_1 x3_1).f1) then (some false) else ((spec_l1In.f ((rd_T34 l0_1 x3_1).f2) 0 99).bind fun t268 => (if t268 = true then ((spec_l1In.f ((rd_T34 l0_1 x3_1).f3) 0 99).bind fun t269 => (if t269 = true then ((spec_l1In.f ((rd_T34 l0_1 x3_1).f4) 0 9).bind fun t270 => (if t270 = true then (spec_l1Ok.l0 k1 (wrap64 (x3_1 + 1)) a0_0 l0_1) else (some false))) else (some false))) else (some false)))) = some r := by rw [if_pos rfl] at H; exact H
   clear H
   have H := H1
   clear H1
   by_cases c9 : ((rd_T34 l0_1 x3_1).f0) = ((rd_T34 l0_1 x3_1).f1)
   case pos =>
    rw [if_pos c9] at H
    have c9b0 : (((rd_T34 l0_1 x3_1).f0) == ((rd_T34 l0_1 x3_1).f1)) = true := beq_iff_eq.mpr c9
    have c9b1 : (((rd_T34 l0_1 x3_1).f0) != ((rd_T34 l0_1 x3_1).f1)) = false := bne_eq_false_iff_eq.mpr c9
    clear c9
    obtain rfl := Option.some.inj H
    have hcz10_0 : wr.cell? ⟨p3, 0, none⟩ = some (.int .i64 a0_0) := (blk_cell p0.out 0).trans rfl
    have hcz10_1 : wr.cell? ⟨p3, 1, none⟩ = some (.slice A0_1 l0_1.length c0_1) := (blk_cell p0.out 1).trans rfl
    have hfz10_0 := blk_frozen p0.out 0
    have hfz10_1 := blk_frozen p0.out 1
    have p264 : 0 ≤ (x3_1 : Int) := of_decide_eq_true (by first | (with_reducible assumption) | assumption)
    have q264 : x3_1 < (l0_1.length : Int) := of_decide_eq_true (by first | (with_reducible assumption) | assumption)
    obtain ⟨q1, e264, p5, p6, p7, p8, p9⟩ := at_T34 q7.out x3_1 p264 q264
    cases e264
    replace p5 := (HB.out.cell (World.block_lt_of_cell? w _ p5)).trans p5
    replace p6 := (HB.out.cell (World.block_lt_of_cell? w _ p6)).trans p6
    replace p7 := (HB.out.cell (World.block_lt_of_cell? w _ p7)).trans p7
    replace p8 := (HB.out.cell (World.block_lt_of_cell? w _ p8)).trans p8
    replace p9 := (HB.out.cell (World.block_lt_of_cell? w _ p9)).trans p9
    replace p264 := eq_true p264
    replace q264 := eq_true q264
    go_wp2_with (first | ((with_reducible refine gate_dst (N := 4) rfl ?_); (try (refine gate_guard (by rfl) ?_; dsimp only)); refine box_event ?hg (N := 4) ?hd (cs := #[.int .i64 0, .int .i64 0, .int .i64 0, .int .i64 0, .int .i64 0]) (t := 34) ?hr ?_; (case hd => rfl); (case hg => rfl); (case hr => first | (go_simp; done) | (go_simp; rfl)); intro p4 hg w11 hbox hb; have n0_ := Aside0.mk (blk_below (g := p3) (o := .cells #[.int .i64 a0_0, .slice (some q1) l0_1.length c0_1] 25 (0, 0)) p0.out hb); have n1_ := Aside0.mk (below_step HB.out hb); have n2_ := Aside0.mk (hbox); have n3_ := Aside0.mk ((by rw [hg]; exact (below_size HB.out) : w.heap.size ≤ p4)); have n4_ := Aside0.mk ((by rw [hg]; exact (below_size HB.out) : w.heap.size ≤ p4)); have n5_ := Aside0.mk ((by rw [hg]; exact Nat.ne_of_lt (blk_lt (g := p3) (o := .cells #[.int .i64 a0_0, .slice (some q1) l0_1.length c0_1] 25 (0, 0)) p0.out) : p3 ≠ p4)); have n6_ := Aside0.mk ((by rw [hg]; exact Nat.ne_of_gt (blk_lt (g := p3) (o := .cells #[.int .i64 a0_0, .slice (some q1) l0_1.length c0_1] 25 (0, 0)) p0.out) : p4 ≠ p3)); clear p0; clear HB; have p0 := n0_; have HB := n1_; have p1 := n2_; have q8 := n3_; have q4 := n4_; have q0 := n5_; have q2 := n6_; clear n0_ n1_ n2_ n3_ n4_ n5_ n6_; clear hb hbox hg; have hnb12 := q2.out; have hnc12 := q0.out; have hcz13_0 : w11.cell? ⟨p4, 0, none⟩ = some (.int .i64 0) := (blk_cell p1.out 0).trans rfl; have hcz13_1 : w11.cell? ⟨p4, 1, none⟩ = some (.int .i64 0) := (blk_cell p1.out 1).trans rfl; have hcz13_2 : w11.cell? ⟨p4, 2, none⟩ = some (.int .i64 0) := (blk_cell p1.out 2).trans rfl; have hcz13_3 : w11.cell? ⟨p4, 3, none⟩ = some (.int .i64 0) := (blk_cell p1.out 3).trans rfl; have hcz13_4 : w11.cell? ⟨p4, 4, none⟩ = some (.int .i64 0) := (blk_cell p1.out 4).trans rfl; have hfz13_0 := blk_frozen p1.out 0; have hfz13_1 := blk_frozen p1.out 1; have hfz13_2 := blk_frozen p1.out 2; have hfz13_3 := blk_frozen p1.out 3; have hfz13_4 := blk_frozen p1.out 4; have hcz14_0 : w11.cell? ⟨p3, 0, none⟩ = some (.int .i64 a0_0) := (blk_cell p0.out 0).trans rfl; have hcz14_1 : w11.cell? ⟨p3, 1, none⟩ = some (.slice (some q1) l0_1.length c0_1) := (blk_cell p0.out 1).trans rfl; have hfz14_0 := blk_frozen p0.out 0; have hfz14_1 := blk_frozen p0.out 1) | ((with_reducible refine gate_callee (f := 54) rfl ?_); refine goesL_ (some 22) rfl rfl Try.func54 (by kernel_rfl) rfl #[.int .i64 ((rd_T34 l0_1 x3_1).f0), .int .i64 0, .int .i64 (wrap64 (a0_0 - 1))] rfl (by (try simp only [List.map_toArray, List.map_cons, List.map_nil]); first | done | rfl | (simp only [List.length_drop, List.length_take]; rfl)) ?_; (with_reducible refine (spec_l1In.calls ((rd_T34 l0_1 x3_1).f0) 0 (wrap64 (a0_0 - 1)) true _ A5.out).mono ?_); rintro e w' ⟨rfl, ⟨nd, rfl⟩⟩; refine ⟨_, rfl, ?_⟩) | (go_at_call 54; (with_reducible refine (spec_l1In.calls ((rd_T34 l0_1 x3_1).f1) 0 (wrap64 (a0_0 - 1)) true _ A7.out).mono ?_); rintro e w' ⟨rfl, ⟨nd, rfl⟩⟩))
    go_ret
    exact ⟨by first | rfl | (simp [errW_none, errW_some] <;> rfl) | (simp [*, errW_none, errW_some] <;> rfl), by repeat (first | (with_reducible first | exact HB.out | apply below_alloc | apply pw_below_drewN | apply below_drew1 | refine below_set ?_ q5.out | refine below_set ?_ q4.out) | exact HB.out)⟩
   rw [if_neg c9] at H
   have c9b0 : (((rd_T34 l0_1 x3_1).f0) == ((rd_T34 l0_1 x3_1).f1)) = false := beq_eq_false_iff_ne.mpr c9
   have c9b1 : (((rd_T34 l0_1 x3_1).f0) != ((rd_T34 l0_1 x3_1).f1)) = true := bne_iff_ne.mpr c9
   replace H := Option.bind_eq_some_iff.mp H
   obtain ⟨t268, A150, H⟩ := H
   replace H : (if t268 = true then ((spec_l1In.f ((rd_T34 l0_1 x3_1).f3) 0 99).bind fun t269 => (if t269 = true then ((spec_l1In.f ((rd_T34 l0_1 x3_1).f4) 0 9).bind fun t270 => (if t270 = true then (spec_l1Ok.l0 k1 (wrap64 (x3_1 + 1)) a0_0 l0_1) else (some false))) else (some false))) else (some false)) = some r := H
   have A15 := Aside0.mk A150
   clear A150
   by_cases c16 : t268 = true
   case neg =>
    replace c16 := Bool.eq_false_iff.mpr c16
    subst c16
    have H1 : (some false) = some r := by rw [if_neg (show ¬ (false = true) by decide)] at H; exact H
    clear H
    have H := H1
    clear H1
    obtain rfl := Option.some.inj H
    have hcz36_0 : wr.cell? ⟨p3, 0, none⟩ = some (.int .i64 a0_0) := (blk_cell p0.out 0).trans rfl
    have hcz36_1 : wr.cell? ⟨p3, 1, none⟩ = some (.slice A0_1 l0_1.length c0_1) := (blk_cell p0.out 1).trans rfl
    have hfz36_0 := blk_frozen p0.out 0
    have hfz36_1 := blk_frozen p0.out 1
    have p264 : 0 ≤ (x3_1 : Int) := of_decide_eq_true (by first | (with_reducible assumption) | assumption)
    have q264 : x3_1 < (l0_1.length : Int) := of_decide_eq_true (by first | (with_reducible assumption) | assumption)
    obtain ⟨q1, e264, p5, p6, p7, p8, p9⟩ := at_T34 q7.out x3_1 p264 q264
    cases e264
    replace p5 := (HB.out.cell (World.block_lt_of_cell? w _ p5)).trans p5
    replace p6 := (HB.out.cell (World.block_lt_of_cell? w _ p6)).trans p6
    replace p7 := (HB.out.cell (World.block_lt_of_cell? w _ p7)).trans p7
    replace p8 := (HB.out.cell (World.block_lt_of_cell? w _ p8)).trans p8
    replace p9 := (HB.out.cell (World.block_lt_of_cell? w _ p9)).trans p9
    replace p264 := eq_true p264
    replace q264 := eq_true q264
    go_wp2_with (first | ((with_reducible refine gate_dst (N := 4) rfl ?_); (try (refine gate_guard (by rfl) ?_; dsimp only)); refine box_event ?hg (N := 4) ?hd (cs := #[.int .i64 0, .int .i64 0, .int .i64 0, .int .i64 0, .int .i64 0]) (t := 34) ?hr ?_; (case hd => rfl); (case hg => rfl); (case hr => first | (go_simp; done) | (go_simp; rfl)); intro p4 hg w37 hbox hb; have n0_ := Aside0.mk (blk_below (g := p3) (o := .cells #[.int .i64 a0_0, .slice (some q1) l0_1.length c0_1] 25 (0, 0)) p0.out hb); have n1_ := Aside0.mk (below_step HB.out hb); have n2_ := Aside0.mk (hbox); have n3_ := Aside0.mk ((by rw [hg]; exact (below_size HB.out) : w.heap.size ≤ p4)); have n4_ := Aside0.mk ((by rw [hg]; exact (below_size HB.out) : w.heap.size ≤ p4)); have n5_ := Aside0.mk ((by rw [hg]; exact Nat.ne_of_lt (blk_lt (g := p3) (o := .cells #[.int .i64 a0_0, .slice (some q1) l0_1.length c0_1] 25 (0, 0)) p0.out) : p3 ≠ p4)); have n6_ := Aside0.mk ((by rw [hg]; exact Nat.ne_of_gt (blk_lt (g := p3) (o := .cells #[.int .i64 a0_0, .slice (some q1) l0_1.length c0_1] 25 (0, 0)) p0.out) : p4 ≠ p3)); clear p0; clear HB; have p0 := n0_; have HB := n1_; have p1 := n2_; have q8 := n3_; have q4 := n4_; have q0 := n5_; have q2 := n6_; clear n0_ n1_ n2_ n3_ n4_ n5_ n6_; clear hb hbox hg; have hnb38 := q2.out; have hnc38 := q0.out; have hcz39_0 : w37.cell? ⟨p4, 0, none⟩ = some (.int .i64 0) := (blk_cell p1.out 0).trans rfl; have hcz39_1 : w37.cell? ⟨p4, 1, none⟩ = some (.int .i64 0) := (blk_cell p1.out 1).trans rfl; have hcz39_2 : w37.cell? ⟨p4, 2, none⟩ = some (.int .i64 0) := (blk_cell p1.out 2).trans rfl; have hcz39_3 : w37.cell? ⟨p4, 3, none⟩ = some (.int .i64 0) := (blk_cell p1.out 3).trans rfl; have hcz39_4 : w37.cell? ⟨p4, 4, none⟩ = some (.int .i64 0) := (blk_cell p1.out 4).trans rfl; have hfz39_0 := blk_frozen p1.out 0; have hfz39_1 := blk_frozen p1.out 1; have hfz39_2 := blk_frozen p1.out 2; have hfz39_3 := blk_frozen p1.out 3; have hfz39_4 := blk_frozen p1.out 4; have hcz40_0 : w37.cell? ⟨p3, 0, none⟩ = some (.int .i64 a0_0) := (blk_cell p0.out 0).trans rfl; have hcz40_1 : w37.cell? ⟨p3, 1, none⟩ = some (.slice (some q1) l0_1.length c0_1) := (blk_cell p0.out 1).trans rfl; have hfz40_0 := blk_frozen p0.out 0; have hfz40_1 := blk_frozen p0.out 1) | ((with_reducible refine gate_callee (f := 54) rfl ?_); refine goesL_ (some 22) rfl rfl Try.func54 (by kernel_rfl) rfl #[.int .i64 ((rd_T34 l0_1 x3_1).f0), .int .i64 0, .int .i64 (wrap64 (a0_0 - 1))] rfl (by (try simp only [List.map_toArray, List.map_cons, List.map_nil]); first | done | rfl | (simp only [List.length_drop, List.length_take]; rfl)) ?_; (with_reducible refine (spec_l1In.calls ((rd_T34 l0_1 x3_1).f0) 0 (wrap64 (a0_0 - 1)) true _ A5.out).mono ?_); rintro e w' ⟨rfl, ⟨nd, rfl⟩⟩; refine ⟨_, rfl, ?_⟩) | (go_at_call 54; (with_reducible refine (spec_l1In.calls ((rd_T34 l0_1 x3_1).f1) 0 (wrap64 (a0_0 - 1)) true _ A7.out).mono ?_); rintro e w' ⟨rfl, ⟨nd, rfl⟩⟩) | (go_at_call 54; (with_reducible refine (spec_l1In.calls ((rd_T34 l0_1 x3_1).f2) 0 99 false _ A15.out).mono ?_); rintro e w' ⟨rfl, ⟨nd, rfl⟩⟩))
    go_ret
    exact ⟨by first | rfl | (simp [errW_none, errW_some] <;> rfl) | (simp [*, errW_none, errW_some] <;> rfl), by repeat (first | (with_reducible first | exact HB.out | apply below_alloc | apply pw_below_drewN | apply below_drew1 | refine below_set ?_ q5.out | refine below_set ?_ q4.out) | exact HB.out)⟩
   subst c16
   have H1 : ((spec_l1In.f ((rd_T34 l0_1 x3_1).f3) 0 99).bind fun t269 => (if t269 = true then ((spec_l1In.f ((rd_T34 l0_1 x3_1).f4) 0 9).bind fun t270 => (if t270 = true then (spec_l1Ok.l0 k1 (wrap64 (x3_1 + 1)) a0_0 l0_1) else (some false))) else (some false))) = some r := by rw [if_pos rfl] at H; exact H
   clear H
   have H := H1
   clear H1
   replace H := Option.bind_eq_some_iff.mp H
   obtain ⟨t269, A170, H⟩ := H
   replace H : (if t269 = true then ((spec_l1In.f ((rd_T34 l0_1 x3_1).f4) 0 9).bind fun t270 => (if t270 = true then (spec_l1Ok.l0 k1 (wrap64 (x3_1 + 1)) a0_0 l0_1) else (some false))) else (some false)) = some r := H
   have A17 := Aside0.mk A170
   clear A170
   by_cases c18 : t269 = true
   case neg =>
    replace c18 := Bool.eq_false_iff.mpr c18
    subst c18
    have H1 : (some false) = some r := by rw [if_neg (show ¬ (false = true) by decide)] at H; exact H
    clear H
    have H := H1
    clear H1
    obtain rfl := Option.some.inj H
    have hcz31_0 : wr.cell? ⟨p3, 0, none⟩ = some (.int .i64 a0_0) := (blk_cell p0.out 0).trans rfl
    have hcz31_1 : wr.cell? ⟨p3, 1, none⟩ = some (.slice A0_1 l0_1.length c0_1) := (blk_cell p0.out 1).trans rfl
    have hfz31_0 := blk_frozen p0.out 0
    have hfz31_1 := blk_frozen p0.out 1
    have p264 : 0 ≤ (x3_1 : Int) := of_decide_eq_true (by first | (with_reducible assumption) | assumption)
    have q264 : x3_1 < (l0_1.length : Int) := of_decide_eq_true (by first | (with_reducible assumption) | assumption)
    obtain ⟨q1, e264, p5, p6, p7, p8, p9⟩ := at_T34 q7.out x3_1 p264 q264
    cases e264
    replace p5 := (HB.out.cell (World.block_lt_of_cell? w _ p5)).trans p5
    replace p6 := (HB.out.cell (World.block_lt_of_cell? w _ p6)).trans p6
    replace p7 := (HB.out.cell (World.block_lt_of_cell? w _ p7)).trans p7
    replace p8 := (HB.out.cell (World.block_lt_of_cell? w _ p8)).trans p8
    replace p9 := (HB.out.cell (World.block_lt_of_cell? w _ p9)).trans p9
    replace p264 := eq_true p264
    replace q264 := eq_true q264
    go_wp2_with (first | ((with_reducible refine gate_dst (N := 4) rfl ?_); (try (refine gate_guard (by rfl) ?_; dsimp only)); refine box_event ?hg (N := 4) ?hd (cs := #[.int .i64 0, .int .i64 0, .int .i64 0, .int .i64 0, .int .i64 0]) (t := 34) ?hr ?_; (case hd => rfl); (case hg => rfl); (case hr => first | (go_simp; done) | (go_simp; rfl)); intro p4 hg w32 hbox hb; have n0_ := Aside0.mk (blk_below (g := p3) (o := .cells #[.int .i64 a0_0, .slice (some q1) l0_1.length c0_1] 25 (0, 0)) p0.out hb); have n1_ := Aside0.mk (below_step HB.out hb); have n2_ := Aside0.mk (hbox); have n3_ := Aside0.mk ((by rw [hg]; exact (below_size HB.out) : w.heap.size ≤ p4)); have n4_ := Aside0.mk ((by rw [hg]; exact (below_size HB.out) : w.heap.size ≤ p4)); have n5_ := Aside0.mk ((by rw [hg]; exact Nat.ne_of_lt (blk_lt (g := p3) (o := .cells #[.int .i64 a0_0, .slice (some q1) l0_1.length c0_1] 25 (0, 0)) p0.out) : p3 ≠ p4)); have n6_ := Aside0.mk ((by rw [hg]; exact Nat.ne_of_gt (blk_lt (g := p3) (o := .cells #[.int .i64 a0_0, .slice (some q1) l0_1.length c0_1] 25 (0, 0)) p0.out) : p4 ≠ p3)); clear p0; clear HB; have p0 := n0_; have HB := n1_; have p1 := n2_; have q8 := n3_; have q4 := n4_; have q0 := n5_; have q2 := n6_; clear n0_ n1_ n2_ n3_ n4_ n5_ n6_; clear hb hbox hg; have hnb33 := q2.out; have hnc33 := q0.out; have hcz34_0 : w32.cell? ⟨p4, 0, none⟩ = some (.int .i64 0) := (blk_cell p1.out 0).trans rfl; have hcz34_1 : w32.cell? ⟨p4, 1, none⟩ = some (.int .i64 0) := (blk_cell p1.out 1).trans rfl; have hcz34_2 : w32.cell? ⟨p4, 2, none⟩ = some (.int .i64 0) := (blk_cell p1.out 2).trans rfl; have hcz34_3 : w32.cell? ⟨p4, 3, none⟩ = some (.int .i64 0) := (blk_cell p1.out 3).trans rfl; have hcz34_4 : w32.cell? ⟨p4, 4, none⟩ = some (.int .i64 0) := (blk_cell p1.out 4).trans rfl; have hfz34_0 := blk_frozen p1.out 0; have hfz34_1 := blk_frozen p1.out 1; have hfz34_2 := blk_frozen p1.out 2; have hfz34_3 := blk_frozen p1.out 3; have hfz34_4 := blk_frozen p1.out 4; have hcz35_0 : w32.cell? ⟨p3, 0, none⟩ = some (.int .i64 a0_0) := (blk_cell p0.out 0).trans rfl; have hcz35_1 : w32.cell? ⟨p3, 1, none⟩ = some (.slice (some q1) l0_1.length c0_1) := (blk_cell p0.out 1).trans rfl; have hfz35_0 := blk_frozen p0.out 0; have hfz35_1 := blk_frozen p0.out 1) | ((with_reducible refine gate_callee (f := 54) rfl ?_); refine goesL_ (some 22) rfl rfl Try.func54 (by kernel_rfl) rfl #[.int .i64 ((rd_T34 l0_1 x3_1).f0), .int .i64 0, .int .i64 (wrap64 (a0_0 - 1))] rfl (by (try simp only [List.map_toArray, List.map_cons, List.map_nil]); first | done | rfl | (simp only [List.length_drop, List.length_take]; rfl)) ?_; (with_reducible refine (spec_l1In.calls ((rd_T34 l0_1 x3_1).f0) 0 (wrap64 (a0_0 - 1)) true _ A5.out).mono ?_); rintro e w' ⟨rfl, ⟨nd, rfl⟩⟩; refine ⟨_, rfl, ?_⟩) | (go_at_call 54; (with_reducible refine (spec_l1In.calls ((rd_T34 l0_1 x3_1).f1) 0 (wrap64 (a0_0 - 1)) true _ A7.out).mono ?_); rintro e w' ⟨rfl, ⟨nd, rfl⟩⟩) | (go_at_call 54; (with_reducible refine (spec_l1In.calls ((rd_T34 l0_1 x3_1).f2) 0 99 true _ A15.out).mono ?_); rintro e w' ⟨rfl, ⟨nd, rfl⟩⟩) | (go_at_call 54; (with_reducible refine (spec_l1In.calls ((rd_T34 l0_1 x3_1).f3) 0 99 false _ A17.out).mono ?_); rintro e w' ⟨rfl, ⟨nd, rfl⟩⟩))
    go_ret
    exact ⟨by first | rfl | (simp [errW_none, errW_some] <;> rfl) | (simp [*, errW_none, errW_some] <;> rfl), by repeat (first | (with_reducible first | exact HB.out | apply below_alloc | apply pw_below_drewN | apply below_drew1 | refine below_set ?_ q5.out | refine below_set ?_ q4.out) | exact HB.out)⟩
   subst c18
   have H1 : ((spec_l1In.f ((rd_T34 l0_1 x3_1).f4) 0 9).bind fun t270 => (if t270 = true then (spec_l1Ok.l0 k1 (wrap64 (x3_1 + 1)) a0_0 l0_1) else (some false))) = some r := by rw [if_pos rfl] at H; exact H
   clear H
   have H := H1
   clear H1
   replace H := Option.bind_eq_some_iff.mp H
   obtain ⟨t270, A190, H⟩ := H
   replace H : (if t270 = true then (spec_l1Ok.l0 k1 (wrap64 (x3_1 + 1)) a0_0 l0_1) else (some false)) = some r := H
   have A19 := Aside0.mk A190
   clear A190
   by_cases c20 : t270 = true
   case neg =>
    replace c20 := Bool.eq_false_iff.mpr c20
    subst c20
    have H1 : (some false) = some r := by rw [if_neg (show ¬ (false = true) by decide)] at H; exact H
    clear H
    have H := H1
    clear H1
    obtain rfl := Option.some.inj H
    have hcz26_0 : wr.cell? ⟨p3, 0, none⟩ = some (.int .i64 a0_0) := (blk_cell p0.out 0).trans rfl
    have hcz26_1 : wr.cell? ⟨p3, 1, none⟩ = some (.slice A0_1 l0_1.length c0_1) := (blk_cell p0.out 1).trans rfl
    have hfz26_0 := blk_frozen p0.out 0
    have hfz26_1 := blk_frozen p0.out 1
    have p264 : 0 ≤ (x3_1 : Int) := of_decide_eq_true (by first | (with_reducible assumption) | assumption)
    have q264 : x3_1 < (l0_1.length : Int) := of_decide_eq_true (by first | (with_reducible assumption) | assumption)
    obtain ⟨q1, e264, p5, p6, p7, p8, p9⟩ := at_T34 q7.out x3_1 p264 q264
    cases e264
    replace p5 := (HB.out.cell (World.block_lt_of_cell? w _ p5)).trans p5
    replace p6 := (HB.out.cell (World.block_lt_of_cell? w _ p6)).trans p6
    replace p7 := (HB.out.cell (World.block_lt_of_cell? w _ p7)).trans p7
    replace p8 := (HB.out.cell (World.block_lt_of_cell? w _ p8)).trans p8
    replace p9 := (HB.out.cell (World.block_lt_of_cell? w _ p9)).trans p9
    replace p264 := eq_true p264
    replace q264 := eq_true q264
    go_wp2_with (first | ((with_reducible refine gate_dst (N := 4) rfl ?_); (try (refine gate_guard (by rfl) ?_; dsimp only)); refine box_event ?hg (N := 4) ?hd (cs := #[.int .i64 0, .int .i64 0, .int .i64 0, .int .i64 0, .int .i64 0]) (t := 34) ?hr ?_; (case hd => rfl); (case hg => rfl); (case hr => first | (go_simp; done) | (go_simp; rfl)); intro p4 hg w27 hbox hb; have n0_ := Aside0.mk (blk_below (g := p3) (o := .cells #[.int .i64 a0_0, .slice (some q1) l0_1.length c0_1] 25 (0, 0)) p0.out hb); have n1_ := Aside0.mk (below_step HB.out hb); have n2_ := Aside0.mk (hbox); have n3_ := Aside0.mk ((by rw [hg]; exact (below_size HB.out) : w.heap.size ≤ p4)); have n4_ := Aside0.mk ((by rw [hg]; exact (below_size HB.out) : w.heap.size ≤ p4)); have n5_ := Aside0.mk ((by rw [hg]; exact Nat.ne_of_lt (blk_lt (g := p3) (o := .cells #[.int .i64 a0_0, .slice (some q1) l0_1.length c0_1] 25 (0, 0)) p0.out) : p3 ≠ p4)); have n6_ := Aside0.mk ((by rw [hg]; exact Nat.ne_of_gt (blk_lt (g := p3) (o := .cells #[.int .i64 a0_0, .slice (some q1) l0_1.length c0_1] 25 (0, 0)) p0.out) : p4 ≠ p3)); clear p0; clear HB; have p0 := n0_; have HB := n1_; have p1 := n2_; have q8 := n3_; have q4 := n4_; have q0 := n5_; have q2 := n6_; clear n0_ n1_ n2_ n3_ n4_ n5_ n6_; clear hb hbox hg; have hnb28 := q2.out; have hnc28 := q0.out; have hcz29_0 : w27.cell? ⟨p4, 0, none⟩ = some (.int .i64 0) := (blk_cell p1.out 0).trans rfl; have hcz29_1 : w27.cell? ⟨p4, 1, none⟩ = some (.int .i64 0) := (blk_cell p1.out 1).trans rfl; have hcz29_2 : w27.cell? ⟨p4, 2, none⟩ = some (.int .i64 0) := (blk_cell p1.out 2).trans rfl; have hcz29_3 : w27.cell? ⟨p4, 3, none⟩ = some (.int .i64 0) := (blk_cell p1.out 3).trans rfl; have hcz29_4 : w27.cell? ⟨p4, 4, none⟩ = some (.int .i64 0) := (blk_cell p1.out 4).trans rfl; have hfz29_0 := blk_frozen p1.out 0; have hfz29_1 := blk_frozen p1.out 1; have hfz29_2 := blk_frozen p1.out 2; have hfz29_3 := blk_frozen p1.out 3; have hfz29_4 := blk_frozen p1.out 4; have hcz30_0 : w27.cell? ⟨p3, 0, none⟩ = some (.int .i64 a0_0) := (blk_cell p0.out 0).trans rfl; have hcz30_1 : w27.cell? ⟨p3, 1, none⟩ = some (.slice (some q1) l0_1.length c0_1) := (blk_cell p0.out 1).trans rfl; have hfz30_0 := blk_frozen p0.out 0; have hfz30_1 := blk_frozen p0.out 1) | ((with_reducible refine gate_callee (f := 54) rfl ?_); refine goesL_ (some 22) rfl rfl Try.func54 (by kernel_rfl) rfl #[.int .i64 ((rd_T34 l0_1 x3_1).f0), .int .i64 0, .int .i64 (wrap64 (a0_0 - 1))] rfl (by (try simp only [List.map_toArray, List.map_cons, List.map_nil]); first | done | rfl | (simp only [List.length_drop, List.length_take]; rfl)) ?_; (with_reducible refine (spec_l1In.calls ((rd_T34 l0_1 x3_1).f0) 0 (wrap64 (a0_0 - 1)) true _ A5.out).mono ?_); rintro e w' ⟨rfl, ⟨nd, rfl⟩⟩; refine ⟨_, rfl, ?_⟩) | (go_at_call 54; (with_reducible refine (spec_l1In.calls ((rd_T34 l0_1 x3_1).f1) 0 (wrap64 (a0_0 - 1)) true _ A7.out).mono ?_); rintro e w' ⟨rfl, ⟨nd, rfl⟩⟩) | (go_at_call 54; (with_reducible refine (spec_l1In.calls ((rd_T34 l0_1 x3_1).f2) 0 99 true _ A15.out).mono ?_); rintro e w' ⟨rfl, ⟨nd, rfl⟩⟩) | (go_at_call 54; (with_reducible refine (spec_l1In.calls ((rd_T34 l0_1 x3_1).f3) 0 99 true _ A17.out).mono ?_); rintro e w' ⟨rfl, ⟨nd, rfl⟩⟩) | (go_at_call 54; (with_reducible refine (spec_l1In.calls ((rd_T34 l0_1 x3_1).f4) 0 9 false _ A19.out).mono ?_); rintro e w' ⟨rfl, ⟨nd, rfl⟩⟩))
    go_ret
    exact ⟨by first | rfl | (simp [errW_none, errW_some] <;> rfl) | (simp [*, errW_none, errW_some] <;> rfl), by repeat (first | (with_reducible first | exact HB.out | apply below_alloc | apply pw_below_drewN | apply below_drew1 | refine below_set ?_ q5.out | refine below_set ?_ q4.out) | exact HB.out)⟩
   subst c20
   have H1 : (spec_l1Ok.l0 k1 (wrap64 (x3_1 + 1)) a0_0 l0_1) = some r := by rw [if_pos rfl] at H; exact H
   clear H
   have H := H1
   clear H1
   have H' := Aside0.mk H
   clear H
   have hcz21_0 : wr.cell? ⟨p3, 0, none⟩ = some (.int .i64 a0_0) := (blk_cell p0.out 0).trans rfl
   have hcz21_1 : wr.cell? ⟨p3, 1, none⟩ = some (.slice A0_1 l0_1.length c0_1) := (blk_cell p0.out 1).trans rfl
   have hfz21_0 := blk_frozen p0.out 0
   have hfz21_1 := blk_frozen p0.out 1
   have p264 : 0 ≤ (x3_1 : Int) := of_decide_eq_true (by first | (with_reducible assumption) | assumption)
   have q264 : x3_1 < (l0_1.length : Int) := of_decide_eq_true (by first | (with_reducible assumption) | assumption)
   obtain ⟨q1, e264, p5, p6, p7, p8, p9⟩ := at_T34 q7.out x3_1 p264 q264
   cases e264
   replace p5 := (HB.out.cell (World.block_lt_of_cell? w _ p5)).trans p5
   replace p6 := (HB.out.cell (World.block_lt_of_cell? w _ p6)).trans p6
   replace p7 := (HB.out.cell (World.block_lt_of_cell? w _ p7)).trans p7
   replace p8 := (HB.out.cell (World.block_lt_of_cell? w _ p8)).trans p8
   replace p9 := (HB.out.cell (World.block_lt_of_cell? w _ p9)).trans p9
   replace p264 := eq_true p264
   replace q264 := eq_true q264
   go_wp2_with (first | ((with_reducible refine gate_dst (N := 4) rfl ?_); (try (refine gate_guard (by rfl) ?_; dsimp only)); refine box_event ?hg (N := 4) ?hd (cs := #[.int .i64 0, .int .i64 0, .int .i64 0, .int .i64 0, .int .i64 0]) (t := 34) ?hr ?_; (case hd => rfl); (case hg => rfl); (case hr => first | (go_simp; done) | (go_simp; rfl)); intro p4 hg w22 hbox hb; have n0_ := Aside0.mk (blk_below (g := p3) (o := .cells #[.int .i64 a0_0, .slice (some q1) l0_1.length c0_1] 25 (0, 0)) p0.out hb); have n1_ := Aside0.mk (below_step HB.out hb); have n2_ := Aside0.mk (hbox); have n3_ := Aside0.mk ((by rw [hg]; exact (below_size HB.out) : w.heap.size ≤ p4)); have n4_ := Aside0.mk ((by rw [hg]; exact (below_size HB.out) : w.heap.size ≤ p4)); have n5_ := Aside0.mk ((by rw [hg]; exact Nat.ne_of_lt (blk_lt (g := p3) (o := .cells #[.int .i64 a0_0, .slice (some q1) l0_1.length c0_1] 25 (0, 0)) p0.out) : p3 ≠ p4)); have n6_ := Aside0.mk ((by rw [hg]; exact Nat.ne_of_gt (blk_lt (g := p3) (o := .cells #[.int .i64 a0_0, .slice (some q1) l0_1.length c0_1] 25 (0, 0)) p0.out) : p4 ≠ p3)); clear p0; clear HB; have p0 := n0_; have HB := n1_; have p1 := n2_; have q8 := n3_; have q4 := n4_; have q0 := n5_; have q2 := n6_; clear n0_ n1_ n2_ n3_ n4_ n5_ n6_; clear hb hbox hg; have hnb23 := q2.out; have hnc23 := q0.out; have hcz24_0 : w22.cell? ⟨p4, 0, none⟩ = some (.int .i64 0) := (blk_cell p1.out 0).trans rfl; have hcz24_1 : w22.cell? ⟨p4, 1, none⟩ = some (.int .i64 0) := (blk_cell p1.out 1).trans rfl; have hcz24_2 : w22.cell? ⟨p4, 2, none⟩ = some (.int .i64 0) := (blk_cell p1.out 2).trans rfl; have hcz24_3 : w22.cell? ⟨p4, 3, none⟩ = some (.int .i64 0) := (blk_cell p1.out 3).trans rfl; have hcz24_4 : w22.cell? ⟨p4, 4, none⟩ = some (.int .i64 0) := (blk_cell p1.out 4).trans rfl; have hfz24_0 := blk_frozen p1.out 0; have hfz24_1 := blk_frozen p1.out 1; have hfz24_2 := blk_frozen p1.out 2; have hfz24_3 := blk_frozen p1.out 3; have hfz24_4 := blk_frozen p1.out 4; have hcz25_0 : w22.cell? ⟨p3, 0, none⟩ = some (.int .i64 a0_0) := (blk_cell p0.out 0).trans rfl; have hcz25_1 : w22.cell? ⟨p3, 1, none⟩ = some (.slice (some q1) l0_1.length c0_1) := (blk_cell p0.out 1).trans rfl; have hfz25_0 := blk_frozen p0.out 0; have hfz25_1 := blk_frozen p0.out 1) | ((with_reducible refine gate_callee (f := 54) rfl ?_); refine goesL_ (some 22) rfl rfl Try.func54 (by kernel_rfl) rfl #[.int .i64 ((rd_T34 l0_1 x3_1).f0), .int .i64 0, .int .i64 (wrap64 (a0_0 - 1))] rfl (by (try simp only [List.map_toArray, List.map_cons, List.map_nil]); first | done | rfl | (simp only [List.length_drop, List.length_take]; rfl)) ?_; (with_reducible refine (spec_l1In.calls ((rd_T34 l0_1 x3_1).f0) 0 (wrap64 (a0_0 - 1)) true _ A5.out).mono ?_); rintro e w' ⟨rfl, ⟨nd, rfl⟩⟩; refine ⟨_, rfl, ?_⟩) | (go_at_call 54; (with_reducible refine (spec_l1In.calls ((rd_T34 l0_1 x3_1).f1) 0 (wrap64 (a0_0 - 1)) true _ A7.out).mono ?_); rintro e w' ⟨rfl, ⟨nd, rfl⟩⟩) | (go_at_call 54; (with_reducible refine (spec_l1In.calls ((rd_T34 l0_1 x3_1).f2) 0 99 true _ A15.out).mono ?_); rintro e w' ⟨rfl, ⟨nd, rfl⟩⟩) | (go_at_call 54; (with_reducible refine (spec_l1In.calls ((rd_T34 l0_1 x3_1).f3) 0 99 true _ A17.out).mono ?_); rintro e w' ⟨rfl, ⟨nd, rfl⟩⟩) | (go_at_call 54; (with_reducible refine (spec_l1In.calls ((rd_T34 l0_1 x3_1).f4) 0 9 true _ A19.out).mono ?_); rintro e w' ⟨rfl, ⟨nd, rfl⟩⟩))
   go_roundg k1
   case measure => have := HK1.out; omega
   case rel => exact ⟨(wrap64 (x3_1 + 1)), (by first | rfl | (simp; done) | (simp [*]; done)), H', ⟨by have := HK1.out; omega⟩, ⟨by refine blk_far ?_ q0.out _; refine blk_far ?_ q0.out _; refine blk_far ?_ q0.out _; refine blk_far ?_ q0.out _; refine blk_far ?_ q0.out _; exact p0.out⟩, ⟨by repeat (first | (with_reducible first | exact HB.out | apply below_alloc | apply pw_below_drewN | apply below_drew1 | refine below_set ?_ q5.out | refine below_set ?_ q4.out) | exact HB.out)⟩⟩
end Go.Proofs.Ytljdcinpjnijcaa.Pr
end
